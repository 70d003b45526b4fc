/- Regions that draw their order and write a block of the function's own (its result). No condition. -/
import Derived.Test.YtemjonibpachbaaDoorDrawW
import Derived.Test.YtemjonibpachbaaDoorRegT
import Derived.Lib.Hide
namespace Go.Proofs.YtemjonibpachbaaDoor
open Go.RowKit

/-- The first n cells of a block: they can be written, and hold no byte. -/
def Cel (w : World) (b n : Nat) : Prop := ∀ i, i < n → w.frozen? ⟨b, i, none⟩ = false ∧ ∃ u, w.cell? ⟨b, i, none⟩ = some u ∧ ∀ c, u ≠ .int .u8 c
def At (w : World) (b : Nat) (A : List Value) : Prop := ∀ i v, A[i]? = some v → w.cell? ⟨b, i, none⟩ = some v
def two (rb b : Nat) : Nat → Prop := fun k => k = rb ∨ k = b
structure ExS (rb b n : Nat) (w w' : World) : Prop where
  ne : b ≠ rb
  ex : Ex (two rb b) w w'
  cel : 0 < n → Cel w' b n
def RS (rb b : Nat) (A : List Value) (w w' : World) : Prop := Ex (two rb b) w w' ∧ (b < w.heap.size → At w b A → At w' b A)
theorem two_of {rb b k : Nat} (h : k = rb) : two rb b k := .inl h
theorem rsOf {rb b : Nat} {A : List Value} {w w' : World} (hne : b ≠ rb) (h : Ex (· = rb) w w') : RS rb b A w w' := ⟨h.weaken (fun _ => two_of), fun _ hA i v hv => h.cell hne (hA i v hv)⟩
theorem Cel.ex {rb b n : Nat} {w w' : World} (h : Cel w b n) (hne : b ≠ rb) (hE : Ex (· = rb) w w') : Cel w' b n := fun i hi => by
  obtain ⟨h1, u, h2, h3⟩ := h i hi
  exact ⟨(World.frozen?_of_block (hE.block b (World.block_lt_of_cell? w _ h2) hne)).trans h1, u, hE.cell hne h2, h3⟩
theorem ExS.size {rb b n : Nat} {w w' : World} (h : ExS rb b n w w') : w.heap.size ≤ w'.heap.size := h.ex.size
theorem ExS.trans {rb b n : Nat} {w w' w'' : World} (h : ExS rb b n w w') (k : Ex (· = rb) w' w'') : ExS rb b n w w'' := ⟨h.ne, h.ex.trans (k.weaken (fun _ => two_of)), fun hn => (h.cel hn).ex h.ne k⟩
theorem ExS.alloc {rb b n : Nat} {w w' : World} (h : ExS rb b n w w') (o : Obj) : ExS rb b n w (w'.alloc o) := h.trans ((Ex.refl _ _).alloc _)
theorem ExS.drew {rb b n : Nat} {w w' : World} (h : ExS rb b n w w') : ExS rb b n w w'.drew := h.trans (Ex.refl _ _).drew
theorem ExS.cell {rb b n : Nat} {w w' : World} (h : ExS rb b n w w') {p : Addr} {v : Value} (hp : ¬ two rb b p.block) (hc : w.cell? p = some v) : w'.cell? p = some v := h.ex.cell hp hc
theorem ExS.start {rb b n : Nat} {w : World} (hne : b ≠ rb) (h : Cel w b n) : ExS rb b n w w := ⟨hne, Ex.refl _ _, fun _ => h⟩

def setL (w : World) (b : Nat) : Nat → List Value → World
  | _, [] => w
  | i, v :: r => setL (w.setCell ⟨b, i, none⟩ v) b (i + 1) r
theorem setL_low (b : Nat) : ∀ (A : List Value) (i : Nat) (w : World) (j : Nat), j < i → (setL w b i A).cell? ⟨b, j, none⟩ = w.cell? ⟨b, j, none⟩
  | [], _, _, _, _ => rfl
  | v :: r, i, w, j, h => by
    rw [setL, setL_low b r (i + 1) _ j (by omega), World.cell?_setCell_other _ _ _ _ (fun e => by have := congrArg Addr.off e; simp only at this; omega)]
theorem setL_at (b : Nat) : ∀ (A : List Value) (i : Nat) (w : World), (∀ j, j < A.length → ∃ u, w.cell? ⟨b, i + j, none⟩ = some u) → ∀ j v, A[j]? = some v → (setL w b i A).cell? ⟨b, i + j, none⟩ = some v
  | [], _, _, _, j, v, h => by simp at h
  | x :: r, i, w, hw, j, v, h => by
    cases j with
    | zero =>
      simp at h
      subst h
      obtain ⟨u, hu⟩ := hw 0 (by simp)
      rw [setL, setL_low b r (i + 1) _ (i + 0) (by omega)]
      exact World.cell?_setCell_same _ _ _ hu
    | succ j =>
      rw [setL, show i + (j + 1) = i + 1 + j by omega]
      refine setL_at b r (i + 1) _ (fun k hk => ?_) j v (by simpa using h)
      obtain ⟨u, hu⟩ := hw (k + 1) (by simpa using hk)
      refine ⟨u, ?_⟩
      rw [World.cell?_setCell_other _ _ _ _ (fun e => by have := congrArg Addr.off e; simp only at this; omega), show i + 1 + k = i + (k + 1) by omega]
      exact hu
theorem setL_ex {X : Nat → Prop} {w0 : World} {b : Nat} (hb : X b) : ∀ (A : List Value) (i : Nat) (w : World), Ex X w0 w → Ex X w0 (setL w b i A)
  | [], _, _, h => h
  | _ :: r, i, _, h => setL_ex hb r (i + 1) _ (h.setCell hb _)
theorem setL_frozen (b : Nat) (p : Addr) : ∀ (A : List Value) (i : Nat) (w : World), (setL w b i A).frozen? p = w.frozen? p
  | [], _, _ => rfl
  | _ :: r, i, w => by rw [setL, setL_frozen b p r]; simp
theorem setL_rd {rb B b : Nat} (hne : b ≠ rb) : ∀ (A : List Value) (i : Nat) (w : World), (∀ j, j < A.length → ∃ u, w.cell? ⟨b, i + j, none⟩ = some u ∧ ∀ c, u ≠ .int .u8 c) → Rd w rb B → Rd (setL w b i A) rb B
  | [], _, _, _, h => h
  | x :: r, i, w, hw, h => by
    obtain ⟨u, hu, hc⟩ := hw 0 (by simp)
    refine setL_rd hne r (i + 1) _ (fun k hk => ?_) (h.set_other (p := ⟨b, i, none⟩) hne hu hc x)
    obtain ⟨u, hu, hc⟩ := hw (k + 1) (by simpa using hk)
    refine ⟨u, ?_, hc⟩
    rw [World.cell?_setCell_other _ _ _ _ (fun e => by have := congrArg Addr.off e; simp only at this; omega), show i + 1 + k = i + (k + 1) by omega]
    exact hu
/-- The block written. -/
theorem setL_ok {rb B b n : Nat} {w w' : World} (hR : Rd w' rb B) (hE : ExS rb b n w w') (hn : 0 < n) (A : List Value) (hA : A.length = n) (hb : ∀ v ∈ A, ∀ c, v ≠ .int .u8 c) :
    RS rb b A w' (setL w' b 0 A) ∧ At (setL w' b 0 A) b A ∧ Rd (setL w' b 0 A) rb B ∧ ExS rb b n w (setL w' b 0 A) := by
  subst hA
  have hc := hE.cel hn
  have hat : At (setL w' b 0 A) b A := fun i v hv => by
    have := setL_at b A 0 w' (fun j hj => by obtain ⟨_, u, hu, _⟩ := hc j hj; exact ⟨u, by rw [Nat.zero_add]; exact hu⟩) i v hv
    rwa [Nat.zero_add] at this
  refine ⟨⟨setL_ex (.inr rfl) A 0 _ (Ex.refl _ _), fun _ _ => hat⟩, hat, setL_rd hE.ne A 0 w' (fun j hj => by obtain ⟨_, u, hu, h2⟩ := hc j hj; exact ⟨u, by rw [Nat.zero_add]; exact hu, h2⟩) hR, hE.ne, setL_ex (.inr rfl) A 0 _ hE.ex, fun _ i hi => ?_⟩
  refine ⟨(setL_frozen b _ A 0 w').trans (hc i hi).1, A[i], hat i _ (List.getElem?_eq_getElem hi), hb _ (List.getElem_mem hi)⟩
/-- Types of a region in which the operation m writes the block. -/
def tyS {X : Nat → Prop} (m : Nat) (b : Nat) (A : List Value) (L : List (STy X)) (i : Nat) : World → Value → Prop := if i = m then (fun w _ => b < w.heap.size ∧ At w b A) else (L.getD i (sAny _)).T
theorem tyS_st {rb b : Nat} {m : Nat} {A : List Value} {L : List (STy (two rb b))} (i : Nat) (u u' : World) (v : Value) (hx : RS rb b A u u') (h : tyS m b A L i u v) : tyS m b A L i u' v := by
  unfold tyS at *
  split at h
  · rename_i e
    rw [if_pos e]
    exact ⟨Nat.lt_of_lt_of_le h.1 hx.1.size, hx.2 h.1 h.2⟩
  · rename_i e
    rw [if_neg e]
    exact STy.st _ _ _ _ hx.1 h
theorem ex_new {rb b : Nat} {w w' : World} (h : Ex (two rb b) w w') (hb : w.heap.size ≤ b) : Ex (· = rb) w w' :=
  ⟨h.os, h.tape, h.output, h.size, fun k hk hx => h.block k hk (fun e => e.elim hx (fun e => by omega))⟩
end Go.Proofs.YtemjonibpachbaaDoor
