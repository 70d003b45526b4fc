/- Plain facts on slices in memory: a slice whose elements are known (Sl), its cells, what keeps it. No condition. -/
import Derived.Below
import Derived.OwnWalk
namespace Go.Proofs.YtackffegdmohiaaDoor
open Go.RowKit

/-- How an element lies in cells. -/
structure Shape (α : Type) where
  enc : α → List Value
  sz : Nat
  pos : 0 < sz
  len : ∀ x, (enc x).length = sz
  one : ∀ x, ∀ u ∈ enc x, u.oneCell' = true

variable {α : Type}
def Shape.cells (S : Shape α) (l : List α) : List Value := l.flatMap S.enc
theorem Shape.cells_len (S : Shape α) (l : List α) : (S.cells l).length = l.length * S.sz := by
  induction l with
  | nil => simp [Shape.cells]
  | cons x l ih =>
    have : S.cells (x :: l) = S.enc x ++ S.cells l := rfl
    rw [this, List.length_append, S.len, ih, List.length_cons, Nat.add_mul]; omega
theorem Shape.cells_append (S : Shape α) (l r : List α) : S.cells (l ++ r) = S.cells l ++ S.cells r := by simp [Shape.cells]
theorem Shape.cells_one (S : Shape α) (x : α) : S.cells [x] = S.enc x := by simp [Shape.cells]
theorem Shape.cells_oneCell (S : Shape α) (l : List α) : ∀ u ∈ S.cells l, u.oneCell' = true := fun u hu => by
  obtain ⟨x, _, hx⟩ := List.mem_flatMap.1 hu
  exact S.one x u hx
theorem Shape.cells_at (S : Shape α) : ∀ (l : List α) (i : Nat) (h : i < l.length) (f : Nat), f < S.sz → (S.cells l)[i * S.sz + f]? = (S.enc l[i])[f]?
  | x :: l, 0, _, f, hf => by
    have : S.cells (x :: l) = S.enc x ++ S.cells l := rfl
    rw [this, Nat.zero_mul, Nat.zero_add, List.getElem?_append_left (by rw [S.len]; exact hf)]; rfl
  | x :: l, i + 1, h, f, hf => by
    have : S.cells (x :: l) = S.enc x ++ S.cells l := rfl
    rw [this, List.getElem?_append_right (by rw [S.len, Nat.add_mul]; omega), S.len, show (i + 1) * S.sz + f - S.sz = i * S.sz + f by rw [Nat.add_mul]; omega,
      S.cells_at l i (by simpa using h) f hf]
    rfl
theorem Shape.cells_take (S : Shape α) : ∀ (l : List α) (k : Nat), S.cells (l.take k) = (S.cells l).take (k * S.sz)
  | [], k => by simp [Shape.cells]
  | x :: l, 0 => by simp [Shape.cells]
  | x :: l, k + 1 => by
    have e1 : S.cells (x :: l) = S.enc x ++ S.cells l := rfl
    have e2 : S.cells ((x :: l).take (k + 1)) = S.enc x ++ S.cells (l.take k) := rfl
    rw [e2, e1, S.cells_take l k, List.take_append, S.len, List.take_of_length_le (l := S.enc x) (by rw [S.len, Nat.add_mul]; omega)]
    congr 2
    rw [Nat.add_mul]; omega

/-- The slice v reads as the list l. -/
def Sl (S : Shape α) (w : World) (v : Value) (l : List α) : Prop :=
  ∃ a cap, v = .slice a l.length cap ∧ l.length ≤ cap ∧ cap ≤ maxLen ∧ (l = [] ∨ ∃ b off, a = some ⟨b, off, none⟩ ∧ b < w.heap.size ∧ ∀ j u, (S.cells l)[j]? = some u → w.cell? ⟨b, off + j, none⟩ = some u)
theorem Sl.mono {S : Shape α} {w w' : World} {v : Value} {l : List α} (h : Sl S w v l) (hb : Below w.heap.size w w') : Sl S w' v l := by
  obtain ⟨a, cap, rfl, h1, h2, h3⟩ := h
  refine ⟨a, cap, rfl, h1, h2, ?_⟩
  rcases h3 with h3 | ⟨b, off, rfl, hlt, hc⟩
  · exact .inl h3
  · exact .inr ⟨b, off, rfl, Nat.lt_of_lt_of_le hlt hb.size, fun j u hu => (hb.cell (p := ⟨b, off + j, none⟩) hlt).trans (hc j u hu)⟩
theorem Sl.of_owns {S : Shape α} {w : World} {base : Nat} {e : TypeId} {v : Value} {l : List α} (h : w.ownsRow base e S.sz v l.length (S.cells l)) : Sl S w v l := by
  rcases h.2 with ⟨rfl, h0⟩ | ⟨g, cap, cur, rfl, _, hg, hn, hm, _, _⟩
  · exact ⟨none, 0, by rw [h0], by omega, by simp [maxLen], .inl (List.eq_nil_of_length_eq_zero h0)⟩
  · refine ⟨_, cap, rfl, hn, hm, .inr ⟨g, 0, rfl, (Array.getElem?_eq_some_iff.1 hg).1, fun j u hu => ?_⟩⟩
    have hj : j < l.length * S.sz := by rw [← S.cells_len]; exact (List.getElem?_eq_some_iff.1 hu).1
    rw [Nat.zero_add, h.cellAt j hj, hu]
/-- A slice that reads as l, its form laid open where there is an element. -/
theorem Sl.open {S : Shape α} {w : World} {v : Value} {l : List α} (h : Sl S w v l) (h0 : 0 < l.length) :
    ∃ b off cap, v = .slice (some ⟨b, off, none⟩) l.length cap ∧ l.length ≤ cap ∧ cap ≤ maxLen ∧ b < w.heap.size ∧ ∀ i (hi : i < l.length) f, f < S.sz → w.cell? ⟨b, off + (i * S.sz + f), none⟩ = (S.enc l[i])[f]? := by
  obtain ⟨a, cap, rfl, h1, h2, h3⟩ := h
  rcases h3 with rfl | ⟨b, off, rfl, hlt, hc⟩
  · exact absurd h0 (by simp)
  · refine ⟨b, off, cap, rfl, h1, h2, hlt, fun i hi f hf => ?_⟩
    rw [← S.cells_at l i hi f hf]
    have hj : i * S.sz + f < (S.cells l).length := by
      rw [S.cells_len]
      have := Nat.mul_le_mul_right S.sz (show i + 1 ≤ l.length from hi)
      rw [Nat.add_mul] at this
      omega
    rw [hc _ _ (List.getElem?_eq_getElem hj), List.getElem?_eq_getElem hj]
theorem Sl.len {S : Shape α} {w : World} {v : Value} {l : List α} (h : Sl S w v l) : l.length ≤ 9223372036854775807 := by
  obtain ⟨a, cap, _, h1, h2, _⟩ := h
  unfold maxLen at h2
  omega

/-- Below, of worlds one behind the other. -/
theorem below_trans {a b c : World} (h : Below a.heap.size a b) (k : Below b.heap.size b c) : Below a.heap.size a c := h.trans (k.mono h.size)

theorem take_set_snoc {β : Type} {xs ys : List β} {m : Nat} {u : β} (h : xs.take m = ys) (hm : m < xs.length) : (xs.set m u).take (m + 1) = ys ++ [u] := by
  rw [List.take_succ_eq_append_getElem (by simpa using hm), List.getElem_set_self, List.take_set, List.set_eq_of_length_le (by rw [List.length_take]; omega), h]
theorem Shape.cells_snoc (S : Shape α) (l : List α) (k : Nat) (h : k < l.length) : S.cells (l.take (k + 1)) = S.cells (l.take k) ++ S.enc l[k] := by
  rw [List.take_succ_eq_append_getElem h, S.cells_append, S.cells_one]
/-- All cells filled. -/
theorem filled {S : Shape α} {w : World} {base : Nat} {e : TypeId} {v : Value} {l : List α} {xs : List Value} (h : w.ownsRow base e S.sz v l.length xs) (ht : xs.take (l.length * S.sz) = S.cells (l.take l.length)) :
    w.ownsRow base e S.sz v l.length (S.cells l) := by
  rw [List.take_of_length_le (by rw [h.1]; exact Nat.le_refl _), List.take_length] at ht
  rw [← ht]; exact h

theorem madeCells_zero (z : Array Value) : (madeCells z 0).toList = [] := by simp [madeCells]

theorem fill1 {S : Shape α} {xs : List Value} {l : List α} {k : Nat} (h : xs.take (k * 1) = S.cells (l.take k)) (hk : k < l.length) (hl : xs.length = l.length * 1) {u : Value} (hu : S.enc l[k] = [u]) :
    (xs.set k u).take ((k + 1) * 1) = S.cells (l.take (k + 1)) := by
  rw [S.cells_snoc l k hk, hu, ← h, Nat.mul_one, Nat.mul_one]
  exact take_set_snoc rfl (by omega)
theorem fill2 {S : Shape α} {xs : List Value} {l : List α} {k : Nat} (h : xs.take (k * 2) = S.cells (l.take k)) (hk : k < l.length) (hl : xs.length = l.length * 2) {u v : Value} (hu : S.enc l[k] = [u, v]) :
    ((xs.set (k * 2) u).set (k * 2 + 1) v).take ((k + 1) * 2) = S.cells (l.take (k + 1)) := by
  rw [S.cells_snoc l k hk, hu, ← h, show (k + 1) * 2 = k * 2 + 1 + 1 by omega, take_set_snoc (take_set_snoc rfl (by omega)) (by rw [List.length_set]; omega)]
  simp
theorem fill3 {S : Shape α} {xs : List Value} {l : List α} {k : Nat} (h : xs.take (k * 3) = S.cells (l.take k)) (hk : k < l.length) (hl : xs.length = l.length * 3) {u v x : Value} (hu : S.enc l[k] = [u, v, x]) :
    (((xs.set (k * 3) u).set (k * 3 + 1) v).set (k * 3 + 2) x).take ((k + 1) * 3) = S.cells (l.take (k + 1)) := by
  rw [S.cells_snoc l k hk, hu, ← h, show (k + 1) * 3 = k * 3 + 2 + 1 by omega, take_set_snoc (take_set_snoc (take_set_snoc rfl (by omega)) (by rw [List.length_set]; omega)) (by rw [List.length_set, List.length_set]; omega)]
  simp
theorem fill4 {S : Shape α} {xs : List Value} {l : List α} {k : Nat} (h : xs.take (k * 4) = S.cells (l.take k)) (hk : k < l.length) (hl : xs.length = l.length * 4) {u v x y : Value} (hu : S.enc l[k] = [u, v, x, y]) :
    ((((xs.set (k * 4) u).set (k * 4 + 1) v).set (k * 4 + 2) x).set (k * 4 + 3) y).take ((k + 1) * 4) = S.cells (l.take (k + 1)) := by
  rw [S.cells_snoc l k hk, hu, ← h, show (k + 1) * 4 = k * 4 + 3 + 1 by omega, take_set_snoc (take_set_snoc (take_set_snoc (take_set_snoc rfl (by omega)) (by rw [List.length_set]; omega)) (by rw [List.length_set, List.length_set]; omega)) (by rw [List.length_set, List.length_set, List.length_set]; omega)]
  simp
/-- Each cell of an owned row is there. -/
theorem owned_cell {w : World} {base : Nat} {e : TypeId} {size g n cap : Nat} {xs : List Value} (h : w.ownsRow base e size (.slice (some ⟨g, 0, none⟩) n cap) n xs) {j : Nat} (hj : j < n * size) : ∃ u, w.cell? ⟨g, j, none⟩ = some u :=
  ⟨_, (h.cellAt j hj).trans (List.getElem?_eq_getElem (by rw [h.1]; exact hj))⟩

/-- A cell stays. -/
theorem keep_cell {w w' : World} {p : Addr} {v : Value} (hb : Below w.heap.size w w') (h : w.cell? p = some v) : w'.cell? p = some v := (hb.cell (World.block_lt_of_cell? w p h)).trans h

/-- What a call leaves: a bool that meets P; a number that meets P; a value that meets P in the world behind; nothing that was there has turned. -/
def RetBool (P : Bool → Prop) (w : World) (e : Ending) (w' : World) : Prop := ∃ b, e = .returned (.bool b) ∧ P b ∧ Below w.heap.size w w'
theorem RetBool.mk {P : Bool → Prop} {w w' : World} {b : Bool} (h : P b) (hb : Below w.heap.size w w') : RetBool P w (.returned (.bool b)) w' := ⟨b, rfl, h, hb⟩
def RetInt (P : Int → Prop) (w : World) (e : Ending) (w' : World) : Prop := ∃ n, e = .returned (.int .i64 n) ∧ P n ∧ Below w.heap.size w w'
theorem RetInt.mk {P : Int → Prop} {w w' : World} {n : Int} (h : P n) (hb : Below w.heap.size w w') : RetInt P w (.returned (.int .i64 n)) w' := ⟨n, rfl, h, hb⟩
def RetVal (P : Value → World → Prop) (w : World) (e : Ending) (w' : World) : Prop := ∃ v, e = .returned v ∧ P v w' ∧ Below w.heap.size w w'
theorem RetVal.mk {P : Value → World → Prop} {w w' : World} {v : Value} (h : P v w') (hb : Below w.heap.size w w') : RetVal P w (.returned v) w' := ⟨v, rfl, h, hb⟩
def RetTwo (P : Value → Value → World → Prop) (w : World) (e : Ending) (w' : World) : Prop := ∃ v u, e = .returned (.tuple #[v, u]) ∧ P v u w' ∧ Below w.heap.size w w'
theorem RetTwo.mk {P : Value → Value → World → Prop} {w w' : World} {v u : Value} (h : P v u w') (hb : Below w.heap.size w w') : RetTwo P w (.returned (.tuple #[v, u])) w' := ⟨v, u, rfl, h, hb⟩
theorem below1 (w : World) (o : Obj) : Below w.heap.size w (w.alloc o) := (Below.refl _ _).alloc (Nat.le_refl _) o

/-- What is owned stays owned where nothing that was there has turned. -/
theorem owns_below {w w' : World} {base : Nat} {e : TypeId} {size : Nat} {v : Value} {n : Nat} {xs : List Value} (h : w.ownsRow base e size v n xs) (hb : Below w.heap.size w w') : w'.ownsRow base e size v n xs :=
  h.kept (row := none) ⟨hb.os, hb.tape, hb.output, hb.size, fun i hi _ => hb.block i hi⟩ (by cases hv : v.ownBlock with
    | none => exact .inl rfl
    | some g => exact .inr (fun h => by cases h))

theorem grown_trans {a b c : World} {row : Option Nat} (h : a.grownBy b row) (k : b.grownBy c row) : a.grownBy c row :=
  ⟨k.os.trans h.os, k.tape.trans h.tape, k.output.trans h.output, Nat.le_trans h.size k.size, fun i hi hne => (k.block i (Nat.lt_of_lt_of_le hi h.size) hne).trans (h.block i hi hne)⟩
theorem grown_below {a b : World} (h : Below a.heap.size a b) (row : Option Nat) : a.grownBy b row := ⟨h.os, h.tape, h.output, h.size, fun i hi _ => h.block i hi⟩
theorem below_grown {a b : World} {B : Nat} {row : Option Nat} (h : a.grownBy b row) (hB : B ≤ a.heap.size) (hr : ∀ g, row = some g → B ≤ g) : Below B a b :=
  ⟨h.os, h.tape, h.output, h.size, fun i hi => h.block i (by omega) (fun e => by have := hr i e.symm; omega)⟩

end Go.Proofs.YtackffegdmohiaaDoor
