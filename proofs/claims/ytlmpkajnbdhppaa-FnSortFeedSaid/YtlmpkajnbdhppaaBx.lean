/- Blocks of the call's own that are written while a reader is asked. No condition. -/
import Derived.Test.YtlmpkajnbdhppaaDrawOwn
import Derived.Test.YtlmpkajnbdhppaaDrawW
import Derived.Test.YtlmpkajnbdhppaaTy
namespace Go.Proofs.Ytlmpkajnbdhppaa
open Go.RowKit

/-- A new block of which all is known. -/
def sBlk (X : Nat → Prop) (H : Nat) (o : Obj) : STy X := ⟨fun w v => ∃ b, v = .pointer (some ⟨b, 0, none⟩) ∧ H ≤ b ∧ ¬ X b ∧ w.heap[b]? = some o, fun _ _ _ hx ⟨b, h1, h2, h3, h4⟩ => ⟨b, h1, h2, h3, (hx.block b (Array.getElem?_eq_some_iff.1 h4).1 h3).trans h4⟩⟩
/-- No bytes. -/
def NoB (A : List Value) : Prop := ∀ v ∈ A, ∀ c, v ≠ .int .u8 c
/-- The reader in rb asked at most B times; from W on only its block has turned of those that were there; a block g, made since, holds A and may be written. -/
structure Bx (rb B g : Nat) (W w : World) (A : List Value) : Prop where
  rd : Rd w rb B
  ex : Ex (· = rb) W w
  lt : g < w.heap.size
  ge : W.heap.size ≤ g
  ne : g ≠ rb
  cell : ∀ i v, A[i]? = some v → w.cell? ⟨g, i, none⟩ = some v ∧ w.frozen? ⟨g, i, none⟩ = false
  nob : NoB A
section
variable {rb B g : Nat} {W w w' : World} {A : List Value}
theorem Bx.step (h : Bx rb B g W w A) {B' : Nat} (hR : Rd w' rb B') (hE : Ex (· = rb) w w') : Bx rb B' g W w' A :=
  ⟨hR, h.ex.trans hE, Nat.lt_of_lt_of_le h.lt hE.size, h.ge, h.ne, fun i v hi => ⟨hE.cell (p := ⟨g, i, none⟩) h.ne (h.cell i v hi).1, (World.frozen?_of_block (hE.block g h.lt h.ne)).trans (h.cell i v hi).2⟩, h.nob⟩
theorem Bx.below (h : Bx rb B g W w A) (hb : Below w.heap.size w w') : Bx rb B g W w' A := h.step (h.rd.below hb) (Ex.of_below hb)
theorem Bx.mono (h : Bx rb B g W w A) {B' : Nat} (hB : B ≤ B') : Bx rb B' g W w A := ⟨h.rd.mono hB, h.ex, h.lt, h.ge, h.ne, h.cell, h.nob⟩
theorem set_ex {W w : World} {rb g i : Nat} (hE : Ex (· = rb) W w) (hg : W.heap.size ≤ g) (v : Value) : Ex (· = rb) W (w.setCell ⟨g, i, none⟩ v) :=
  ⟨hE.os, hE.tape, hE.output, by have := hE.size; simpa using this, fun k hk hx => (heap_setCell_other w ⟨g, i, none⟩ k v (by simp only; omega)).trans (hE.block k hk hx)⟩
theorem Bx.set (h : Bx rb B g W w A) (i : Nat) (hi : i < A.length) (v : Value) (hv : ∀ c, v ≠ .int .u8 c) : Bx rb B g W (w.setCell ⟨g, i, none⟩ v) (A.set i v) := by
  obtain ⟨h1, h2⟩ := h.cell i _ (List.getElem?_eq_getElem hi)
  refine ⟨h.rd.set_other (p := ⟨g, i, none⟩) h.ne h1 (h.nob _ (List.getElem_mem hi)) v, set_ex h.ex h.ge v, by simpa using h.lt, h.ge, h.ne, fun j u hj => ?_, fun x hx => ?_⟩
  · by_cases e : i = j
    · subst e
      rw [List.getElem?_set_self hi] at hj
      cases hj
      exact ⟨World.cell?_setCell_same _ _ _ h1, by simpa using h2⟩
    · rw [List.getElem?_set_ne e] at hj
      obtain ⟨k1, k2⟩ := h.cell j u hj
      exact ⟨(World.cell?_setCell_other _ _ _ _ (fun e2 => e (congrArg Addr.off e2))).trans k1, by simpa using k2⟩
  · rcases List.mem_or_eq_of_mem_set hx with h3 | h3
    · exact h.nob x h3
    · subst h3; exact hv
theorem Bx.other {g2 : Nat} {A2 : List Value} (h : Bx rb B g W w A) (k : Bx rb B g2 W w A2) (hne : g ≠ g2) (i : Nat) (v : Value) (hR : Rd (w.setCell ⟨g2, i, none⟩ v) rb B) : Bx rb B g W (w.setCell ⟨g2, i, none⟩ v) A :=
  ⟨hR, set_ex h.ex k.ge v, by simpa using h.lt, h.ge, h.ne, fun j u hj => ⟨(World.cell?_setCell_other _ _ _ _ (fun e => hne (congrArg Addr.block e).symm)).trans (h.cell j u hj).1, by simpa using (h.cell j u hj).2⟩, h.nob⟩
theorem Bx.of_block {l : List Value} {t : TypeId} (hR : Rd w rb B) (hE : Ex (· = rb) W w) (hge : W.heap.size ≤ g) (hne : g ≠ rb) (hb : w.heap[g]? = some (.cells l.toArray t (0, 0))) (hn : NoB l) : Bx rb B g W w l :=
  ⟨hR, hE, (Array.getElem?_eq_some_iff.1 hb).1, hge, hne, fun i v hi => ⟨by rw [cell_of_row w g i _ t (0, 0) hb]; simpa using hi, by simp [World.frozen?, hb]⟩, hn⟩
theorem Bx.four {a0 a1 a2 a3 : Value} (h : Bx rb B g W w [a0, a1, a2, a3]) : (w.cell? ⟨g, 0, none⟩ = some a0 ∧ w.cell? ⟨g, 1, none⟩ = some a1 ∧ w.cell? ⟨g, 2, none⟩ = some a2 ∧ w.cell? ⟨g, 3, none⟩ = some a3) ∧ (w.frozen? ⟨g, 0, none⟩ = false ∧ w.frozen? ⟨g, 1, none⟩ = false ∧ w.frozen? ⟨g, 2, none⟩ = false ∧ w.frozen? ⟨g, 3, none⟩ = false) :=
  ⟨⟨(h.cell 0 _ rfl).1, (h.cell 1 _ rfl).1, (h.cell 2 _ rfl).1, (h.cell 3 _ rfl).1⟩, ⟨(h.cell 0 _ rfl).2, (h.cell 1 _ rfl).2, (h.cell 2 _ rfl).2, (h.cell 3 _ rfl).2⟩⟩
end
end Go.Proofs.Ytlmpkajnbdhppaa
