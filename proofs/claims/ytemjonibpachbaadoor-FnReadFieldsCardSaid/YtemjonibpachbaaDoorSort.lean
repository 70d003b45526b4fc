/- Plain facts: a row of the call's own that the library has sorted. No condition. -/
import Derived.Test.YtemjonibpachbaaDoorMem
import Derived.Test.YtemjonibpachbaaDoorLess
import Derived.Shelf.SlSortCmp.WholeK
import Derived.Shelf.SlSortCmp.NoneTotal
import Derived.Lib.Bytealg
namespace Go.Proofs.YtemjonibpachbaaDoor
open Go.RowKit Go.Sort Go.Lib Go.Shelf

theorem cmp_less : ∀ (x y : List UInt8), decide (Lib.compareBytes x y < 0) = Op.bytesLess x y
  | [], [] => rfl
  | [], _ :: _ => rfl
  | _ :: _, [] => rfl
  | a :: x, b :: y => by
    have ih := cmp_less x y
    unfold Lib.compareBytes Op.bytesLess
    by_cases h1 : a < b
    · simp [h1]
    · by_cases h2 : b < a
      · have e : ¬ a = b := fun e => by subst e; exact UInt8.lt_irrefl _ h2
        simp [h1, h2, e]
      · have e : a = b := UInt8.le_antisymm (UInt8.not_lt.mp h2) (UInt8.not_lt.mp h1)
        subst e
        simp only [h1, if_false, decide_false, Bool.false_or, beq_self_eq_true, Bool.true_and]
        exact ih

variable {α : Type} [Inhabited α]
section
variable {S : Shape α} {w : World} {base g cap : Nat} {e : TypeId} {l : List α}
theorem flat_at (S : Shape α) (l : List α) (j : Nat) (h : j < l.length * S.sz) : (S.cells l)[j]? = some ((flatK S.enc S.sz l.toArray)[j]!) := by
  have hq : j / S.sz < l.length := Nat.div_lt_of_lt_mul (by rw [Nat.mul_comm]; exact h)
  have hr : j % S.sz < S.sz := Nat.mod_lt _ S.pos
  have hjj : j / S.sz * S.sz + j % S.sz = j := by rw [Nat.mul_comm]; exact Nat.div_add_mod j S.sz
  have h1 := S.cells_at l _ hq _ hr
  rw [hjj] at h1
  rw [h1, get_flatK _ _ _ _ (by simpa using h), List.getElem?_eq_getElem (by rw [S.len]; exact hr)]
  simp [getElem!_pos, hq, S.len, hr]
theorem holds_own (h : w.ownsRow base e S.sz (.slice (some ⟨g, 0, none⟩) l.length cap) l.length (S.cells l)) : HoldsK S.enc S.sz w g 0 l.toArray := by
  intro j hj
  have hj' : j < l.length * S.sz := by simpa using hj
  rw [Nat.zero_add]
  exact ⟨by rw [h.cellAt j hj', flat_at S l j hj']; rfl, h.frozenAt j⟩
theorem own_sorted (h : w.ownsRow base e S.sz (.slice (some ⟨g, 0, none⟩) l.length cap) l.length (S.cells l)) (l' : List α) (hl : l'.length = l.length) (m : Nat) (os : Array Obj) :
    (sortWorldK S.enc S.sz w g 0 m l'.toArray os).ownsRow base e S.sz (.slice (some ⟨g, 0, none⟩) l'.length cap) l'.length (S.cells l') := by
  rcases h.2 with ⟨e0, _⟩ | ⟨g', cap', cur, e0, hb, hg, hn, hm, hs, ht⟩
  · cases e0
  · injection e0 with e1 _ e3
    injection e1 with e1
    injection e1 with e1
    subst e1; subst e3
    have hlt : g < w.heap.size := (Array.getElem?_eq_some_iff.1 hg).1
    refine ⟨S.cells_len l', .inr ⟨g, cap, putCells id 0 (flatK S.enc S.sz l'.toArray) cur, rfl, hb, ?_, by omega, hm, by simpa [putCells] using hs, ?_⟩⟩
    · unfold sortWorldK grow putRowK
      rw [Array.getElem?_append_left (by simpa [putRow, mapBlock, Sort.ahead] using hlt)]
      simp [putRow, mapBlock, Sort.ahead, Array.getElem?_modify, hg, onCells]
    · apply List.ext_getElem?
      intro j
      rw [List.getElem?_take, Array.getElem?_toList]
      by_cases hj : j < l'.length * S.sz
      · have hjc : j < cur.size := by rw [hs]; exact Nat.lt_of_lt_of_le hj (Nat.mul_le_mul_right _ (by omega))
        simp only [if_pos hj, putCells, Array.getElem?_mapIdx, Array.getElem?_eq_getElem hjc, Option.map_some]
        rw [if_pos (by simp; exact hj), flat_at S l' j hj]
        simp
      · rw [if_neg hj, List.getElem?_eq_none (by rw [S.cells_len]; omega)]
theorem grown_sorted (l' : List α) (m : Nat) (os : Array Obj) : w.grownBy (sortWorldK S.enc S.sz w g 0 m l'.toArray os) (some g) := by
  refine ⟨rfl, rfl, rfl, ?_, fun k hk hne => ?_⟩
  · simp [sortWorldK, grow, putRowK, putRow, mapBlock, Sort.ahead]
  · unfold sortWorldK grow putRowK
    rw [Array.getElem?_append_left (by simpa [putRow, mapBlock, Sort.ahead] using hk)]
    have : g ≠ k := fun e => hne (by rw [e])
    simp [putRow, mapBlock, Sort.ahead, Array.getElem?_modify, this]
end
/-- What the library's words say of lists. -/
theorem perm_of {l : List α} {d' : Array α} (h : PermIn 0 l.toArray.size l.toArray d') : d'.toList.Perm l ∧ d'.toList.length = l.length := by
  have h1 := h.1
  have h2 := h.2.2
  simp only [List.size_toArray] at h1 h2
  have e1 : d'.extract 0 l.length = d' := by rw [← h1, Array.extract_size]
  have e2 : l.toArray.extract 0 l.length = l.toArray := by rw [show l.length = l.toArray.size by simp, Array.extract_size]
  rw [e1, e2] at h2
  exact ⟨by simpa using h2, by simpa using h1⟩
theorem pairs_of {lt : α → α → Bool} {l : List α} {d' : Array α} (hs : d'.size = l.length) (h : SortedIn lt 0 l.toArray.size d') : d'.toList.Pairwise fun x y => lt y x = false := by
  rw [List.pairwise_iff_getElem]
  intro i j hi hj hij
  have := h i j (Nat.zero_le _) hij (by simp; simpa [hs] using hj)
  simp only [Array.length_toList] at hi hj
  simpa [getElem!_pos, hi, hj] using this
omit [Inhabited α] in
/-- Two lists of the same elements, each in the same strict order, are one. -/
theorem sorted_unique {R : α → α → Prop} (hirr : ∀ x y, R x y → R y x → False) : ∀ {l1 l2 : List α}, l1.Perm l2 → l1.Pairwise R → l2.Pairwise R → l1 = l2
  | [], l2, hp, _, _ => by have := hp.length_eq; exact (List.eq_nil_of_length_eq_zero (by simpa using this.symm)).symm
  | a :: l1, [], hp, _, _ => by have := hp.length_eq; simp at this
  | a :: l1, b :: l2, hp, h1, h2 => by
    rw [List.pairwise_cons] at h1 h2
    have hab : a = b := by
      have ha : a ∈ b :: l2 := hp.subset (by simp)
      have hb : b ∈ a :: l1 := hp.symm.subset (by simp)
      rcases List.mem_cons.1 ha with e | ha
      · exact e
      · rcases List.mem_cons.1 hb with e | hb
        · exact e.symm
        · exact (hirr _ _ (h1.1 _ hb) (h2.1 _ ha)).elim
    subst hab
    rw [sorted_unique hirr (List.Perm.cons_inv hp) h1.2 h2.2]
end Go.Proofs.YtemjonibpachbaaDoor
