/- Plain facts on the order of texts. No condition. -/
import Derived.WalkLawsBesides
import Derived.WideShapes
namespace Go.Proofs.YtackffegdmohiaaDoor
theorem less_irr : ∀ l : List UInt8, Op.bytesLess l l = false
  | [] => rfl
  | a :: l => by simp [Op.bytesLess, less_irr l]
theorem less_asymm : ∀ {x y : List UInt8}, Op.bytesLess x y = true → Op.bytesLess y x = false
  | [], [], h => by simp [Op.bytesLess] at h
  | [], _ :: _, _ => rfl
  | _ :: _, [], h => by simp [Op.bytesLess] at h
  | a :: x, b :: y, h => by
    simp only [Op.bytesLess, Bool.or_eq_true, decide_eq_true_eq, Bool.and_eq_true, beq_iff_eq] at h
    simp only [Op.bytesLess, Bool.or_eq_false_iff, decide_eq_false_iff_not, Bool.and_eq_false_imp, beq_iff_eq]
    rcases h with h | ⟨h1, h2⟩
    · exact ⟨UInt8.not_lt.mpr (UInt8.le_of_lt h), fun e => absurd (e ▸ h) (UInt8.lt_irrefl _)⟩
    · subst h1; exact ⟨UInt8.lt_irrefl _, fun _ => less_asymm h2⟩
theorem less_total : ∀ {x y : List UInt8}, x ≠ y → Op.bytesLess x y = false → Op.bytesLess y x = true
  | [], [], h, _ => absurd rfl h
  | [], _ :: _, _, h => by simp [Op.bytesLess] at h
  | _ :: _, [], _, _ => rfl
  | a :: x, b :: y, h, h2 => by
    simp only [Op.bytesLess, Bool.or_eq_false_iff, decide_eq_false_iff_not, Bool.and_eq_false_imp, beq_iff_eq] at h2
    simp only [Op.bytesLess, Bool.or_eq_true, decide_eq_true_eq, Bool.and_eq_true, beq_iff_eq]
    by_cases e : a = b
    · subst e; exact .inr ⟨rfl, less_total (fun e => h (by rw [e])) (h2.2 rfl)⟩
    · refine .inl (UInt8.lt_of_le_of_ne (UInt8.not_lt.mp h2.1) (Ne.symm e))
theorem list_inj {a b : ByteArray} (h : a.toList = b.toList) : a = b := Go.WideShapes.bytes_inj (by rw [ByteArray.toList_eq, ByteArray.toList_eq] at h; exact h)
theorem less_trans : ∀ {x y z : List UInt8}, Op.bytesLess x y = true → Op.bytesLess y z = true → Op.bytesLess x z = true
  | [], _, [], h, h2 => by
    rename_i y
    cases y <;> simp [Op.bytesLess] at h h2
  | [], _, _ :: _, _, _ => rfl
  | _ :: _, [], _, h, _ => by simp [Op.bytesLess] at h
  | _ :: _, _ :: _, [], _, h => by simp [Op.bytesLess] at h
  | a :: x, b :: y, c :: z, h, h2 => by
    simp only [Op.bytesLess, Bool.or_eq_true, decide_eq_true_eq, Bool.and_eq_true, beq_iff_eq] at h h2 ⊢
    rcases h with h | ⟨rfl, h⟩
    · rcases h2 with h2 | ⟨rfl, h2⟩
      · exact .inl (UInt8.lt_trans h h2)
      · exact .inl h
    · rcases h2 with h2 | ⟨rfl, h2⟩
      · exact .inl h2
      · exact .inr ⟨rfl, less_trans h h2⟩
/-- Not less: the other one is less, or it is the same. -/
theorem less_not {x y : List UInt8} : (Op.bytesLess y x || y == x) = !Op.bytesLess x y := by
  cases h : Op.bytesLess x y
  · by_cases e : y = x
    · simp [e]
    · simp [less_total (fun e2 => e e2.symm) h]
  · have e : ¬ y = x := fun e => by rw [e, less_irr] at h; cases h
    simp [less_asymm h, e]
end Go.Proofs.YtackffegdmohiaaDoor
