/- More walks on handles. -/
import Derived.Test.YtkfcbjhfioblgaaHandE
namespace Go.Proofs.Ytkfcbjhfioblgaa
open Go.RowKit

theorem less_irr : ∀ l : List UInt8, Op.bytesLess l l = false
  | [] => rfl
  | a :: l => by simp [Op.bytesLess, less_irr l]
theorem less_asymm : ∀ {x y : List UInt8}, Op.bytesLess x y = true → Op.bytesLess y x = false
  | [], [], h => by simp [Op.bytesLess] at h
  | [], _ :: _, _ => rfl
  | _ :: _, [], h => by simp [Op.bytesLess] at h
  | a :: x, b :: y, h => by
    simp only [Op.bytesLess, Bool.or_eq_true, decide_eq_true_eq, Bool.and_eq_true, beq_iff_eq] at h
    simp only [Op.bytesLess, Bool.or_eq_false_iff, decide_eq_false_iff_not, Bool.and_eq_false_imp, beq_iff_eq]
    rcases h with h | ⟨h1, h2⟩
    · exact ⟨UInt8.not_lt.mpr (UInt8.le_of_lt h), fun e => absurd (e ▸ h) (UInt8.lt_irrefl _)⟩
    · subst h1; exact ⟨UInt8.lt_irrefl _, fun _ => less_asymm h2⟩
theorem less_total : ∀ {x y : List UInt8}, x ≠ y → Op.bytesLess x y = false → Op.bytesLess y x = true
  | [], [], h, _ => absurd rfl h
  | [], _ :: _, _, h => by simp [Op.bytesLess] at h
  | _ :: _, [], _, _ => rfl
  | a :: x, b :: y, h, h2 => by
    simp only [Op.bytesLess, Bool.or_eq_false_iff, decide_eq_false_iff_not, Bool.and_eq_false_imp, beq_iff_eq] at h2
    simp only [Op.bytesLess, Bool.or_eq_true, decide_eq_true_eq, Bool.and_eq_true, beq_iff_eq]
    by_cases e : a = b
    · subst e; exact .inr ⟨rfl, less_total (fun e => h (by rw [e])) (h2.2 rfl)⟩
    · refine .inl (UInt8.lt_of_le_of_ne (UInt8.not_lt.mp h2.1) (Ne.symm e))
/-- The order of handles: by host, then by name. -/
def beforeB (n h n2 h2 : ByteArray) : Bool := if h.toList = h2.toList then Op.bytesLess n.toList n2.toList else Op.bytesLess h.toList h2.toList
theorem i_HandleBefore (n h n2 h2 : ByteArray) (w : World) :
    Calls Try.prog 14 #[.agg #[.string n, .string h], .agg #[.string n2, .string h2]] w fun x w' => x = .returned (.bool (beforeB n h n2 h2)) ∧ Below w.heap.size w w' := by
  by_cases e : h.toList = h2.toList
  · rw [show beforeB n h n2 h2 = Op.bytesLess n.toList n2.toList from by unfold beforeB; rw [if_pos e]]
    go_enter Try.func14, Try.ntmps14
    go_wp2
    all_goals first | (go_ret; exact ⟨rfl, (by repeat (first | exact Below.refl _ _ | refine Below.alloc ?_ (by first | (simp; done) | (simp; omega)) _ | refine Below.drew ?_))⟩) | (exfalso; simp_all; done) | go_ways
  · rw [show beforeB n h n2 h2 = Op.bytesLess h.toList h2.toList from by unfold beforeB; rw [if_neg e]]
    go_enter Try.func14, Try.ntmps14
    go_wp2
    all_goals first | (go_ret; exact ⟨rfl, (by repeat (first | exact Below.refl _ _ | refine Below.alloc ?_ (by first | (simp; done) | (simp; omega)) _ | refine Below.drew ?_))⟩) | (exfalso; simp_all; done) | go_ways
theorem s_HandleBefore (n h n2 h2 : ByteArray) (w : World) :
    Calls Try.prog 12 #[.agg #[.string n, .string h], .agg #[.string n2, .string h2]] w fun x w' => x = .returned (.bool (beforeB n h n2 h2)) ∧ Below w.heap.size w w' := by
  by_cases e : h.toList = h2.toList
  · rw [show beforeB n h n2 h2 = Op.bytesLess n.toList n2.toList from by unfold beforeB; rw [if_pos e]]
    have e2 : Op.bytesLess h.toList h2.toList = false := by rw [e]; exact less_irr _
    go_enter Try.func12, Try.ntmps12
    go_wp2
    all_goals first | (go_ret; exact ⟨rfl, (by repeat (first | exact Below.refl _ _ | refine Below.alloc ?_ (by first | (simp; done) | (simp; omega)) _ | refine Below.drew ?_))⟩) | (exfalso; simp_all; done) | go_ways
  · rw [show beforeB n h n2 h2 = Op.bytesLess h.toList h2.toList from by unfold beforeB; rw [if_neg e]]
    go_enter Try.func12, Try.ntmps12
    go_wp2
    all_goals first | (go_ret; exact ⟨ret_bool (by simp [*]), (by repeat (first | exact Below.refl _ _ | refine Below.alloc ?_ (by first | (simp; done) | (simp; omega)) _ | refine Below.drew ?_))⟩) | (exfalso; simp_all; done) | go_ways
def handleT (n h : ByteArray) : ByteArray := if handleB n h then ⟨#[64]⟩ ++ n ++ ⟨#[64]⟩ ++ h else ⟨#[]⟩
theorem i_HandleText (n h : ByteArray) (w : World) (hn : n.size ≤ 140737488355328) (hh : h.size ≤ 140737488355328) :
    Calls Try.prog 18 #[.agg #[.string n, .string h]] w fun x w' => x = .returned (.string (handleT n h)) ∧ Below w.heap.size w w' := by
  cases h1 : handleB n h
  · rw [show handleT n h = ⟨#[]⟩ from by unfold handleT; rw [h1]; rfl]
    go_enter Try.func18, Try.ntmps18
    go_wp2_with (go_at_call 16; refine (i_HandleValid _ _ _ hn hh).mono ?_; rintro e w' ⟨rfl, hb⟩; rw [h1])
    go_ret
    exact ⟨rfl, below_trans (below1 _ _) hb⟩
  · rw [show handleT n h = ⟨#[64]⟩ ++ n ++ ⟨#[64]⟩ ++ h from by unfold handleT; rw [h1]; rfl]
    go_enter Try.func18, Try.ntmps18
    go_wp2_with fail
    refine (i_HandleValid _ _ _ hn hh).mono ?_
    rintro e w1 ⟨rfl, hb⟩
    rw [h1]
    have c0 : w1.cell? ⟨w.heap.size, 0, none⟩ = some (.string n) := keep_cell hb (by simp)
    have c1 : w1.cell? ⟨w.heap.size, 1, none⟩ = some (.string h) := keep_cell hb (by simp)
    go_wp2_with fail
    go_ret
    exact ⟨rfl, below_trans (below1 _ _) hb⟩
theorem s_HandleText (n h : ByteArray) (w : World) (hn : n.size ≤ 140737488355328) (hh : h.size ≤ 140737488355328) :
    Calls Try.prog 17 #[.agg #[.string n, .string h]] w fun x w' => x = .returned (.string (handleT n h)) ∧ Below w.heap.size w w' := by
  cases h1 : handleB n h
  · rw [show handleT n h = ⟨#[]⟩ from by unfold handleT; rw [h1]; rfl]
    go_enter Try.func17, Try.ntmps17
    go_wp2_with (go_at_call 15; refine (s_HandleValid _ _ _ hn hh).mono ?_; rintro e w' ⟨rfl, hb⟩; rw [h1])
    go_ret
    exact ⟨rfl, below_trans (below1 _ _) hb⟩
  · rw [show handleT n h = ⟨#[64]⟩ ++ n ++ ⟨#[64]⟩ ++ h from by unfold handleT; rw [h1]; rfl]
    go_enter Try.func17, Try.ntmps17
    go_wp2_with fail
    refine (s_HandleValid _ _ _ hn hh).mono ?_
    rintro e w1 ⟨rfl, hb⟩
    rw [h1]
    have c0 : w1.cell? ⟨w.heap.size, 0, none⟩ = some (.string n) := keep_cell hb (by simp)
    have c1 : w1.cell? ⟨w.heap.size, 1, none⟩ = some (.string h) := keep_cell hb (by simp)
    go_wp2_with fail
    go_ret
    exact ⟨rfl, below_trans (below1 _ _) hb⟩
end Go.Proofs.Ytkfcbjhfioblgaa
