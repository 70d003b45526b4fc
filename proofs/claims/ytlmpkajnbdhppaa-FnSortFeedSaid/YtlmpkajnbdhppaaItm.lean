/- The walks of the program's and the reference's ItemValid. Condition: texts are no longer than a machine holds. -/
import Derived.Test.YtlmpkajnbdhppaaWordI
import Derived.Test.YtlmpkajnbdhppaaWordS
import Derived.Test.YtlmpkajnbdhppaaTxt
import Derived.Test.YtlmpkajnbdhppaaDat
import Derived.Test.YtlmpkajnbdhppaaDatS
import Derived.Test.YtlmpkajnbdhppaaFeedP
namespace Go.Proofs.Ytlmpkajnbdhppaa
open Go.RowKit

/-- No text of the item is longer than a machine holds. -/
def Sz (y : Itm) : Prop := y.key.size ≤ 140737488355328 ∧ y.title.size ≤ 140737488355328 ∧ y.body.size ≤ 140737488355328
theorem i_TextV (s : ByteArray) (w : World) (_hs : s.size ≤ 140737488355328) : Calls Try.prog 55 #[.string s] w fun e w' => e = .returned (.bool (textB s.data.toList)) ∧ w = w' := i_TextValid s w
theorem s_TextV (s : ByteArray) (w : World) (hs : s.size ≤ 140737488355328) : Calls Try.prog 73 #[.string s] w fun e w' => e = .returned (.bool (textB s.data.toList)) ∧ w = w' := s_TextValid s w hs
set_option maxHeartbeats 1600000 in
theorem i_ItemValid (y : Itm) (w : World) (hs : Sz y) :
    Calls Try.prog 37 #[.agg #[.string y.key, .string y.title, .string y.body, .int .i64 y.day]] w fun x w' => x = .returned (.bool (itmOk y)) ∧ Below w.heap.size w w' := by
  obtain ⟨k, t, b, d⟩ := y
  obtain ⟨hk, ht, hb⟩ := hs
  simp only at hk ht hb ⊢
  cases hW : wordB k.data.toList
  · rw [show itmOk ⟨k, t, b, d⟩ = false by simp [itmOk, hW]]
    go_enter Try.func37, Try.ntmps37
    go_wp2_with (first | (go_at_call 39; refine (i_WordValid _ _ (by assumption)).mono ?_; rintro e w' ⟨rfl, rfl⟩; rw [hW]))
    go_ret
    exact ⟨rfl, below1 _ _⟩
  cases hT : textB t.data.toList
  · rw [show itmOk ⟨k, t, b, d⟩ = false by simp [itmOk, hT]]
    have HW := Lib.hid hW
    have HT := Lib.hid hT
    clear hW hT
    go_enter Try.func37, Try.ntmps37
    go_wp2_with (first | (go_at_call 39; refine (i_WordValid _ _ (by assumption)).mono ?_; rintro e w' ⟨rfl, rfl⟩; rw [HW.out]) | (go_at_call 55; refine (i_TextV t _ (by assumption)).mono ?_; rintro e w' ⟨rfl, rfl⟩; rw [HT.out]))
    go_ret
    exact ⟨rfl, below1 _ _⟩
  cases he : t.toList.isEmpty
  rotate_left
  · rw [show itmOk ⟨k, t, b, d⟩ = false by simp only [itmOk, he]; simp]
    have HW := Lib.hid hW
    have HT := Lib.hid hT
    clear hW hT
    go_enter Try.func37, Try.ntmps37
    go_wp2_with (first | (go_at_call 39; refine (i_WordValid _ _ (by assumption)).mono ?_; rintro e w' ⟨rfl, rfl⟩; rw [HW.out]) | (go_at_call 55; refine (i_TextV t _ (by assumption)).mono ?_; rintro e w' ⟨rfl, rfl⟩; rw [HT.out]))
    go_ret
    exact ⟨rfl, below1 _ _⟩
  cases hB : textB b.data.toList
  · rw [show itmOk ⟨k, t, b, d⟩ = false by simp [itmOk, hB]]
    have HW := Lib.hid hW
    have HT := Lib.hid hT
    have HB := Lib.hid hB
    clear hW hT hB
    go_enter Try.func37, Try.ntmps37
    go_wp2_with (first | (go_at_call 39; refine (i_WordValid _ _ (by assumption)).mono ?_; rintro e w' ⟨rfl, rfl⟩; rw [HW.out]) | (go_at_call 55; refine (i_TextV _ _ (by assumption)).mono ?_; rintro e w' ⟨rfl, rfl⟩; first | rw [HT.out] | rw [HB.out]))
    go_ret
    exact ⟨rfl, below1 _ _⟩
  have HW := Lib.hid hW
  have HT := Lib.hid hT
  have HB := Lib.hid hB
  by_cases hd : 0 ≤ d ∧ d ≤ 1460969
  · rw [show itmOk ⟨k, t, b, d⟩ = true by simp only [itmOk, hW, hT, he, hB, hd]; rfl]
    obtain ⟨hd1, hd2⟩ := hd
    clear hW hT hB
    go_enter Try.func37, Try.ntmps37
    go_wp2_with (first | (go_at_call 39; refine (i_WordValid _ _ (by assumption)).mono ?_; rintro e w' ⟨rfl, rfl⟩; rw [HW.out]) | (go_at_call 55; refine (i_TextV _ _ (by assumption)).mono ?_; rintro e w' ⟨rfl, rfl⟩; first | rw [HT.out] | rw [HB.out]) | (go_at_call 56; refine (i_DateText _ _ hd1 hd2).mono ?_; rintro e w1 ⟨v, rfl, ⟨s, rfl, hne⟩, hb1⟩))
    go_ret
    exact ⟨rfl, below_trans (below1 _ _) hb1⟩
  · rw [show itmOk ⟨k, t, b, d⟩ = false by simp only [itmOk, decide_eq_false hd]; simp]
    have hd' : d < 0 ∨ 1460969 < d := by omega
    clear hW hT hB hd
    go_enter Try.func37, Try.ntmps37
    go_wp2_with (first | (go_at_call 39; refine (i_WordValid _ _ (by assumption)).mono ?_; rintro e w' ⟨rfl, rfl⟩; rw [HW.out]) | (go_at_call 55; refine (i_TextV _ _ (by assumption)).mono ?_; rintro e w' ⟨rfl, rfl⟩; first | rw [HT.out] | rw [HB.out]) | (go_at_call 56; refine (i_DateText_out _ _ hd').mono ?_; rintro e w1 ⟨rfl, hb1⟩))
    go_ret
    exact ⟨rfl, below_trans (below1 _ _) hb1⟩

set_option maxHeartbeats 1600000 in
theorem s_ItemValid (y : Itm) (w : World) (hs : Sz y) :
    Calls Try.prog 54 #[.agg #[.string y.key, .string y.title, .string y.body, .int .i64 y.day]] w fun x w' => x = .returned (.bool (itmOk y)) ∧ Below w.heap.size w w' := by
  obtain ⟨k, t, b, d⟩ := y
  obtain ⟨hk, ht, hb⟩ := hs
  simp only at hk ht hb ⊢
  cases hW : wordB k.data.toList
  · rw [show itmOk ⟨k, t, b, d⟩ = false by simp [itmOk, hW]]
    go_enter Try.func54, Try.ntmps54
    go_wp2_with (first | (go_at_call 72; refine (s_WordValid _ _ (by assumption)).mono ?_; rintro e w' ⟨rfl, rfl⟩; rw [hW]))
    go_ret
    exact ⟨rfl, below1 _ _⟩
  cases hT : textB t.data.toList
  · rw [show itmOk ⟨k, t, b, d⟩ = false by simp [itmOk, hT]]
    have HW := Lib.hid hW
    have HT := Lib.hid hT
    clear hW hT
    go_enter Try.func54, Try.ntmps54
    go_wp2_with (first | (go_at_call 72; refine (s_WordValid _ _ (by assumption)).mono ?_; rintro e w' ⟨rfl, rfl⟩; rw [HW.out]) | (go_at_call 73; refine (s_TextV t _ (by assumption)).mono ?_; rintro e w' ⟨rfl, rfl⟩; rw [HT.out]))
    go_ret
    exact ⟨rfl, below1 _ _⟩
  cases he : t.toList.isEmpty
  rotate_left
  · rw [show itmOk ⟨k, t, b, d⟩ = false by simp only [itmOk, he]; simp]
    have HW := Lib.hid hW
    have HT := Lib.hid hT
    clear hW hT
    go_enter Try.func54, Try.ntmps54
    go_wp2_with (first | (go_at_call 72; refine (s_WordValid _ _ (by assumption)).mono ?_; rintro e w' ⟨rfl, rfl⟩; rw [HW.out]) | (go_at_call 73; refine (s_TextV t _ (by assumption)).mono ?_; rintro e w' ⟨rfl, rfl⟩; rw [HT.out]))
    go_ret
    exact ⟨rfl, below1 _ _⟩
  cases hB : textB b.data.toList
  · rw [show itmOk ⟨k, t, b, d⟩ = false by simp [itmOk, hB]]
    have HW := Lib.hid hW
    have HT := Lib.hid hT
    have HB := Lib.hid hB
    clear hW hT hB
    go_enter Try.func54, Try.ntmps54
    go_wp2_with (first | (go_at_call 72; refine (s_WordValid _ _ (by assumption)).mono ?_; rintro e w' ⟨rfl, rfl⟩; rw [HW.out]) | (go_at_call 73; refine (s_TextV _ _ (by assumption)).mono ?_; rintro e w' ⟨rfl, rfl⟩; first | rw [HT.out] | rw [HB.out]))
    go_ret
    exact ⟨rfl, below1 _ _⟩
  have HW := Lib.hid hW
  have HT := Lib.hid hT
  have HB := Lib.hid hB
  by_cases hd : 0 ≤ d ∧ d ≤ 1460969
  · rw [show itmOk ⟨k, t, b, d⟩ = true by simp only [itmOk, hW, hT, he, hB, hd]; rfl]
    obtain ⟨hd1, hd2⟩ := hd
    clear hW hT hB
    go_enter Try.func54, Try.ntmps54
    go_wp2_with (first | (go_at_call 72; refine (s_WordValid _ _ (by assumption)).mono ?_; rintro e w' ⟨rfl, rfl⟩; rw [HW.out]) | (go_at_call 73; refine (s_TextV _ _ (by assumption)).mono ?_; rintro e w' ⟨rfl, rfl⟩; first | rw [HT.out] | rw [HB.out]) | (go_at_call 74; refine (s_DateText _ _ hd1 hd2).mono ?_; rintro e w1 ⟨v, rfl, ⟨s, rfl, hne⟩, hb1⟩))
    go_ret
    exact ⟨rfl, below_trans (below1 _ _) hb1⟩
  · rw [show itmOk ⟨k, t, b, d⟩ = false by simp only [itmOk, decide_eq_false hd]; simp]
    have hd' : d < 0 ∨ 1460969 < d := by omega
    clear hW hT hB hd
    go_enter Try.func54, Try.ntmps54
    go_wp2_with (first | (go_at_call 72; refine (s_WordValid _ _ (by assumption)).mono ?_; rintro e w' ⟨rfl, rfl⟩; rw [HW.out]) | (go_at_call 73; refine (s_TextV _ _ (by assumption)).mono ?_; rintro e w' ⟨rfl, rfl⟩; first | rw [HT.out] | rw [HB.out]) | (go_at_call 74; refine (s_DateText_out _ _ hd').mono ?_; rintro e w1 ⟨rfl, hb1⟩))
    go_ret
    exact ⟨rfl, below_trans (below1 _ _) hb1⟩

end Go.Proofs.Ytlmpkajnbdhppaa
