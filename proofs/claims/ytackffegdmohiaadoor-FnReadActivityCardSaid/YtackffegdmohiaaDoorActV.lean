/- The walks of the program's and the reference's ActivityValid. Condition: texts are no longer than a machine holds. -/
import Derived.Test.YtackffegdmohiaaDoorActE
namespace Go.Proofs.YtackffegdmohiaaDoor
open Go.RowKit

def actB (k m : Int) (n h t : ByteArray) : Bool := (decide (0 ≤ k) && decide (k ≤ 5)) && ((decide (0 ≤ m) && decide (m ≤ 1000000000)) && (handleB n h && wordB t.data.toList))
theorem actB_true {k m : Int} {n h t : ByteArray} (hb : actB k m n h t = true) : 0 ≤ k ∧ k ≤ 5 ∧ 0 ≤ m ∧ m ≤ 1000000000 ∧ handleB n h = true ∧ wordB t.data.toList = true := by
  unfold actB at hb
  simp only [Bool.and_eq_true, decide_eq_true_eq] at hb
  exact ⟨hb.1.1, hb.1.2, hb.2.1.1, hb.2.1.2, hb.2.2.1, hb.2.2.2⟩
theorem actB_rest {k m : Int} {n h t : ByteArray} (k0 : 0 ≤ k) (k1 : k ≤ 5) (m0 : 0 ≤ m) (m1 : m ≤ 1000000000) : actB k m n h t = (handleB n h && wordB t.data.toList) := by
  unfold actB
  rw [decide_eq_true k0, decide_eq_true k1, decide_eq_true m0, decide_eq_true m1]; rfl
theorem actB_kind {k m : Int} {n h t : ByteArray} (hk : k < 0 ∨ 5 < k) : actB k m n h t = false := by
  unfold actB
  rw [show (decide (0 ≤ k) && decide (k ≤ 5)) = false by simp; omega]; rfl
theorem actB_num {k m : Int} {n h t : ByteArray} (hk : m < 0 ∨ 1000000000 < m) : actB k m n h t = false := by
  unfold actB
  rw [show (decide (0 ≤ m) && decide (m ≤ 1000000000)) = false by simp; omega]; simp
set_option maxHeartbeats 1600000 in
theorem i_ActivityValid (k m : Int) (n h t : ByteArray) (w : World) (hn : n.size ≤ 140737488355328) (hh : h.size ≤ 140737488355328) (ht : t.size ≤ 140737488355328) :
    Calls Tryd.prog 24 #[.agg #[.int .i64 k, .int .i64 m, .string n, .string h, .string t]] w fun x w' => x = .returned (.bool (actB k m n h t)) ∧ Below w.heap.size w w' := by
  by_cases k0 : 0 ≤ k
  rotate_left
  · have k1 : k < 0 := by omega
    rw [actB_kind (.inl k1)]
    go_enter Tryd.func24, Tryd.ntmps24
    go_wp2
    go_ret
    exact ⟨rfl, below1 _ _⟩
  by_cases k1 : k ≤ 5
  rotate_left
  · have k2 : 5 < k := by omega
    have kd : decide (k ≤ 5) = false := by simpa using k2
    rw [actB_kind (.inr k2)]
    go_enter Tryd.func24, Tryd.ntmps24
    go_wp2
    go_ret
    exact ⟨rfl, below1 _ _⟩
  by_cases m0 : 0 ≤ m
  rotate_left
  · have m1 : m < 0 := by omega
    rw [actB_num (.inl m1)]
    go_enter Tryd.func24, Tryd.ntmps24
    go_wp2
    go_ret
    exact ⟨rfl, below1 _ _⟩
  by_cases m1 : m ≤ 1000000000
  rotate_left
  · have m2 : 1000000000 < m := by omega
    have md : decide (m ≤ 1000000000) = false := by simpa using m2
    rw [actB_num (.inr m2)]
    go_enter Tryd.func24, Tryd.ntmps24
    go_wp2
    go_ret
    exact ⟨rfl, below1 _ _⟩
  rw [actB_rest k0 k1 m0 m1]
  cases hH : handleB n h
  · rw [Bool.false_and]
    go_enter Tryd.func24, Tryd.ntmps24
    go_wp2_with (first | (go_at_call 44; refine (i_HandleValid _ _ _ hn hh).mono ?_; rintro e w1 ⟨rfl, hb⟩; rw [hH]) | go_in)
    go_ret
    exact ⟨rfl, below_trans (below1 _ _) hb⟩
  · rw [Bool.true_and]
    have HH := Lib.hid hH
    clear hH
    go_enter Tryd.func24, Tryd.ntmps24
    go_wp2_with (first | (go_at_call 44; refine (i_HandleValid _ _ _ hn hh).mono ?_; rintro e w1 ⟨rfl, hb⟩; rw [HH.out]; have c4 : w1.cell? ⟨w.heap.size, 4, none⟩ = some (.string t) := keep_cell hb (by simp)) | (go_at_call 32; refine (i_WordValid _ _ ht).mono ?_; rintro e w2 ⟨rfl, rfl⟩) | go_in)
    go_ret
    exact ⟨rfl, below_trans (below1 _ _) hb⟩

set_option maxHeartbeats 1600000 in
theorem s_ActivityValid (k m : Int) (n h t : ByteArray) (w : World) (hn : n.size ≤ 140737488355328) (hh : h.size ≤ 140737488355328) (ht : t.size ≤ 140737488355328) :
    Calls Tryd.prog 12 #[.agg #[.int .i64 k, .int .i64 m, .string n, .string h, .string t]] w fun x w' => x = .returned (.bool (actB k m n h t)) ∧ Below w.heap.size w w' := by
  by_cases k0 : 0 ≤ k
  rotate_left
  · have k1 : k < 0 := by omega
    rw [actB_kind (.inl k1)]
    go_enter Tryd.func12, Tryd.ntmps12
    go_wp2
    go_ret
    exact ⟨rfl, below1 _ _⟩
  by_cases k1 : k ≤ 5
  rotate_left
  · have k2 : 5 < k := by omega
    have kd : decide (k ≤ 5) = false := by simpa using k2
    rw [actB_kind (.inr k2)]
    go_enter Tryd.func12, Tryd.ntmps12
    go_wp2
    go_ret
    exact ⟨rfl, below1 _ _⟩
  by_cases m0 : 0 ≤ m
  rotate_left
  · have m1 : m < 0 := by omega
    rw [actB_num (.inl m1)]
    go_enter Tryd.func12, Tryd.ntmps12
    go_wp2
    go_ret
    exact ⟨rfl, below1 _ _⟩
  by_cases m1 : m ≤ 1000000000
  rotate_left
  · have m2 : 1000000000 < m := by omega
    have md : decide (m ≤ 1000000000) = false := by simpa using m2
    rw [actB_num (.inr m2)]
    go_enter Tryd.func12, Tryd.ntmps12
    go_wp2
    go_ret
    exact ⟨rfl, below1 _ _⟩
  rw [actB_rest k0 k1 m0 m1]
  cases hH : handleB n h
  · rw [Bool.false_and]
    go_enter Tryd.func12, Tryd.ntmps12
    go_wp2_with (first | (go_at_call 30; refine (s_HandleValid _ _ _ hn hh).mono ?_; rintro e w1 ⟨rfl, hb⟩; rw [hH]) | go_in)
    go_ret
    exact ⟨rfl, below_trans (below1 _ _) hb⟩
  · rw [Bool.true_and]
    have HH := Lib.hid hH
    clear hH
    go_enter Tryd.func12, Tryd.ntmps12
    go_wp2_with (first | (go_at_call 30; refine (s_HandleValid _ _ _ hn hh).mono ?_; rintro e w1 ⟨rfl, hb⟩; rw [HH.out]; have c4 : w1.cell? ⟨w.heap.size, 4, none⟩ = some (.string t) := keep_cell hb (by simp)) | (go_at_call 31; refine (s_WordValid _ _ ht).mono ?_; rintro e w2 ⟨rfl, rfl⟩) | go_in)
    go_ret
    exact ⟨rfl, below_trans (below1 _ _) hb⟩

end Go.Proofs.YtackffegdmohiaaDoor
