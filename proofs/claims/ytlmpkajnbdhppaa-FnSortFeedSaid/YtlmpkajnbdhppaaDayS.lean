/- The walks of the reference's functions on days. Condition: none but the ranges named. -/
import Derived.Test.YtlmpkajnbdhppaaDay
namespace Go.Proofs.Ytlmpkajnbdhppaa
open Go.RowKit

/-- The days of a year ahead of the month after month k. -/
def cumM (y : Int) : Nat → Int
  | 0 => 0
  | k + 1 => cumM y k + mdM y (k + 1 : Nat)
theorem cumM_bd (y : Int) : ∀ k : Nat, 0 ≤ cumM y k ∧ cumM y k ≤ 31 * k
  | 0 => by simp [cumM]
  | k + 1 => by
    have h1 := cumM_bd y k
    have h2 := mdM_bd y (k + 1 : Nat)
    simp only [cumM]
    omega
theorem cumM_year (y : Int) : cumM y 12 = 365 + leapN y := by
  simp [cumM, mdM]; omega
theorem cumM_last : daysM 4000 + 31 - 1 + cumM 4000 11 = 1460969 := by decide

theorem in_yes (n lo hi : Int) (w : World) (h1 : lo ≤ n) (h2 : n ≤ hi) : Calls Try.prog 83 #[.int .i64 n, .int .i64 lo, .int .i64 hi] w fun e w' => e = .returned (.bool true) ∧ w = w' := by
  go_enter Try.func83, Try.ntmps83
  go_wp2
  go_ret
  exact ⟨rfl, rfl⟩
theorem in_no (n lo hi : Int) (w : World) (h : n < lo ∨ hi < n) : Calls Try.prog 83 #[.int .i64 n, .int .i64 lo, .int .i64 hi] w fun e w' => e = .returned (.bool false) ∧ w = w' := by
  by_cases h1 : lo ≤ n
  · have h2 : hi < n := by omega
    have hd : decide (lo ≤ n) = true := by simpa using h1
    have hd2 : decide (n ≤ hi) = false := by simpa using h2
    clear h
    go_enter Try.func83, Try.ntmps83
    go_wp2
    go_ret
    exact ⟨rfl, rfl⟩
  · have hd : decide (lo ≤ n) = false := by simpa using h1
    have h2 : n < lo := by omega
    clear h h1
    go_enter Try.func83, Try.ntmps83
    go_wp2
    go_ret
    exact ⟨rfl, rfl⟩
theorem s_LeapYear (y : Int) (w : World) (h1 : 1 ≤ y) (h2 : y ≤ 4000) :
    Calls Try.prog 89 #[.int .i64 y] w fun e w' => e = .returned (.bool (leapB y)) ∧ w = w' := by
  by_cases b : y % 4 = 0
  · have hb : (y % 4 == 0) = true := by simpa using b
    by_cases c : y % 100 = 0
    · have hc2 : (y % 100 != 0) = false := by simpa using c
      by_cases a : y % 400 = 0
      · rw [show leapB y = true by simp [leapB, leapN, a]]
        have ha : (y % 400 == 0) = true := by simpa using a
        clear a b c
        go_enter Try.func89, Try.ntmps89
        go_wp2_with (first | go_in)
        all_goals (go_ret; exact ⟨rfl, rfl⟩)
      · rw [show leapB y = false by simp [leapB, leapN, a, b, c]]
        have ha : (y % 400 == 0) = false := by simpa using a
        clear a b c
        go_enter Try.func89, Try.ntmps89
        go_wp2_with (first | go_in)
        all_goals (go_ret; exact ⟨rfl, rfl⟩)
    · rw [show leapB y = true by simp [leapB, leapN, b, c]]
      have hc2 : (y % 100 != 0) = true := by simpa using c
      clear b c
      go_enter Try.func89, Try.ntmps89
      go_wp2_with (first | go_in)
      all_goals (go_ret; exact ⟨rfl, rfl⟩)
  · rw [show leapB y = false by simp [leapB, leapN]; omega]
    have hb : (y % 4 == 0) = false := by simpa using b
    clear b
    go_enter Try.func89, Try.ntmps89
    go_wp2_with (first | go_in)
    all_goals (go_ret; exact ⟨rfl, rfl⟩)

set_option maxHeartbeats 800000 in
theorem s_MonthDays (y m : Int) (w : World) (h1 : 1 ≤ y) (h2 : y ≤ 4000) (h3 : 1 ≤ m) (h4 : m ≤ 12) :
    Calls Try.prog 88 #[.int .i64 y, .int .i64 m] w fun e w' => e = .returned (.int .i64 (mdM y m)) ∧ Below w.heap.size w w' := by
  by_cases hm : m = 2
  · subst hm
    clear h3 h4
    cases hl : leapB y
    · rw [show mdM y 2 = 28 by unfold leapB at hl; have := leapN_or y; simp at hl; simp [mdM]; omega]
      go_enter Try.func88, Try.ntmps88
      go_wp2_with (first | (go_at_call 89; refine (s_LeapYear _ _ h1 h2).mono ?_; rintro e w' ⟨rfl, rfl⟩; rw [hl]) | go_in)
      go_ret
      exact ⟨rfl, below1 _ _⟩
    · rw [show mdM y 2 = 29 by unfold leapB at hl; simp at hl; simp [mdM]; omega]
      go_enter Try.func88, Try.ntmps88
      go_wp2_with (first | (go_at_call 89; refine (s_LeapYear _ _ h1 h2).mono ?_; rintro e w' ⟨rfl, rfl⟩; rw [hl]) | go_in)
      go_ret
      exact ⟨rfl, Below.refl _ _⟩
  · rcases months h3 h4 with rfl | rfl | rfl | rfl | rfl | rfl | rfl | rfl | rfl | rfl | rfl | rfl
    all_goals first
      | exact absurd rfl hm
      | (clear h3 h4 hm
         go_enter Try.func88, Try.ntmps88
         go_wp2_with go_in
         go_ret
         exact ⟨ret_int (by simp [mdM]), below1 _ _⟩)

set_option maxHeartbeats 800000 in
theorem s_DayNumber (y : Int) (k : Nat) (m d : Int) (w : World) (hm : m = (k + 1 : Nat)) (h1 : 1 ≤ y) (h2 : y ≤ 4000) (h4 : k ≤ 11) (h5 : 1 ≤ d) (h6 : d ≤ mdM y m) :
    Calls Try.prog 84 #[.int .i64 y, .int .i64 m, .int .i64 d] w fun e w' => e = .returned (.int .i64 (daysM y + d - 1 + cumM y k)) ∧ Below w.heap.size w w' := by
  have hmd := mdM_bd y m
  have d1 : (y - 1).tdiv 4 = (y - 1) / 4 := Int.tdiv_eq_ediv_of_nonneg (by omega)
  have d2 : (y - 1).tdiv 100 = (y - 1) / 100 := Int.tdiv_eq_ediv_of_nonneg (by omega)
  have d3 : (y - 1).tdiv 400 = (y - 1) / 400 := Int.tdiv_eq_ediv_of_nonneg (by omega)
  have m1 : 1 ≤ m := by omega
  have m2 : m ≤ 12 := by omega
  have hk1 : (k : Int) + 1 ≤ m := by omega
  have hk2 : m ≤ (k : Int) + 1 := by omega
  clear hm
  go_enter Try.func84, Try.ntmps84
  go_wp2_with (first | (go_at_call 88; refine (s_MonthDays _ _ _ h1 h2 m1 m2).mono ?_; rintro e w1 ⟨rfl, hb1⟩) | (go_at_call 83; refine (in_yes _ _ _ _ (by omega) (by omega)).mono ?_; rintro e w' ⟨rfl, rfl⟩))
  go_loopw [8, 9] (fun N M wr => ∃ (p : Nat) (n : Int), p ≤ k ∧ M = .int .i64 ((p : Int) + 1) ∧ N = .int .i64 n ∧ Hid (n = daysM y + d - 1 + cumM y p) ∧ 0 ≤ n ∧ n ≤ 1470000 + 31 * p ∧ Below w.heap.size w wr) (fun _ M _ => (m - intOf M).toNat)
  case atStart => exact ⟨0, _, Nat.zero_le _, rfl, rfl, (by show _ = _; simp only [daysM, cumM]; omega), by omega, by omega, hb1⟩
  case round =>
    clear hb1 d1 d2 d3
    obtain ⟨p, n, hp, rfl, rfl, hn, n0, n1, hB⟩ := hrel
    by_cases hlt : p < k
    · have hb := mdM_bd y ((p : Int) + 1)
      have hl : (p : Int) + 1 < m := by omega
      have hn2 : Hid (n + mdM y ((p : Int) + 1) = daysM y + d - 1 + cumM y (p + 1)) := by
        show _ = _
        have h0 := hn.out
        simp only [cumM]
        rw [show ((p + 1 : Nat) : Int) = (p : Int) + 1 by omega]
        omega
      clear hn
      go_wp2_with fail
      refine (s_MonthDays y ((p : Int) + 1) _ h1 h2 (by omega) (by omega)).mono ?_
      rintro e w2 ⟨rfl, hb2⟩
      go_wp2_with fail
      go_roundw
      case rel => exact ⟨p + 1, _, by omega, by go_num, rfl, hn2, by omega, by omega, below_trans hB hb2⟩
      case measure => simp [intOf]; omega
    · have hl : ¬ (p : Int) + 1 < m := by omega
      have hn2 : Hid (n = daysM y + d - 1 + cumM y k) := by
        obtain rfl : p = k := by omega
        exact hn
      clear hn
      go_wp2_with fail
      go_ret
      exact ⟨ret_int hn2.out, hB⟩
theorem s_DayLast (w : World) : Calls Try.prog 84 #[.int .i64 4000, .int .i64 12, .int .i64 31] w fun e w' => e = .returned (.int .i64 1460969) ∧ Below w.heap.size w w' :=
  (s_DayNumber 4000 11 12 31 w rfl (by decide) (by decide) (by decide) (by decide) (by decide)).mono fun _ _ ⟨he, hb⟩ => ⟨by rw [he, cumM_last], hb⟩
theorem s_DayMonth (y : Int) (k : Nat) (m : Int) (w : World) (hm : m = (k + 1 : Nat)) (h1 : 1 ≤ y) (h2 : y ≤ 4000) (h4 : k ≤ 11) : Calls Try.prog 84 #[.int .i64 y, .int .i64 m, .int .i64 1] w fun e w' => e = .returned (.int .i64 (daysM y + cumM y k)) ∧ Below w.heap.size w w' :=
  (s_DayNumber y k m 1 w hm h1 h2 h4 (by decide) (by have := mdM_bd y m; omega)).mono fun _ _ ⟨he, hb⟩ => ⟨by rw [he]; exact ret_int (by omega), hb⟩
theorem s_DayFirst (y : Int) (w : World) (h1 : 1 ≤ y) (h2 : y ≤ 4000) : Calls Try.prog 84 #[.int .i64 y, .int .i64 1, .int .i64 1] w fun e w' => e = .returned (.int .i64 (daysM y)) ∧ Below w.heap.size w w' :=
  (s_DayMonth y 0 1 w rfl h1 h2 (by decide)).mono fun _ _ ⟨he, hb⟩ => ⟨by rw [he]; exact ret_int (by simp [cumM]), hb⟩
end Go.Proofs.Ytlmpkajnbdhppaa
