/- The walks of the program's padded and DateText. Condition: none but the ranges named. -/
import Derived.Test.YtlmpkajnbdhppaaDay
namespace Go.Proofs.Ytlmpkajnbdhppaa
open Go.RowKit

theorem Try.infoU8 : (Try.prog.info? 5).map (fun i => (i.zero, i.size, i.bytes)) = some (some (.int .u8 0), 1, 1) := by kernel_rfl
theorem bytes_made (n : Nat) : Bytes (madeCells #[.int .u8 0] n).toList := fun x hx => by
  rw [toList_madeCells_one] at hx
  exact ⟨0, (List.mem_replicate.1 hx).2⟩
set_option maxHeartbeats 800000 in
theorem i_padded2 (n : Int) (w : World) (h1 : 0 ≤ n) (h2 : n ≤ 10000) :
    Calls Try.prog 77 #[.int .i64 n, .int .i64 2] w (RetVal (TextOf 2) w) := by
  obtain ⟨i0, hi, hz0, hz1, hz2⟩ := info_parts Try.infoU8
  go_enter Try.func77, Try.ntmps77
  go_wp2_with (at_make; refine wpList_make_full _ rfl _ _ 22 rfl w.heap.size 5 i0 (.int .u8 0) 1 Try.underlying22 hi hz0 hz1 .i64 .i64 _ _ 2 rfl rfl rfl rfl (by rw [hz2]; decide) (by simp [maxLen]) (Nat.le_refl _) ?_; intro w1 hown hgrow)
  have hB : Below w.heap.size w w1 := (Below.refl _ _).grown hgrow (Nat.le_refl _) (fun k hk => by cases hk)
  have hby : Bytes (madeCells #[.int .u8 0] (2 * 1)).toList := bytes_made _
  clear hgrow
  go_loopw [0, 6] (fun N I wr => ∃ (i n : Int) (xs : List Value), -1 ≤ i ∧ i < 2 ∧ 0 ≤ n ∧ n ≤ 10000 ∧ N = .int .i64 n ∧ I = .int .i64 i ∧ wr.ownsRow w.heap.size 5 1 (.slice (some ⟨w.heap.size, 0, none⟩) 2 2) 2 xs ∧ Bytes xs ∧ Below w.heap.size w wr) (fun _ I _ => (intOf I + 1).toNat)
  case atStart => exact ⟨_, n, _, by omega, by omega, h1, h2, rfl, rfl, hown, hby, hB⟩
  case round =>
    clear hown hby hB h1 h2
    obtain ⟨i, n, xs, hi1, hi2, h1, h2, rfl, rfl, hown, hx, hB⟩ := hrel
    by_cases h0 : 0 ≤ i
    · obtain ⟨j, rfl⟩ := Int.eq_ofNat_of_zero_le h0
      have hfr := hown.frozenAt j
      obtain ⟨u, hcl⟩ := owned_cell hown (j := j) (by omega)
      obtain ⟨ho, hs⟩ := hown.stored j (.int .u8 (48 + n % 10))
      have hx2 := hx.set j (48 + n % 10)
      have hB2 : Below w.heap.size w (wr.setCell ⟨w.heap.size, j, none⟩ (.int .u8 (48 + n % 10))) := hB.grown hs hB.size (fun k hk => by cases hk; exact Nat.le_refl _)
      clear hown hs hx hB
      go_wp2
      go_roundw
      case rel => exact ⟨(j : Int) - 1, n / 10, _, by omega, by omega, by omega, by omega, rfl, rfl, ho, hx2, hB2⟩
      case measure => simp [intOf]
    · obtain rfl : i = -1 := by omega
      obtain ⟨s, hrun, hsz⟩ := run_row_string (P := Try.prog) wr 22 9 5 w.heap.size w.heap.size 2 xs Try.underlying22 Try.underlying5 Try.underlying9 hown hx
      have HS := Lib.hid hsz
      clear hsz hown hx
      go_wp2
      go_ret
      exact RetVal.mk ⟨s, rfl, HS.out⟩ hB

set_option maxHeartbeats 800000 in
theorem i_padded4 (n : Int) (w : World) (h1 : 0 ≤ n) (h2 : n ≤ 10000) :
    Calls Try.prog 77 #[.int .i64 n, .int .i64 4] w (RetVal (TextOf 4) w) := by
  obtain ⟨i0, hi, hz0, hz1, hz2⟩ := info_parts Try.infoU8
  go_enter Try.func77, Try.ntmps77
  go_wp2_with (at_make; refine wpList_make_full _ rfl _ _ 22 rfl w.heap.size 5 i0 (.int .u8 0) 1 Try.underlying22 hi hz0 hz1 .i64 .i64 _ _ 4 rfl rfl rfl rfl (by rw [hz2]; decide) (by simp [maxLen]) (Nat.le_refl _) ?_; intro w1 hown hgrow)
  have hB : Below w.heap.size w w1 := (Below.refl _ _).grown hgrow (Nat.le_refl _) (fun k hk => by cases hk)
  have hby : Bytes (madeCells #[.int .u8 0] (4 * 1)).toList := bytes_made _
  clear hgrow
  go_loopw [0, 6] (fun N I wr => ∃ (i n : Int) (xs : List Value), -1 ≤ i ∧ i < 4 ∧ 0 ≤ n ∧ n ≤ 10000 ∧ N = .int .i64 n ∧ I = .int .i64 i ∧ wr.ownsRow w.heap.size 5 1 (.slice (some ⟨w.heap.size, 0, none⟩) 4 4) 4 xs ∧ Bytes xs ∧ Below w.heap.size w wr) (fun _ I _ => (intOf I + 1).toNat)
  case atStart => exact ⟨_, n, _, by omega, by omega, h1, h2, rfl, rfl, hown, hby, hB⟩
  case round =>
    clear hown hby hB h1 h2
    obtain ⟨i, n, xs, hi1, hi2, h1, h2, rfl, rfl, hown, hx, hB⟩ := hrel
    by_cases h0 : 0 ≤ i
    · obtain ⟨j, rfl⟩ := Int.eq_ofNat_of_zero_le h0
      have hfr := hown.frozenAt j
      obtain ⟨u, hcl⟩ := owned_cell hown (j := j) (by omega)
      obtain ⟨ho, hs⟩ := hown.stored j (.int .u8 (48 + n % 10))
      have hx2 := hx.set j (48 + n % 10)
      have hB2 : Below w.heap.size w (wr.setCell ⟨w.heap.size, j, none⟩ (.int .u8 (48 + n % 10))) := hB.grown hs hB.size (fun k hk => by cases hk; exact Nat.le_refl _)
      clear hown hs hx hB
      go_wp2
      go_roundw
      case rel => exact ⟨(j : Int) - 1, n / 10, _, by omega, by omega, by omega, by omega, rfl, rfl, ho, hx2, hB2⟩
      case measure => simp [intOf]
    · obtain rfl : i = -1 := by omega
      obtain ⟨s, hrun, hsz⟩ := run_row_string (P := Try.prog) wr 22 9 5 w.heap.size w.heap.size 4 xs Try.underlying22 Try.underlying5 Try.underlying9 hown hx
      have HS := Lib.hid hsz
      clear hsz hown hx
      go_wp2
      go_ret
      exact RetVal.mk ⟨s, rfl, HS.out⟩ hB


set_option maxHeartbeats 800000 in
theorem i_DateText_out (d : Int) (w : World) (h : d < 0 ∨ 1460969 < d) :
    Calls Try.prog 56 #[.int .i64 d] w fun e w' => e = .returned (.string ⟨#[]⟩) ∧ Below w.heap.size w w' := by
  by_cases h0 : d < 0
  · clear h
    go_enter Try.func56, Try.ntmps56
    go_wp2
    go_ret
    exact ⟨rfl, Below.refl _ _⟩
  · have h1 : 1460969 < d := by omega
    have hd : decide (d < 0) = false := by simp; omega
    clear h h0
    go_enter Try.func56, Try.ntmps56
    go_wp2_with (go_at_call 75; refine (i_daysBefore _ _ (by omega) (by omega)).mono ?_; rintro e w' ⟨rfl, rfl⟩; rw [days_last])
    go_ret
    exact ⟨rfl, Below.refl _ _⟩

theorem three_texts {s1 s2 s3 : ByteArray} (h : s1.size = 4) : (s1 ++ ⟨#[46]⟩ ++ s2 ++ ⟨#[46]⟩ ++ s3).toList.isEmpty = false := full_text (by simp only [ByteArray.size_append]; omega)
set_option maxHeartbeats 1600000 in
theorem i_DateText (d : Int) (w : World) (h1 : 0 ≤ d) (h2 : d ≤ 1460969) :
    Calls Try.prog 56 #[.int .i64 d] w (RetVal SomeText w) := by
  have g0 := days_guess h1
  have hd : decide (d < 0) = false := by simp; omega
  go_enter Try.func56, Try.ntmps56
  go_wp2_with (go_at_call 75; refine (i_daysBefore _ _ (by omega) (by omega)).mono ?_; rintro e w' ⟨rfl, rfl⟩; rw [days_last])
  go_loop [3] (fun Y => ∃ y : Int, 1 ≤ y ∧ y ≤ 4000 ∧ daysM y ≤ d ∧ Y = .int .i64 y) (fun Y => (4000 - intOf Y).toNat)
  case atStart => exact ⟨_, by omega, by omega, g0, rfl⟩
  case round =>
    clear g0 hd
    obtain ⟨y, hy1, hy2, hy3, rfl⟩ := hrel
    have hn := days_next y
    have hl := leapN_bd y
    have hz := days_bd hy1 (by omega)
    by_cases hc : daysM (y + 1) ≤ d
    · have hy4 : y ≤ 3999 := by
        refine Int.le_of_not_gt fun hgt => ?_
        obtain rfl : y = 4000 := by omega
        have := days_last
        rw [show (4000 : Int) + 1 = 4001 by omega, this] at hc
        omega
      clear hn
      go_wp2_with (go_at_call 75; refine (i_daysBefore _ _ (by omega) (by omega)).mono ?_; rintro e w' ⟨rfl, rfl⟩)
      go_round
      case rel => exact ⟨y + 1, by omega, by omega, hc, rfl⟩
      case measure => simp [intOf]; omega
    · have hr0 : 0 ≤ d - daysM y := by omega
      have hr1 : d - daysM y < 365 + leapN y := by omega
      have hF := left_first y
      have hzz := days_bd (y := y + 1) (by omega) (by omega)
      clear hn
      go_wp2_with (go_at_call 75; refine (i_daysBefore _ _ (by omega) (by omega)).mono ?_; rintro e w' ⟨rfl, rfl⟩)
      go_loop [4, 5] (fun R M => ∃ r m : Int, 1 ≤ m ∧ m ≤ 12 ∧ M = .int .i64 m ∧ R = .int .i64 r ∧ 0 ≤ r ∧ r < leftM y m ∧ r ≤ 400) (fun _ M => (12 - intOf M).toNat)
      case atStart => exact ⟨_, 1, by omega, by omega, rfl, rfl, hr0, by omega, by omega⟩
      case round =>
        obtain ⟨r, m, hm1, hm2, rfl, rfl, r0, r1, r2⟩ := hrel
        have hb := mdM_bd y m
        clear hF hr0 hr1 hc hy3
        by_cases hc : mdM y m ≤ r
        · have hm3 : m ≤ 11 := by
            refine Int.le_of_not_gt fun hgt => ?_
            obtain rfl : m = 12 := by omega
            obtain ⟨l1, l2⟩ := left_last y
            rw [l1] at r1; rw [l2] at hc
            omega
          have hs := left_step y hm1 hm3
          have hs2 : r - mdM y m < leftM y (m + 1) := by omega
          clear hs
          go_wp2_with (go_at_call 76; refine (i_MonthDays _ _ _ hy1 hy2 hm1 hm2).mono ?_; rintro e w' ⟨rfl, rfl⟩)
          go_round
          case rel => exact ⟨r - mdM y m, m + 1, by omega, by omega, rfl, rfl, by omega, hs2, by omega⟩
          case measure => simp [intOf]; omega
        · clear r1
          go_wp2_with fail
          refine (i_MonthDays _ _ _ hy1 hy2 hm1 hm2).mono ?_
          rintro e w' ⟨rfl, rfl⟩
          go_wp2_with fail
          refine (i_padded4 _ _ (by omega) (by omega)).mono ?_
          rintro e w1 ⟨_, rfl, ⟨s1, rfl, z1⟩, b1⟩
          have HZ := Lib.hid z1
          have z1' : s1.size ≤ 4 := by omega
          clear z1
          go_wp2_with fail
          refine (i_padded2 _ _ (by omega) (by omega)).mono ?_
          rintro e w2 ⟨_, rfl, ⟨s2, rfl, z2⟩, b2⟩
          have z2' : s2.size ≤ 2 := by omega
          clear z2
          go_wp2_with fail
          refine (i_padded2 _ _ (by omega) (by omega)).mono ?_
          rintro e w3 ⟨_, rfl, ⟨s3, rfl, z3⟩, b3⟩
          have z3' : s3.size ≤ 2 := by omega
          clear z3
          go_wp2_with fail
          go_ret
          exact RetVal.mk ⟨_, rfl, three_texts HZ.out⟩ (below_trans (below_trans b1 b2) b3)
end Go.Proofs.Ytlmpkajnbdhppaa
