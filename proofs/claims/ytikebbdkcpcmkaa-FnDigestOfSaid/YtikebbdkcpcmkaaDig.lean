/- The walks of TextValid and DigestOf, of the program and of the reference: each returns what the plain function says. Condition: the text is no longer than a machine holds. -/
import Derived.Test.YtikebbdkcpcmkaaNum
import Derived.Test.YtikebbdkcpcmkaaStr
namespace Go.Proofs.Ytikebbdkcpcmkaa
open Go.RowKit

set_option maxHeartbeats 400000 in
theorem i_TextValid (s : ByteArray) (w : World) :
    Calls Try.prog 41 #[.string s] w fun e w' => e = .returned (.bool (textB s.data.toList)) ∧ w = w' := by
  have hl := size_len s
  by_cases h80 : s.size ≤ 80
  · go_enter Try.func41, Try.ntmps41
    go_wp2
    go_loop [3] (fun i => ∃ k : Nat, k ≤ s.size ∧ AllIn prB s.data.toList 0 k ∧ i = .int .i64 k) (fun i => s.size - (intOf i).toNat)
    case atStart => exact ⟨0, Nat.zero_le _, AllIn.nil _ _ _, rfl⟩
    case round =>
      obtain ⟨k, hk, ha, rfl⟩ := hrel
      by_cases hlt : k < s.size
      · by_cases hp : prB (s.data.toList.getD k 0) = true
        · have HA := ha.succ hp
          rw [sget hlt] at hp
          simp only [prB, Bool.and_eq_true, decide_eq_true_eq] at hp
          obtain ⟨p1, p2⟩ := hp
          clear ha hl
          go_wp2
          go_round
          case rel => exact ⟨k + 1, by omega, HA, by go_num⟩
          case measure => simp [intOf]; omega
        · have H : Hid (textB s.data.toList = false) := textB_at (k := k) (by omega) (by simpa using hp)
          rw [sget hlt] at hp
          simp only [prB, Bool.and_eq_true, decide_eq_true_eq] at hp
          clear ha hl
          go_wp2
          all_goals (go_ret; exact ⟨ret_bool H.out.symm, rfl⟩)
      · have H : Hid (textB s.data.toList = true) := textB_yes (by omega) (by rw [hl, ← show k = s.size by omega]; exact ha)
        clear ha hl
        go_wp2
        go_ret
        exact ⟨ret_bool H.out.symm, rfl⟩
  · rw [textB_long (by omega)]
    clear hl
    go_enter Try.func41, Try.ntmps41
    go_wp2
    go_ret
    exact ⟨rfl, rfl⟩

set_option maxHeartbeats 400000 in
theorem s_TextValid (s : ByteArray) (w : World) (hs : s.size ≤ 140737488355328) :
    Calls Try.prog 42 #[.string s] w fun e w' => e = .returned (.bool (textB s.data.toList)) ∧ w = w' := by
  have hl := size_len s
  go_enter Try.func42, Try.ntmps42
  go_wp2
  go_loop [3] (fun i => ∃ k : Nat, k ≤ s.size ∧ AllIn prB s.data.toList 0 k ∧ i = .int .i64 k) (fun i => s.size - (intOf i).toNat)
  case atStart => exact ⟨0, Nat.zero_le _, AllIn.nil _ _ _, rfl⟩
  case round =>
    obtain ⟨k, hk, ha, rfl⟩ := hrel
    by_cases hlt : k < s.size
    · by_cases hp : prB (s.data.toList.getD k 0) = true
      · have HA := ha.succ hp
        rw [sget hlt] at hp
        simp only [prB, Bool.and_eq_true, decide_eq_true_eq] at hp
        obtain ⟨p1, p2⟩ := hp
        clear ha hl
        go_wp2
        go_round
        case rel => exact ⟨k + 1, by omega, HA, by go_num⟩
        case measure => simp [intOf]; omega
      · have H : Hid (textB s.data.toList = false) := textB_at (k := k) (by omega) (by simpa using hp)
        rw [sget hlt] at hp
        simp only [prB, Bool.and_eq_true, decide_eq_true_eq] at hp
        clear ha hl
        go_wp2
        all_goals (go_ret; exact ⟨ret_bool H.out.symm, rfl⟩)
    · by_cases h80 : s.size ≤ 80
      · have H : Hid (textB s.data.toList = true) := textB_yes (by omega) (by rw [hl, ← show k = s.size by omega]; exact ha)
        clear ha hl
        go_wp2
        go_ret
        exact ⟨ret_bool (by rw [H.out]; first | rfl | (simp; omega)), rfl⟩
      · have H : Hid (textB s.data.toList = false) := textB_long (by omega)
        clear ha hl
        go_wp2
        go_ret
        exact ⟨ret_bool (by rw [H.out]; first | rfl | (simp; omega)), rfl⟩

set_option maxHeartbeats 400000 in
theorem i_DigestOf (s : ByteArray) (w : World) :
    Calls Try.prog 28 #[.string s] w fun e w' => e = .returned (.int .i64 (digestM s.data.toList)) ∧ w = w' := by
  have hl := size_len s
  by_cases ht : textB s.data.toList = true
  · have hb := textB_bd ht
    have h80 : s.size ≤ 80 := by omega
    have HT : Hid (textB s.data.toList = true) := ht
    clear ht
    go_enter Try.func28, Try.ntmps28
    go_wp2_with (first | (go_at_call 41; refine (i_TextValid _ _).mono ?_; rintro e w' ⟨rfl, rfl⟩; rw [HT.out]))
    go_loop [3, 4] (fun d i => ∃ k : Nat, k ≤ s.size ∧ i = .int .i64 k ∧ d = .int .i64 (digestTo s.data.toList k)) (fun _ i => s.size - (intOf i).toNat)
    case atStart => exact ⟨0, Nat.zero_le _, rfl, rfl⟩
    case round =>
      obtain ⟨k, hk, rfl, rfl⟩ := hrel
      have db := digestTo_bd s.data.toList k
      by_cases hlt : k < s.size
      · have hc := hb.2 k (by omega)
        have H : Hid (digestTo s.data.toList (k + 1) = digestMoreM (digestTo s.data.toList k) (s[k].toNat : Int)) := by
          have := digestTo_succ (l := s.data.toList) (k := k) (by omega) (by omega) (by omega)
          rw [sget hlt] at this; exact this
        rw [sget hlt] at hc
        clear hb hl
        go_wp2_with (first | (go_at_call 11; refine (i_DigestMore _ _ _).mono ?_; rintro e w' ⟨rfl, rfl⟩))
        go_round
        case rel => exact ⟨k + 1, by omega, by go_num, by rw [H.out]⟩
        case measure => simp [intOf]; omega
      · have H : Hid (digestTo s.data.toList k = digestM s.data.toList) := by
          show _ = _
          unfold digestM; rw [if_pos HT.out, show k = s.data.toList.length by omega]
        clear hb hl
        go_wp2
        go_ret
        exact ⟨ret_int H.out, rfl⟩
  · rw [show digestM s.data.toList = -1 from by unfold digestM; rw [if_neg ht]]
    have HT : Hid (textB s.data.toList = false) := (Bool.not_eq_true _).mp ht
    clear ht hl
    go_enter Try.func28, Try.ntmps28
    go_wp2_with (first | (go_at_call 41; refine (i_TextValid _ _).mono ?_; rintro e w' ⟨rfl, rfl⟩; rw [HT.out]))
    go_ret
    exact ⟨rfl, rfl⟩

set_option maxHeartbeats 400000 in
theorem s_DigestOf (s : ByteArray) (w : World) (hs : s.size ≤ 140737488355328) :
    Calls Try.prog 29 #[.string s] w fun e w' => e = .returned (.int .i64 (digestM s.data.toList)) ∧ w = w' := by
  have hl := size_len s
  by_cases ht : textB s.data.toList = true
  · have hb := textB_bd ht
    have h80 : s.size ≤ 80 := by omega
    have HT : Hid (textB s.data.toList = true) := ht
    clear ht
    go_enter Try.func29, Try.ntmps29
    go_wp2_with (first | (go_at_call 42; refine (s_TextValid _ _ hs).mono ?_; rintro e w' ⟨rfl, rfl⟩; rw [HT.out]))
    go_loop [3, 4] (fun d i => ∃ k : Nat, k ≤ s.size ∧ i = .int .i64 k ∧ d = .int .i64 (digestTo s.data.toList k)) (fun _ i => s.size - (intOf i).toNat)
    case atStart => exact ⟨0, Nat.zero_le _, rfl, rfl⟩
    case round =>
      obtain ⟨k, hk, rfl, rfl⟩ := hrel
      have db := digestTo_bd s.data.toList k
      by_cases hlt : k < s.size
      · have hc := hb.2 k (by omega)
        have H : Hid (digestTo s.data.toList (k + 1) = (257 * digestTo s.data.toList k + (s[k].toNat : Int)) % 999983) := by
          have := digestTo_step s.data.toList k (by omega)
          rw [sget hlt] at this; exact this
        rw [sget hlt] at hc
        clear hb hl
        go_wp2
        go_round
        case rel => exact ⟨k + 1, by omega, by go_num, by rw [H.out]⟩
        case measure => simp [intOf]; omega
      · have H : Hid (digestTo s.data.toList k = digestM s.data.toList) := by
          show _ = _
          unfold digestM; rw [if_pos HT.out, show k = s.data.toList.length by omega]
        clear hb hl
        go_wp2
        go_ret
        exact ⟨ret_int H.out, rfl⟩
  · rw [show digestM s.data.toList = -1 from by unfold digestM; rw [if_neg ht]]
    have HT : Hid (textB s.data.toList = false) := (Bool.not_eq_true _).mp ht
    clear ht hl
    go_enter Try.func29, Try.ntmps29
    go_wp2_with (first | (go_at_call 42; refine (s_TextValid _ _ hs).mono ?_; rintro e w' ⟨rfl, rfl⟩; rw [HT.out]))
    go_ret
    exact ⟨rfl, rfl⟩
end Go.Proofs.Ytikebbdkcpcmkaa
