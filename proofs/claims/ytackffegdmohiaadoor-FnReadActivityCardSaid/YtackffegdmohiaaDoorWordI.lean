/- The walks of the program's digitValue and WordValid: each returns what the plain function says. No condition. -/
import Derived.Test.YtackffegdmohiaaDoorRows
import Derived.Test.YtackffegdmohiaaDoorStr
import Derived.Test.YtackffegdmohiaaDoorRet
import Derived.WalkKit
namespace Go.Proofs.YtackffegdmohiaaDoor
open Go.RowKit

theorem i_digitValue (c : UInt8) (w : World) :
    Calls Tryd.prog 46 #[.int .u8 (c.toNat : Int)] w fun e w' => e = .returned (.int .i64 (digV c)) ∧ w = w' := by
  have hc := byte_lt c
  by_cases h1 : 48 ≤ c.toNat ∧ c.toNat ≤ 57
  · rw [show digV c = (c.toNat : Int) - 48 from by unfold digV digB; simp [h1]]
    obtain ⟨h1, h2⟩ := h1
    go_enter Tryd.func46, Tryd.ntmps46
    go_wp2
    all_goals (go_ret; exact ⟨rfl, rfl⟩)
  · by_cases h2 : 97 ≤ c.toNat ∧ c.toNat ≤ 122
    · rw [show digV c = (c.toNat : Int) - 97 + 10 from by unfold digV digB lowB; simp [h2]; omega]
      obtain ⟨h2, h3⟩ := h2
      go_enter Tryd.func46, Tryd.ntmps46
      go_wp2
      all_goals (go_ret; exact ⟨rfl, rfl⟩)
    · rw [show digV c = -1 from by unfold digV digB lowB; simp; omega]
      go_enter Tryd.func46, Tryd.ntmps46
      go_wp2
      all_goals (try simp only [Bool.not_eq_eq_eq_not, Bool.not_true, Bool.not_false, decide_eq_true_eq, decide_eq_false_iff_not] at *)
      all_goals (try omega)
      all_goals (go_ret; exact ⟨rfl, rfl⟩)

theorem digV_neg (c : UInt8) : (digV c < 0 ∧ alnB c = false) ∨ (0 ≤ digV c ∧ digV c ≤ 35 ∧ alnB c = true) := by
  unfold digV alnB digB lowB
  by_cases h1 : 48 ≤ c.toNat ∧ c.toNat ≤ 57
  · right; simp [h1]; omega
  · by_cases h2 : 97 ≤ c.toNat ∧ c.toNat ≤ 122
    · right
      rw [if_neg (by simp; omega), if_pos (by simp; omega)]
      refine ⟨by omega, by omega, ?_⟩
      simp; omega
    · left; simp; omega

set_option maxHeartbeats 1000000 in
theorem i_WordValid (s : ByteArray) (w : World) (_hs : s.size ≤ 140737488355328) :
    Calls Tryd.prog 32 #[.string s] w fun e w' => e = .returned (.bool (wordB s.data.toList)) ∧ w = w' := by
  have hl := size_len s
  by_cases h8 : 1 ≤ s.size ∧ s.size ≤ 8
  · have hpos : 0 < s.size := h8.1
    by_cases h0 : lowB (s.data.toList.getD 0 0) = true
    · have H0 : Hid (lowB (s.data.toList.getD 0 0) = true) := h0
      rw [sget hpos] at h0
      simp only [lowB, Bool.and_eq_true, decide_eq_true_eq] at h0
      obtain ⟨l1, l2⟩ := h0
      obtain ⟨h1, h8⟩ := h8
      go_enter Tryd.func32, Tryd.ntmps32
      go_wp2
      go_loop [3] (fun i => ∃ k : Nat, 1 ≤ k ∧ k ≤ s.size ∧ AllIn alnB s.data.toList 1 k ∧ i = .int .i64 k) (fun i => s.size - (intOf i).toNat)
      case atStart => exact ⟨1, Nat.le_refl _, by omega, AllIn.nil _ _ _, rfl⟩
      case round =>
        obtain ⟨k, hk0, hk, ha, rfl⟩ := hrel
        by_cases hlt : k < s.size
        · rcases digV_neg s[k] with ⟨n1, n2⟩ | ⟨n1, n2, n3⟩
          · have H : Hid (wordB s.data.toList = false) := wordB_at (k := k) hk0 (by omega) (by rw [sget hlt]; exact n2)
            clear ha hl n2
            go_wp2_with (go_at_call 46; refine (i_digitValue _ _).mono ?_; rintro e w' ⟨rfl, rfl⟩)
            go_ret
            exact ⟨ret_bool H.out.symm, rfl⟩
          · have HA := ha.succ (show alnB (s.data.toList.getD k 0) = true by rw [sget hlt]; exact n3)
            clear ha hl n3
            go_wp2_with (go_at_call 46; refine (i_digitValue _ _).mono ?_; rintro e w' ⟨rfl, rfl⟩)
            go_round
            case rel => exact ⟨k + 1, by omega, by omega, HA, by go_num⟩
            case measure => simp [intOf]; omega
        · have H : Hid (wordB s.data.toList = true) := wordB_yes (by omega) H0.out (by rw [hl, ← show k = s.size by omega]; exact ha)
          clear ha hl
          go_wp2
          go_ret
          exact ⟨ret_bool H.out.symm, rfl⟩
    · rw [wordB_head ((Bool.not_eq_true _).mp h0)]
      rw [sget hpos] at h0
      simp only [lowB, Bool.and_eq_true, decide_eq_true_eq] at h0
      obtain ⟨h1, h8⟩ := h8
      clear hl
      go_enter Tryd.func32, Tryd.ntmps32
      go_wp2
      all_goals first | (go_ret; exact ⟨rfl, rfl⟩) | (exfalso; simp at *; omega) | go_ways
  · rw [wordB_long (by omega)]
    clear hl
    go_enter Tryd.func32, Tryd.ntmps32
    go_wp2
    all_goals first | (go_ret; exact ⟨rfl, rfl⟩) | (exfalso; simp at *; omega) | go_ways
end Go.Proofs.YtackffegdmohiaaDoor
