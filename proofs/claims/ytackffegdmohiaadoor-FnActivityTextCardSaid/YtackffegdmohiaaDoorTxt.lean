/- The walks of TextValid, of the program and of the reference. Condition: the text is no longer than a machine holds. -/
import Derived.Test.YtackffegdmohiaaDoorRows
import Derived.Test.YtackffegdmohiaaDoorRet
import Derived.Test.YtackffegdmohiaaDoorOpen
import Derived.WalkKit
import Derived.WalkSpells
import Derived.Test.YtackffegdmohiaaDoorStr
namespace Go.Proofs.YtackffegdmohiaaDoor
open Go.RowKit

set_option maxHeartbeats 400000 in
theorem i_TextValid (s : ByteArray) (w : World) :
    Calls Tryd.prog 15 #[.string s] w fun e w' => e = .returned (.bool (textB s.data.toList)) ∧ w = w' := by
  have hl := size_len s
  by_cases h80 : s.size ≤ 80
  · go_enter Tryd.func15, Tryd.ntmps15
    go_wp2
    go_loop [3] (fun i => ∃ k : Nat, k ≤ s.size ∧ AllIn prB s.data.toList 0 k ∧ i = .int .i64 k) (fun i => s.size - (intOf i).toNat)
    case atStart => exact ⟨0, Nat.zero_le _, AllIn.nil _ _ _, rfl⟩
    case round =>
      obtain ⟨k, hk, ha, rfl⟩ := hrel
      by_cases hlt : k < s.size
      · by_cases hp : prB (s.data.toList.getD k 0) = true
        · have HA := ha.succ hp
          rw [sget hlt] at hp
          simp only [prB, Bool.and_eq_true, decide_eq_true_eq] at hp
          obtain ⟨p1, p2⟩ := hp
          clear ha hl
          go_wp2
          go_round
          case rel => exact ⟨k + 1, by omega, HA, by go_num⟩
          case measure => simp [intOf]; omega
        · have H : Hid (textB s.data.toList = false) := textB_at (k := k) (by omega) (by simpa using hp)
          rw [sget hlt] at hp
          simp only [prB, Bool.and_eq_true, decide_eq_true_eq] at hp
          clear ha hl
          go_wp2
          all_goals (go_ret; exact ⟨ret_bool H.out.symm, rfl⟩)
      · have H : Hid (textB s.data.toList = true) := textB_yes (by omega) (by rw [hl, ← show k = s.size by omega]; exact ha)
        clear ha hl
        go_wp2
        go_ret
        exact ⟨ret_bool H.out.symm, rfl⟩
  · rw [textB_long (by omega)]
    clear hl
    go_enter Tryd.func15, Tryd.ntmps15
    go_wp2
    go_ret
    exact ⟨rfl, rfl⟩

end Go.Proofs.YtackffegdmohiaaDoor
