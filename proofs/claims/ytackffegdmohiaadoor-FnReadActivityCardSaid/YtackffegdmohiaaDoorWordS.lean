/- The walk of the reference's WordValid: it returns what the plain function says. Condition: the text is no longer than a machine holds. -/
import Derived.Test.YtackffegdmohiaaDoorRows
import Derived.Test.YtackffegdmohiaaDoorStr
import Derived.Test.YtackffegdmohiaaDoorRet
import Derived.WalkKit
namespace Go.Proofs.YtackffegdmohiaaDoor
open Go.RowKit

theorem wordB_no {l : List UInt8} {k : Nat} (hk : k < l.length) (h : (if k = 0 then lowB (l.getD k 0) else alnB (l.getD k 0)) = false) : wordB l = false := by
  by_cases e : k = 0
  · subst e; exact wordB_head (by simpa using h)
  · exact wordB_at (k := k) (by omega) hk (by simpa [e] using h)
/-- The first k bytes fit a word. -/
def WordTo (l : List UInt8) (k : Nat) : Prop := (1 ≤ k → lowB (l.getD 0 0) = true) ∧ AllIn alnB l 1 (max 1 k)
theorem WordTo.zero (l : List UInt8) : WordTo l 0 := ⟨fun h => by omega, AllIn.nil _ _ _⟩
theorem WordTo.succ {l : List UInt8} {k : Nat} (h : WordTo l k) (hk : (if k = 0 then lowB (l.getD k 0) else alnB (l.getD k 0)) = true) : WordTo l (k + 1) := by
  by_cases e : k = 0
  · subst e; exact ⟨fun _ => by simpa using hk, AllIn.nil _ _ _⟩
  · refine ⟨fun _ => h.1 (by omega), ?_⟩
    have h2 := h.2
    rw [show max 1 k = k by omega] at h2
    rw [show max 1 (k + 1) = k + 1 by omega]
    exact h2.succ (by simpa [e] using hk)
theorem WordTo.all {l : List UInt8} (h : WordTo l l.length) : wordB l = decide (1 ≤ l.length ∧ l.length ≤ 8) := by
  by_cases e : 1 ≤ l.length ∧ l.length ≤ 8
  · rw [wordB_yes e (h.1 e.1) (by have := h.2; rwa [show max 1 l.length = l.length by omega] at this)]; simp [e]
  · rw [wordB_long e]; simp [e]
set_option maxHeartbeats 1000000 in
theorem s_WordValid (s : ByteArray) (w : World) (hs : s.size ≤ 140737488355328) :
    Calls Tryd.prog 31 #[.string s] w fun e w' => e = .returned (.bool (wordB s.data.toList)) ∧ w = w' := by
  have hl := size_len s
  go_enter Tryd.func31, Tryd.ntmps31
  go_wp2
  go_loop [3, 4] (fun i _ => ∃ k : Nat, k ≤ s.size ∧ WordTo s.data.toList k ∧ i = .int .i64 k) (fun i _ => s.size - (intOf i).toNat)
  case atStart => exact ⟨0, Nat.zero_le _, WordTo.zero _, rfl⟩
  case round =>
    obtain ⟨k, hk, ha, rfl⟩ := hrel
    by_cases hlt : k < s.size
    · by_cases hp : (if k = 0 then lowB (s.data.toList.getD k 0) else alnB (s.data.toList.getD k 0)) = true
      · have HA := ha.succ hp
        rw [sget hlt] at hp
        have hc : (97 ≤ s[k].toNat ∧ s[k].toNat ≤ 122) ∨ (1 ≤ k ∧ 48 ≤ s[k].toNat ∧ s[k].toNat ≤ 57) := by
          by_cases e : k = 0
          · rw [if_pos e] at hp; simp [lowB] at hp; omega
          · rw [if_neg e] at hp; simp [alnB, lowB, digB] at hp; omega
        clear ha hl hp
        rcases hc with ⟨c1, c2⟩ | ⟨c0, c1, c2⟩
        · go_wp2
          all_goals first | (exfalso; simp at *; omega) | (go_round; (case rel => exact ⟨k + 1, by omega, HA, by go_num⟩); (case measure => simp [intOf]; omega))
        · go_wp2
          all_goals first | (exfalso; simp at *; omega) | (go_round; (case rel => exact ⟨k + 1, by omega, HA, by go_num⟩); (case measure => simp [intOf]; omega))
      · have H : Hid (wordB s.data.toList = false) := wordB_no (k := k) (by omega) ((Bool.not_eq_true _).mp hp)
        rw [sget hlt] at hp
        have hc : (s[k].toNat < 97 ∨ 122 < s[k].toNat) ∧ (k = 0 ∨ s[k].toNat < 48 ∨ 57 < s[k].toNat) := by
          by_cases e : k = 0
          · rw [if_pos e] at hp; simp [lowB] at hp; omega
          · rw [if_neg e] at hp; simp [alnB, lowB, digB] at hp; omega
        clear ha hl hp
        obtain ⟨c1, c2⟩ := hc
        go_wp2
        all_goals first
          | (go_ret; exact ⟨ret_bool H.out.symm, rfl⟩)
          | (exfalso; simp at *; omega)
          | (exfalso; have e : k = 0 := (by assumption); subst e; simp at *; omega)
          | go_ways
    · have H0 : Hid (wordB s.data.toList = decide (1 ≤ s.size ∧ s.size ≤ 8)) := by
        obtain rfl : k = s.size := by omega
        show _ = _
        rw [WordTo.all (by rw [hl]; exact ha), hl]
      clear ha hl
      by_cases h8 : 1 ≤ s.size ∧ s.size ≤ 8
      · have H : Hid (wordB s.data.toList = true) := by show _ = _; rw [H0.out]; simp [h8]
        obtain ⟨h8, h9⟩ := h8
        go_wp2
        all_goals (go_ret; exact ⟨ret_bool (by rw [H.out]; try first | rfl | (simp; omega)), rfl⟩)
      · have H : Hid (wordB s.data.toList = false) := by show _ = _; rw [H0.out]; simp; omega
        go_wp2
        all_goals (go_ret; exact ⟨ret_bool (by rw [H.out]; try first | rfl | (simp; omega)), rfl⟩)
end Go.Proofs.YtackffegdmohiaaDoor
