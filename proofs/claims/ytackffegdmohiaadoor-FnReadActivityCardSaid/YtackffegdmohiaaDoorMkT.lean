/- The walks of MarkText, of the program and of the reference: the digits of a number in the base 36. No condition. -/
import Derived.Test.YtackffegdmohiaaDoorM36
import Derived.Test.YtackffegdmohiaaDoorRet
import Derived.Test.YtackffegdmohiaaDoorMem
import Derived.Test.YtackffegdmohiaaDoorRows
import Derived.WalkKit
import Derived.WalkSpells
import Derived.WideShapes
namespace Go.Proofs.YtackffegdmohiaaDoor
open Go.RowKit

def digA : ByteArray := ⟨#[48, 49, 50, 51, 52, 53, 54, 55, 56, 57, 97, 98, 99, 100, 101, 102, 103, 104, 105, 106, 107, 108, 109, 110, 111, 112, 113, 114, 115, 116, 117, 118, 119, 120, 121, 122]⟩
theorem digA_at : ∀ d : Nat, d < 36 → digA.extract d (d + 1) = ⟨#[dig36 d]⟩ := by
  have key : ∀ k : Fin 36, (digA.extract k.val (k.val + 1)).data = #[dig36 k.val] := by decide +kernel
  intro d h
  have := key ⟨d, h⟩
  exact congrArg ByteArray.mk this
theorem markS_done {m : Nat} {n : Int} {t : ByteArray} (hn : 0 ≤ n ∧ n ≤ 1000000000) (hm : m < 36) (h : preN m ++ t.data.toList = markN n.toNat) : t = markS n := by
  refine Go.WideShapes.bytes_inj ?_
  rw [markS_list hn.1 hn.2, ← h, preN_small hm, List.nil_append]
theorem mark_start {n : Nat} : preN n ++ (ByteArray.mk #[dig36 (n % 36)]).data.toList = markN n := by rw [markN_pre]
theorem mark_more {m : Nat} {t : ByteArray} {L : List UInt8} (h36 : 36 ≤ m) (h : preN m ++ t.data.toList = L) : preN (m / 36) ++ ((ByteArray.mk #[dig36 (m / 36 % 36)]) ++ t).data.toList = L := by
  rw [← h, preN_step h36, ByteArray.data_append, Array.toList_append, List.append_assoc]

theorem m_yes (n lo hi : Int) (w : World) (h1 : lo ≤ n) (h2 : n ≤ hi) : Calls Tryd.prog 29 #[.int .i64 n, .int .i64 lo, .int .i64 hi] w fun e w' => e = .returned (.bool true) ∧ w = w' := by
  go_enter Tryd.func29, Tryd.ntmps29
  go_wp2
  go_ret
  exact ⟨rfl, rfl⟩
theorem m_no (n lo hi : Int) (w : World) (h : n < lo ∨ hi < n) : Calls Tryd.prog 29 #[.int .i64 n, .int .i64 lo, .int .i64 hi] w fun e w' => e = .returned (.bool false) ∧ w = w' := by
  by_cases h1 : lo ≤ n
  · have h2 : hi < n := by omega
    have hd : decide (lo ≤ n) = true := by simpa using h1
    have hd2 : decide (n ≤ hi) = false := by simpa using h2
    clear h
    go_enter Tryd.func29, Tryd.ntmps29
    go_wp2
    go_ret
    exact ⟨rfl, rfl⟩
  · have hd : decide (lo ≤ n) = false := by simpa using h1
    have h2 : n < lo := by omega
    clear h h1
    go_enter Tryd.func29, Tryd.ntmps29
    go_wp2
    go_ret
    exact ⟨rfl, rfl⟩

set_option maxHeartbeats 1600000 in
theorem i_MarkText (n : Int) (w : World) : Calls Tryd.prog 25 #[.int .i64 n] w fun e w' => e = .returned (.string (markS n)) ∧ w = w' := by
  by_cases hn : n < 0 ∨ 1000000000 < n
  · rw [markS_out hn]
    go_enter Tryd.func25, Tryd.ntmps25
    go_wp2
    all_goals (go_ret; exact ⟨rfl, rfl⟩)
  · obtain ⟨h0, h1⟩ : 0 ≤ n ∧ n ≤ 1000000000 := by omega
    clear hn
    obtain ⟨M, rfl⟩ := Int.eq_ofNat_of_zero_le h0
    have g1 : (M : Int) ≤ 1000000000 := h1
    have HS : Hid (preN M ++ (digA.extract (M % 36) (M % 36 + 1)).data.toList = markN ((M : Int)).toNat ∧ (digA.extract (M % 36) (M % 36 + 1)).size ≤ 1 + (M - M)) := by
      rw [digA_at _ (by omega)]; exact ⟨mark_start, by show 1 ≤ _; omega⟩
    have d1 : decide ((M : Int) < 0) = false := decide_eq_false (by omega)
    have d2 : decide (1000000000 < (M : Int)) = false := decide_eq_false (by omega)
    go_enter Tryd.func25, Tryd.ntmps25
    go_wp2
    go_loop [0, 3] (fun N T => ∃ (m : Nat) (t : ByteArray), m ≤ M ∧ t.size ≤ 1 + (M - m) ∧ N = .int .i64 m ∧ T = .string t ∧ Hid (preN m ++ t.data.toList = markN ((M : Int)).toNat)) (fun N _ => (intOf N).toNat)
    case atStart => exact ⟨M, digA.extract (M % 36) (M % 36 + 1), Nat.le_refl _, HS.out.2, rfl, rfl, HS.out.1⟩
    case round =>
      obtain ⟨m, t, hm, ht, rfl, rfl, hd⟩ := hrel
      by_cases h36 : 36 ≤ m
      · have HM : Hid (preN (m / 36) ++ (digA.extract (m / 36 % 36) (m / 36 % 36 + 1) ++ t).data.toList = markN ((M : Int)).toNat ∧ (digA.extract (m / 36 % 36) (m / 36 % 36 + 1) ++ t).size ≤ 1 + (M - m / 36)) := by
          rw [digA_at _ (by omega)]
          exact ⟨mark_more h36 hd.out, by rw [ByteArray.size_append, show (ByteArray.mk #[dig36 (m / 36 % 36)]).size = 1 from rfl]; omega⟩
        clear hd HS
        go_wp2
        go_round
        case rel => exact ⟨m / 36, digA.extract (m / 36 % 36) (m / 36 % 36 + 1) ++ t, by omega, HM.out.2, by go_num, rfl, HM.out.1⟩
        case measure => simp [intOf]; omega
      · have hT : Hid (t = markS (M : Int)) := markS_done ⟨by omega, h1⟩ (by omega) hd.out
        clear hd HS
        go_wp2
        go_ret
        exact ⟨congrArg (fun z => Ending.returned (.string z)) hT.out, rfl⟩

set_option maxHeartbeats 1600000 in
theorem s_MarkText (n : Int) (w : World) : Calls Tryd.prog 21 #[.int .i64 n] w fun e w' => e = .returned (.string (markS n)) ∧ w = w' := by
  by_cases hn : n < 0 ∨ 1000000000 < n
  · rw [markS_out hn]
    have H : Hid (n < 0 ∨ 1000000000 < n) := hn
    go_enter Tryd.func21, Tryd.ntmps21
    go_wp2_with (go_at_call 29; refine (m_no _ _ _ _ H.out).mono ?_; rintro e w' ⟨rfl, rfl⟩)
    all_goals (go_ret; exact ⟨rfl, rfl⟩)
  · obtain ⟨h0, h1⟩ : 0 ≤ n ∧ n ≤ 1000000000 := by omega
    clear hn
    obtain ⟨M, rfl⟩ := Int.eq_ofNat_of_zero_le h0
    have g1 : (M : Int) ≤ 1000000000 := h1
    have HS : Hid (preN M ++ (digA.extract (M % 36) (M % 36 + 1)).data.toList = markN ((M : Int)).toNat ∧ (digA.extract (M % 36) (M % 36 + 1)).size ≤ 1 + (M - M)) := by
      rw [digA_at _ (by omega)]; exact ⟨mark_start, by show 1 ≤ _; omega⟩
    go_enter Tryd.func21, Tryd.ntmps21
    go_wp2_with (go_at_call 29; refine (m_yes _ _ _ _ (by omega) (by omega)).mono ?_; rintro e w' ⟨rfl, rfl⟩)
    go_loop [0, 4] (fun N T => ∃ (m : Nat) (t : ByteArray), m ≤ M ∧ t.size ≤ 1 + (M - m) ∧ N = .int .i64 m ∧ T = .string t ∧ Hid (preN m ++ t.data.toList = markN ((M : Int)).toNat)) (fun N _ => (intOf N).toNat)
    case atStart => exact ⟨M, digA.extract (M % 36) (M % 36 + 1), Nat.le_refl _, HS.out.2, rfl, rfl, HS.out.1⟩
    case round =>
      obtain ⟨m, t, hm, ht, rfl, rfl, hd⟩ := hrel
      by_cases h36 : 36 ≤ m
      · have HM : Hid (preN (m / 36) ++ (digA.extract (m / 36 % 36) (m / 36 % 36 + 1) ++ t).data.toList = markN ((M : Int)).toNat ∧ (digA.extract (m / 36 % 36) (m / 36 % 36 + 1) ++ t).size ≤ 1 + (M - m / 36)) := by
          rw [digA_at _ (by omega)]
          exact ⟨mark_more h36 hd.out, by rw [ByteArray.size_append, show (ByteArray.mk #[dig36 (m / 36 % 36)]).size = 1 from rfl]; omega⟩
        clear hd HS
        go_wp2
        go_round
        case rel => exact ⟨m / 36, digA.extract (m / 36 % 36) (m / 36 % 36 + 1) ++ t, by omega, HM.out.2, by go_num, rfl, HM.out.1⟩
        case measure => simp [intOf]; omega
      · have hT : Hid (t = markS (M : Int)) := markS_done ⟨by omega, h1⟩ (by omega) hd.out
        clear hd HS
        go_wp2
        go_ret
        exact ⟨congrArg (fun z => Ending.returned (.string z)) hT.out, rfl⟩
end Go.Proofs.YtackffegdmohiaaDoor
