/- The walks of ReadMark, of the program and of the reference: the number of a text of digits. Condition: the text is no longer than a machine holds. -/
import Derived.Test.YtackffegdmohiaaDoorMkT
import Derived.Test.YtackffegdmohiaaDoorWordI
import Derived.Test.YtackffegdmohiaaDoorWordS
import Derived.Test.YtackffegdmohiaaDoorLess
namespace Go.Proofs.YtackffegdmohiaaDoor
open Go.RowKit

def MarkRet (s : ByteArray) (w : World) (e : Ending) (w' : World) : Prop := ∃ v, e = .returned (.int .i64 v) ∧ MarkIs s.data.toList v ∧ w = w'
theorem MarkRet.mk {s : ByteArray} {v : Int} {w : World} (h : MarkIs s.data.toList v) : MarkRet s w (.returned (.int .i64 v)) w := ⟨v, rfl, h, rfl⟩
theorem valL_take {l : List UInt8} {k : Nat} (hk : k < l.length) : valL (l.take (k + 1)) = valL (l.take k) * 36 + digV l[k] := by
  rw [List.take_succ_eq_append_getElem hk, valL_snoc]
theorem valL_lt : ∀ (k : Nat) (l : List UInt8), l.length = k → (∀ c ∈ l, alnB c = true) → 0 ≤ valL l ∧ valL l < 36 ^ k
  | 0, l, hk, _ => by
    obtain rfl := List.eq_nil_of_length_eq_zero hk
    exact ⟨by decide, by decide⟩
  | k + 1, l, hk, h => by
    obtain ⟨l', c, rfl⟩ : ∃ l' c, l = l' ++ [c] := ⟨l.dropLast, l.getLast (by intro e; rw [e] at hk; simp at hk), (List.dropLast_concat_getLast _).symm⟩
    have hc := (val_dig c (h c (by simp))).2
    have ih := valL_lt k l' (by simp at hk; exact hk) (fun c hc => h c (List.mem_append_left _ hc))
    rw [valL_snoc, Int.pow_succ]
    omega
theorem pow_le : ∀ k : Nat, k ≤ 6 → (36 : Int) ^ k ≤ 2176782336 := by decide
theorem pow5 : ∀ k : Nat, k ≤ 5 → (36 : Int) ^ k ≤ 60466176 := by decide
theorem aln_take {l : List UInt8} {k : Nat} (hk : k ≤ l.length) (h : AllIn alnB l 0 k) : ∀ c ∈ l.take k, alnB c = true := fun c hc => by
  obtain ⟨j, hj, rfl⟩ := List.getElem_of_mem hc
  rw [List.length_take] at hj
  rw [List.getElem_take]
  have := h j (Nat.zero_le _) (by omega)
  rwa [getD_lt (by omega)] at this
theorem val_bound {l : List UInt8} {k : Nat} (hk : k ≤ l.length) (h6 : k ≤ 6) (h : AllIn alnB l 0 k) : 0 ≤ valL (l.take k) ∧ valL (l.take k) ≤ 2176782336 := by
  have h1 := valL_lt k (l.take k) (by rw [List.length_take]; omega) (aln_take hk h)
  have h2 := pow_le k h6
  omega
theorem mark_full {l : List UInt8} (h1 : 1 ≤ l.length) (hz : 1 < l.length → l.getD 0 0 ≠ 48) (h : AllIn alnB l 0 l.length) : Canon l := ⟨h1, by have := aln_take (Nat.le_refl _) h; rwa [List.take_length] at this, hz⟩

set_option maxHeartbeats 1600000 in
theorem i_ReadMark (s : ByteArray) (w : World) (hs : s.size ≤ 140737488355328) : Calls Tryd.prog 36 #[.string s] w (MarkRet s w) := by
  have hl := size_len s
  by_cases h16 : 1 ≤ s.size ∧ s.size ≤ 6
  · obtain ⟨h1, h6⟩ := h16
    have hpos : 0 < s.size := h1
    by_cases hz : 1 < s.size ∧ s.data.toList.getD 0 0 = 48
    · obtain ⟨z1, z2⟩ := hz
      have H : Hid (MarkIs s.data.toList (-1)) := MarkIs.zero (by omega) z2
      rw [sget hpos] at z2
      have z3 : s[0].toNat = 48 := by rw [z2]; rfl
      clear hl z2
      go_enter Tryd.func36, Tryd.ntmps36
      go_wp2
      all_goals first | (go_ret; exact MarkRet.mk H.out) | (exfalso; simp at *; omega)
    · have HZ : Hid (1 < s.data.toList.length → s.data.toList.getD 0 0 ≠ 48) := fun a b => hz ⟨by omega, b⟩
      have d1 : decide ((s.size : Int) < 1) = false := decide_eq_false (by omega)
      have d2 : decide (6 < (s.size : Int)) = false := decide_eq_false (by omega)
      by_cases e : s.size = 1
      · have d3 : decide (1 < (s.size : Int)) = false := decide_eq_false (by omega)
        clear hz hl
        go_enter Tryd.func36, Tryd.ntmps36
        go_wp2
        go_loop [3, 4] (fun N I => ∃ (k : Nat) (n : Int), k ≤ s.size ∧ N = .int .i64 n ∧ I = .int .i64 k ∧ AllIn alnB s.data.toList 0 k ∧ Hid (n = valL (s.data.toList.take k))) (fun _ I => s.size - (intOf I).toNat)
        case atStart => exact ⟨0, 0, Nat.zero_le _, rfl, rfl, AllIn.nil _ _ _, by show _ = _; rfl⟩
        case round =>
          obtain ⟨k, n, hk, rfl, rfl, ha, hn⟩ := hrel
          have hl := size_len s
          have hb := val_bound (k := k) (by omega) (by omega) ha
          rw [← hn.out] at hb
          obtain ⟨b1, b2⟩ := hb
          by_cases hlt : k < s.size
          · have b3 : n ≤ 60466175 := by
              have q1 := valL_lt k (s.data.toList.take k) (by rw [List.length_take]; omega) (aln_take (by omega) ha)
              have q2 : (36 : Int) ^ k ≤ 60466176 := pow5 k (by omega)
              rw [← hn.out] at q1
              omega
            rcases digV_neg s[k] with ⟨n1, n2⟩ | ⟨n1, n2, n3⟩
            · have H : Hid (MarkIs s.data.toList (-1)) := MarkIs.bad (k := k) (by omega) (by rw [sget hlt]; exact n2)
              clear ha hl n2 hn
              go_wp2_with (go_at_call 46; refine (i_digitValue _ _).mono ?_; rintro e w' ⟨rfl, rfl⟩)
              go_ret
              exact MarkRet.mk H.out
            · have HA := ha.succ (show alnB (s.data.toList.getD k 0) = true by rw [sget hlt]; exact n3)
              have HN : Hid (n * 36 + digV s[k] = valL (s.data.toList.take (k + 1))) := by
                show _ = _
                rw [valL_take (by omega), ← hn.out, ← getD_lt (by omega), sget hlt]
              obtain ⟨d, hd⟩ : ∃ d, Hid (d = digV s[k]) := ⟨digV s[k], by show _ = _; rfl⟩
              clear ha hl n3 hn
              go_wp2_with (go_at_call 46; refine (i_digitValue _ _).mono ?_; rintro e w' ⟨rfl, rfl⟩; rw [← hd.out] at n1 n2 HN ⊢)
              go_round
              case rel => exact ⟨k + 1, n * 36 + d, by omega, by go_num, by go_num, HA, HN⟩
              case measure => simp [intOf]; omega
          · obtain rfl : k = s.size := by omega
            have hn2 : n = valL s.data.toList := by rw [hn.out, List.take_of_length_le (by omega)]
            have hc : Canon s.data.toList := mark_full (by omega) HZ.out (by rw [hl]; exact ha)
            by_cases hg : n ≤ 1000000000
            · have H : Hid (MarkIs s.data.toList n) := by show MarkIs _ _; rw [hn2]; exact MarkIs.yes hc (by omega)
              have dg : decide (1000000000 < n) = false := decide_eq_false (by omega)
              clear ha hl hn hn2 hc
              go_wp2
              go_ret
              exact MarkRet.mk H.out
            · have H : Hid (MarkIs s.data.toList (-1)) := MarkIs.great (by omega)
              have dg : decide (1000000000 < n) = true := decide_eq_true (by omega)
              clear ha hl hn hn2 hc
              go_wp2
              go_ret
              exact MarkRet.mk H.out
      · have d3 : decide (1 < (s.size : Int)) = true := decide_eq_true (by omega)
        have e1 : 1 < s.size := by omega
        have d4 : ((s[0].toNat : Int) == 48) = false := by
          rw [sget hpos] at hz
          rw [beq_eq_false_iff_ne]
          exact fun e2 => hz ⟨e1, by rw [← UInt8.toNat_inj]; exact Int.ofNat.inj e2⟩
        have d5 : (s[0].toNat == 48) = false := by
          rw [beq_eq_false_iff_ne] at d4 ⊢
          omega
        clear hz hl
        go_enter Tryd.func36, Tryd.ntmps36
        go_wp2
        go_loop [3, 4] (fun N I => ∃ (k : Nat) (n : Int), k ≤ s.size ∧ N = .int .i64 n ∧ I = .int .i64 k ∧ AllIn alnB s.data.toList 0 k ∧ Hid (n = valL (s.data.toList.take k))) (fun _ I => s.size - (intOf I).toNat)
        case atStart => exact ⟨0, 0, Nat.zero_le _, rfl, rfl, AllIn.nil _ _ _, by show _ = _; rfl⟩
        case round =>
          obtain ⟨k, n, hk, rfl, rfl, ha, hn⟩ := hrel
          have hl := size_len s
          have hb := val_bound (k := k) (by omega) (by omega) ha
          rw [← hn.out] at hb
          obtain ⟨b1, b2⟩ := hb
          by_cases hlt : k < s.size
          · have b3 : n ≤ 60466175 := by
              have q1 := valL_lt k (s.data.toList.take k) (by rw [List.length_take]; omega) (aln_take (by omega) ha)
              have q2 : (36 : Int) ^ k ≤ 60466176 := pow5 k (by omega)
              rw [← hn.out] at q1
              omega
            rcases digV_neg s[k] with ⟨n1, n2⟩ | ⟨n1, n2, n3⟩
            · have H : Hid (MarkIs s.data.toList (-1)) := MarkIs.bad (k := k) (by omega) (by rw [sget hlt]; exact n2)
              clear ha hl n2 hn
              go_wp2_with (go_at_call 46; refine (i_digitValue _ _).mono ?_; rintro e w' ⟨rfl, rfl⟩)
              go_ret
              exact MarkRet.mk H.out
            · have HA := ha.succ (show alnB (s.data.toList.getD k 0) = true by rw [sget hlt]; exact n3)
              have HN : Hid (n * 36 + digV s[k] = valL (s.data.toList.take (k + 1))) := by
                show _ = _
                rw [valL_take (by omega), ← hn.out, ← getD_lt (by omega), sget hlt]
              obtain ⟨d, hd⟩ : ∃ d, Hid (d = digV s[k]) := ⟨digV s[k], by show _ = _; rfl⟩
              clear ha hl n3 hn
              go_wp2_with (go_at_call 46; refine (i_digitValue _ _).mono ?_; rintro e w' ⟨rfl, rfl⟩; rw [← hd.out] at n1 n2 HN ⊢)
              go_round
              case rel => exact ⟨k + 1, n * 36 + d, by omega, by go_num, by go_num, HA, HN⟩
              case measure => simp [intOf]; omega
          · obtain rfl : k = s.size := by omega
            have hn2 : n = valL s.data.toList := by rw [hn.out, List.take_of_length_le (by omega)]
            have hc : Canon s.data.toList := mark_full (by omega) HZ.out (by rw [hl]; exact ha)
            by_cases hg : n ≤ 1000000000
            · have H : Hid (MarkIs s.data.toList n) := by show MarkIs _ _; rw [hn2]; exact MarkIs.yes hc (by omega)
              have dg : decide (1000000000 < n) = false := decide_eq_false (by omega)
              clear ha hl hn hn2 hc
              go_wp2
              go_ret
              exact MarkRet.mk H.out
            · have H : Hid (MarkIs s.data.toList (-1)) := MarkIs.great (by omega)
              have dg : decide (1000000000 < n) = true := decide_eq_true (by omega)
              clear ha hl hn hn2 hc
              go_wp2
              go_ret
              exact MarkRet.mk H.out
  · have H : Hid (MarkIs s.data.toList (-1)) := MarkIs.long (by omega)
    have hq : s.size < 1 ∨ 6 < s.size := by omega
    clear hl h16
    go_enter Tryd.func36, Tryd.ntmps36
    go_wp2
    all_goals first | (go_ret; exact MarkRet.mk H.out) | (exfalso; simp at *; omega)

theorem pow7 : ∀ k : Nat, k ≤ 7 → (36 : Int) ^ k ≤ 78364164096 := by decide
theorem mark_is {s : ByteArray} {n : Int} (h1 : 1 ≤ s.size) (hn : n = valL s.data.toList) (he : ((markS n).toList == s.toList) = true) : MarkIs s.data.toList n := by
  have e : (markS n).data.toList = s.data.toList := by
    have := eq_of_beq he
    rwa [ByteArray.toList_eq, ByteArray.toList_eq] at this
  by_cases hb : 0 ≤ n ∧ n ≤ 1000000000
  · rw [markS_list hb.1 hb.2] at e
    exact .inl ⟨n.toNat, by omega, by omega, e⟩
  · rw [markS_out (by omega)] at e
    have hl := size_len s
    rw [← e] at hl
    simp at hl; omega
theorem mark_not {s : ByteArray} {n : Int} (hn : n = valL s.data.toList) (he : ((markS n).toList == s.toList) = false) : MarkIs s.data.toList (-1) := .inr ⟨rfl, fun m hm e => by
  have h1 := val_mark m
  rw [e, ← hn] at h1
  have h2 : (markS n).data.toList = s.data.toList := by
    rw [h1, markS_list (by omega) (by omega), ← e]; rfl
  have h3 : markS n = s := Go.WideShapes.bytes_inj h2
  rw [h3] at he
  simp at he⟩
theorem mark_far {s : ByteArray} {n : Int} (h : 6 < s.size) : ((markS n).toList == s.toList) = false := by
  rw [beq_eq_false_iff_ne]
  intro e
  have e2 : markS n = s := list_inj e
  have := markS_size n
  rw [e2] at this; omega

set_option maxHeartbeats 1600000 in
theorem s_ReadMark (s : ByteArray) (w : World) (hs : s.size ≤ 140737488355328) : Calls Tryd.prog 38 #[.string s] w (MarkRet s w) := by
  go_enter Tryd.func38, Tryd.ntmps38
  go_wp2
  go_loop [3, 4, 15, 34] (fun N I _ _ => ∃ (k : Nat) (n : Int), k ≤ s.size ∧ k ≤ 7 ∧ N = .int .i64 n ∧ I = .int .i64 k ∧ AllIn alnB s.data.toList 0 k ∧ Hid (n = valL (s.data.toList.take k))) (fun _ I _ _ => s.size - (intOf I).toNat)
  case atStart => exact ⟨0, 0, Nat.zero_le _, by omega, rfl, rfl, AllIn.nil _ _ _, by show _ = _; rfl⟩
  case round =>
    obtain ⟨k, n, hk, hk7, rfl, rfl, ha, hn⟩ := hrel
    have hl := size_len s
    have hb : 0 ≤ n ∧ n ≤ 78364164096 := by
      have q1 := valL_lt k (s.data.toList.take k) (by rw [List.length_take]; omega) (aln_take (by omega) ha)
      have q2 := pow7 k hk7
      rw [← hn.out] at q1
      omega
    obtain ⟨b1, b2⟩ := hb
    by_cases hlt : k < s.size ∧ k < 7
    · obtain ⟨hlt, hlt7⟩ := hlt
      have q1 : (k : Int) < s.size := by omega
      have q7 : (k : Int) < 7 := by omega
      by_cases hd : 48 ≤ s[k].toNat ∧ s[k].toNat ≤ 57
      · obtain ⟨c1, c2⟩ := hd
        have n3 : alnB s[k] = true := by simp [alnB, digB, lowB]; omega
        have HA := ha.succ (show alnB (s.data.toList.getD k 0) = true by rw [sget hlt]; exact n3)
        have HN : Hid (36 * n + ((s[k].toNat : Int) - 48) = valL (s.data.toList.take (k + 1))) := by
          have e : digV s[k] = (s[k].toNat : Int) - 48 := by unfold digV digB; simp [c1, c2]
          show _ = _
          rw [valL_take (by omega), ← hn.out, ← getD_lt (by omega), sget hlt, e]; omega
        clear ha hl hn n3
        go_wp2
        all_goals first | (exfalso; simp at *; omega) | skip
        go_round
        case rel => exact ⟨k + 1, _, by omega, by omega, rfl, by go_num, HA, HN⟩
        case measure => simp [intOf]; omega
      · by_cases hd2 : 97 ≤ s[k].toNat ∧ s[k].toNat ≤ 122
        · obtain ⟨c1, c2⟩ := hd2
          have n3 : alnB s[k] = true := by simp [alnB, digB, lowB]; omega
          have HA := ha.succ (show alnB (s.data.toList.getD k 0) = true by rw [sget hlt]; exact n3)
          have HN : Hid (36 * n + ((s[k].toNat : Int) - 97) + 10 = valL (s.data.toList.take (k + 1))) := by
            have e : digV s[k] = (s[k].toNat : Int) - 97 + 10 := by unfold digV digB lowB; simp [c1, c2]; omega
            show _ = _
            rw [valL_take (by omega), ← hn.out, ← getD_lt (by omega), sget hlt, e]; omega
          clear ha hl hn n3 hd
          go_wp2
          all_goals first | (exfalso; simp at *; omega) | skip
          go_round
          case rel => exact ⟨k + 1, _, by omega, by omega, rfl, by go_num, HA, HN⟩
          case measure => simp [intOf]; omega
        · have H : Hid (MarkIs s.data.toList (-1)) := MarkIs.bad (k := k) (by omega) (by rw [sget hlt]; simp [alnB, digB, lowB]; omega)
          clear ha hl hn
          go_wp2
          all_goals first | (go_ret; exact MarkRet.mk H.out) | (exfalso; simp at *; omega)
    · by_cases h0 : s.size = 0
      · have H : Hid (MarkIs s.data.toList (-1)) := MarkIs.long (by omega)
        obtain rfl : s = ⟨#[]⟩ := Go.WideShapes.bytes_inj (by cases hq : s.data.toList with
          | nil => rfl
          | cons a r => rw [hq] at hl; simp at hl; omega)
        clear ha hl hn
        obtain rfl : k = 0 := by have : k ≤ 0 := hk; omega
        go_wp2
        go_ret
        exact MarkRet.mk H.out
      · have hne : (s.toList == ([] : List UInt8)) = false := by
          cases hq : s.toList with
          | nil => rw [ByteArray.toList_eq] at hq; rw [hq] at hl; simp at hl; omega
          | cons a r => rfl
        cases he : ((markS n).toList == s.toList)
        · have H : Hid (MarkIs s.data.toList (-1)) := by
            by_cases h6 : 6 < s.size
            · exact MarkIs.long (by omega)
            · refine mark_not (n := n) ?_ he
              rw [hn.out, List.take_of_length_le (by omega)]
          clear ha hl hn
          go_wp2_with (go_at_call 21; refine (s_MarkText _ _).mono ?_; rintro e w' ⟨rfl, rfl⟩)
          all_goals first | (go_ret; exact MarkRet.mk H.out) | (exfalso; simp at *; omega)
        · have h6 : s.size ≤ 6 := by
            rcases Nat.lt_or_ge 6 s.size with h | h
            · rw [mark_far h] at he; cases he
            · exact h
          have H : Hid (MarkIs s.data.toList n) := mark_is (by omega) (by rw [hn.out, List.take_of_length_le (by omega)]) he
          clear ha hl hn
          go_wp2_with (go_at_call 21; refine (s_MarkText _ _).mono ?_; rintro e w' ⟨rfl, rfl⟩)
          all_goals first | (go_ret; exact MarkRet.mk H.out) | (exfalso; simp at *; omega)
end Go.Proofs.YtackffegdmohiaaDoor
