/- FnGoneKeys: for every input the law returns true, and each argument reads afterwards as it read before. No condition. -/
import Derived.Test.YtlmpkajnbdhppaaRows
import Derived.WalkKit
import Derived.ProofKit
import Derived.OpenShut
import Derived.ChangeOld
import Derived.Below
import Derived.Test.YtlmpkajnbdhppaaOpen
import Derived.Test.YtlmpkajnbdhppaaTypes
import Derived.Test.YtlmpkajnbdhppaaNewS
import Derived.Test.YtlmpkajnbdhppaaDrawGg
import Derived.Test.YtlmpkajnbdhppaaSameTxt
import Derived.Test.YtlmpkajnbdhppaaAlive
namespace Go.Proofs.Ytlmpkajnbdhppaa.fnGoneKeys
open Go.ChangeShapes Go.WideShapes Go.ChangeAt Go.RowKit
open Go.ChangeMaps (open_string shut_string)
set_option linter.unusedVariables false

theorem own : ownKnob Try.prog.godebug = none := by kernel_rfl
theorem laidOut : laidOutB Try.prog = true := by kernel_rfl

theorem openByte {H : Type} {enc : TypeId × Value → H} {w : World} (fuel : Nat) (cs : List Value) (x : DataW H × List MemPlace) (h : DataW.trod enc Try.prog w 0 (fun _ => true) true fuel 5 cs = some x) : ∃ y : UInt8, cs = byteS.enc y ∧ True := by
  obtain ⟨s, rfl, _, hb⟩ := DataW.trod_int Try.underlying5 h
  have := bounds_u8 hb
  exact ⟨UInt8.ofNat s.toNat, by simp [byteS]; omega, trivial⟩

theorem gone_key (b a : List Itm) (k : Nat) (h : k < (goneL b a).length) (h2 : k < (newL a b).length) : (newL a b)[k].key = (goneL b a)[k] := by simp [goneL]

set_option maxHeartbeats 3200000 in
theorem walk (v0 : Value) (l0 : List UInt8) (w : World) (w0 : Sl byteS w v0 l0) (x0 : ∀ y ∈ l0, True) :
    Calls Try.prog 4 #[v0] w fun e w' => e = .returned (.bool true) ∧ Below w.heap.size w w' := by
  obtain ⟨aa, cap, rfl⟩ : ∃ aa cap, v0 = .slice aa l0.length cap := by obtain ⟨a, c, h, _⟩ := w0; exact ⟨a, c, h⟩
  by_cases hlen : l0.length ≤ 1048576
  rotate_left
  · go_enter Try.func4, Try.ntmps4
    go_wp2_with fail
    go_ret
    exact ⟨rfl, Below.refl _ _⟩
  go_enter Try.func4, Try.ntmps4
  go_wp2_with fail
  refine (draw_GoneKeys _ l0 _ w0).mono ?_
  rintro e w1 ⟨vb, lb, va, la, rfl, h7, h9, drb, dra, sb, sa, hB⟩
  go_wp2_with fail
  refine (i_GoneKeys _ _ lb la _ sb sa (dr_szl drb) (dr_szl dra)).mono ?_
  rintro e w2 ⟨vx, rfl, ox, hb2⟩
  have tx : Sl strS w2 vx (goneL lb la) := Sl.of_owns ox
  have sb2 := sb.mono hb2
  have sa2 := sa.mono hb2
  have b2 := below_trans hB hb2
  clear ox sb sa hB hb2
  go_wp2_with fail
  refine (s_GoneKeys _ _ lb la _ sb2 sa2 (dr_szl drb) (dr_szl dra)).mono ?_
  rintro e w3 ⟨vy, rfl, oy, hb3⟩
  have ty : Sl strS w3 vy (goneL lb la) := Sl.of_owns oy
  have tx3 := tx.mono hb3
  have sb3 := sb2.mono hb3
  have sa3 := sa2.mono hb3
  have b3 := below_trans b2 hb3
  clear oy tx sb2 sa2 b2 hb3
  go_wp2_with fail
  refine (same_Text _ _ (goneL lb la) _ tx3 ty).mono ?_
  rintro e w4 ⟨rfl, hb4⟩
  have tx4 := tx3.mono hb4
  have sb4 := sb3.mono hb4
  have sa4 := sa3.mono hb4
  have b4 := below_trans b3 hb4
  clear ty tx3 sb3 sa3 b3 hb4
  go_wp2_with fail
  refine (i_NewItems _ _ la lb _ sa4 sb4 (dr_szl dra) (dr_szl drb)).mono ?_
  rintro e w5 ⟨vn, rfl, on, hb5⟩
  have tn5 : Sl itmS w5 vn (newL la lb) := Sl.of_owns on
  have tx5 := tx4.mono hb5
  have sa5 := sa4.mono hb5
  have b5 := below_trans b4 hb5
  have hgl := gone_len lb la
  have hkey := Lib.hid (gone_key lb la)
  have hway := Lib.hid (gone_away lb la)
  have h8 := (newL_len la lb).2
  clear on tx4 sb4 sa4 b4 hb5
  generalize newL la lb = nn at hgl hkey tn5 h8
  generalize goneL lb la = gg at hgl hkey hway tx5
  obtain ⟨A, c, rfl⟩ : ∃ A c, vx = .slice A gg.length c := by obtain ⟨a, c, h, _⟩ := tx5; exact ⟨a, c, h⟩
  obtain ⟨A2, c2, rfl⟩ : ∃ A c, vn = .slice A nn.length c := by obtain ⟨a, c, h, _⟩ := tn5; exact ⟨a, c, h⟩
  have H1 : ((nn.length : Int) == (gg.length : Int)) = true := by simp; omega
  have H2 : ((nn.length : Int) != (gg.length : Int)) = false := by simp; omega
  have hle := Lib.hid hgl
  clear hgl
  go_wp2_with fail
  go_loopw [7] (fun I wr => ∃ k : Nat, k ≤ gg.length ∧ I = .int .i64 k ∧ Below w5.heap.size w5 wr) (fun I _ => gg.length - (intOf I).toNat)
  case atStart => exact ⟨0, Nat.zero_le _, rfl, Below.refl _ _⟩
  case round =>
    obtain ⟨wo, rfl⟩ : ∃ wo : World, wo = wr := ⟨_, rfl⟩
    obtain ⟨k, hk, rfl, hB⟩ := hrel
    by_cases hlt : k < gg.length
    · have hn := hle.out
      obtain ⟨b, off, c', hv, hcap, hbs, hc⟩ := SlStr.open tx5 (by omega)
      injection hv with hv1 _ hv3
      subst hv1; subst hv3
      have hkn : k < nn.length := by omega
      obtain ⟨b2, off2, c2', hv, hcap2, hbs2, hc2⟩ := SlItm.open tn5 (by omega)
      injection hv with hv1 _ hv3
      subst hv1; subst hv3
      have hc0 := hc
      have c0 := keep_cell hB (hc k hlt)
      have d0 := (hc2 k hkn).1
      rw [hkey.out k hlt hkn] at d0
      have HN : Hid (withL la gg[k].toList = none) := hway.out k hlt
      have q0 : (0 : Int) ≤ (k : Int) := by omega
      have q1 : (k : Int) < (gg.length : Int) := by omega
      have q2 : (k : Int) < (nn.length : Int) := by omega
      clear hc hc2 hn
      go_wp2_with fail
      refine (i_ItemWith _ la gg[k] _ (sa5.mono hB) (dr_szl dra)).mono ?_
      rintro e w6 ⟨rfl, hb6⟩
      rw [HN.out]
      dsimp only [Option.getD, Option.isSome, itmV, noItm]
      have hB6 := below_trans hB hb6
      clear c0 hB hb6
      have e0 := keep_cell (below1 w6 (.cells #[.string ⟨#[]⟩, .string ⟨#[]⟩, .string ⟨#[]⟩, .int .i64 0] 30)) (keep_cell hB6 (hc0 k hlt))
      have e1 := keep_cell (below1 w6 (.cells #[.string ⟨#[]⟩, .string ⟨#[]⟩, .string ⟨#[]⟩, .int .i64 0] 30)) (keep_cell hB6 d0)
      have hB7 := below_trans hB6 (below1 w6 (.cells #[.string ⟨#[]⟩, .string ⟨#[]⟩, .string ⟨#[]⟩, .int .i64 0] 30))
      clear d0 hc0
      go_wp2_with fail
      go_quiet (fail)
      go_wp2_with fail
      go_roundw
      case rel => exact ⟨k + 1, by omega, by go_num, belowN hB7 _⟩
      case measure => simp [intOf]; omega
    · go_wp2_with (first | (go_at_call 12; refine (alive_any _).mono ?_; rintro e w' ⟨rfl, rfl⟩))
      go_ret
      exact ⟨rfl, below_trans b5 hB⟩

set_option maxRecDepth 100000 in
theorem lifted (os : Os) (started : os.Started) (H : Type) (enc : TypeId × Value → H) :
    ReturnsInHanded {} Try.checked os 4 .any (Rows.fnGoneKeysSpec.pre6 enc Try.prog Try.f4 Rows.fnGoneKeysRow.domain false) (Rows.fnGoneKeysSpec.post enc Try.prog Try.f4 false true false false) := by
  refine returnsInHanded_of_change (C := Try.checked) own started (by kernel_rfl) Try.func4
    (ChangeSpec.witness6 (enc := enc) (C := Try.checked) false ⟨#[], #[.slice none 0 0], []⟩ 8 (by kernel_rfl) (by kernel_rfl) (by kernel_rfl) (by kernel_rfl)) ?_
  intro W base args ds gs before hval0 hW hcnd _
  have hval : ∀ (j : Nat) t v, Try.f4.params[j]? = some t → args[j]? = some v → Value.okWide Try.prog W .any base t v := hval0
  have hW' := hW
  obtain ⟨p, q, hA0, hV, rfl, hfz, hnd⟩ := hW
  have hA : DataW.TrodAll enc Try.prog W 0 (fun _ => true) true Try.f4.params.toList args.toList ds p := hA0
  rw [Try.params4] at hA hval
  obtain ⟨v0, vs0, d0, ds0, p0, q0, hargs, rfl, rfl, h0, r0⟩ := trodAll_cons hA
  obtain ⟨rfl, rfl, rfl⟩ := trodAll_nil r0
  obtain rfl : args = #[v0] := by cases args; simp_all
  obtain ⟨rfl, rfl⟩ := trodVars_none hV
  have k0 := h0
  have lt0 : ∀ x ∈ p0, x.block < W.heap.size := by obtain ⟨m, hm⟩ := k0; exact DataW.trod_lt m _ _ _ hm
  obtain ⟨aa0, len0, cap0, rfl⟩ := okWide_slice Try.underlying22 (hval 0 22 v0 rfl rfl)
  obtain ⟨l0, w0, x0⟩ : ∃ l, Sl byteS W (.slice aa0 len0 cap0) l ∧ ∀ y ∈ l, True := by obtain ⟨fuel, hf⟩ := h0; exact open_rows byteS (fun y => True) Try.underlying22 (by kernel_rfl) openByte hf
  clear hA0 hval0
  refine (walk _ l0 W w0 x0).mono fun e W' ⟨he, bel⟩ => ?_
  subst he
  exact ⟨_, rfl, _, _, _, [], _, [], hW', trodAll_mk1 (shut_bool Try.underlying4 _), (trodAll_cons_mk (Below.trod laidOut (by kernel_rfl) (of_decide_eq_true (by kernel_rfl)) k0 bel lt0) trodAll_mk0), rfl, bel.frame _, fun h => by cases h⟩

theorem over : Rows.fnGoneKeysRow.holds Try.pinned (OpenSpec.ofChange Rows.fnGoneKeysSpec) :=
  OpenClaim.holds_of_wide 4 Try.f4 rfl rfl rfl rfl rfl rfl rfl ⟨rfl, rfl, rfl, rfl, rfl⟩ rfl rfl rfl rfl rfl (by kernel_rfl) Try.func4 (by kernel_rfl)
    (of_decide_eq_true (by kernel_rfl)) (by unfold Func.isWrapper; first | (rw [if_pos (by decide +kernel)]; kernel_rfl) | (rw [if_neg (by decide +kernel)]; exact ⟨rfl, rfl⟩))
    (fun os started H enc _ => lifted os started H enc)

theorem proved : Rows.FnGoneKeysSaid := over
end Go.Proofs.Ytlmpkajnbdhppaa.fnGoneKeys
