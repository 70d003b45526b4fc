/- FnMergeFeeds: for every input the law returns true, and each argument reads afterwards as it read before. No condition. -/
import Derived.Test.YtlmpkajnbdhppaaRows
import Derived.WalkKit
import Derived.ProofKit
import Derived.OpenShut
import Derived.ChangeOld
import Derived.Below
import Derived.Test.YtlmpkajnbdhppaaOpen
import Derived.Test.YtlmpkajnbdhppaaTypes
import Derived.Test.YtlmpkajnbdhppaaMrgS
import Derived.Test.YtlmpkajnbdhppaaChgI
import Derived.Test.YtlmpkajnbdhppaaDrawGg
import Derived.Test.YtlmpkajnbdhppaaSameItem
import Derived.Test.YtlmpkajnbdhppaaAlive
namespace Go.Proofs.Ytlmpkajnbdhppaa.fnMergeFeeds
open Go.ChangeShapes Go.WideShapes Go.ChangeAt Go.RowKit
open Go.ChangeMaps (open_string shut_string)
set_option linter.unusedVariables false

theorem own : ownKnob Try.prog.godebug = none := by kernel_rfl
theorem laidOut : laidOutB Try.prog = true := by kernel_rfl

theorem openByte {H : Type} {enc : TypeId × Value → H} {w : World} (fuel : Nat) (cs : List Value) (x : DataW H × List MemPlace) (h : DataW.trod enc Try.prog w 0 (fun _ => true) true fuel 5 cs = some x) : ∃ y : UInt8, cs = byteS.enc y ∧ True := by
  obtain ⟨s, rfl, _, hb⟩ := DataW.trod_int Try.underlying5 h
  have := bounds_u8 hb
  exact ⟨UInt8.ofNat s.toNat, by simp [byteS]; omega, trivial⟩

theorem merge_dr {b a : List Itm} (hb : ∀ y ∈ b, DrItm y) (ha : ∀ y ∈ a, DrItm y) : ∀ y ∈ mergeL b a, DrItm y := by
  intro y hy
  rcases Nat.eq_zero_or_pos (mergeL b a).length with h | h
  · rw [List.eq_nil_of_length_eq_zero h] at hy; cases hy
  · rw [(merge_parts h).2.2.1] at hy
    rcases List.mem_append.1 hy with hy | hy
    · obtain ⟨z, hz, rfl⟩ := List.mem_map.1 hy
      rcases now_mem a z with h1 | h1
      · exact ha _ h1
      · rw [h1]; exact hb z hz
    · exact ha y (fresh_mem hy).1
theorem merge_gone0 {b a : List Itm} (h : 0 < (mergeL b a).length) : goneL b (mergeL b a) = [] := by unfold goneL; rw [merge_gone h]; rfl
theorem merge_len8 (b a : List Itm) : (mergeL b a).length ≤ 8 := by
  rcases Nat.eq_zero_or_pos (mergeL b a).length with h | h
  · omega
  · exact (merge_parts h).2.2.2

set_option maxHeartbeats 3200000 in
theorem walk (v0 : Value) (l0 : List UInt8) (w : World) (w0 : Sl byteS w v0 l0) (x0 : ∀ y ∈ l0, True) :
    Calls Try.prog 6 #[v0] w fun e w' => e = .returned (.bool true) ∧ Below w.heap.size w w' := by
  obtain ⟨aa, cap, rfl⟩ : ∃ aa cap, v0 = .slice aa l0.length cap := by obtain ⟨a, c, h, _⟩ := w0; exact ⟨a, c, h⟩
  by_cases hlen : l0.length ≤ 1048576
  rotate_left
  · go_enter Try.func6, Try.ntmps6
    go_wp2_with fail
    go_ret
    exact ⟨rfl, Below.refl _ _⟩
  go_enter Try.func6, Try.ntmps6
  go_wp2_with fail
  refine (draw_MergeFeeds _ l0 _ w0).mono ?_
  rintro e w1 ⟨vb, lb, va, la, rfl, h7, h9, drb, dra, sb, sa, hB⟩
  go_wp2_with fail
  refine (i_MergeFeeds _ _ lb la _ sb sa (dr_szl drb) (dr_szl dra)).mono ?_
  rintro e w2 ⟨vx, rfl, ox, hb2⟩
  have tx : Sl itmS w2 vx (mergeL lb la) := Sl.of_owns ox
  have sb2 := sb.mono hb2
  have sa2 := sa.mono hb2
  have b2 := below_trans hB hb2
  clear ox sb sa hB hb2
  go_wp2_with fail
  refine (s_MergeFeeds _ _ lb la _ sb2 sa2 (dr_szl drb) (dr_szl dra)).mono ?_
  rintro e w3 ⟨vy, rfl, oy, hb3⟩
  have ty : Sl itmS w3 vy (mergeL lb la) := Sl.of_owns oy
  have tx3 := tx.mono hb3
  have sb3 := sb2.mono hb3
  have sa3 := sa2.mono hb3
  have b3 := below_trans b2 hb3
  clear oy tx sb2 sa2 b2 hb3
  go_wp2_with fail
  refine (same_Item _ _ (mergeL lb la) _ tx3 ty).mono ?_
  rintro e w4 ⟨rfl, hb4⟩
  have tx4 := tx3.mono hb4
  have sb4 := sb3.mono hb4
  have sa4 := sa3.mono hb4
  have b4 := below_trans b3 hb4
  have drx := merge_dr drb dra
  have hx8 := merge_len8 lb la
  clear ty tx3 sb3 sa3 b3 hb4
  rcases Nat.eq_zero_or_pos (mergeL lb la).length with h0 | h0
  · rw [List.eq_nil_of_length_eq_zero h0] at tx4
    obtain ⟨A, c, rfl⟩ : ∃ A c, vx = .slice A 0 c := by obtain ⟨a, c, h, _⟩ := tx4; exact ⟨a, c, h⟩
    clear h0
    go_wp2_with (first | (go_at_call 12; refine (alive_any _).mono ?_; rintro e w' ⟨rfl, rfl⟩))
    go_ret
    exact ⟨rfl, b4⟩
  · have HV := Lib.hid (merge_valid h0)
    have HN := Lib.hid (merge_new h0)
    have HG := Lib.hid (merge_gone0 h0)
    have HS : Hid (SameIn (mergeL lb la) la) := fun y hy z hz => merge_same h0 hy hz
    have HA : Hid (feedB la = true) := (merge_parts h0).2.1
    generalize mergeL lb la = x at tx4 drx hx8 h0 HV HN HG HS
    obtain ⟨A, c, rfl⟩ : ∃ A c, vx = .slice A x.length c := by obtain ⟨a, c, h, _⟩ := tx4; exact ⟨a, c, h⟩
    have e0 : ((x.length : Int) == 0) = false := by simp; intro e; rw [e] at h0; simp at h0
    have e1 : ¬ (x.length : Int) = 0 := by omega
    have e2 : ¬ x.length = 0 := by omega
    clear h0
    go_wp2_with fail
    refine (i_FeedValid _ x _ tx4 (dr_szl drx)).mono ?_
    rintro e w5 ⟨rfl, hb5⟩
    rw [HV.out]
    have tx5 := tx4.mono hb5
    have sb5 := sb4.mono hb5
    have sa5 := sa4.mono hb5
    have b5 := below_trans b4 hb5
    clear tx4 sb4 sa4 b4 hb5
    go_wp2_with fail
    refine (i_NewItems _ _ x la _ tx5 sa5 (dr_szl drx) (dr_szl dra)).mono ?_
    rintro e w6 ⟨vn, rfl, on, hb6⟩
    rw [HN.out] at on
    obtain ⟨A6, c6, rfl⟩ := own_form on
    have tx6 := tx5.mono hb6
    have sb6 := sb5.mono hb6
    have sa6 := sa5.mono hb6
    have b6 := below_trans b5 hb6
    clear tx5 sb5 sa5 b5 hb6 on
    go_wp2_with fail
    refine (i_ChangedItems_none _ _ x la _ tx6 sa6 (dr_szl drx) (dr_szl dra) HV HA HS).mono ?_
    rintro e w7 ⟨rfl, hb7⟩
    have tx7 := tx6.mono hb7
    have sb7 := sb6.mono hb7
    have b7 := below_trans b6 hb7
    clear tx6 sb6 sa6 b6 hb7
    go_wp2_with fail
    refine (i_GoneKeys _ _ lb x _ sb7 tx7 (dr_szl drb) (dr_szl drx)).mono ?_
    rintro e w8 ⟨vg, rfl, og, hb8⟩
    rw [HG.out] at og
    obtain ⟨A8, c8, rfl⟩ := own_form og
    have b8 := below_trans b7 hb8
    go_wp2_with fail
    go_ret
    exact ⟨rfl, b8⟩

set_option maxRecDepth 100000 in
theorem lifted (os : Os) (started : os.Started) (H : Type) (enc : TypeId × Value → H) :
    ReturnsInHanded {} Try.checked os 6 .any (Rows.fnMergeFeedsSpec.pre6 enc Try.prog Try.f6 Rows.fnMergeFeedsRow.domain false) (Rows.fnMergeFeedsSpec.post enc Try.prog Try.f6 false true false false) := by
  refine returnsInHanded_of_change (C := Try.checked) own started (by kernel_rfl) Try.func6
    (ChangeSpec.witness6 (enc := enc) (C := Try.checked) false ⟨#[], #[.slice none 0 0], []⟩ 8 (by kernel_rfl) (by kernel_rfl) (by kernel_rfl) (by kernel_rfl)) ?_
  intro W base args ds gs before hval0 hW hcnd _
  have hval : ∀ (j : Nat) t v, Try.f6.params[j]? = some t → args[j]? = some v → Value.okWide Try.prog W .any base t v := hval0
  have hW' := hW
  obtain ⟨p, q, hA0, hV, rfl, hfz, hnd⟩ := hW
  have hA : DataW.TrodAll enc Try.prog W 0 (fun _ => true) true Try.f6.params.toList args.toList ds p := hA0
  rw [Try.params6] at hA hval
  obtain ⟨v0, vs0, d0, ds0, p0, q0, hargs, rfl, rfl, h0, r0⟩ := trodAll_cons hA
  obtain ⟨rfl, rfl, rfl⟩ := trodAll_nil r0
  obtain rfl : args = #[v0] := by cases args; simp_all
  obtain ⟨rfl, rfl⟩ := trodVars_none hV
  have k0 := h0
  have lt0 : ∀ x ∈ p0, x.block < W.heap.size := by obtain ⟨m, hm⟩ := k0; exact DataW.trod_lt m _ _ _ hm
  obtain ⟨aa0, len0, cap0, rfl⟩ := okWide_slice Try.underlying22 (hval 0 22 v0 rfl rfl)
  obtain ⟨l0, w0, x0⟩ : ∃ l, Sl byteS W (.slice aa0 len0 cap0) l ∧ ∀ y ∈ l, True := by obtain ⟨fuel, hf⟩ := h0; exact open_rows byteS (fun y => True) Try.underlying22 (by kernel_rfl) openByte hf
  clear hA0 hval0
  refine (walk _ l0 W w0 x0).mono fun e W' ⟨he, bel⟩ => ?_
  subst he
  exact ⟨_, rfl, _, _, _, [], _, [], hW', trodAll_mk1 (shut_bool Try.underlying4 _), (trodAll_cons_mk (Below.trod laidOut (by kernel_rfl) (of_decide_eq_true (by kernel_rfl)) k0 bel lt0) trodAll_mk0), rfl, bel.frame _, fun h => by cases h⟩

theorem over : Rows.fnMergeFeedsRow.holds Try.pinned (OpenSpec.ofChange Rows.fnMergeFeedsSpec) :=
  OpenClaim.holds_of_wide 6 Try.f6 rfl rfl rfl rfl rfl rfl rfl ⟨rfl, rfl, rfl, rfl, rfl⟩ rfl rfl rfl rfl rfl (by kernel_rfl) Try.func6 (by kernel_rfl)
    (of_decide_eq_true (by kernel_rfl)) (by unfold Func.isWrapper; first | (rw [if_pos (by decide +kernel)]; kernel_rfl) | (rw [if_neg (by decide +kernel)]; exact ⟨rfl, rfl⟩))
    (fun os started H enc _ => lifted os started H enc)

theorem proved : Rows.FnMergeFeedsSaid := over
end Go.Proofs.Ytlmpkajnbdhppaa.fnMergeFeeds
