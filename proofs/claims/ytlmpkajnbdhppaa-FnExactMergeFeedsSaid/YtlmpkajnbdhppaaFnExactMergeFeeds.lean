/- FnExactMergeFeeds: for every input the law returns true, and each argument reads afterwards as it read before. No condition. -/
import Derived.Test.YtlmpkajnbdhppaaRows
import Derived.WalkKit
import Derived.ProofKit
import Derived.OpenShut
import Derived.ChangeOld
import Derived.Below
import Derived.Test.YtlmpkajnbdhppaaOpen
import Derived.Test.YtlmpkajnbdhppaaTypes
import Derived.Test.YtlmpkajnbdhppaaMrgS
import Derived.Test.YtlmpkajnbdhppaaMkItem
import Derived.Test.YtlmpkajnbdhppaaOwn
namespace Go.Proofs.Ytlmpkajnbdhppaa.fnExactMergeFeeds
open Go.ChangeShapes Go.WideShapes Go.ChangeAt Go.RowKit
open Go.ChangeMaps (open_string shut_string)
set_option linter.unusedVariables false

theorem own : ownKnob Try.prog.godebug = none := by kernel_rfl
theorem laidOut : laidOutB Try.prog = true := by kernel_rfl

def OkItm (y : Itm) : Prop := y.key.size ≤ maxLen ∧ y.title.size ≤ maxLen ∧ y.body.size ≤ maxLen ∧ (Lit.int .i64 y.day).wf = true
theorem openItm {H : Type} {enc : TypeId × Value → H} {w : World} (fuel : Nat) (cs : List Value) (x : DataW H × List MemPlace) (h : DataW.trod enc Try.prog w 0 (fun _ => true) true fuel 58 cs = some x) : ∃ y : Itm, cs = itmS.enc y ∧ OkItm y := by
  obtain ⟨xs, n, _, _, hl, hx, hf⟩ := DataW.trod_struct Try.underlying58 h
  have hl2 : cs.length = 4 := hl.trans (by kernel_rfl)
  have hx2 : xs.length = 4 := hx
  match cs, hl2, xs, hx2 with
  | [c0, c1, c2, c3], _, [x0, x1, x2, x3], _ =>
    have e0 : DataW.trod enc Try.prog w 0 (fun _ => true) true n 9 [c0] = some x0 := by have := hf 0 _ rfl; simpa [show Try.prog.cellsOf 9 = 1 by kernel_rfl] using this
    obtain ⟨s0, hs0, _, hb0⟩ := DataW.trod_string Try.underlying9 e0
    simp only [List.cons.injEq, and_true] at hs0
    subst hs0
    have e1 : DataW.trod enc Try.prog w 0 (fun _ => true) true n 9 [c1] = some x1 := by have := hf 1 _ rfl; simpa [show Try.prog.cellsOf 9 = 1 by kernel_rfl] using this
    obtain ⟨s1, hs1, _, hb1⟩ := DataW.trod_string Try.underlying9 e1
    simp only [List.cons.injEq, and_true] at hs1
    subst hs1
    have e2 : DataW.trod enc Try.prog w 0 (fun _ => true) true n 9 [c2] = some x2 := by have := hf 2 _ rfl; simpa [show Try.prog.cellsOf 9 = 1 by kernel_rfl] using this
    obtain ⟨s2, hs2, _, hb2⟩ := DataW.trod_string Try.underlying9 e2
    simp only [List.cons.injEq, and_true] at hs2
    subst hs2
    have e3 : DataW.trod enc Try.prog w 0 (fun _ => true) true n 3 [c3] = some x3 := by have := hf 3 _ rfl; simpa [show Try.prog.cellsOf 3 = 1 by kernel_rfl] using this
    obtain ⟨s3, hs3, _, hb3⟩ := DataW.trod_int Try.underlying3 e3
    simp only [List.cons.injEq, and_true] at hs3
    subst hs3
    exact ⟨⟨s0, s1, s2, s3⟩, rfl, hb0, hb1, hb2, hb3⟩

theorem sz_of {l : List Itm} (h : SzItm l) : SzL l := fun y hy => by have := h.2 y hy; exact ⟨by omega, by omega, by omega⟩
theorem merge_len (b a : List Itm) : (mergeL b a).length ≤ 8 := by
  rcases Nat.eq_zero_or_pos (mergeL b a).length with h | h
  · omega
  · exact (merge_parts h).2.2.2

set_option maxHeartbeats 3200000 in
theorem walk (v0 : Value) (l0 : List Itm) (v1 : Value) (l1 : List Itm) (w : World) (w0 : Sl itmS w v0 l0) (x0 : ∀ y ∈ l0, OkItm y) (w1 : Sl itmS w v1 l1) (x1 : ∀ y ∈ l1, OkItm y) :
    Calls Try.prog 5 #[v0, v1] w fun e w' => e = .returned (.bool true) ∧ Below w.heap.size w w' := by
  go_enter Try.func5, Try.ntmps5
  go_wp2_with fail
  refine (szItmS_any v0 l0 1048576 _ _ rfl w0 (fun y hy => ⟨(x0 y hy).1, (x0 y hy).2.1, (x0 y hy).2.2.1⟩) (Nat.le_refl _)).mono ?_
  rintro x u1 ⟨r, rfl, hr, hb1⟩
  rcases hr with rfl | ⟨hS, hr0, hr1⟩
  · go_wp2_with fail
    go_ret
    exact ⟨rfl, hb1⟩
  have hz := sz_of hS
  have hl0 := hS.1
  obtain ⟨q, rfl⟩ := Int.eq_ofNat_of_zero_le hr0
  clear hr0
  go_wp2_with fail
  refine (szItmS_any v1 l1 q _ _ rfl (w1.mono hb1) (fun y hy => ⟨(x1 y hy).1, (x1 y hy).2.1, (x1 y hy).2.2.1⟩) (by omega)).mono ?_
  rintro x u2 ⟨r, rfl, hr, hb2⟩
  have b2 := below_trans hb1 hb2
  clear hb1 hb2
  rcases hr with rfl | ⟨hS1, hr0, hr1⟩
  · go_wp2_with fail
    go_ret
    exact ⟨rfl, b2⟩
  have hz1 := sz_of hS1
  have hl1 := hS1.1
  obtain ⟨q1, rfl⟩ := Int.eq_ofNat_of_zero_le hr0
  clear hr0
  go_wp2_with fail
  refine (toItemS_any _ l0 _ (w0.mono b2) hl0).mono ?_
  rintro x u3 ⟨p1, rfl, o1, hb3⟩
  have t1 : Sl itmS u3 p1 l0 := Sl.of_owns o1
  have b3 := below_trans b2 hb3
  clear o1 hb3 b2
  go_wp2_with fail
  refine (toItemS_any _ l1 _ (w1.mono b3) hl1).mono ?_
  rintro x u4 ⟨p2, rfl, o2, hb4⟩
  have t2 : Sl itmS u4 p2 l1 := Sl.of_owns o2
  have b4 := below_trans b3 hb4
  have t1' := t1.mono hb4
  clear o2 hb4 b3 t1
  go_wp2_with fail
  refine (s_MergeFeeds _ _ l0 l1 _ t1' t2 hz hz1).mono ?_
  rintro x u5 ⟨vw, rfl, ow, hb5⟩
  have b5 := below_trans b4 hb5
  have lw : ∀ k, vw.ownBlock = some k → k < u5.heap.size := fun k hk => (ow.lt k hk).2
  clear t1' t2 hb5 b4
  go_wp2_with fail
  refine (toItemS_any _ l0 _ (w0.mono b5) hl0).mono ?_
  rintro x u6 ⟨vx, rfl, ox, hb6⟩
  have b6 := below_trans b5 hb6
  replace ow := owns_below ow hb6
  have lx : ∀ k, vx.ownBlock = some k → k < u6.heap.size := fun k hk => (ox.lt k hk).2
  have s56 := hb6.size
  clear hb6 
  go_wp2_with fail
  refine (toItemS_any _ l1 _ (w1.mono b6) hl1).mono ?_
  rintro x u7 ⟨vy, rfl, oy, hb7⟩
  have b7 := below_trans b6 hb7
  replace ow := owns_below ow hb7
  replace ox := owns_below ox hb7
  have ly : ∀ k, vy.ownBlock = some k → k < u7.heap.size := fun k hk => (oy.lt k hk).2
  have s67 := hb7.size
  have tx : Sl itmS u7 vx l0 := Sl.of_owns ox
  have ty : Sl itmS u7 vy l1 := Sl.of_owns oy
  clear hb7
  go_wp2_with fail
  refine (i_MergeFeeds _ _ l0 l1 _ tx ty hz hz1).mono ?_
  rintro x u8 ⟨vg, rfl, og, hb8⟩
  have b8 := below_trans b7 hb8
  replace ow := owns_below ow hb8
  replace ox := owns_below ox hb8
  replace oy := owns_below oy hb8
  have s78 := hb8.size
  have hlo := merge_len l0 l1
  have tg : Sl itmS u8 vg (mergeL l0 l1) := Sl.of_owns og
  have tw : Sl itmS u8 vw (mergeL l0 l1) := Sl.of_owns ow
  have s05 := b5.size
  clear hb8 tx ty b6 b7
  obtain ⟨out, hout⟩ : ∃ out, out = mergeL l0 l1 := ⟨_, rfl⟩
  have HO : Hid (mergeL l0 l1 = out) := hout.symm
  rw [← hout] at ow og hlo tg tw
  clear hout
  go_wp2_with fail
  refine (eqItemS_same _ _ out _ tg tw).mono ?_
  rintro x u9 ⟨rfl, hb9⟩
  have b9 := below_trans b8 hb9
  go_wp2_with fail
  refine (toItemS_any _ l0 _ (w0.mono b9) hl0).mono ?_
  rintro x u10 ⟨p3, rfl, o3, hb10⟩
  have hb910 := below_trans hb9 hb10
  have t3 : Sl itmS u10 p3 l0 := Sl.of_owns o3
  have tx : Sl itmS u10 vx l0 := (Sl.of_owns ox).mono hb910
  have b10 := below_trans b9 hb10
  clear o3 hb9 hb10 b9 tg tw
  go_wp2_with fail
  refine (eqItemS_same _ _ l0 _ tx t3).mono ?_
  rintro x u11 ⟨rfl, hb11⟩
  have hb811 := below_trans hb910 hb11
  have b11 := below_trans b10 hb11
  clear t3 tx hb910 hb11 b10
  go_wp2_with fail
  refine (toItemS_any _ l1 _ (w1.mono b11) hl1).mono ?_
  rintro x u12 ⟨p4, rfl, o4, hb12⟩
  have hb812 := below_trans hb811 hb12
  have t4 : Sl itmS u12 p4 l1 := Sl.of_owns o4
  have ty : Sl itmS u12 vy l1 := (Sl.of_owns oy).mono hb812
  have b12 := below_trans b11 hb12
  clear o4 hb811 hb12 b11
  go_wp2_with fail
  refine (eqItemS_same _ _ l1 _ ty t4).mono ?_
  rintro x u13 ⟨rfl, hb13⟩
  have hb813 := below_trans hb812 hb13
  have b13 := below_trans b12 hb13
  replace ow := owns_below ow hb813
  replace ox := owns_below ox hb813
  replace oy := owns_below oy hb813
  replace og := owns_below og hb813
  clear t4 ty hb812 hb13 hb813 b12 b8
  go_wp2_with fail
  refine (markItemS_any _ l0 _ 1 _ _ rfl ox (Nat.le_refl _) (by decide) hl0).mono ?_
  rintro x u14 ⟨rfl, _, hg14⟩
  have lowx : ∀ k, vx.ownBlock = some k → u5.heap.size ≤ k := fun k hk => (ox.lt k hk).1
  replace ow := kept_low ow lw hg14 lowx
  replace oy := kept_high oy hg14 lx
  replace og := kept_high og hg14 (fun k hk => by have := lx k hk; omega)
  have b14 : Below w.heap.size w u14 := b13.grown hg14 b13.size (fun k hk => by have := lowx k hk; omega)
  clear hg14 b13 ox lx lowx
  go_wp2_with fail
  refine (markItemS_any _ l1 _ (1 + 4 * l0.length) _ _ rfl oy (by omega) (by omega) hl1).mono ?_
  rintro x u15 ⟨rfl, _, hg15⟩
  have lowy : ∀ k, vy.ownBlock = some k → u6.heap.size ≤ k := fun k hk => (oy.lt k hk).1
  replace ow := kept_low ow lw hg15 (fun k hk => by have := lowy k hk; omega)
  replace og := kept_high og hg15 ly
  have b15 : Below w.heap.size w u15 := b14.grown hg15 b14.size (fun k hk => by have := lowy k hk; omega)
  have tg : Sl itmS u15 vg out := Sl.of_owns og
  have tw : Sl itmS u15 vw out := Sl.of_owns ow
  clear hg15 b14 oy ly lowy
  have k0 : ¬ (((1 + 4 * l0.length + 4 * l1.length : Nat) : Int) < 0) := by omega
  go_wp2_with fail
  refine (eqItemS_same _ _ out _ tg tw).mono ?_
  rintro x u16 ⟨rfl, hb16⟩
  replace og := owns_below og hb16
  replace ow := owns_below ow hb16
  have b16 := below_trans b15 hb16
  clear tg tw hb16 b15
  go_wp2_with fail
  refine (markItemS_any _ out _ 1 _ _ rfl og (Nat.le_refl _) (by decide) (by omega)).mono ?_
  rintro x u17 ⟨rfl, og17, hg17⟩
  have lowg : ∀ k, vg.ownBlock = some k → u7.heap.size ≤ k := fun k hk => (og.lt k hk).1
  replace ow := kept_low ow lw hg17 (fun k hk => by have := lowg k hk; omega)
  have b17 : Below w.heap.size w u17 := b16.grown hg17 b16.size (fun k hk => by have := lowg k hk; omega)
  have tm : Sl itmS u17 vg (mkItemL out.length 1) := Sl.of_owns (by rw [mkItemL_len]; exact og17)
  clear og hg17 b16 og17 lowg
  go_wp2_with fail
  refine (heldItemS_any _ out.length 1 _ _ rfl tm (Nat.le_refl _) (by decide) (by omega)).mono ?_
  rintro x u18 ⟨rfl, hb18⟩
  replace ow := owns_below ow hb18
  replace tm := tm.mono hb18
  have b18 := below_trans b17 hb18
  clear b17 hb18
  go_wp2_with fail
  refine (toItemS_any _ l0 _ (w0.mono b18) hl0).mono ?_
  rintro x u19 ⟨p5, rfl, o5, hb19⟩
  have t5 : Sl itmS u19 p5 l0 := Sl.of_owns o5
  have b19 := below_trans b18 hb19
  clear o5
  go_wp2_with fail
  refine (toItemS_any _ l1 _ (w1.mono b19) hl1).mono ?_
  rintro x u20 ⟨p6, rfl, o6, hb20⟩
  have t6 : Sl itmS u20 p6 l1 := Sl.of_owns o6
  have t5' := t5.mono hb20
  have b20 := below_trans b19 hb20
  have hb1820 := below_trans hb19 hb20
  clear o6 hb19 hb20 b18 b19 t5
  go_wp2_with fail
  refine (i_MergeFeeds _ _ l0 l1 _ t5' t6 hz hz1).mono ?_
  rintro x u21 ⟨vh, rfl, oh, hb21⟩
  have HE : Hid (mergeL l0 l1 = out) := HO
  rw [HE.out] at oh
  have hb1821 := below_trans hb1820 hb21
  have th : Sl itmS u21 vh out := Sl.of_owns oh
  have tw : Sl itmS u21 vw out := (Sl.of_owns ow).mono hb1821
  replace tm := tm.mono hb1821
  have b21 := below_trans b20 hb21
  clear oh ow hb1820 hb21 hb1821 b20 t5' t6
  go_wp2_with fail
  refine (eqItemS_same _ _ out _ th tw).mono ?_
  rintro x u22 ⟨rfl, hb22⟩
  replace tm := tm.mono hb22
  have b22 := below_trans b21 hb22
  clear th tw hb22 b21
  go_wp2_with fail
  refine (heldItemS_any _ out.length 1 _ _ rfl tm (Nat.le_refl _) (by decide) (by omega)).mono ?_
  rintro x u23 ⟨rfl, hb23⟩
  have b23 := below_trans b22 hb23
  go_wp2_with fail
  go_ret
  exact ⟨rfl, b23⟩

set_option maxRecDepth 100000 in
theorem lifted (os : Os) (started : os.Started) (H : Type) (enc : TypeId × Value → H) :
    ReturnsInHanded {} Try.checked os 5 .any (Rows.fnExactMergeFeedsSpec.pre6 enc Try.prog Try.f5 Rows.fnExactMergeFeedsRow.domain false) (Rows.fnExactMergeFeedsSpec.post enc Try.prog Try.f5 false true false false) := by
  refine returnsInHanded_of_change (C := Try.checked) own started (by kernel_rfl) Try.func5
    (ChangeSpec.witness6 (enc := enc) (C := Try.checked) false ⟨#[], #[.slice none 0 0, .slice none 0 0], []⟩ 8 (by kernel_rfl) (by kernel_rfl) (by kernel_rfl) (by kernel_rfl)) ?_
  intro W base args ds gs before hval0 hW hcnd _
  have hval : ∀ (j : Nat) t v, Try.f5.params[j]? = some t → args[j]? = some v → Value.okWide Try.prog W .any base t v := hval0
  have hW' := hW
  obtain ⟨p, q, hA0, hV, rfl, hfz, hnd⟩ := hW
  have hA : DataW.TrodAll enc Try.prog W 0 (fun _ => true) true Try.f5.params.toList args.toList ds p := hA0
  rw [Try.params5] at hA hval
  obtain ⟨v0, vs0, d0, ds0, p0, q0, hargs, rfl, rfl, h0, r0⟩ := trodAll_cons hA
  obtain ⟨v1, vs1, d1, ds1, p1, q1, rfl, rfl, rfl, h1, r1⟩ := trodAll_cons r0
  obtain ⟨rfl, rfl, rfl⟩ := trodAll_nil r1
  obtain rfl : args = #[v0, v1] := by cases args; simp_all
  obtain ⟨rfl, rfl⟩ := trodVars_none hV
  have k0 := h0
  have lt0 : ∀ x ∈ p0, x.block < W.heap.size := by obtain ⟨m, hm⟩ := k0; exact DataW.trod_lt m _ _ _ hm
  have k1 := h1
  have lt1 : ∀ x ∈ p1, x.block < W.heap.size := by obtain ⟨m, hm⟩ := k1; exact DataW.trod_lt m _ _ _ hm
  obtain ⟨aa0, len0, cap0, rfl⟩ := okWide_slice Try.underlying40 (hval 0 40 v0 rfl rfl)
  obtain ⟨l0, w0, x0⟩ : ∃ l, Sl itmS W (.slice aa0 len0 cap0) l ∧ ∀ y ∈ l, OkItm y := by obtain ⟨fuel, hf⟩ := h0; exact open_rows itmS (fun y => OkItm y) Try.underlying40 (by kernel_rfl) openItm hf
  obtain ⟨aa1, len1, cap1, rfl⟩ := okWide_slice Try.underlying40 (hval 1 40 v1 rfl rfl)
  obtain ⟨l1, w1, x1⟩ : ∃ l, Sl itmS W (.slice aa1 len1 cap1) l ∧ ∀ y ∈ l, OkItm y := by obtain ⟨fuel, hf⟩ := h1; exact open_rows itmS (fun y => OkItm y) Try.underlying40 (by kernel_rfl) openItm hf
  clear hA0 hval0
  refine (walk _ l0 _ l1 W w0 x0 w1 x1).mono fun e W' ⟨he, bel⟩ => ?_
  subst he
  exact ⟨_, rfl, _, _, _, [], _, [], hW', trodAll_mk1 (shut_bool Try.underlying4 _), (trodAll_cons_mk (Below.trod laidOut (by kernel_rfl) (of_decide_eq_true (by kernel_rfl)) k0 bel lt0) (trodAll_cons_mk (Below.trod laidOut (by kernel_rfl) (of_decide_eq_true (by kernel_rfl)) k1 bel lt1) trodAll_mk0)), rfl, bel.frame _, fun h => by cases h⟩

theorem over : Rows.fnExactMergeFeedsRow.holds Try.pinned (OpenSpec.ofChange Rows.fnExactMergeFeedsSpec) :=
  OpenClaim.holds_of_wide 5 Try.f5 rfl rfl rfl rfl rfl rfl rfl ⟨rfl, rfl, rfl, rfl, rfl⟩ rfl rfl rfl rfl rfl (by kernel_rfl) Try.func5 (by kernel_rfl)
    (of_decide_eq_true (by kernel_rfl)) (by unfold Func.isWrapper; first | (rw [if_pos (by decide +kernel)]; kernel_rfl) | (rw [if_neg (by decide +kernel)]; exact ⟨rfl, rfl⟩))
    (fun os started H enc _ => lifted os started H enc)

theorem proved : Rows.FnExactMergeFeedsSaid := over
end Go.Proofs.Ytlmpkajnbdhppaa.fnExactMergeFeeds
