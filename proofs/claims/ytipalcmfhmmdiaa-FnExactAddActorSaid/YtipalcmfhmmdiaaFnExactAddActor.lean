/- FnExactAddActor: for every input the law returns true, and each argument reads afterwards as it read before. No condition. -/
import Derived.Test.YtipalcmfhmmdiaaRows
import Derived.WalkKit
import Derived.ProofKit
import Derived.OpenShut
import Derived.ChangeOld
import Derived.Below
import Derived.Test.YtipalcmfhmmdiaaOpen
import Derived.Test.YtipalcmfhmmdiaaTypes
import Derived.Test.YtipalcmfhmmdiaaActrAdS
import Derived.Test.YtipalcmfhmmdiaaMkActor
import Derived.Test.YtipalcmfhmmdiaaOwn
import Derived.Deep.RegionHeld3
namespace Go.Proofs.Ytipalcmfhmmdiaa.fnExactAddActor
open Go.ChangeShapes Go.WideShapes Go.ChangeAt Go.RowKit
open Go.ChangeMaps (open_string shut_string)
set_option linter.unusedVariables false

theorem own : ownKnob Try.prog.godebug = none := by kernel_rfl
theorem laidOut : laidOutB Try.prog = true := by kernel_rfl

def OkActr (y : Actr) : Prop := y.name.size ≤ maxLen ∧ y.feed.size ≤ maxLen ∧ (Lit.int .i64 y.sign).wf = true
theorem openActr {H : Type} {enc : TypeId × Value → H} {w : World} (fuel : Nat) (cs : List Value) (x : DataW H × List MemPlace) (h : DataW.trod enc Try.prog w 0 (fun _ => true) true fuel 43 cs = some x) : ∃ y : Actr, cs = actrS.enc y ∧ OkActr y := by
  obtain ⟨xs, n, _, _, hl, hx, hf⟩ := DataW.trod_struct Try.underlying43 h
  have hl2 : cs.length = 3 := hl.trans (by kernel_rfl)
  have hx2 : xs.length = 3 := hx
  match cs, hl2, xs, hx2 with
  | [c0, c1, c2], _, [x0, x1, x2], _ =>
    have e0 : DataW.trod enc Try.prog w 0 (fun _ => true) true n 9 [c0] = some x0 := by have := hf 0 _ rfl; simpa [show Try.prog.cellsOf 9 = 1 by kernel_rfl] using this
    obtain ⟨s0, hs0, _, hb0⟩ := DataW.trod_string Try.underlying9 e0
    simp only [List.cons.injEq, and_true] at hs0
    subst hs0
    have e1 : DataW.trod enc Try.prog w 0 (fun _ => true) true n 9 [c1] = some x1 := by have := hf 1 _ rfl; simpa [show Try.prog.cellsOf 9 = 1 by kernel_rfl] using this
    obtain ⟨s1, hs1, _, hb1⟩ := DataW.trod_string Try.underlying9 e1
    simp only [List.cons.injEq, and_true] at hs1
    subst hs1
    have e2 : DataW.trod enc Try.prog w 0 (fun _ => true) true n 3 [c2] = some x2 := by have := hf 2 _ rfl; simpa [show Try.prog.cellsOf 3 = 1 by kernel_rfl] using this
    obtain ⟨s2, hs2, _, hb2⟩ := DataW.trod_int Try.underlying3 e2
    simp only [List.cons.injEq, and_true] at hs2
    subst hs2
    exact ⟨⟨s0, s1, s2⟩, rfl, hb0, hb1, hb2⟩

theorem AddRel.total (l : List Actr) (x : Actr) : ∃ out ok, AddRel l x out ok := by
  cases h : actorsB l
  · exact ⟨_, _, .inl ⟨h, rfl, rfl⟩⟩
  · have key : ∀ m, m ≤ l.length → LessTo l x.name m → ∃ n, AtRel l x.name n := by
      intro m
      induction hd : l.length - m generalizing m with
      | zero => intro hm hT; exact ⟨m, hm, hT, fun h => by omega⟩
      | succ d ih =>
        intro hm hT
        cases hb : Op.bytesLess (l[m]'(by omega)).name.toList x.name.toList
        · exact ⟨m, hm, hT, fun _ => hb⟩
        · exact ih (m + 1) (by omega) (by omega) (hT.succ (by omega) hb)
    obtain ⟨n, hn⟩ := key 0 (Nat.zero_le _) (LessTo.zero _ _)
    cases hm : actorsB (insAt l x n)
    · exact ⟨_, _, .inr ⟨h, n, hn, .inr ⟨hm, rfl, rfl⟩⟩⟩
    · exact ⟨_, _, .inr ⟨h, n, hn, .inl ⟨hm, rfl, rfl⟩⟩⟩

set_option maxHeartbeats 3200000 in
theorem walk (v0 : Value) (l0 : List Actr) (a1 : Actr) (w : World) (w0 : Sl actrS w v0 l0) (x0 : ∀ y ∈ l0, OkActr y) (w1 : OkActr a1) :
    Calls Try.prog 8 #[v0, .agg #[.string a1.name, .string a1.feed, .int .i64 a1.sign]] w fun e w' => e = .returned (.bool true) ∧ Below w.heap.size w w' := by
  have mixed : Try.prog.follows Departure.mixedOrders = true := by kernel_rfl
  obtain ⟨out, ok, hrel⟩ := AddRel.total l0 a1
  have HR := Lib.hid hrel
  clear hrel
  go_enter Try.func8, Try.ntmps8
  go_wp2_with fail
  refine (szActrS_any v0 l0 1048576 _ _ rfl (w0.mono (below1 _ _)) (fun y hy => ⟨(x0 y hy).1, (x0 y hy).2.1⟩) (Nat.le_refl _)).mono ?_
  rintro x w2 ⟨r, rfl, hr, hb1⟩
  have s1 := (w0.mono (below1 _ _)).mono hb1
  rcases hr with rfl | ⟨hS, hr0, hr1⟩
  · go_wp2_with fail
    go_ret
    exact ⟨rfl, below_trans (below1 _ _) hb1⟩
  have hz : FeedSizes l0 := fun y hy => by have := hS.2 y hy; omega
  have hl0 := hS.1
  obtain ⟨q, rfl⟩ := Int.eq_ofNat_of_zero_le hr0
  have c0 : w2.cell? ⟨w.heap.size, 0, none⟩ = some (.string a1.name) := keep_cell hb1 (by simp)
  have c1 : w2.cell? ⟨w.heap.size, 1, none⟩ = some (.string a1.feed) := keep_cell hb1 (by simp)
  have c2 : w2.cell? ⟨w.heap.size, 2, none⟩ = some (.int .i64 a1.sign) := keep_cell hb1 (by simp)
  go_wp2_with fail
  refine (sz_Actor _ _ _ _ _ w1.1 w1.2.1 (by omega) (by omega)).mono ?_
  rintro x w3 ⟨r2, rfl, hr2, hb2⟩
  have bb : Below (w.heap.size + 1) (w.alloc (.cells #[.string a1.name, .string a1.feed, .int .i64 a1.sign] 43)) w3 := by have := below_trans hb1 hb2; simpa using this
  replace c0 := keep_cell hb2 c0
  replace c1 := keep_cell hb2 c1
  replace c2 := keep_cell hb2 c2
  have s3 := s1.mono hb2
  clear hb1 hb2 s1
  rcases hr2 with rfl | ⟨hr2, hr3⟩
  · go_wp2_with fail
    go_ret
    exact ⟨rfl, (below1 _ _).trans (bb.mono (by omega))⟩
  have h1 : a1.name.size ≤ 140737488355328 := by omega
  have h2 : a1.feed.size ≤ 140737488355328 := by omega
  obtain ⟨q2, rfl⟩ := Int.eq_ofNat_of_zero_le hr2
  clear hr3
  go_wp2_with fail
  go_region_held3 (fun w' => w'.cell? ⟨w.heap.size, 0, none⟩ = some (.string a1.name) ∧ w'.cell? ⟨w.heap.size, 1, none⟩ = some (.string a1.feed) ∧ w'.cell? ⟨w.heap.size, 2, none⟩ = some (.int .i64 a1.sign))
    (first | go_keep | (go_split_ands; exact ⟨keep_cell hb6 (by assumption), keep_cell hb6 (by assumption), keep_cell hb6 (by assumption)⟩) | (go_split_ands; exact ⟨keep_cell hb5 (by assumption), keep_cell hb5 (by assumption), keep_cell hb5 (by assumption)⟩) | (go_split_ands; exact ⟨keep_cell hb4 (by assumption), keep_cell hb4 (by assumption), keep_cell hb4 (by assumption)⟩))
    (first | (go_at_call 11; refine (toActorS_any _ l0 _ (s3.mono (Below.refl _ _).drew) hl0).mono ?_; rintro x w4 ⟨v1, rfl, ho1, hb4⟩) | (go_at_call 24; refine (to_Actor _ _ _ _).mono ?_; rintro x w5 ⟨rfl, hb5⟩) | (go_at_call 21; refine (s_AddActor _ l0 a1 _ ((Sl.of_owns ho1).mono hb5) hz hl0 h1 h2).mono ?_; rintro x w6 ⟨vw, out', ok', rfl, hrw, ow, hb6⟩))
  obtain ⟨rfl, rfl⟩ := HR.out.eq hrw
  have bz : w.heap.size + 1 ≤ w3.heap.size := by have := bb.size; simpa using this
  have bb6 := bb.drew.trans ((below_trans (below_trans hb4 hb5) hb6).mono bz)
  have s6 : Sl actrS w6 v0 l0 := s3.mono (w' := w6) ((Below.refl _ _).drew.trans (below_trans (below_trans hb4 hb5) hb6))
  have lw : ∀ k, vw.ownBlock = some k → k < w6.heap.size := fun k hk => (ow.lt k hk).2
  have hw56 : w.heap.size + 1 ≤ w5.heap.size := by have h1 := hb4.size; have h2 := hb5.size; simp at h1; omega
  obtain ⟨c0, c1, c2⟩ : w6.cell? ⟨w.heap.size, 0, none⟩ = some (.string a1.name) ∧ w6.cell? ⟨w.heap.size, 1, none⟩ = some (.string a1.feed) ∧ w6.cell? ⟨w.heap.size, 2, none⟩ = some (.int .i64 a1.sign) := by assumption
  have hw66 : w5.heap.size ≤ w6.heap.size := hb6.size
  clear hb4 hb5 hb6 ho1 s3 bb bz hrw
  go_wp2_with fail
  refine (toActorS_any _ l0 _ s6 hl0).mono ?_
  rintro x w7 ⟨vx, rfl, ox, hb7⟩
  have ow7 := owns_below ow hb7
  have bb7 := bb6.trans (hb7.mono (by have := bb6.size; simpa using this))
  have hw67 := hb7.size
  replace c0 := keep_cell hb7 c0
  replace c1 := keep_cell hb7 c1
  replace c2 := keep_cell hb7 c2
  have t7 : Sl actrS w7 vx l0 := Sl.of_owns ox
  clear ow s6 hb7 bb6
  go_wp2_with fail
  refine (to_Actor _ _ _ _).mono ?_
  rintro x w8 ⟨rfl, hb8⟩
  go_wp2_with fail
  refine (i_AddActor _ l0 a1 _ (t7.mono hb8) hz hl0 h1 h2).mono ?_
  rintro x w9 ⟨vg, out', ok', rfl, hrg, og, hb9⟩
  obtain ⟨rfl, rfl⟩ := HR.out.eq hrg
  have hb89 := below_trans hb8 hb9
  have lx : ∀ k, vx.ownBlock = some k → k < w8.heap.size := fun k hk => by have := (ox.lt k hk).2; have := hb8.size; omega
  have hw78 := hb8.size
  have ow9 := owns_below ow7 hb89
  have ox9 := owns_below ox hb89
  have bb9 := bb7.trans (hb89.mono (by have := bb7.size; simpa using this))
  replace c0 := keep_cell hb89 c0
  replace c1 := keep_cell hb89 c1
  replace c2 := keep_cell hb89 c2
  clear ow7 ox t7 hb8 hb9 hb89 bb7 hrg
  have tg9 : Sl actrS w9 vg out := Sl.of_owns og
  have tw9 : Sl actrS w9 vw out := Sl.of_owns ow9
  go_wp2_with fail
  refine (eqActorS_same _ _ out _ tg9 tw9).mono ?_
  rintro x w10 ⟨rfl, hb10⟩
  have bB10 : Below w.heap.size w w10 := (below1 _ _).trans ((bb9.trans (hb10.mono (by have := bb9.size; simpa using this))).mono (by omega))
  have s10 := w0.mono bB10
  go_wp2_with fail
  refine (toActorS_any _ l0 _ s10 hl0).mono ?_
  rintro x w11 ⟨v3, rfl, o3, hb11⟩
  have hb1011 := below_trans hb10 hb11
  have t3 : Sl actrS w11 v3 l0 := Sl.of_owns o3
  have tx11 : Sl actrS w11 vx l0 := (Sl.of_owns ox9).mono hb1011
  clear o3 tg9 tw9 s10 bB10 hb10 hb11
  go_wp2_with fail
  refine (eqActorS_same _ _ l0 _ tx11 t3).mono ?_
  rintro x w12 ⟨rfl, hb12⟩
  have hb912 := below_trans hb1011 hb12
  have ox12 := owns_below ox9 hb912
  have ow12 := owns_below ow9 hb912
  have og12 := owns_below og hb912
  have bb12 := bb9.trans (hb912.mono (by have := bb9.size; simpa using this))
  replace c0 := keep_cell hb912 c0
  replace c1 := keep_cell hb912 c1
  replace c2 := keep_cell hb912 c2
  clear ox9 ow9 og hb1011 hb12 hb912 tx11 t3 bb9
  go_wp2_with fail
  refine (markActorS_any _ l0 _ 1 _ _ rfl ox12 (Nat.le_refl _) (by decide) hl0).mono ?_
  rintro x w13 ⟨rfl, ox13, hg13⟩
  have og13 := kept_high og12 hg13 lx
  have ow13 := kept_low ow12 lw hg13 (fun k hk => (ox12.lt k hk).1)
  have rx : ∀ k, vx.ownBlock = some k → w.heap.size + 1 ≤ k := fun k hk => by have := (ox12.lt k hk).1; omega
  have bb13 := bb12.grown hg13 (by have := bb12.size; simpa using this) rx
  have nex : some w.heap.size ≠ vx.ownBlock := fun e => by have := rx _ e.symm; omega
  replace c0 := hg13.cell c0 nex
  replace c1 := hg13.cell c1 nex
  replace c2 := hg13.cell c2 nex
  have tg13 : Sl actrS w13 vg out := Sl.of_owns og13
  have tw13 : Sl actrS w13 vw out := Sl.of_owns ow13
  clear ox12 ow12 og12 hg13 bb12 ox13 rx nex
  go_wp2_with fail
  refine (eqActorS_same _ _ out _ tg13 tw13).mono ?_
  rintro x w14 ⟨rfl, hb14⟩
  have og14 := owns_below og13 hb14
  have ow14 := owns_below ow13 hb14
  have bb14 := bb13.trans (hb14.mono (by have := bb13.size; simpa using this))
  have lg : ∀ k, vw.ownBlock = some k → k < w8.heap.size := fun k hk => by have := lw k hk; omega
  replace c0 := keep_cell hb14 c0
  replace c1 := keep_cell hb14 c1
  replace c2 := keep_cell hb14 c2
  have hlo : out.length ≤ 1048576 := by
    rcases HR.out with ⟨_, rfl, _⟩ | ⟨_, n, _, ⟨hv, rfl, _⟩ | ⟨_, rfl, _⟩⟩
    · simp
    · have := (goodB_iff.1 hv).1
      omega
    · exact hl0
  clear og13 ow13 hb14 bb13 tg13 tw13
  go_wp2_with fail
  refine (markActorS_any _ out _ 1 _ _ rfl og14 (Nat.le_refl _) (by decide) hlo).mono ?_
  rintro x w15 ⟨rfl, og15, hg15⟩
  have ow15 := kept_low ow14 lg hg15 (fun k hk => (og14.lt k hk).1)
  have rg : ∀ k, vg.ownBlock = some k → w.heap.size + 1 ≤ k := fun k hk => by have := (og14.lt k hk).1; omega
  have bb15 := bb14.grown hg15 (by have := bb14.size; simpa using this) rg
  have neg : some w.heap.size ≠ vg.ownBlock := fun e => by have := rg _ e.symm; omega
  replace c0 := hg15.cell c0 neg
  replace c1 := hg15.cell c1 neg
  replace c2 := hg15.cell c2 neg
  have tm15 : Sl actrS w15 vg (mkActorL out.length 1) := Sl.of_owns (by rw [mkActorL_len]; exact og15)
  clear og14 ow14 hg15 bb14 og15 rg neg
  go_wp2_with fail
  refine (heldActorS_any _ out.length 1 _ _ rfl tm15 (Nat.le_refl _) (by decide) hlo).mono ?_
  rintro x w16 ⟨rfl, hb16⟩
  have ow16 := owns_below ow15 hb16
  have tm16 := tm15.mono hb16
  have bb16 := bb15.trans (hb16.mono (by have := bb15.size; simpa using this))
  have bB16 : Below w.heap.size w w16 := (below1 _ _).trans (bb16.mono (by omega))
  have s16 := w0.mono bB16
  replace c0 := keep_cell hb16 c0
  replace c1 := keep_cell hb16 c1
  replace c2 := keep_cell hb16 c2
  clear ow15 tm15 bb15 hb16
  go_wp2_with fail
  go_region_held3 (fun w' => w'.cell? ⟨w.heap.size, 0, none⟩ = some (.string a1.name) ∧ w'.cell? ⟨w.heap.size, 1, none⟩ = some (.string a1.feed) ∧ w'.cell? ⟨w.heap.size, 2, none⟩ = some (.int .i64 a1.sign))
    (first | go_keep | (go_split_ands; exact ⟨keep_cell hb19 (by assumption), keep_cell hb19 (by assumption), keep_cell hb19 (by assumption)⟩) | (go_split_ands; exact ⟨keep_cell hb18 (by assumption), keep_cell hb18 (by assumption), keep_cell hb18 (by assumption)⟩) | (go_split_ands; exact ⟨keep_cell hb17 (by assumption), keep_cell hb17 (by assumption), keep_cell hb17 (by assumption)⟩))
    (first | (go_at_call 11; refine (toActorS_any _ l0 _ (s16.mono (Below.refl _ _).drew) hl0).mono ?_; rintro x w17 ⟨v4, rfl, o4, hb17⟩) | (go_at_call 24; refine (to_Actor _ _ _ _).mono ?_; rintro x w18 ⟨rfl, hb18⟩) | (go_at_call 20; refine (i_AddActor _ l0 a1 _ ((Sl.of_owns o4).mono hb18) hz hl0 h1 h2).mono ?_; rintro x w19 ⟨vh, out', ok', rfl, hrh, oh, hb19⟩))
  obtain ⟨rfl, rfl⟩ := HR.out.eq hrh
  have hb20 : Below w16.heap.size w16 w19 := (Below.refl _ _).drew.trans (below_trans (below_trans hb17 hb18) hb19)
  have th19 : Sl actrS w19 vh out := Sl.of_owns oh
  have tw19 : Sl actrS w19 vw out := (Sl.of_owns ow16).mono hb20
  have tm19 := tm16.mono hb20
  have b19 := below_trans bB16 hb20
  clear oh ow16 tm16 bb16 bB16 hb17 hb18 hb19 hb20 s16 c0 c1 c2 o4 hrh
  go_wp2_with fail
  refine (eqActorS_same _ _ out _ th19 tw19).mono ?_
  rintro x w20 ⟨rfl, hb20⟩
  have tm20 := tm19.mono hb20
  have b20 := below_trans b19 hb20
  clear th19 tw19 tm19 b19 hb20
  go_wp2_with fail
  refine (heldActorS_any _ out.length 1 _ _ rfl tm20 (Nat.le_refl _) (by decide) hlo).mono ?_
  rintro x w21 ⟨rfl, hb21⟩
  have b21 := below_trans b20 hb21
  go_wp2_with fail
  go_ret
  exact ⟨rfl, b21⟩

set_option maxRecDepth 100000 in
theorem lifted (os : Os) (started : os.Started) (H : Type) (enc : TypeId × Value → H) :
    ReturnsInHanded {} Try.checked os 8 .any (Rows.fnExactAddActorSpec.pre6 enc Try.prog Try.f8 Rows.fnExactAddActorRow.domain false) (Rows.fnExactAddActorSpec.post enc Try.prog Try.f8 false true false false) := by
  refine returnsInHanded_of_change (C := Try.checked) own started (by kernel_rfl) Try.func8
    (ChangeSpec.witness6 (enc := enc) (C := Try.checked) false ⟨#[], #[.slice none 0 0, .agg #[.string ByteArray.empty, .string ByteArray.empty, .int .i64 0]], []⟩ 8 (by kernel_rfl) (by kernel_rfl) (by kernel_rfl) (by kernel_rfl)) ?_
  intro W base args ds gs before hval0 hW hcnd _
  have hval : ∀ (j : Nat) t v, Try.f8.params[j]? = some t → args[j]? = some v → Value.okWide Try.prog W .any base t v := hval0
  have hW' := hW
  obtain ⟨p, q, hA0, hV, rfl, hfz, hnd⟩ := hW
  have hA : DataW.TrodAll enc Try.prog W 0 (fun _ => true) true Try.f8.params.toList args.toList ds p := hA0
  rw [Try.params8] at hA hval
  obtain ⟨v0, vs0, d0, ds0, p0, q0, hargs, rfl, rfl, h0, r0⟩ := trodAll_cons hA
  obtain ⟨v1, vs1, d1, ds1, p1, q1, rfl, rfl, rfl, h1, r1⟩ := trodAll_cons r0
  obtain ⟨rfl, rfl, rfl⟩ := trodAll_nil r1
  obtain rfl : args = #[v0, v1] := by cases args; simp_all
  obtain ⟨rfl, rfl⟩ := trodVars_none hV
  have k0 := h0
  have lt0 : ∀ x ∈ p0, x.block < W.heap.size := by obtain ⟨m, hm⟩ := k0; exact DataW.trod_lt m _ _ _ hm
  have k1 := h1
  have lt1 : ∀ x ∈ p1, x.block < W.heap.size := by obtain ⟨m, hm⟩ := k1; exact DataW.trod_lt m _ _ _ hm
  obtain ⟨aa0, len0, cap0, rfl⟩ := okWide_slice Try.underlying22 (hval 0 22 v0 rfl rfl)
  obtain ⟨l0, w0, x0⟩ : ∃ l, Sl actrS W (.slice aa0 len0 cap0) l ∧ ∀ y ∈ l, OkActr y := by obtain ⟨fuel, hf⟩ := h0; exact open_rows actrS (fun y => OkActr y) Try.underlying22 (by kernel_rfl) openActr hf
  obtain ⟨cs1, rfl, _⟩ := okWide_struct Try.underlying43 (hval 1 43 v1 rfl rfl)
  obtain ⟨a1, hcs1, w1⟩ : ∃ y, cs1.toList = actrS.enc y ∧ OkActr y := by obtain ⟨fuel, hf⟩ := h1; exact openActr fuel _ _ hf
  obtain rfl : cs1 = (actrS.enc a1).toArray := by rw [← hcs1]
  clear hA0 hval0
  refine (walk _ l0 a1 W w0 x0 w1).mono fun e W' ⟨he, bel⟩ => ?_
  subst he
  exact ⟨_, rfl, _, _, _, [], _, [], hW', trodAll_mk1 (shut_bool Try.underlying4 _), (trodAll_cons_mk (Below.trod laidOut (by kernel_rfl) (of_decide_eq_true (by kernel_rfl)) k0 bel lt0) (trodAll_cons_mk (Below.trod laidOut (by kernel_rfl) (of_decide_eq_true (by kernel_rfl)) k1 bel lt1) trodAll_mk0)), rfl, bel.frame _, fun h => by cases h⟩

theorem over : Rows.fnExactAddActorRow.holds Try.pinned (OpenSpec.ofChange Rows.fnExactAddActorSpec) :=
  OpenClaim.holds_of_wide 8 Try.f8 rfl rfl rfl rfl rfl rfl rfl ⟨rfl, rfl, rfl, rfl, rfl⟩ rfl rfl rfl rfl rfl (by kernel_rfl) Try.func8 (by kernel_rfl)
    (of_decide_eq_true (by kernel_rfl)) (by unfold Func.isWrapper; first | (rw [if_pos (by decide +kernel)]; kernel_rfl) | (rw [if_neg (by decide +kernel)]; exact ⟨rfl, rfl⟩))
    (fun os started H enc _ => lifted os started H enc)

theorem proved : Rows.FnExactAddActorSaid := over
end Go.Proofs.Ytipalcmfhmmdiaa.fnExactAddActor
