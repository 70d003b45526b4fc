/- FnExactNameFor: for every input the law returns true, and each argument reads afterwards as it read before. No condition. -/
import Derived.Test.YtipalcmfhmmdiaaDoorRows
import Derived.Test.YtipalcmfhmmdiaaDoorTie
import Derived.Test.YtipalcmfhmmdiaaDoorCards
import Derived.WalkKit
import Derived.LaidMore
import Derived.Lay
import Derived.MakeChecks
import Derived.SevenTiedAt
import Derived.Stop.Joined
import Derived.ProofKit
import Derived.OpenShut
import Derived.ChangeOld
import Derived.Below
import Derived.Test.YtipalcmfhmmdiaaDoorOpen
import Derived.Test.YtipalcmfhmmdiaaDoorTypes
import Derived.Test.YtipalcmfhmmdiaaDoorNameS
namespace Go.Proofs.YtipalcmfhmmdiaaDoor.fnExactNameFor
open Go.ChangeShapes Go.WideShapes Go.ChangeAt Go.RowKit
open Go.ChangeMaps (open_string shut_string)
set_option linter.unusedVariables false

theorem own : ownKnob Tryd.prog.godebug = none := by kernel_rfl
theorem laidOut : laidOutB Tryd.prog = true := by kernel_rfl

def OkActr (y : Actr) : Prop := y.name.size ≤ maxLen ∧ y.feed.size ≤ maxLen ∧ (Lit.int .i64 y.sign).wf = true
theorem openActr {H : Type} {enc : TypeId × Value → H} {w : World} (fuel : Nat) (cs : List Value) (x : DataW H × List MemPlace) (h : DataW.trod enc Tryd.prog w 0 (fun _ => true) true fuel 38 cs = some x) : ∃ y : Actr, cs = actrS.enc y ∧ OkActr y := by
  obtain ⟨xs, n, _, _, hl, hx, hf⟩ := DataW.trod_struct Tryd.underlying38 h
  have hl2 : cs.length = 3 := hl.trans (by kernel_rfl)
  have hx2 : xs.length = 3 := hx
  match cs, hl2, xs, hx2 with
  | [c0, c1, c2], _, [x0, x1, x2], _ =>
    have e0 : DataW.trod enc Tryd.prog w 0 (fun _ => true) true n 9 [c0] = some x0 := by have := hf 0 _ rfl; simpa [show Tryd.prog.cellsOf 9 = 1 by kernel_rfl] using this
    obtain ⟨s0, hs0, _, hb0⟩ := DataW.trod_string Tryd.underlying9 e0
    simp only [List.cons.injEq, and_true] at hs0
    subst hs0
    have e1 : DataW.trod enc Tryd.prog w 0 (fun _ => true) true n 9 [c1] = some x1 := by have := hf 1 _ rfl; simpa [show Tryd.prog.cellsOf 9 = 1 by kernel_rfl] using this
    obtain ⟨s1, hs1, _, hb1⟩ := DataW.trod_string Tryd.underlying9 e1
    simp only [List.cons.injEq, and_true] at hs1
    subst hs1
    have e2 : DataW.trod enc Tryd.prog w 0 (fun _ => true) true n 3 [c2] = some x2 := by have := hf 2 _ rfl; simpa [show Tryd.prog.cellsOf 3 = 1 by kernel_rfl] using this
    obtain ⟨s2, hs2, _, hb2⟩ := DataW.trod_int Tryd.underlying3 e2
    simp only [List.cons.injEq, and_true] at hs2
    subst hs2
    exact ⟨⟨s0, s1, s2⟩, rfl, hb0, hb1, hb2⟩


theorem walk (v0 : Value) (l0 : List Actr) (a1 : ByteArray) (w : World) (w0 : Sl actrS w v0 l0) (x0 : ∀ y ∈ l0, OkActr y) (w1 : a1.size ≤ maxLen) :
    Calls Tryd.prog 3 #[v0, .string a1] w fun e w' => e = .returned (.bool true) ∧ Below w.heap.size w w' := by
  by_cases hn : a1.size ≤ 1048576
  rotate_left
  · go_enter Tryd.func3, Tryd.ntmps3
    go_wp2_with fail
    go_ret
    exact ⟨rfl, Below.refl _ _⟩
  go_enter Tryd.func3, Tryd.ntmps3
  go_wp2_with fail
  refine (szActrS_any v0 l0 1048576 _ _ rfl w0 (fun y hy => ⟨(x0 y hy).1, (x0 y hy).2.1⟩) (Nat.le_refl _)).mono ?_
  rintro x w1 ⟨r, rfl, hr, hb1⟩
  have s1 := w0.mono hb1
  rcases hr with rfl | ⟨hS, hr0, hr1⟩
  · go_wp2_with fail
    go_ret
    exact ⟨rfl, hb1⟩
  have hz : FeedSizes l0 := fun y hy => by have := hS.2 y hy; omega
  obtain ⟨q, rfl⟩ := Int.eq_ofNat_of_zero_le hr0
  go_wp2_with fail
  refine (toActorS_any _ l0 _ s1 hS.1).mono ?_
  rintro x w2 ⟨v1, rfl, ho1, hb2⟩
  have t1 : Sl actrS w2 v1 l0 := Sl.of_owns ho1
  have s2 := s1.mono hb2
  clear ho1
  go_wp2_with fail
  refine (s_NameFor _ l0 a1 _ t1 hz (by omega)).mono ?_
  rintro x w3 ⟨rfl, hb3⟩
  have s3 := s2.mono hb3
  go_wp2_with fail
  refine (toActorS_any _ l0 _ s3 hS.1).mono ?_
  rintro x w4 ⟨v2, rfl, ho2, hb4⟩
  have t2 : Sl actrS w4 v2 l0 := Sl.of_owns ho2
  have s4 := s3.mono hb4
  clear ho2
  go_wp2_with fail
  refine (i_NameFor _ l0 a1 _ t2 hz (by omega)).mono ?_
  rintro x w5 ⟨rfl, hb5⟩
  have s5 := s4.mono hb5
  have t3 := t2.mono hb5
  go_wp2_with fail
  refine (toActorS_any _ l0 _ s5 hS.1).mono ?_
  rintro x w6 ⟨v3, rfl, ho3, hb6⟩
  have t4 : Sl actrS w6 v3 l0 := Sl.of_owns ho3
  have t5 := t3.mono hb6
  clear ho3
  go_wp2_with fail
  refine (eqActorS_same _ _ l0 _ t5 t4).mono ?_
  rintro x w7 ⟨rfl, hb7⟩
  go_wp2_with fail
  go_ret
  exact ⟨rfl, below_trans (below_trans (below_trans (below_trans (below_trans (below_trans hb1 hb2) hb3) hb4) hb5) hb6) hb7⟩

set_option maxRecDepth 100000 in
theorem lifted (os : Os) (started : os.Started) (H : Type) (enc : TypeId × Value → H) :
    ReturnsInHanded {} Tryd.checked os 3 .any (fun w args => (Rows.fnExactNameForSpec.pre enc Tryd.prog Tryd.f3 Rows.fnExactNameForRow.domain false w args ∧ laidMetH Tryd.prog Rows.fnExactNameForRow.laid w) ∧ sizedMet enc Tryd.prog Tryd.f3 (OpenSpec.ofChange Rows.fnExactNameForSpec) false w args) (Rows.fnExactNameForSpec.post enc Tryd.prog Tryd.f3 false true false false) := by
  refine returnsInHanded_of_change_and (C := Tryd.checked) (X := fun w _ => laidMetH Tryd.prog Rows.fnExactNameForRow.laid w) (fun _ _ _ hh h => h.of_heap hh) own started (by kernel_rfl) Tryd.func3
    (ChangeSpec.witness_shaped (enc := enc) (C := Tryd.checked) (os := os) (X := fun w _ => laidMetH Tryd.prog Rows.fnExactNameForRow.laid w) false (World.laidAll Tryd.prog os Rows.fnExactNameForRow.laid) #[.slice none 0 0, .string ByteArray.empty] 8 (World.laidAll_os _ _ _)
      (World.shaped_of_ZipB (by kernel_rfl) (by kernel_rfl)) (by kernel_rfl) (by kernel_rfl) (by kernel_rfl)
      (by rw [MakeChecks.laidMetH_plain _ _ _ (by kernel_rfl)]; exact laidMet_laidAll _ (by kernel_rfl) (by kernel_rfl))) ?_
  intro W base args ds gs before hval0 hW hcnd _ hL _
  have hval : ∀ (j : Nat) t v, Tryd.f3.params[j]? = some t → args[j]? = some v → Value.okWide Tryd.prog W .any base t v := hval0
  have hW' := hW
  obtain ⟨p, q, hA0, hV, rfl, hfz, hnd⟩ := hW
  have hA : DataW.TrodAll enc Tryd.prog W 0 (fun _ => true) true Tryd.f3.params.toList args.toList ds p := hA0
  rw [Tryd.params3] at hA hval
  obtain ⟨v0, vs0, d0, ds0, p0, q0, hargs, rfl, rfl, h0, r0⟩ := trodAll_cons hA
  obtain ⟨v1, vs1, d1, ds1, p1, q1, rfl, rfl, rfl, h1, r1⟩ := trodAll_cons r0
  obtain ⟨rfl, rfl, rfl⟩ := trodAll_nil r1
  obtain rfl : args = #[v0, v1] := by cases args; simp_all
  obtain ⟨rfl, rfl⟩ := trodVars_none hV
  have k0 := h0
  have lt0 : ∀ x ∈ p0, x.block < W.heap.size := by obtain ⟨m, hm⟩ := k0; exact DataW.trod_lt m _ _ _ hm
  have k1 := h1
  have lt1 : ∀ x ∈ p1, x.block < W.heap.size := by obtain ⟨m, hm⟩ := k1; exact DataW.trod_lt m _ _ _ hm
  obtain ⟨aa0, len0, cap0, rfl⟩ := okWide_slice Tryd.underlying22 (hval 0 22 v0 rfl rfl)
  obtain ⟨l0, w0, x0⟩ : ∃ l, Sl actrS W (.slice aa0 len0 cap0) l ∧ ∀ y ∈ l, OkActr y := by obtain ⟨fuel, hf⟩ := h0; exact open_rows actrS (fun y => OkActr y) Tryd.underlying22 (by kernel_rfl) openActr hf
  obtain ⟨a1, rfl, _, _, w1⟩ := open_string Tryd.underlying9 (hval 1 9 v1 rfl rfl) h1
  clear hA0 hval0
  refine (walk _ l0 a1 W w0 x0 w1).mono fun e W' ⟨he, bel⟩ => ?_
  subst he
  exact ⟨_, rfl, _, _, _, [], _, [], hW', trodAll_mk1 (shut_bool Tryd.underlying4 _), (trodAll_cons_mk (Below.trod laidOut (by kernel_rfl) (of_decide_eq_true (by kernel_rfl)) k0 bel lt0) (trodAll_cons_mk (Below.trod laidOut (by kernel_rfl) (of_decide_eq_true (by kernel_rfl)) k1 bel lt1) trodAll_mk0)), rfl, bel.frame _, fun h => by cases h⟩

theorem over : Rows.fnExactNameForRow.holds Tryd.pinned (OpenSpec.ofChange Rows.fnExactNameForSpec) :=
  OpenClaim.holds_of_wide 3 Tryd.f3 rfl rfl rfl rfl rfl rfl rfl ⟨rfl, rfl, rfl, rfl, rfl⟩ rfl rfl rfl rfl rfl (by kernel_rfl) Tryd.func3 (by kernel_rfl)
    (of_decide_eq_true (by kernel_rfl)) (by unfold Func.isWrapper; first | (rw [if_pos (by decide +kernel)]; kernel_rfl) | (rw [if_neg (by decide +kernel)]; exact ⟨rfl, rfl⟩))
    (fun os started H enc _ => lifted os started H enc)

theorem proved : Rows.FnExactNameForCardSaid :=
  Claim7.holds_tied_plain_at .later [] [.data, .data, .data] true (true, "29d8d67d6cbccc5a7bdfed95d0c05fc81bf22e7b98a7084f8a13de1959399f95") false over (fun _ h => by cases h) (by kernel_rfl) (fun _ h => by cases h) fnExactNameFor_row_tie rfl ⟨rfl, rfl⟩ (by kernel_rfl) rfl
    (fun f fn hf hfn => by
      obtain rfl : f = 3 := Option.some.inj ((show Tryd.prog.funcNamed "loop.example/feedbridge/laws.FnExactNameFor" = some 3 by kernel_rfl).symm.trans hf) |>.symm
      obtain rfl : fn = Tryd.f3 := (Option.some.inj (Tryd.func3.symm.trans hfn)).symm
      exact ⟨by kernel_rfl, fun j t ht => by
        rw [Tryd.params3] at ht
        have hm : t ∈ [22, 9] := by simpa using Array.mem_of_getElem? ht
        have hall : ([22, 9].all fun u => !Tryd.prog.wantsStandIn u) = true := by kernel_rfl
        exact (show Tryd.prog.wantsStandIn t = false by simpa using List.all_eq_true.1 hall t hm)⟩)
    (by kernel_rfl)
end Go.Proofs.YtipalcmfhmmdiaaDoor.fnExactNameFor
