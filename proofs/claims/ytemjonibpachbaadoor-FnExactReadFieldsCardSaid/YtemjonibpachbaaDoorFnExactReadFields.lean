/- FnExactReadFields: for every input the law returns true, and each argument reads afterwards as it read before. No condition. -/
import Derived.Test.YtemjonibpachbaaDoorRows
import Derived.Test.YtemjonibpachbaaDoorTie
import Derived.Test.YtemjonibpachbaaDoorCards
import Derived.WalkKit
import Derived.LaidMore
import Derived.Lay
import Derived.MakeChecks
import Derived.SevenTiedAt
import Derived.Stop.Joined
import Derived.Handed
import Derived.Shelf.Vars
import Derived.ProofKit
import Derived.OpenShut
import Derived.ChangeOld
import Derived.Below
import Derived.Test.YtemjonibpachbaaDoorOpen
import Derived.Test.YtemjonibpachbaaDoorTypes
import Derived.Test.YtemjonibpachbaaDoorRdFS
import Derived.Test.YtemjonibpachbaaDoorMkField
import Derived.Test.YtemjonibpachbaaDoorOwn
namespace Go.Proofs.YtemjonibpachbaaDoor.fnExactReadFields
open Go.ChangeShapes Go.WideShapes Go.ChangeAt Go.RowKit
open Go.ChangeMaps (open_string shut_string)
set_option linter.unusedVariables false

section
variable {H : Type} {enc : TypeId × Value → H}
/-- A call that keeps what it is handed, from a contract that knows a further condition and the world's shape. -/
theorem handed_shaped {a : Assume} {C : Checked} {os : Os} {f : FuncId} {fn : Func} {s : ChangeSpec} {conds : List PathCond} {apart fresh handsOn again : Bool} {X : World → Array Value → Prop}
    (hX : ∀ (w w' : World) (args : Array Value), w.heap = w'.heap → X w args → X w' args)
    (own : ownKnob C.prog.godebug = none) (started : os.Started) (noInit : C.prog.inits.idxOf? f = none) (hfn : C.prog.funcs[f]? = some fn)
    (witness : ∃ (w : World) (tape : Tape) (i : Input), w.os = os ∧ (w.forCall tape i).Shaped C.prog ∧ i.vars = [] ∧ Input.okWide C.prog (w.forCall tape i) .any w.heap.size f i ∧
      ((s.pre enc C.prog fn conds apart (w.forCall tape i).memory i.args ∧ X (w.forCall tape i).memory i.args) ∧ sizedMet enc C.prog fn (OpenSpec.ofChange s) apart (w.forCall tape i).memory i.args) ∧ a.holds C.prog (lone (Frame.enter C.prog f i.args .normal) [] (w.forCall tape i)))
    (contract : ∀ (W : World) (base : Nat) (args : Array Value) (ds gs : List (DataW H)) (before : List MemPlace),
      (∀ (j : Nat) t v, fn.params[j]? = some t → args[j]? = some v → Value.okWide C.prog W .any base t v) →
      DataW.Whole enc C.prog fn.params.toList s.vars apart W args.toList ds gs before →
      conds.all (PathCond.test C.prog ⟨fn.params.toList, ds, s.plain.varTypes C.prog, gs⟩) = true →
      (DataW.weightsEach C.prog (fn.params.toList ++ s.plain.varTypes C.prog) (ds ++ gs)).all (· ≤ reachBytes) = true → X W args → W.ShapedOpen C.prog →
      a.holds C.prog (lone (Frame.enter C.prog f args .normal) [] W) →
      Calls C.prog f args W fun e W' => ∃ v, e = .returned v ∧ s.post enc C.prog fn apart fresh handsOn again W args v W') :
    ReturnsInHanded a C os f .any (fun w args => (s.pre enc C.prog fn conds apart w args ∧ X w args) ∧ sizedMet enc C.prog fn (OpenSpec.ofChange s) apart w args) (s.post enc C.prog fn apart fresh handsOn again) := by
  refine returnsInHanded_of_calls own started noInit witness ?_
  intro w tape i _ hsh _ hok hpre hholds
  obtain ⟨_, _, _, fn', hfn', _, _, _, _, hval⟩ := hok
  obtain rfl : fn' = fn := Option.some.inj (hfn'.symm.trans hfn)
  obtain ⟨⟨⟨ds, gs, before, hw, hc⟩, hx⟩, hz⟩ := hpre
  have hw' := DataW.Whole.of_heap (w' := w.forCall tape i) (by rfl) hw
  refine (contract (w.forCall tape i) w.heap.size i.args ds gs before hval hw' hc (hz.weights hw) (hX _ _ _ (by rfl) hx) hsh hholds).mono fun e W' ⟨v, he, hp⟩ => ?_
  subst he
  exact ChangeSpec.post_blind hp
end
theorem own : ownKnob Tryd.prog.godebug = none := by kernel_rfl
theorem laidOut : laidOutB Tryd.prog = true := by kernel_rfl


theorem rd_small {s : ByteArray} {out : List Fld} {ok : Bool} (h : RdRel s out ok) : out.length ≤ 6 := by
  rcases h with ⟨_, h⟩ | ⟨_, rfl, _⟩
  · exact (goodB_iff.1 h.1).1
  · simp

set_option maxHeartbeats 1600000 in
theorem walk (a0 : ByteArray) (w : World) (w0 : a0.size ≤ maxLen) (hm : ∃ m, w.cell? ⟨0, 0, none⟩ = some (.int .i64 m)) :
    Calls Tryd.prog 5 #[.string a0] w fun e w' => e = .returned (.bool true) ∧ Below w.heap.size w w' := by
  obtain ⟨mm, hm⟩ := hm
  by_cases hn : a0.size ≤ 1048576
  rotate_left
  · go_enter Tryd.func5, Tryd.ntmps5
    go_wp2_with fail
    go_ret
    exact ⟨rfl, Below.refl _ _⟩
  go_enter Tryd.func5, Tryd.ntmps5
  go_wp2_with fail
  refine (s_ReadFields a0 _ (by omega)).mono ?_
  rintro x w1 ⟨vw, out, ok, rfl, hrw, ow, hb1⟩
  go_wp2_with fail
  refine (i_ReadFields a0 mm _ (by omega) (keep_cell hb1 hm)).mono ?_
  rintro x w2 ⟨vg, out', ok', rfl, hrg, og, hb2⟩
  obtain ⟨rfl, rfl⟩ := hrw.eq hrg
  have hlo : out.length ≤ 1048576 := by have := rd_small hrw; omega
  have lw : ∀ k, vw.ownBlock = some k → k < w1.heap.size := fun k hk => (ow.lt k hk).2
  have ow2 := owns_below ow hb2
  have b2 := below_trans hb1 hb2
  have tg2 : Sl fldS w2 vg out := Sl.of_owns og
  have tw2 : Sl fldS w2 vw out := Sl.of_owns ow2
  have h12 := hb2.size
  have hw1 := hb1.size
  clear ow hb1 hb2 hrg
  go_wp2_with fail
  refine (eqFieldS_same _ _ out _ tg2 tw2).mono ?_
  rintro x w3 ⟨rfl, hb3⟩
  have og3 := owns_below og hb3
  have ow3 := owns_below ow2 hb3
  have b3 := below_trans b2 hb3
  have lg : ∀ k, vw.ownBlock = some k → k < w1.heap.size := lw
  clear og ow2 hb3 b2 tg2 tw2
  go_wp2_with fail
  refine (markFieldS_any _ out _ 1 _ _ rfl og3 (Nat.le_refl _) (by decide) hlo).mono ?_
  rintro x w4 ⟨rfl, og4, hg4⟩
  have ow4 := kept_low ow3 lg hg4 (fun k hk => (og3.lt k hk).1)
  have b4 : Below w.heap.size w w4 := b3.grown hg4 b3.size (fun k hk => by have := (og3.lt k hk).1; omega)
  have tm4 : Sl fldS w4 vg (mkFieldL out.length 1) := Sl.of_owns (by rw [mkFieldL_len]; exact og4)
  clear og3 ow3 hg4 b3 og4
  go_wp2_with fail
  refine (heldFieldS_any _ out.length 1 _ _ rfl tm4 (Nat.le_refl _) (by decide) hlo).mono ?_
  rintro x w5 ⟨rfl, hb5⟩
  have ow5 := owns_below ow4 hb5
  have tm5 := tm4.mono hb5
  have b5 := below_trans b4 hb5
  clear ow4 tm4 b4 hb5
  go_wp2_with fail
  refine (i_ReadFields a0 mm _ (by omega) (keep_cell b5 hm)).mono ?_
  rintro x w6 ⟨vh, out', ok', rfl, hrh, oh, hb6⟩
  obtain ⟨rfl, rfl⟩ := hrw.eq hrh
  have th6 : Sl fldS w6 vh out := Sl.of_owns oh
  have tw6 : Sl fldS w6 vw out := (Sl.of_owns ow5).mono hb6
  have tm6 := tm5.mono hb6
  have b6 := below_trans b5 hb6
  clear oh ow5 tm5 b5 hb6 hrh
  go_wp2_with fail
  refine (eqFieldS_same _ _ out _ th6 tw6).mono ?_
  rintro x w7 ⟨rfl, hb7⟩
  have tm7 := tm6.mono hb7
  have b7 := below_trans b6 hb7
  clear th6 tw6 tm6 b6 hb7
  go_wp2_with fail
  refine (heldFieldS_any _ out.length 1 _ _ rfl tm7 (Nat.le_refl _) (by decide) hlo).mono ?_
  rintro x w8 ⟨rfl, hb8⟩
  have b8 := below_trans b7 hb8
  go_wp2_with fail
  go_ret
  exact ⟨rfl, b8⟩

set_option maxRecDepth 100000 in
theorem lifted (os : Os) (started : os.Started) (H : Type) (enc : TypeId × Value → H) :
    ReturnsInHanded {} Tryd.checked os 5 .any (fun w args => (Rows.fnExactReadFieldsSpec.pre enc Tryd.prog Tryd.f5 Rows.fnExactReadFieldsRow.domain false w args ∧ laidMetH Tryd.prog Rows.fnExactReadFieldsRow.laid w) ∧ sizedMet enc Tryd.prog Tryd.f5 (OpenSpec.ofChange Rows.fnExactReadFieldsSpec) false w args) (Rows.fnExactReadFieldsSpec.post enc Tryd.prog Tryd.f5 false true false false) := by
  refine handed_shaped (C := Tryd.checked) (X := fun w _ => laidMetH Tryd.prog Rows.fnExactReadFieldsRow.laid w) (fun _ _ _ hh h => h.of_heap hh) own started (by kernel_rfl) Tryd.func5
    (ChangeSpec.witness_shaped (enc := enc) (C := Tryd.checked) (os := os) (X := fun w _ => laidMetH Tryd.prog Rows.fnExactReadFieldsRow.laid w) false (World.laidAll Tryd.prog os Rows.fnExactReadFieldsRow.laid) #[.string ByteArray.empty] 8 (World.laidAll_os _ _ _)
      (World.shaped_of_ZipB (by kernel_rfl) (by kernel_rfl)) (by kernel_rfl) (by kernel_rfl) (by kernel_rfl)
      (by rw [MakeChecks.laidMetH_plain _ _ _ (by kernel_rfl)]; exact laidMet_laidAll _ (by kernel_rfl) (by kernel_rfl))) ?_
  intro W base args ds gs before hval0 hW hcnd _ hL hsh _
  have hval : ∀ (j : Nat) t v, Tryd.f5.params[j]? = some t → args[j]? = some v → Value.okWide Tryd.prog W .any base t v := hval0
  have hW' := hW
  obtain ⟨p, q, hA0, hV, rfl, hfz, hnd⟩ := hW
  have hA : DataW.TrodAll enc Tryd.prog W 0 (fun _ => true) true Tryd.f5.params.toList args.toList ds p := hA0
  rw [Tryd.params5] at hA hval
  obtain ⟨v0, vs0, d0, ds0, p0, q0, hargs, rfl, rfl, h0, r0⟩ := trodAll_cons hA
  obtain ⟨rfl, rfl, rfl⟩ := trodAll_nil r0
  obtain rfl : args = #[v0] := by cases args; simp_all
  obtain ⟨rfl, rfl⟩ := trodVars_none hV
  have k0 := h0
  have lt0 : ∀ x ∈ p0, x.block < W.heap.size := by obtain ⟨m, hm⟩ := k0; exact DataW.trod_lt m _ _ _ hm
  obtain ⟨a0, rfl, _, _, w0⟩ := open_string Tryd.underlying9 (hval 0 9 v0 rfl rfl) h0
  clear hA0 hval0
  refine (walk a0 W w0 (cell_of_shapedOpen_int (zero := #[.int .i64 0]) (t := 3) hsh (of_decide_eq_true (by kernel_rfl)) (by kernel_rfl) rfl (by kernel_rfl) (by kernel_rfl) Tryd.underlying3)).mono fun e W' ⟨he, bel⟩ => ?_
  subst he
  exact ⟨_, rfl, _, _, _, [], _, [], hW', trodAll_mk1 (shut_bool Tryd.underlying4 _), (trodAll_cons_mk (Below.trod laidOut (by kernel_rfl) (of_decide_eq_true (by kernel_rfl)) k0 bel lt0) trodAll_mk0), rfl, bel.frame _, fun h => by cases h⟩

theorem over : Rows.fnExactReadFieldsRow.holds Tryd.pinned (OpenSpec.ofChange Rows.fnExactReadFieldsSpec) :=
  OpenClaim.holds_of_wide 5 Tryd.f5 rfl rfl rfl rfl rfl rfl rfl ⟨rfl, rfl, rfl, rfl, rfl⟩ rfl rfl rfl rfl rfl (by kernel_rfl) Tryd.func5 (by kernel_rfl)
    (of_decide_eq_true (by kernel_rfl)) (by unfold Func.isWrapper; first | (rw [if_pos (by decide +kernel)]; kernel_rfl) | (rw [if_neg (by decide +kernel)]; exact ⟨rfl, rfl⟩))
    (fun os started H enc _ => lifted os started H enc)

theorem proved : Rows.FnExactReadFieldsCardSaid :=
  Claim7.holds_tied_plain_at .later [] [.data, .pinned] true (true, "181d55fd93934a6ae79c2a1c01d5d7558bf898ab9062f24197cd0f7fb54a9c15") false over (fun _ h => by cases h) (by kernel_rfl) (fun _ h => by cases h) fnExactReadFields_row_tie rfl ⟨rfl, rfl⟩ (by kernel_rfl) rfl
    (fun f fn hf hfn => by
      obtain rfl : f = 5 := Option.some.inj ((show Tryd.prog.funcNamed "loop.example/feedbridge/laws.FnExactReadFields" = some 5 by kernel_rfl).symm.trans hf) |>.symm
      obtain rfl : fn = Tryd.f5 := (Option.some.inj (Tryd.func5.symm.trans hfn)).symm
      exact ⟨by kernel_rfl, fun j t ht => by
        rw [Tryd.params5] at ht
        have hm : t ∈ [9] := by simpa using Array.mem_of_getElem? ht
        have hall : ([9].all fun u => !Tryd.prog.wantsStandIn u) = true := by kernel_rfl
        exact (show Tryd.prog.wantsStandIn t = false by simpa using List.all_eq_true.1 hall t hm)⟩)
    (by kernel_rfl)
end Go.Proofs.YtemjonibpachbaaDoor.fnExactReadFields
