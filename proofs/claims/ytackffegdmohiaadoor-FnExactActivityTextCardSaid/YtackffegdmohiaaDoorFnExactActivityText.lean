/- FnExactActivityText: for every input the law returns true, and each argument reads afterwards as it read before. No condition. -/
import Derived.Test.YtackffegdmohiaaDoorRows
import Derived.Test.YtackffegdmohiaaDoorTie
import Derived.Test.YtackffegdmohiaaDoorCards
import Derived.WalkKit
import Derived.LaidMore
import Derived.Lay
import Derived.MakeChecks
import Derived.SevenTiedAt
import Derived.Stop.Joined
import Derived.Handed
import Derived.Shelf.Vars
import Derived.ProofKit
import Derived.OpenShut
import Derived.ChangeOld
import Derived.Below
import Derived.OpenVars
import Derived.ChangeVars
import Derived.Test.YtackffegdmohiaaDoorOpen
import Derived.Test.YtackffegdmohiaaDoorTypes
import Derived.Test.YtackffegdmohiaaDoorActT
import Derived.Test.YtackffegdmohiaaDoorKindA
namespace Go.Proofs.YtackffegdmohiaaDoor.fnExactActivityText
open Go.ChangeShapes Go.WideShapes Go.ChangeAt Go.RowKit
open Go.ChangeMaps (open_string shut_string)
set_option linter.unusedVariables false

section
variable {H : Type} {enc : TypeId × Value → H}
/-- A call that keeps what it is handed, from a contract that knows a further condition and the world's shape. -/
theorem handed_shaped {a : Assume} {C : Checked} {os : Os} {f : FuncId} {fn : Func} {s : ChangeSpec} {conds : List PathCond} {apart fresh handsOn again : Bool} {X : World → Array Value → Prop}
    (hX : ∀ (w w' : World) (args : Array Value), w.heap = w'.heap → X w args → X w' args)
    (own : ownKnob C.prog.godebug = none) (started : os.Started) (noInit : C.prog.inits.idxOf? f = none) (hfn : C.prog.funcs[f]? = some fn)
    (witness : ∃ (w : World) (tape : Tape) (i : Input), w.os = os ∧ (w.forCall tape i).Shaped C.prog ∧ i.vars = [] ∧ Input.okWide C.prog (w.forCall tape i) .any w.heap.size f i ∧
      ((s.pre enc C.prog fn conds apart (w.forCall tape i).memory i.args ∧ X (w.forCall tape i).memory i.args) ∧ sizedMet enc C.prog fn (OpenSpec.ofChange s) apart (w.forCall tape i).memory i.args) ∧ a.holds C.prog (lone (Frame.enter C.prog f i.args .normal) [] (w.forCall tape i)))
    (contract : ∀ (W : World) (base : Nat) (args : Array Value) (ds gs : List (DataW H)) (before : List MemPlace),
      (∀ (j : Nat) t v, fn.params[j]? = some t → args[j]? = some v → Value.okWide C.prog W .any base t v) →
      DataW.Whole enc C.prog fn.params.toList s.vars apart W args.toList ds gs before →
      conds.all (PathCond.test C.prog ⟨fn.params.toList, ds, s.plain.varTypes C.prog, gs⟩) = true →
      (DataW.weightsEach C.prog (fn.params.toList ++ s.plain.varTypes C.prog) (ds ++ gs)).all (· ≤ reachBytes) = true → X W args → W.ShapedOpen C.prog →
      a.holds C.prog (lone (Frame.enter C.prog f args .normal) [] W) →
      Calls C.prog f args W fun e W' => ∃ v, e = .returned v ∧ s.post enc C.prog fn apart fresh handsOn again W args v W') :
    ReturnsInHanded a C os f .any (fun w args => (s.pre enc C.prog fn conds apart w args ∧ X w args) ∧ sizedMet enc C.prog fn (OpenSpec.ofChange s) apart w args) (s.post enc C.prog fn apart fresh handsOn again) := by
  refine returnsInHanded_of_calls own started noInit witness ?_
  intro w tape i _ hsh _ hok hpre hholds
  obtain ⟨_, _, _, fn', hfn', _, _, _, _, hval⟩ := hok
  obtain rfl : fn' = fn := Option.some.inj (hfn'.symm.trans hfn)
  obtain ⟨⟨⟨ds, gs, before, hw, hc⟩, hx⟩, hz⟩ := hpre
  have hw' := DataW.Whole.of_heap (w' := w.forCall tape i) (by rfl) hw
  refine (contract (w.forCall tape i) w.heap.size i.args ds gs before hval hw' hc (hz.weights hw) (hX _ _ _ (by rfl) hx) hsh hholds).mono fun e W' ⟨v, he, hp⟩ => ?_
  subst he
  exact ChangeSpec.post_blind hp
end
theorem own : ownKnob Tryd.prog.godebug = none := by kernel_rfl
theorem laidOut : laidOutB Tryd.prog = true := by kernel_rfl

def OkHnd (y : Hnd) : Prop := y.name.size ≤ maxLen ∧ y.host.size ≤ maxLen
theorem openHnd {H : Type} {enc : TypeId × Value → H} {w : World} (fuel : Nat) (cs : List Value) (x : DataW H × List MemPlace) (h : DataW.trod enc Tryd.prog w 0 (fun _ => true) true fuel 23 cs = some x) : ∃ y : Hnd, cs = hndS.enc y ∧ OkHnd y := by
  obtain ⟨xs, n, _, _, hl, hx, hf⟩ := DataW.trod_struct Tryd.underlying23 h
  have hl2 : cs.length = 2 := hl.trans (by kernel_rfl)
  have hx2 : xs.length = 2 := hx
  match cs, hl2, xs, hx2 with
  | [c0, c1], _, [x0, x1], _ =>
    have e0 : DataW.trod enc Tryd.prog w 0 (fun _ => true) true n 9 [c0] = some x0 := by have := hf 0 _ rfl; simpa [show Tryd.prog.cellsOf 9 = 1 by kernel_rfl] using this
    obtain ⟨s0, hs0, _, hb0⟩ := DataW.trod_string Tryd.underlying9 e0
    simp only [List.cons.injEq, and_true] at hs0
    subst hs0
    have e1 : DataW.trod enc Tryd.prog w 0 (fun _ => true) true n 9 [c1] = some x1 := by have := hf 1 _ rfl; simpa [show Tryd.prog.cellsOf 9 = 1 by kernel_rfl] using this
    obtain ⟨s1, hs1, _, hb1⟩ := DataW.trod_string Tryd.underlying9 e1
    simp only [List.cons.injEq, and_true] at hs1
    subst hs1
    exact ⟨⟨s0, s1⟩, rfl, hb0, hb1⟩
def OkAct1 (y : Act1) : Prop := (Lit.int .i64 y.kind).wf = true ∧ (Lit.int .i64 y.number).wf = true ∧ y.name.size ≤ maxLen ∧ y.host.size ≤ maxLen ∧ y.what.size ≤ maxLen
theorem openAct1 {H : Type} {enc : TypeId × Value → H} {w : World} (fuel : Nat) (cs : List Value) (x : DataW H × List MemPlace) (h : DataW.trod enc Tryd.prog w 0 (fun _ => true) true fuel 25 cs = some x) : ∃ y : Act1, cs = actS.enc y ∧ OkAct1 y := by
  obtain ⟨xs, n, _, _, hl, hx, hf⟩ := DataW.trod_struct Tryd.underlying25 h
  have hl2 : cs.length = 5 := hl.trans (by kernel_rfl)
  have hx2 : xs.length = 4 := hx
  match cs, hl2, xs, hx2 with
  | [c0, c1, c2, c3, c4], _, [x0, x1, x2, x3], _ =>
    have e0 : DataW.trod enc Tryd.prog w 0 (fun _ => true) true n 3 [c0] = some x0 := by have := hf 0 _ rfl; simpa [show Tryd.prog.cellsOf 3 = 1 by kernel_rfl] using this
    obtain ⟨s0, hs0, _, hb0⟩ := DataW.trod_int Tryd.underlying3 e0
    simp only [List.cons.injEq, and_true] at hs0
    subst hs0
    have e1 : DataW.trod enc Tryd.prog w 0 (fun _ => true) true n 3 [c1] = some x1 := by have := hf 1 _ rfl; simpa [show Tryd.prog.cellsOf 3 = 1 by kernel_rfl] using this
    obtain ⟨s1, hs1, _, hb1⟩ := DataW.trod_int Tryd.underlying3 e1
    simp only [List.cons.injEq, and_true] at hs1
    subst hs1
    have e2 : DataW.trod enc Tryd.prog w 0 (fun _ => true) true n 23 [c2, c3] = some x2 := by have := hf 2 _ rfl; simpa [show Tryd.prog.cellsOf 23 = 2 by kernel_rfl] using this
    obtain ⟨y2, hs2, hb2⟩ := openHnd n _ _ e2
    simp only [hndS, List.cons.injEq, and_true] at hs2
    obtain ⟨rfl, rfl⟩ := hs2
    have e3 : DataW.trod enc Tryd.prog w 0 (fun _ => true) true n 9 [c4] = some x3 := by have := hf 3 _ rfl; simpa [show Tryd.prog.cellsOf 9 = 1 by kernel_rfl] using this
    obtain ⟨s3, hs3, _, hb3⟩ := DataW.trod_string Tryd.underlying9 e3
    simp only [List.cons.injEq, and_true] at hs3
    subst hs3
    exact ⟨⟨s0, s1, y2.name, y2.host, s3⟩, rfl, hb0, hb1, hb2.1, hb2.2, hb3⟩


set_option maxHeartbeats 1000000 in
theorem walk (a0 : Act1) (w : World) (w0 : OkAct1 a0) (hK : KindsAt w) :
    Calls Tryd.prog 3 #[.agg #[.int .i64 a0.kind, .int .i64 a0.number, .string a0.name, .string a0.host, .string a0.what]] w fun e w' => e = .returned (.bool true) ∧ Below w.heap.size w w' := by
  go_enter Tryd.func3, Tryd.ntmps3
  go_wp2_with fail
  refine (sz_Activity _ _ _ _ _ _ _ w0.2.2.1 w0.2.2.2.1 w0.2.2.2.2 (by decide) (by decide)).mono ?_
  rintro x w1 ⟨r, rfl, hr, hb0⟩
  have c0 : w1.cell? ⟨w.heap.size, 0, none⟩ = some (.int .i64 a0.kind) := keep_cell hb0 (by simp)
  have c1 : w1.cell? ⟨w.heap.size, 1, none⟩ = some (.int .i64 a0.number) := keep_cell hb0 (by simp)
  have c2 : w1.cell? ⟨w.heap.size, 2, none⟩ = some (.string a0.name) := keep_cell hb0 (by simp)
  have c3 : w1.cell? ⟨w.heap.size, 3, none⟩ = some (.string a0.host) := keep_cell hb0 (by simp)
  have c4 : w1.cell? ⟨w.heap.size, 4, none⟩ = some (.string a0.what) := keep_cell hb0 (by simp)
  rcases hr with rfl | ⟨hr, hs⟩
  · go_wp2_with fail
    go_ret
    exact ⟨rfl, below_trans (below1 _ _) hb0⟩
  have z1 : a0.name.size ≤ 140737488355328 := by omega
  have z2 : a0.host.size ≤ 140737488355328 := by omega
  have z3 : a0.what.size ≤ 140737488355328 := by omega
  obtain ⟨q, rfl⟩ := Int.eq_ofNat_of_zero_le hr
  clear hs
  have bz : Below w.heap.size w w1 := below_trans (below1 _ _) hb0
  go_wp2_with fail
  refine (to_Activity _ _ _ _ _ _).mono ?_
  rintro x w2 ⟨rfl, hb1⟩
  go_wp2_with fail
  refine (s_ActivityText _ _ _ _ _ _ z1 z2 z3).mono ?_
  rintro x w3 ⟨rfl, hb2⟩
  have hb12 := below_trans hb1 hb2
  replace c0 := keep_cell hb12 c0
  replace c1 := keep_cell hb12 c1
  replace c2 := keep_cell hb12 c2
  replace c3 := keep_cell hb12 c3
  replace c4 := keep_cell hb12 c4
  replace bz := below_trans bz hb12
  go_wp2_with fail
  refine (to_Activity _ _ _ _ _ _).mono ?_
  rintro x w4 ⟨rfl, hb3⟩
  go_wp2_with fail
  refine (i_ActivityText _ _ _ _ _ _ z1 z2 z3 (hK.keep (below_trans bz hb3))).mono ?_
  rintro x w5 ⟨rfl, hb4⟩
  go_wp2_with fail
  go_ret
  exact ⟨rfl, below_trans bz (below_trans hb3 hb4)⟩

set_option maxRecDepth 100000 in
theorem lifted (os : Os) (started : os.Started) (H : Type) (enc : TypeId × Value → H) :
    ReturnsInHanded {} Tryd.checked os 3 .any (fun w args => (Rows.fnExactActivityTextSpec.pre enc Tryd.prog Tryd.f3 Rows.fnExactActivityTextRow.domain false w args ∧ laidMetH Tryd.prog Rows.fnExactActivityTextRow.laid w) ∧ sizedMet enc Tryd.prog Tryd.f3 (OpenSpec.ofChange Rows.fnExactActivityTextSpec) false w args) (Rows.fnExactActivityTextSpec.post enc Tryd.prog Tryd.f3 false true false false) := by
  refine handed_shaped (C := Tryd.checked) (X := fun w _ => laidMetH Tryd.prog Rows.fnExactActivityTextRow.laid w) (fun _ _ _ hh h => h.of_heap hh) own started (by kernel_rfl) Tryd.func3
    (ChangeSpec.witness_shaped (enc := enc) (C := Tryd.checked) (os := os) (X := fun w _ => laidMetH Tryd.prog Rows.fnExactActivityTextRow.laid w) false (World.laidAll Tryd.prog os Rows.fnExactActivityTextRow.laid) #[.agg #[.int .i64 0, .int .i64 0, .string ByteArray.empty, .string ByteArray.empty, .string ByteArray.empty]] 8 (World.laidAll_os _ _ _)
      (World.shaped_of_ZipB (by kernel_rfl) (by kernel_rfl)) (by kernel_rfl) (by kernel_rfl) (by kernel_rfl)
      (by rw [MakeChecks.laidMetH_plain _ _ _ (by kernel_rfl)]; exact laidMet_laidAll _ (by kernel_rfl) (by kernel_rfl))) ?_
  intro W base args ds gs before hval0 hW hcnd _ hL hsh _
  have hval : ∀ (j : Nat) t v, Tryd.f3.params[j]? = some t → args[j]? = some v → Value.okWide Tryd.prog W .any base t v := hval0
  have hW' := hW
  obtain ⟨p, q, hA0, hV, rfl, hfz, hnd⟩ := hW
  have hA : DataW.TrodAll enc Tryd.prog W 0 (fun _ => true) true Tryd.f3.params.toList args.toList ds p := hA0
  rw [Tryd.params3] at hA hval
  obtain ⟨v0, vs0, d0, ds0, p0, q0, hargs, rfl, rfl, h0, r0⟩ := trodAll_cons hA
  obtain ⟨rfl, rfl, rfl⟩ := trodAll_nil r0
  obtain rfl : args = #[v0] := by cases args; simp_all
  have hV0 := hV
  obtain ⟨_, _, _, _, _, _, rfl, _⟩ := trodVars_one hV
  have k0 := h0
  have lt0 : ∀ x ∈ p0, x.block < W.heap.size := by obtain ⟨m, hm⟩ := k0; exact DataW.trod_lt m _ _ _ hm
  obtain ⟨cs0, rfl, _⟩ := okWide_struct Tryd.underlying25 (hval 0 25 v0 rfl rfl)
  obtain ⟨a0, hcs0, w0⟩ : ∃ y, cs0.toList = actS.enc y ∧ OkAct1 y := by obtain ⟨fuel, hf⟩ := h0; exact openAct1 fuel _ _ hf
  obtain rfl : cs0 = (actS.enc a0).toArray := by rw [← hcs0]
  clear hA0 hval0
  refine (walk a0 W w0 (kinds_one rfl hL)).mono fun e W' ⟨he, bel⟩ => ?_
  subst he
  exact ⟨_, rfl, _, _, _, [], _, _, hW', trodAll_mk1 (shut_bool Tryd.underlying4 _), (trodAll_cons_mk (Below.trod laidOut (by kernel_rfl) (of_decide_eq_true (by kernel_rfl)) k0 bel lt0) trodAll_mk0), Below.trodVars laidOut bel (by kernel_rfl) hV0, bel.frame _, fun h => by cases h⟩

theorem over : Rows.fnExactActivityTextRow.holds Tryd.pinned (OpenSpec.ofChange Rows.fnExactActivityTextSpec) :=
  OpenClaim.holds_of_wide 3 Tryd.f3 rfl rfl rfl rfl rfl rfl rfl ⟨rfl, rfl, rfl, rfl, rfl⟩ rfl rfl rfl rfl rfl (by kernel_rfl) Tryd.func3 (by kernel_rfl)
    (of_decide_eq_true (by kernel_rfl)) (by unfold Func.isWrapper; first | (rw [if_pos (by decide +kernel)]; kernel_rfl) | (rw [if_neg (by decide +kernel)]; exact ⟨rfl, rfl⟩))
    (fun os started H enc _ => lifted os started H enc)

theorem proved : Rows.FnExactActivityTextCardSaid :=
  Claim7.holds_tied_plain_at .later [] [.data] true (true, "65ff4a08d2004c067f5cc8d8e5dbd9831d02fcde3a672a16ac33b20f990b7295") false over (fun _ h => by cases h) (by kernel_rfl) (fun _ h => by cases h) fnExactActivityText_row_tie rfl ⟨rfl, rfl⟩ (by kernel_rfl) rfl
    (fun f fn hf hfn => by
      obtain rfl : f = 3 := Option.some.inj ((show Tryd.prog.funcNamed "loop.example/feedbridge/laws.FnExactActivityText" = some 3 by kernel_rfl).symm.trans hf) |>.symm
      obtain rfl : fn = Tryd.f3 := (Option.some.inj (Tryd.func3.symm.trans hfn)).symm
      exact ⟨by kernel_rfl, fun j t ht => by
        rw [Tryd.params3] at ht
        have hm : t ∈ [25] := by simpa using Array.mem_of_getElem? ht
        have hall : ([25].all fun u => !Tryd.prog.wantsStandIn u) = true := by kernel_rfl
        exact (show Tryd.prog.wantsStandIn t = false by simpa using List.all_eq_true.1 hall t hm)⟩)
    (by kernel_rfl)
end Go.Proofs.YtackffegdmohiaaDoor.fnExactActivityText
