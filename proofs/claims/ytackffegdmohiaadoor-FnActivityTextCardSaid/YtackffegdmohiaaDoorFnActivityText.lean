/- FnActivityText: for every input the law returns true, and each argument reads afterwards as it read before. No condition. -/
import Derived.Test.YtackffegdmohiaaDoorRows
import Derived.Test.YtackffegdmohiaaDoorTie
import Derived.Test.YtackffegdmohiaaDoorCards
import Derived.WalkKit
import Derived.LaidMore
import Derived.Lay
import Derived.MakeChecks
import Derived.SevenTiedAt
import Derived.Stop.Joined
import Derived.Handed
import Derived.Shelf.Vars
import Derived.ProofKit
import Derived.OpenShut
import Derived.ChangeOld
import Derived.Below
import Derived.OpenVars
import Derived.ChangeVars
import Derived.Test.YtackffegdmohiaaDoorOpen
import Derived.Test.YtackffegdmohiaaDoorTypes
import Derived.Test.YtackffegdmohiaaDoorDrawAd
import Derived.Test.YtackffegdmohiaaDoorRdAI
import Derived.Test.YtackffegdmohiaaDoorKindA
import Derived.Test.YtackffegdmohiaaDoorTxt
import Derived.Test.YtackffegdmohiaaDoorAlive
namespace Go.Proofs.YtackffegdmohiaaDoor.fnActivityText
open Go.ChangeShapes Go.WideShapes Go.ChangeAt Go.RowKit
open Go.ChangeMaps (open_string shut_string)
set_option linter.unusedVariables false

section
variable {H : Type} {enc : TypeId × Value → H}
/-- A call that keeps what it is handed, from a contract that knows a further condition and the world's shape. -/
theorem handed_shaped {a : Assume} {C : Checked} {os : Os} {f : FuncId} {fn : Func} {s : ChangeSpec} {conds : List PathCond} {apart fresh handsOn again : Bool} {X : World → Array Value → Prop}
    (hX : ∀ (w w' : World) (args : Array Value), w.heap = w'.heap → X w args → X w' args)
    (own : ownKnob C.prog.godebug = none) (started : os.Started) (noInit : C.prog.inits.idxOf? f = none) (hfn : C.prog.funcs[f]? = some fn)
    (witness : ∃ (w : World) (tape : Tape) (i : Input), w.os = os ∧ (w.forCall tape i).Shaped C.prog ∧ i.vars = [] ∧ Input.okWide C.prog (w.forCall tape i) .any w.heap.size f i ∧
      ((s.pre enc C.prog fn conds apart (w.forCall tape i).memory i.args ∧ X (w.forCall tape i).memory i.args) ∧ sizedMet enc C.prog fn (OpenSpec.ofChange s) apart (w.forCall tape i).memory i.args) ∧ a.holds C.prog (lone (Frame.enter C.prog f i.args .normal) [] (w.forCall tape i)))
    (contract : ∀ (W : World) (base : Nat) (args : Array Value) (ds gs : List (DataW H)) (before : List MemPlace),
      (∀ (j : Nat) t v, fn.params[j]? = some t → args[j]? = some v → Value.okWide C.prog W .any base t v) →
      DataW.Whole enc C.prog fn.params.toList s.vars apart W args.toList ds gs before →
      conds.all (PathCond.test C.prog ⟨fn.params.toList, ds, s.plain.varTypes C.prog, gs⟩) = true →
      (DataW.weightsEach C.prog (fn.params.toList ++ s.plain.varTypes C.prog) (ds ++ gs)).all (· ≤ reachBytes) = true → X W args → W.ShapedOpen C.prog →
      a.holds C.prog (lone (Frame.enter C.prog f args .normal) [] W) →
      Calls C.prog f args W fun e W' => ∃ v, e = .returned v ∧ s.post enc C.prog fn apart fresh handsOn again W args v W') :
    ReturnsInHanded a C os f .any (fun w args => (s.pre enc C.prog fn conds apart w args ∧ X w args) ∧ sizedMet enc C.prog fn (OpenSpec.ofChange s) apart w args) (s.post enc C.prog fn apart fresh handsOn again) := by
  refine returnsInHanded_of_calls own started noInit witness ?_
  intro w tape i _ hsh _ hok hpre hholds
  obtain ⟨_, _, _, fn', hfn', _, _, _, _, hval⟩ := hok
  obtain rfl : fn' = fn := Option.some.inj (hfn'.symm.trans hfn)
  obtain ⟨⟨⟨ds, gs, before, hw, hc⟩, hx⟩, hz⟩ := hpre
  have hw' := DataW.Whole.of_heap (w' := w.forCall tape i) (by rfl) hw
  refine (contract (w.forCall tape i) w.heap.size i.args ds gs before hval hw' hc (hz.weights hw) (hX _ _ _ (by rfl) hx) hsh hholds).mono fun e W' ⟨v, he, hp⟩ => ?_
  subst he
  exact ChangeSpec.post_blind hp
end
theorem own : ownKnob Tryd.prog.godebug = none := by kernel_rfl
theorem laidOut : laidOutB Tryd.prog = true := by kernel_rfl

theorem openByte {H : Type} {enc : TypeId × Value → H} {w : World} (fuel : Nat) (cs : List Value) (x : DataW H × List MemPlace) (h : DataW.trod enc Tryd.prog w 0 (fun _ => true) true fuel 5 cs = some x) : ∃ y : UInt8, cs = byteS.enc y ∧ True := by
  obtain ⟨s, rfl, _, hb⟩ := DataW.trod_int Tryd.underlying5 h
  have := bounds_u8 hb
  exact ⟨UInt8.ofNat s.toNat, by simp [byteS]; omega, trivial⟩


set_option maxHeartbeats 1600000 in
theorem walk (v0 : Value) (l0 : List UInt8) (w : World) (w0 : Sl byteS w v0 l0) (x0 : ∀ y ∈ l0, True) (hK : KindsAt w) (hm : ∃ m, w.cell? ⟨1, 0, none⟩ = some (.int .i64 m)) :
    Calls Tryd.prog 4 #[v0] w fun e w' => e = .returned (.bool true) ∧ Below w.heap.size w w' := by
  obtain ⟨mm, hm⟩ := hm
  obtain ⟨aa, cap, rfl⟩ : ∃ aa cap, v0 = .slice aa l0.length cap := by obtain ⟨a, c, h, _⟩ := w0; exact ⟨a, c, h⟩
  by_cases hlen : l0.length ≤ 1048576
  rotate_left
  · go_enter Tryd.func4, Tryd.ntmps4
    go_wp2_with fail
    go_ret
    exact ⟨rfl, Below.refl _ _⟩
  go_enter Tryd.func4, Tryd.ntmps4
  go_wp2_with fail
  refine (draw_ActivityText _ l0 _ w0).mono ?_
  rintro e w1 ⟨k, m, n, g, t, rfl, ⟨_, _, z1, z2, z3⟩, hB⟩
  have q1 : n.size ≤ 140737488355328 := by omega
  have q2 : g.size ≤ 140737488355328 := by omega
  have q3 : t.size ≤ 140737488355328 := by omega
  have hw := below_trans hB (below1 w1 (.cells #[.int .i64 k, .int .i64 m, .string n, .string g, .string t] 30))
  go_wp2_with fail
  refine (i_ActivityText k m n g t _ q1 q2 q3 (hK.keep hw)).mono ?_
  rintro e w2 ⟨rfl, hb2⟩
  have c0 : w2.cell? ⟨w1.heap.size, 0, none⟩ = some (.int .i64 k) := keep_cell hb2 (by simp)
  have c1 : w2.cell? ⟨w1.heap.size, 1, none⟩ = some (.int .i64 m) := keep_cell hb2 (by simp)
  have c2 : w2.cell? ⟨w1.heap.size, 2, none⟩ = some (.string n) := keep_cell hb2 (by simp)
  have c3 : w2.cell? ⟨w1.heap.size, 3, none⟩ = some (.string g) := keep_cell hb2 (by simp)
  have c4 : w2.cell? ⟨w1.heap.size, 4, none⟩ = some (.string t) := keep_cell hb2 (by simp)
  have b2 : Below w.heap.size w w2 := below_trans hw hb2
  clear hw hb2 hB z1 z2 z3
  go_wp2_with fail
  refine (s_ActivityText k m n g t _ q1 q2 q3).mono ?_
  rintro e w3 ⟨rfl, hb3⟩
  have hz := actT_size (k := k) (m := m) (n := n) (h := g) (t := t)
  have HN := Lib.hid (fun hb => actT_no (k := k) (m := m) (n := n) (h := g) (t := t) hb)
  have HY := Lib.hid (fun hb => ActIs.of (k := k) (m := m) (n := n) (h := g) (t := t) hb)
  have HV := Lib.hid (fun hb => actT_valid (k := k) (m := m) (n := n) (h := g) (t := t) hb)
  generalize actT k m n g t = S at hz HN HY HV ⊢
  replace c0 := keep_cell hb3 c0
  replace c1 := keep_cell hb3 c1
  replace c2 := keep_cell hb3 c2
  replace c3 := keep_cell hb3 c3
  replace c4 := keep_cell hb3 c4
  have b3 := below_trans b2 hb3
  clear b2 hb3
  go_wp2_with fail
  refine (s_ActivityValid k m n g t _ q1 q2 q3).mono ?_
  rintro e w4 ⟨rfl, hb4⟩
  replace c0 := keep_cell hb4 c0
  replace c1 := keep_cell hb4 c1
  replace c2 := keep_cell hb4 c2
  replace c3 := keep_cell hb4 c3
  replace c4 := keep_cell hb4 c4
  have b4 := below_trans b3 hb4
  clear b3 hb4
  cases hv : actB k m n g t
  · obtain rfl := HN.out hv
    clear HN HY HV
    go_wp2_with (first | (go_at_call 13; refine (alive_any _).mono ?_; rintro e w' ⟨rfl, rfl⟩))
    go_ret
    exact ⟨rfl, b4⟩
  · have hr := Lib.hid (HY.out hv)
    have ht := Lib.hid (HV.out hv)
    clear HN HY HV
    go_wp2_with fail
    refine (i_ReadActivity S mm _ (by omega) (keep_cell b4 hm) (hK.keep b4)).mono ?_
    rintro x w5 ⟨k', m', n', g', t', ok', rfl, hr2, hb5⟩
    obtain ⟨rfl, rfl, rfl, rfl, rfl, rfl⟩ := ActRel.eq (.inl ⟨rfl, hr.out⟩) hr2
    replace c0 := keep_cell hb5 c0
    replace c1 := keep_cell hb5 c1
    replace c2 := keep_cell hb5 c2
    replace c3 := keep_cell hb5 c3
    replace c4 := keep_cell hb5 c4
    have hlt : w1.heap.size < w5.heap.size := World.block_lt_of_cell? _ _ c0
    have b5 := below_trans b4 hb5
    clear hr2 hb5 b4 hm hK
    go_wp2_with fail
    refine (i_TextValid S _).mono ?_
    rintro e w6 ⟨rfl, rfl⟩
    rw [ht.out]
    go_wp2_with fail
    go_ret
    exact ⟨rfl, by repeat (first | exact b5 | refine Below.alloc ?_ (by have := b5.size; omega) _)⟩

set_option maxRecDepth 100000 in
theorem lifted (os : Os) (started : os.Started) (H : Type) (enc : TypeId × Value → H) :
    ReturnsInHanded {} Tryd.checked os 4 .any (fun w args => (Rows.fnActivityTextSpec.pre enc Tryd.prog Tryd.f4 Rows.fnActivityTextRow.domain false w args ∧ laidMetH Tryd.prog Rows.fnActivityTextRow.laid w) ∧ sizedMet enc Tryd.prog Tryd.f4 (OpenSpec.ofChange Rows.fnActivityTextSpec) false w args) (Rows.fnActivityTextSpec.post enc Tryd.prog Tryd.f4 false true false false) := by
  refine handed_shaped (C := Tryd.checked) (X := fun w _ => laidMetH Tryd.prog Rows.fnActivityTextRow.laid w) (fun _ _ _ hh h => h.of_heap hh) own started (by kernel_rfl) Tryd.func4
    (ChangeSpec.witness_shaped (enc := enc) (C := Tryd.checked) (os := os) (X := fun w _ => laidMetH Tryd.prog Rows.fnActivityTextRow.laid w) false (World.laidAll Tryd.prog os Rows.fnActivityTextRow.laid) #[.slice none 0 0] 8 (World.laidAll_os _ _ _)
      (World.shaped_of_ZipB (by kernel_rfl) (by kernel_rfl)) (by kernel_rfl) (by kernel_rfl) (by kernel_rfl)
      (by rw [MakeChecks.laidMetH_plain _ _ _ (by kernel_rfl)]; exact laidMet_laidAll _ (by kernel_rfl) (by kernel_rfl))) ?_
  intro W base args ds gs before hval0 hW hcnd _ hL hsh _
  have hval : ∀ (j : Nat) t v, Tryd.f4.params[j]? = some t → args[j]? = some v → Value.okWide Tryd.prog W .any base t v := hval0
  have hW' := hW
  obtain ⟨p, q, hA0, hV, rfl, hfz, hnd⟩ := hW
  have hA : DataW.TrodAll enc Tryd.prog W 0 (fun _ => true) true Tryd.f4.params.toList args.toList ds p := hA0
  rw [Tryd.params4] at hA hval
  obtain ⟨v0, vs0, d0, ds0, p0, q0, hargs, rfl, rfl, h0, r0⟩ := trodAll_cons hA
  obtain ⟨rfl, rfl, rfl⟩ := trodAll_nil r0
  obtain rfl : args = #[v0] := by cases args; simp_all
  have hV0 := hV
  obtain ⟨_, _, _, _, _, _, rfl, _⟩ := trodVars_one hV
  have k0 := h0
  have lt0 : ∀ x ∈ p0, x.block < W.heap.size := by obtain ⟨m, hm⟩ := k0; exact DataW.trod_lt m _ _ _ hm
  obtain ⟨aa0, len0, cap0, rfl⟩ := okWide_slice Tryd.underlying33 (hval 0 33 v0 rfl rfl)
  obtain ⟨l0, w0, x0⟩ : ∃ l, Sl byteS W (.slice aa0 len0 cap0) l ∧ ∀ y ∈ l, True := by obtain ⟨fuel, hf⟩ := h0; exact open_rows byteS (fun y => True) Tryd.underlying33 (by kernel_rfl) openByte hf
  clear hA0 hval0
  refine (walk _ l0 W w0 x0 (kinds_two (by kernel_rfl) (by kernel_rfl) hL) (cell_of_shapedOpen_int (zero := #[.int .i64 0]) (t := 3) hsh (of_decide_eq_true (by kernel_rfl)) (by kernel_rfl) rfl (by kernel_rfl) (by kernel_rfl) Tryd.underlying3)).mono fun e W' ⟨he, bel⟩ => ?_
  subst he
  exact ⟨_, rfl, _, _, _, [], _, _, hW', trodAll_mk1 (shut_bool Tryd.underlying4 _), (trodAll_cons_mk (Below.trod laidOut (by kernel_rfl) (of_decide_eq_true (by kernel_rfl)) k0 bel lt0) trodAll_mk0), Below.trodVars laidOut bel (by kernel_rfl) hV0, bel.frame _, fun h => by cases h⟩

theorem over : Rows.fnActivityTextRow.holds Tryd.pinned (OpenSpec.ofChange Rows.fnActivityTextSpec) :=
  OpenClaim.holds_of_wide 4 Tryd.f4 rfl rfl rfl rfl rfl rfl rfl ⟨rfl, rfl, rfl, rfl, rfl⟩ rfl rfl rfl rfl rfl (by kernel_rfl) Tryd.func4 (by kernel_rfl)
    (of_decide_eq_true (by kernel_rfl)) (by unfold Func.isWrapper; first | (rw [if_pos (by decide +kernel)]; kernel_rfl) | (rw [if_neg (by decide +kernel)]; exact ⟨rfl, rfl⟩))
    (fun os started H enc _ => lifted os started H enc)

theorem proved : Rows.FnActivityTextCardSaid :=
  Claim7.holds_tied_plain_at .later [] [.data, .data, .pinned] true (true, "65ff4a08d2004c067f5cc8d8e5dbd9831d02fcde3a672a16ac33b20f990b7295") false over (fun _ h => by cases h) (by kernel_rfl) (fun _ h => by cases h) fnActivityText_row_tie rfl ⟨rfl, rfl⟩ (by kernel_rfl) rfl
    (fun f fn hf hfn => by
      obtain rfl : f = 4 := Option.some.inj ((show Tryd.prog.funcNamed "loop.example/feedbridge/laws.FnActivityText" = some 4 by kernel_rfl).symm.trans hf) |>.symm
      obtain rfl : fn = Tryd.f4 := (Option.some.inj (Tryd.func4.symm.trans hfn)).symm
      exact ⟨by kernel_rfl, fun j t ht => by
        rw [Tryd.params4] at ht
        have hm : t ∈ [33] := by simpa using Array.mem_of_getElem? ht
        have hall : ([33].all fun u => !Tryd.prog.wantsStandIn u) = true := by kernel_rfl
        exact (show Tryd.prog.wantsStandIn t = false by simpa using List.all_eq_true.1 hall t hm)⟩)
    (by kernel_rfl)
end Go.Proofs.YtackffegdmohiaaDoor.fnActivityText
