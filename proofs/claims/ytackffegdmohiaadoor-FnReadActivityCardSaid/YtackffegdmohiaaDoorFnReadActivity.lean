/- FnReadActivity: for every input the law returns true, and each argument reads afterwards as it read before. No condition. -/
import Derived.Test.YtackffegdmohiaaDoorRows
import Derived.Test.YtackffegdmohiaaDoorTie
import Derived.Test.YtackffegdmohiaaDoorCards
import Derived.WalkKit
import Derived.LaidMore
import Derived.Lay
import Derived.MakeChecks
import Derived.SevenTiedAt
import Derived.Stop.Joined
import Derived.Handed
import Derived.Shelf.Vars
import Derived.ProofKit
import Derived.OpenShut
import Derived.ChangeOld
import Derived.Below
import Derived.OpenVars
import Derived.ChangeVars
import Derived.Test.YtackffegdmohiaaDoorOpen
import Derived.Test.YtackffegdmohiaaDoorTypes
import Derived.Test.YtackffegdmohiaaDoorDrawRa
import Derived.Test.YtackffegdmohiaaDoorRdAS
import Derived.Test.YtackffegdmohiaaDoorKindA
import Derived.Test.YtackffegdmohiaaDoorAlive
namespace Go.Proofs.YtackffegdmohiaaDoor.fnReadActivity
open Go.ChangeShapes Go.WideShapes Go.ChangeAt Go.RowKit
open Go.ChangeMaps (open_string shut_string)
set_option linter.unusedVariables false

section
variable {H : Type} {enc : TypeId × Value → H}
/-- A call that keeps what it is handed, from a contract that knows a further condition and the world's shape. -/
theorem handed_shaped {a : Assume} {C : Checked} {os : Os} {f : FuncId} {fn : Func} {s : ChangeSpec} {conds : List PathCond} {apart fresh handsOn again : Bool} {X : World → Array Value → Prop}
    (hX : ∀ (w w' : World) (args : Array Value), w.heap = w'.heap → X w args → X w' args)
    (own : ownKnob C.prog.godebug = none) (started : os.Started) (noInit : C.prog.inits.idxOf? f = none) (hfn : C.prog.funcs[f]? = some fn)
    (witness : ∃ (w : World) (tape : Tape) (i : Input), w.os = os ∧ (w.forCall tape i).Shaped C.prog ∧ i.vars = [] ∧ Input.okWide C.prog (w.forCall tape i) .any w.heap.size f i ∧
      ((s.pre enc C.prog fn conds apart (w.forCall tape i).memory i.args ∧ X (w.forCall tape i).memory i.args) ∧ sizedMet enc C.prog fn (OpenSpec.ofChange s) apart (w.forCall tape i).memory i.args) ∧ a.holds C.prog (lone (Frame.enter C.prog f i.args .normal) [] (w.forCall tape i)))
    (contract : ∀ (W : World) (base : Nat) (args : Array Value) (ds gs : List (DataW H)) (before : List MemPlace),
      (∀ (j : Nat) t v, fn.params[j]? = some t → args[j]? = some v → Value.okWide C.prog W .any base t v) →
      DataW.Whole enc C.prog fn.params.toList s.vars apart W args.toList ds gs before →
      conds.all (PathCond.test C.prog ⟨fn.params.toList, ds, s.plain.varTypes C.prog, gs⟩) = true →
      (DataW.weightsEach C.prog (fn.params.toList ++ s.plain.varTypes C.prog) (ds ++ gs)).all (· ≤ reachBytes) = true → X W args → W.ShapedOpen C.prog →
      a.holds C.prog (lone (Frame.enter C.prog f args .normal) [] W) →
      Calls C.prog f args W fun e W' => ∃ v, e = .returned v ∧ s.post enc C.prog fn apart fresh handsOn again W args v W') :
    ReturnsInHanded a C os f .any (fun w args => (s.pre enc C.prog fn conds apart w args ∧ X w args) ∧ sizedMet enc C.prog fn (OpenSpec.ofChange s) apart w args) (s.post enc C.prog fn apart fresh handsOn again) := by
  refine returnsInHanded_of_calls own started noInit witness ?_
  intro w tape i _ hsh _ hok hpre hholds
  obtain ⟨_, _, _, fn', hfn', _, _, _, _, hval⟩ := hok
  obtain rfl : fn' = fn := Option.some.inj (hfn'.symm.trans hfn)
  obtain ⟨⟨⟨ds, gs, before, hw, hc⟩, hx⟩, hz⟩ := hpre
  have hw' := DataW.Whole.of_heap (w' := w.forCall tape i) (by rfl) hw
  refine (contract (w.forCall tape i) w.heap.size i.args ds gs before hval hw' hc (hz.weights hw) (hX _ _ _ (by rfl) hx) hsh hholds).mono fun e W' ⟨v, he, hp⟩ => ?_
  subst he
  exact ChangeSpec.post_blind hp
end
theorem own : ownKnob Tryd.prog.godebug = none := by kernel_rfl
theorem laidOut : laidOutB Tryd.prog = true := by kernel_rfl

theorem openByte {H : Type} {enc : TypeId × Value → H} {w : World} (fuel : Nat) (cs : List Value) (x : DataW H × List MemPlace) (h : DataW.trod enc Tryd.prog w 0 (fun _ => true) true fuel 5 cs = some x) : ∃ y : UInt8, cs = byteS.enc y ∧ True := by
  obtain ⟨s, rfl, _, hb⟩ := DataW.trod_int Tryd.underlying5 h
  have := bounds_u8 hb
  exact ⟨UInt8.ofNat s.toNat, by simp [byteS]; omega, trivial⟩

theorem act_sizes {s : ByteArray} {k m : Int} {n g t : ByteArray} (h : ActIs s k m n g t) : n.size ≤ 140737488355328 ∧ g.size ≤ 140737488355328 ∧ t.size ≤ 140737488355328 := by
  obtain ⟨_, _, _, _, hH, hw⟩ := actB_true h.1
  obtain ⟨w1, w2⟩ := handleB_word hH
  have := word_size w1
  have := word_size w2
  have := word_size hw
  omega

set_option maxHeartbeats 1600000 in
theorem walk (v0 : Value) (l0 : List UInt8) (w : World) (w0 : Sl byteS w v0 l0) (x0 : ∀ y ∈ l0, True) (hK : KindsAt w) (hm : ∃ m, w.cell? ⟨1, 0, none⟩ = some (.int .i64 m)) :
    Calls Tryd.prog 6 #[v0] w fun e w' => e = .returned (.bool true) ∧ Below w.heap.size w w' := by
  obtain ⟨mm, hm⟩ := hm
  obtain ⟨aa, cap, rfl⟩ : ∃ aa cap, v0 = .slice aa l0.length cap := by obtain ⟨a, c, h, _⟩ := w0; exact ⟨a, c, h⟩
  by_cases hlen : l0.length ≤ 1048576
  rotate_left
  · go_enter Tryd.func6, Tryd.ntmps6
    go_wp2_with fail
    go_ret
    exact ⟨rfl, Below.refl _ _⟩
  go_enter Tryd.func6, Tryd.ntmps6
  go_wp2_with fail
  refine (draw_ReadActivity _ l0 _ w0).mono ?_
  rintro e w1 ⟨s, rfl, hs, hB⟩
  go_wp2_with fail
  refine (i_ReadActivity s mm _ (by omega) (keep_cell hB hm) (hK.keep hB)).mono ?_
  rintro x w2 ⟨k, m, n, g, t, ok, rfl, hr1, hb2⟩
  have b2 := below_trans hB hb2
  go_wp2_with fail
  refine (s_ReadActivity s _ (by omega)).mono ?_
  rintro x w3 ⟨k', m', n', g', t', ok', rfl, hr2, hb3⟩
  obtain ⟨rfl, rfl, rfl, rfl, rfl, rfl⟩ := hr1.eq hr2
  have c0 : w3.cell? ⟨w2.heap.size, 0, none⟩ = some (.int .i64 k) := keep_cell hb3 (by simp)
  have c1 : w3.cell? ⟨w2.heap.size, 1, none⟩ = some (.int .i64 m) := keep_cell hb3 (by simp)
  have c2 : w3.cell? ⟨w2.heap.size, 2, none⟩ = some (.string n) := keep_cell hb3 (by simp)
  have c3 : w3.cell? ⟨w2.heap.size, 3, none⟩ = some (.string g) := keep_cell hb3 (by simp)
  have c4 : w3.cell? ⟨w2.heap.size, 4, none⟩ = some (.string t) := keep_cell hb3 (by simp)
  have hlt : w2.heap.size < w3.heap.size := World.block_lt_of_cell? _ _ c0
  have b3 : Below w.heap.size w w3 := below_trans b2 (below_trans (below1 _ _) hb3)
  clear hr2 hB hb2 hb3 b2
  rcases hr1 with ⟨rfl, hr⟩ | ⟨rfl, ⟨rfl, rfl, rfl, rfl, rfl⟩, hr⟩
  · have HT : Hid (actT k m n g t = s) := hr.text
    have HM := Lib.hid (act_more hr)
    obtain ⟨q1, q2, q3⟩ := act_sizes hr
    have b4 := below_trans b3 (below1 w3 (.cells #[.int .i64 k, .int .i64 m, .string n, .string g, .string t] 30))
    clear hr
    go_wp2_with fail
    refine (i_ReadActivity _ mm _ (by rw [ByteArray.size_append, show (⟨#[32]⟩ : ByteArray).size = 1 from rfl]; omega) (keep_cell b4 hm) (hK.keep b4)).mono ?_
    rintro x w5 ⟨k', m', n', g', t', ok', rfl, hr2, hb5⟩
    rcases hr2 with ⟨rfl, hr2⟩ | ⟨rfl, ⟨rfl, rfl, rfl, rfl, rfl⟩, -⟩
    · exact absurd hr2 (HM.out _ _ _ _ _)
    replace c0 := keep_cell (below_trans (below1 _ _) hb5) c0
    replace c1 := keep_cell (below_trans (below1 _ _) hb5) c1
    replace c2 := keep_cell (below_trans (below1 _ _) hb5) c2
    replace c3 := keep_cell (below_trans (below1 _ _) hb5) c3
    replace c4 := keep_cell (below_trans (below1 _ _) hb5) c4
    have hlt5 : w2.heap.size < w5.heap.size := World.block_lt_of_cell? _ _ c0
    have b5 := below_trans b4 hb5
    have b6 := below_trans b5 (below1 w5 (.cells #[.int .i64 0, .int .i64 0, .string ⟨#[]⟩, .string ⟨#[]⟩, .string ⟨#[]⟩] 30))
    clear hb5 hlt b4 HM
    go_wp2_with fail
    refine (i_ActivityText k m n g t _ q1 q2 q3 (hK.keep b6)).mono ?_
    rintro e w7 ⟨rfl, hb7⟩
    rw [HT.out]
    have b7 := below_trans b6 hb7
    clear hb7 hK hm
    go_wp2_with fail
    go_ret
    exact ⟨rfl, b7⟩
  · clear hr hK hm
    go_wp2_with (first | (go_at_call 13; refine (alive_any _).mono ?_; rintro e w' ⟨rfl, rfl⟩))
    go_ret
    exact ⟨rfl, by repeat (first | exact b3 | refine Below.alloc ?_ (by have := b3.size; omega) _)⟩

set_option maxRecDepth 100000 in
theorem lifted (os : Os) (started : os.Started) (H : Type) (enc : TypeId × Value → H) :
    ReturnsInHanded {} Tryd.checked os 6 .any (fun w args => (Rows.fnReadActivitySpec.pre enc Tryd.prog Tryd.f6 Rows.fnReadActivityRow.domain false w args ∧ laidMetH Tryd.prog Rows.fnReadActivityRow.laid w) ∧ sizedMet enc Tryd.prog Tryd.f6 (OpenSpec.ofChange Rows.fnReadActivitySpec) false w args) (Rows.fnReadActivitySpec.post enc Tryd.prog Tryd.f6 false true false false) := by
  refine handed_shaped (C := Tryd.checked) (X := fun w _ => laidMetH Tryd.prog Rows.fnReadActivityRow.laid w) (fun _ _ _ hh h => h.of_heap hh) own started (by kernel_rfl) Tryd.func6
    (ChangeSpec.witness_shaped (enc := enc) (C := Tryd.checked) (os := os) (X := fun w _ => laidMetH Tryd.prog Rows.fnReadActivityRow.laid w) false (World.laidAll Tryd.prog os Rows.fnReadActivityRow.laid) #[.slice none 0 0] 8 (World.laidAll_os _ _ _)
      (World.shaped_of_ZipB (by kernel_rfl) (by kernel_rfl)) (by kernel_rfl) (by kernel_rfl) (by kernel_rfl)
      (by rw [MakeChecks.laidMetH_plain _ _ _ (by kernel_rfl)]; exact laidMet_laidAll _ (by kernel_rfl) (by kernel_rfl))) ?_
  intro W base args ds gs before hval0 hW hcnd _ hL hsh _
  have hval : ∀ (j : Nat) t v, Tryd.f6.params[j]? = some t → args[j]? = some v → Value.okWide Tryd.prog W .any base t v := hval0
  have hW' := hW
  obtain ⟨p, q, hA0, hV, rfl, hfz, hnd⟩ := hW
  have hA : DataW.TrodAll enc Tryd.prog W 0 (fun _ => true) true Tryd.f6.params.toList args.toList ds p := hA0
  rw [Tryd.params6] at hA hval
  obtain ⟨v0, vs0, d0, ds0, p0, q0, hargs, rfl, rfl, h0, r0⟩ := trodAll_cons hA
  obtain ⟨rfl, rfl, rfl⟩ := trodAll_nil r0
  obtain rfl : args = #[v0] := by cases args; simp_all
  have hV0 := hV
  obtain ⟨_, _, _, _, _, _, rfl, _⟩ := trodVars_one hV
  have k0 := h0
  have lt0 : ∀ x ∈ p0, x.block < W.heap.size := by obtain ⟨m, hm⟩ := k0; exact DataW.trod_lt m _ _ _ hm
  obtain ⟨aa0, len0, cap0, rfl⟩ := okWide_slice Tryd.underlying33 (hval 0 33 v0 rfl rfl)
  obtain ⟨l0, w0, x0⟩ : ∃ l, Sl byteS W (.slice aa0 len0 cap0) l ∧ ∀ y ∈ l, True := by obtain ⟨fuel, hf⟩ := h0; exact open_rows byteS (fun y => True) Tryd.underlying33 (by kernel_rfl) openByte hf
  clear hA0 hval0
  refine (walk _ l0 W w0 x0 (kinds_two (by kernel_rfl) (by kernel_rfl) hL) (cell_of_shapedOpen_int (zero := #[.int .i64 0]) (t := 3) hsh (of_decide_eq_true (by kernel_rfl)) (by kernel_rfl) rfl (by kernel_rfl) (by kernel_rfl) Tryd.underlying3)).mono fun e W' ⟨he, bel⟩ => ?_
  subst he
  exact ⟨_, rfl, _, _, _, [], _, _, hW', trodAll_mk1 (shut_bool Tryd.underlying4 _), (trodAll_cons_mk (Below.trod laidOut (by kernel_rfl) (of_decide_eq_true (by kernel_rfl)) k0 bel lt0) trodAll_mk0), Below.trodVars laidOut bel (by kernel_rfl) hV0, bel.frame _, fun h => by cases h⟩

theorem over : Rows.fnReadActivityRow.holds Tryd.pinned (OpenSpec.ofChange Rows.fnReadActivitySpec) :=
  OpenClaim.holds_of_wide 6 Tryd.f6 rfl rfl rfl rfl rfl rfl rfl ⟨rfl, rfl, rfl, rfl, rfl⟩ rfl rfl rfl rfl rfl (by kernel_rfl) Tryd.func6 (by kernel_rfl)
    (of_decide_eq_true (by kernel_rfl)) (by unfold Func.isWrapper; first | (rw [if_pos (by decide +kernel)]; kernel_rfl) | (rw [if_neg (by decide +kernel)]; exact ⟨rfl, rfl⟩))
    (fun os started H enc _ => lifted os started H enc)

theorem proved : Rows.FnReadActivityCardSaid :=
  Claim7.holds_tied_plain_at .later [] [.data, .data, .pinned] true (true, "65ff4a08d2004c067f5cc8d8e5dbd9831d02fcde3a672a16ac33b20f990b7295") false over (fun _ h => by cases h) (by kernel_rfl) (fun _ h => by cases h) fnReadActivity_row_tie rfl ⟨rfl, rfl⟩ (by kernel_rfl) rfl
    (fun f fn hf hfn => by
      obtain rfl : f = 6 := Option.some.inj ((show Tryd.prog.funcNamed "loop.example/feedbridge/laws.FnReadActivity" = some 6 by kernel_rfl).symm.trans hf) |>.symm
      obtain rfl : fn = Tryd.f6 := (Option.some.inj (Tryd.func6.symm.trans hfn)).symm
      exact ⟨by kernel_rfl, fun j t ht => by
        rw [Tryd.params6] at ht
        have hm : t ∈ [33] := by simpa using Array.mem_of_getElem? ht
        have hall : ([33].all fun u => !Tryd.prog.wantsStandIn u) = true := by kernel_rfl
        exact (show Tryd.prog.wantsStandIn t = false by simpa using List.all_eq_true.1 hall t hm)⟩)
    (by kernel_rfl)
end Go.Proofs.YtackffegdmohiaaDoor.fnReadActivity
