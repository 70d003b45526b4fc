/- FnReadFields: for every input the law returns true, and each argument reads afterwards as it read before. No condition. -/
import Derived.Test.YtemjonibpachbaaDoorRows
import Derived.Test.YtemjonibpachbaaDoorTie
import Derived.Test.YtemjonibpachbaaDoorCards
import Derived.WalkKit
import Derived.LaidMore
import Derived.Lay
import Derived.MakeChecks
import Derived.SevenTiedAt
import Derived.Stop.Joined
import Derived.Handed
import Derived.Shelf.Vars
import Derived.ProofKit
import Derived.OpenShut
import Derived.ChangeOld
import Derived.Below
import Derived.Test.YtemjonibpachbaaDoorOpen
import Derived.Test.YtemjonibpachbaaDoorTypes
import Derived.Test.YtemjonibpachbaaDoorRdFS
import Derived.Test.YtemjonibpachbaaDoorDrawRf
import Derived.Test.YtemjonibpachbaaDoorSameField
import Derived.Test.YtemjonibpachbaaDoorAlive
namespace Go.Proofs.YtemjonibpachbaaDoor.fnReadFields
open Go.ChangeShapes Go.WideShapes Go.ChangeAt Go.RowKit
open Go.ChangeMaps (open_string shut_string)
set_option linter.unusedVariables false

section
variable {H : Type} {enc : TypeId × Value → H}
/-- A call that keeps what it is handed, from a contract that knows a further condition and the world's shape. -/
theorem handed_shaped {a : Assume} {C : Checked} {os : Os} {f : FuncId} {fn : Func} {s : ChangeSpec} {conds : List PathCond} {apart fresh handsOn again : Bool} {X : World → Array Value → Prop}
    (hX : ∀ (w w' : World) (args : Array Value), w.heap = w'.heap → X w args → X w' args)
    (own : ownKnob C.prog.godebug = none) (started : os.Started) (noInit : C.prog.inits.idxOf? f = none) (hfn : C.prog.funcs[f]? = some fn)
    (witness : ∃ (w : World) (tape : Tape) (i : Input), w.os = os ∧ (w.forCall tape i).Shaped C.prog ∧ i.vars = [] ∧ Input.okWide C.prog (w.forCall tape i) .any w.heap.size f i ∧
      ((s.pre enc C.prog fn conds apart (w.forCall tape i).memory i.args ∧ X (w.forCall tape i).memory i.args) ∧ sizedMet enc C.prog fn (OpenSpec.ofChange s) apart (w.forCall tape i).memory i.args) ∧ a.holds C.prog (lone (Frame.enter C.prog f i.args .normal) [] (w.forCall tape i)))
    (contract : ∀ (W : World) (base : Nat) (args : Array Value) (ds gs : List (DataW H)) (before : List MemPlace),
      (∀ (j : Nat) t v, fn.params[j]? = some t → args[j]? = some v → Value.okWide C.prog W .any base t v) →
      DataW.Whole enc C.prog fn.params.toList s.vars apart W args.toList ds gs before →
      conds.all (PathCond.test C.prog ⟨fn.params.toList, ds, s.plain.varTypes C.prog, gs⟩) = true →
      (DataW.weightsEach C.prog (fn.params.toList ++ s.plain.varTypes C.prog) (ds ++ gs)).all (· ≤ reachBytes) = true → X W args → W.ShapedOpen C.prog →
      a.holds C.prog (lone (Frame.enter C.prog f args .normal) [] W) →
      Calls C.prog f args W fun e W' => ∃ v, e = .returned v ∧ s.post enc C.prog fn apart fresh handsOn again W args v W') :
    ReturnsInHanded a C os f .any (fun w args => (s.pre enc C.prog fn conds apart w args ∧ X w args) ∧ sizedMet enc C.prog fn (OpenSpec.ofChange s) apart w args) (s.post enc C.prog fn apart fresh handsOn again) := by
  refine returnsInHanded_of_calls own started noInit witness ?_
  intro w tape i _ hsh _ hok hpre hholds
  obtain ⟨_, _, _, fn', hfn', _, _, _, _, hval⟩ := hok
  obtain rfl : fn' = fn := Option.some.inj (hfn'.symm.trans hfn)
  obtain ⟨⟨⟨ds, gs, before, hw, hc⟩, hx⟩, hz⟩ := hpre
  have hw' := DataW.Whole.of_heap (w' := w.forCall tape i) (by rfl) hw
  refine (contract (w.forCall tape i) w.heap.size i.args ds gs before hval hw' hc (hz.weights hw) (hX _ _ _ (by rfl) hx) hsh hholds).mono fun e W' ⟨v, he, hp⟩ => ?_
  subst he
  exact ChangeSpec.post_blind hp
end
theorem own : ownKnob Tryd.prog.godebug = none := by kernel_rfl
theorem laidOut : laidOutB Tryd.prog = true := by kernel_rfl

theorem openByte {H : Type} {enc : TypeId × Value → H} {w : World} (fuel : Nat) (cs : List Value) (x : DataW H × List MemPlace) (h : DataW.trod enc Tryd.prog w 0 (fun _ => true) true fuel 5 cs = some x) : ∃ y : UInt8, cs = byteS.enc y ∧ True := by
  obtain ⟨s, rfl, _, hb⟩ := DataW.trod_int Tryd.underlying5 h
  have := bounds_u8 hb
  exact ⟨UInt8.ofNat s.toNat, by simp [byteS]; omega, trivial⟩

theorem txt_sort {s : ByteArray} {out x : List Fld} (h : TxtOf s out) (hx : SortRel out x) : fieldsT x = s := by
  obtain rfl : x = out := hx.eq (.inl ⟨h.1, List.Perm.refl _, h.2.1⟩)
  exact Go.WideShapes.bytes_inj h.2.2
theorem dr_sizes_of {s : ByteArray} {out : List Fld} (h : TxtOf s out) : ∀ y ∈ out, y.name.size ≤ 140737488355328 := fun y hy => by
  obtain ⟨k, hk, rfl⟩ := List.getElem_of_mem hy
  have hw := (fld_ok h.1 hk).1
  unfold wordB at hw
  rw [Bool.and_eq_true, decide_eq_true_eq] at hw
  have := size_len out[k].name
  omega
/-- With one more separator behind it, a text has one part more. -/
theorem parts_snoc (c : UInt8) : ∀ l : List UInt8, parts c (l ++ [c]) = parts c l ++ [[]]
  | [] => by simp [parts]
  | a :: l => by
    have ih := parts_snoc c l
    rw [List.cons_append, parts, parts, ih]
    split
    · simp
    · cases hp : parts c l with
      | nil => exact absurd hp (parts_ne c l)
      | cons p r => simp
theorem txt_more (s : ByteArray) : ∀ x, ¬ TxtOf (s ++ ⟨#[59]⟩) x := fun x hx => by
  have h0 : x ≠ [] := fun e => by
    subst e
    have := txt_nil hx
    rw [ByteArray.size_append, show (⟨#[59]⟩ : ByteArray).size = 1 from rfl] at this
    omega
  have hp := txt_parts hx h0
  rw [ByteArray.data_append, Array.toList_append, show (ByteArray.mk #[59]).data.toList = [59] from rfl, parts_snoc] at hp
  have hm : ([] : List UInt8) ∈ x.map partL := by rw [← hp]; simp
  obtain ⟨f, hf, e⟩ := List.mem_map.1 hm
  obtain ⟨k, hk, rfl⟩ := List.getElem_of_mem hf
  obtain ⟨m, e2, _, _⟩ := txt_at hx hk
  rw [e] at e2
  simp at e2

set_option maxHeartbeats 1600000 in
theorem walk (v0 : Value) (l0 : List UInt8) (w : World) (w0 : Sl byteS w v0 l0) (x0 : ∀ y ∈ l0, True) (hm : ∃ m, w.cell? ⟨0, 0, none⟩ = some (.int .i64 m)) :
    Calls Tryd.prog 4 #[v0] w fun e w' => e = .returned (.bool true) ∧ Below w.heap.size w w' := by
  obtain ⟨mm, hm⟩ := hm
  obtain ⟨aa, cap, rfl⟩ : ∃ aa cap, v0 = .slice aa l0.length cap := by obtain ⟨a, c, h, _⟩ := w0; exact ⟨a, c, h⟩
  by_cases hlen : l0.length ≤ 1048576
  rotate_left
  · go_enter Tryd.func4, Tryd.ntmps4
    go_wp2_with fail
    go_ret
    exact ⟨rfl, Below.refl _ _⟩
  go_enter Tryd.func4, Tryd.ntmps4
  go_wp2_with fail
  refine (draw_ReadFields _ l0 _ w0).mono ?_
  rintro e w1 ⟨s, rfl, hs, hB⟩
  go_wp2_with fail
  refine (i_ReadFields s mm _ (by omega) (keep_cell hB hm)).mono ?_
  rintro e w2 ⟨vx, out, ok, rfl, hrx, ox, hb2⟩
  have b2 := below_trans hB hb2
  go_wp2_with fail
  refine (s_ReadFields s _ (by omega)).mono ?_
  rintro e w3 ⟨vy, out', ok', rfl, hry, oy, hb3⟩
  obtain ⟨rfl, rfl⟩ := hrx.eq hry
  have tx : Sl fldS w3 vx out := (Sl.of_owns ox).mono hb3
  have ty : Sl fldS w3 vy out := Sl.of_owns oy
  have b3 := below_trans b2 hb3
  clear hry ox oy hB hb2 hb3 b2
  go_wp2_with fail
  refine (same_Field _ _ out _ tx ty).mono ?_
  rintro e w4 ⟨rfl, hb4⟩
  have tx4 := tx.mono hb4
  have b4 := below_trans b3 hb4
  clear tx ty hb4 b3
  rcases hrx with ⟨rfl, hT⟩ | ⟨rfl, rfl, hN⟩
  · have HT := Lib.hid hT
    have HM := Lib.hid (txt_more s)
    have hz := dr_sizes_of hT
    clear hT
    go_wp2_with fail
    refine (i_ReadFields _ mm _ (by rw [ByteArray.size_append, show (⟨#[59]⟩ : ByteArray).size = 1 from rfl]; omega) (keep_cell b4 hm)).mono ?_
    rintro e w5 ⟨vm, out2, ok2, rfl, hrm, om, hb5⟩
    rcases hrm with ⟨_, hrm⟩ | ⟨rfl, _, _⟩
    · exact absurd hrm (HM.out _)
    have tx5 := tx4.mono hb5
    have b5 := below_trans b4 hb5
    clear om tx4 b4 hb5
    go_wp2_with fail
    refine (i_FieldsText _ out _ tx5 hz).mono ?_
    rintro e w6 ⟨x, hx, rfl, hb6⟩
    rw [txt_sort HT.out hx]
    go_wp2_with fail
    go_ret
    exact ⟨rfl, below_trans b5 hb6⟩
  · obtain ⟨A, c, rfl⟩ : ∃ A c, vx = .slice A 0 c := by obtain ⟨a, c, h, _⟩ := tx4; exact ⟨a, c, h⟩
    clear hN
    go_wp2_with (first | (go_at_call 10; refine (alive_any _).mono ?_; rintro e w' ⟨rfl, rfl⟩))
    go_ret
    exact ⟨rfl, b4⟩

set_option maxRecDepth 100000 in
theorem lifted (os : Os) (started : os.Started) (H : Type) (enc : TypeId × Value → H) :
    ReturnsInHanded {} Tryd.checked os 4 .any (fun w args => (Rows.fnReadFieldsSpec.pre enc Tryd.prog Tryd.f4 Rows.fnReadFieldsRow.domain false w args ∧ laidMetH Tryd.prog Rows.fnReadFieldsRow.laid w) ∧ sizedMet enc Tryd.prog Tryd.f4 (OpenSpec.ofChange Rows.fnReadFieldsSpec) false w args) (Rows.fnReadFieldsSpec.post enc Tryd.prog Tryd.f4 false true false false) := by
  refine handed_shaped (C := Tryd.checked) (X := fun w _ => laidMetH Tryd.prog Rows.fnReadFieldsRow.laid w) (fun _ _ _ hh h => h.of_heap hh) own started (by kernel_rfl) Tryd.func4
    (ChangeSpec.witness_shaped (enc := enc) (C := Tryd.checked) (os := os) (X := fun w _ => laidMetH Tryd.prog Rows.fnReadFieldsRow.laid w) false (World.laidAll Tryd.prog os Rows.fnReadFieldsRow.laid) #[.slice none 0 0] 8 (World.laidAll_os _ _ _)
      (World.shaped_of_ZipB (by kernel_rfl) (by kernel_rfl)) (by kernel_rfl) (by kernel_rfl) (by kernel_rfl)
      (by rw [MakeChecks.laidMetH_plain _ _ _ (by kernel_rfl)]; exact laidMet_laidAll _ (by kernel_rfl) (by kernel_rfl))) ?_
  intro W base args ds gs before hval0 hW hcnd _ hL hsh _
  have hval : ∀ (j : Nat) t v, Tryd.f4.params[j]? = some t → args[j]? = some v → Value.okWide Tryd.prog W .any base t v := hval0
  have hW' := hW
  obtain ⟨p, q, hA0, hV, rfl, hfz, hnd⟩ := hW
  have hA : DataW.TrodAll enc Tryd.prog W 0 (fun _ => true) true Tryd.f4.params.toList args.toList ds p := hA0
  rw [Tryd.params4] at hA hval
  obtain ⟨v0, vs0, d0, ds0, p0, q0, hargs, rfl, rfl, h0, r0⟩ := trodAll_cons hA
  obtain ⟨rfl, rfl, rfl⟩ := trodAll_nil r0
  obtain rfl : args = #[v0] := by cases args; simp_all
  obtain ⟨rfl, rfl⟩ := trodVars_none hV
  have k0 := h0
  have lt0 : ∀ x ∈ p0, x.block < W.heap.size := by obtain ⟨m, hm⟩ := k0; exact DataW.trod_lt m _ _ _ hm
  obtain ⟨aa0, len0, cap0, rfl⟩ := okWide_slice Tryd.underlying22 (hval 0 22 v0 rfl rfl)
  obtain ⟨l0, w0, x0⟩ : ∃ l, Sl byteS W (.slice aa0 len0 cap0) l ∧ ∀ y ∈ l, True := by obtain ⟨fuel, hf⟩ := h0; exact open_rows byteS (fun y => True) Tryd.underlying22 (by kernel_rfl) openByte hf
  clear hA0 hval0
  refine (walk _ l0 W w0 x0 (cell_of_shapedOpen_int (zero := #[.int .i64 0]) (t := 3) hsh (of_decide_eq_true (by kernel_rfl)) (by kernel_rfl) rfl (by kernel_rfl) (by kernel_rfl) Tryd.underlying3)).mono fun e W' ⟨he, bel⟩ => ?_
  subst he
  exact ⟨_, rfl, _, _, _, [], _, [], hW', trodAll_mk1 (shut_bool Tryd.underlying4 _), (trodAll_cons_mk (Below.trod laidOut (by kernel_rfl) (of_decide_eq_true (by kernel_rfl)) k0 bel lt0) trodAll_mk0), rfl, bel.frame _, fun h => by cases h⟩

theorem over : Rows.fnReadFieldsRow.holds Tryd.pinned (OpenSpec.ofChange Rows.fnReadFieldsSpec) :=
  OpenClaim.holds_of_wide 4 Tryd.f4 rfl rfl rfl rfl rfl rfl rfl ⟨rfl, rfl, rfl, rfl, rfl⟩ rfl rfl rfl rfl rfl (by kernel_rfl) Tryd.func4 (by kernel_rfl)
    (of_decide_eq_true (by kernel_rfl)) (by unfold Func.isWrapper; first | (rw [if_pos (by decide +kernel)]; kernel_rfl) | (rw [if_neg (by decide +kernel)]; exact ⟨rfl, rfl⟩))
    (fun os started H enc _ => lifted os started H enc)

theorem proved : Rows.FnReadFieldsCardSaid :=
  Claim7.holds_tied_plain_at .later [] [.data, .pinned] true (true, "181d55fd93934a6ae79c2a1c01d5d7558bf898ab9062f24197cd0f7fb54a9c15") false over (fun _ h => by cases h) (by kernel_rfl) (fun _ h => by cases h) fnReadFields_row_tie rfl ⟨rfl, rfl⟩ (by kernel_rfl) rfl
    (fun f fn hf hfn => by
      obtain rfl : f = 4 := Option.some.inj ((show Tryd.prog.funcNamed "loop.example/feedbridge/laws.FnReadFields" = some 4 by kernel_rfl).symm.trans hf) |>.symm
      obtain rfl : fn = Tryd.f4 := (Option.some.inj (Tryd.func4.symm.trans hfn)).symm
      exact ⟨by kernel_rfl, fun j t ht => by
        rw [Tryd.params4] at ht
        have hm : t ∈ [22] := by simpa using Array.mem_of_getElem? ht
        have hall : ([22].all fun u => !Tryd.prog.wantsStandIn u) = true := by kernel_rfl
        exact (show Tryd.prog.wantsStandIn t = false by simpa using List.all_eq_true.1 hall t hm)⟩)
    (by kernel_rfl)
end Go.Proofs.YtemjonibpachbaaDoor.fnReadFields
