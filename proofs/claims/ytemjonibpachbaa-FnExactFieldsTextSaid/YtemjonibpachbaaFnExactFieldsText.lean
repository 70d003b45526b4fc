/- FnExactFieldsText: for every input the law returns true, and each argument reads afterwards as it read before. No condition. -/
import Derived.Test.YtemjonibpachbaaRows
import Derived.WalkKit
import Derived.ProofKit
import Derived.OpenShut
import Derived.ChangeOld
import Derived.Below
import Derived.Test.YtemjonibpachbaaOpen
import Derived.Test.YtemjonibpachbaaTypes
import Derived.Test.YtemjonibpachbaaFldT
import Derived.Test.YtemjonibpachbaaOwn
namespace Go.Proofs.Ytemjonibpachbaa.fnExactFieldsText
open Go.ChangeShapes Go.WideShapes Go.ChangeAt Go.RowKit
open Go.ChangeMaps (open_string shut_string)
set_option linter.unusedVariables false

theorem own : ownKnob Try.prog.godebug = none := by kernel_rfl
theorem laidOut : laidOutB Try.prog = true := by kernel_rfl

def OkFld (y : Fld) : Prop := y.name.size ≤ maxLen ∧ (Lit.int .i64 y.val).wf = true
theorem openFld {H : Type} {enc : TypeId × Value → H} {w : World} (fuel : Nat) (cs : List Value) (x : DataW H × List MemPlace) (h : DataW.trod enc Try.prog w 0 (fun _ => true) true fuel 44 cs = some x) : ∃ y : Fld, cs = fldS.enc y ∧ OkFld y := by
  obtain ⟨xs, n, _, _, hl, hx, hf⟩ := DataW.trod_struct Try.underlying44 h
  have hl2 : cs.length = 2 := hl.trans (by kernel_rfl)
  have hx2 : xs.length = 2 := hx
  match cs, hl2, xs, hx2 with
  | [c0, c1], _, [x0, x1], _ =>
    have e0 : DataW.trod enc Try.prog w 0 (fun _ => true) true n 9 [c0] = some x0 := by have := hf 0 _ rfl; simpa [show Try.prog.cellsOf 9 = 1 by kernel_rfl] using this
    obtain ⟨s0, hs0, _, hb0⟩ := DataW.trod_string Try.underlying9 e0
    simp only [List.cons.injEq, and_true] at hs0
    subst hs0
    have e1 : DataW.trod enc Try.prog w 0 (fun _ => true) true n 3 [c1] = some x1 := by have := hf 1 _ rfl; simpa [show Try.prog.cellsOf 3 = 1 by kernel_rfl] using this
    obtain ⟨s1, hs1, _, hb1⟩ := DataW.trod_int Try.underlying3 e1
    simp only [List.cons.injEq, and_true] at hs1
    subst hs1
    exact ⟨⟨s0, s1⟩, rfl, hb0, hb1⟩


set_option maxHeartbeats 1600000 in
theorem walk (v0 : Value) (l0 : List Fld) (w : World) (w0 : Sl fldS w v0 l0) (x0 : ∀ y ∈ l0, OkFld y) :
    Calls Try.prog 7 #[v0] w fun e w' => e = .returned (.bool true) ∧ Below w.heap.size w w' := by
  go_enter Try.func7, Try.ntmps7
  go_wp2_with fail
  refine (szFldS_any v0 l0 1048576 _ _ rfl w0 (fun y hy => (x0 y hy).1) (Nat.le_refl _)).mono ?_
  rintro x w1 ⟨r, rfl, hr, hb1⟩
  have s1 := w0.mono hb1
  rcases hr with rfl | ⟨hS, hr0, hr1⟩
  · go_wp2_with fail
    go_ret
    exact ⟨rfl, hb1⟩
  have hz : ∀ y ∈ l0, y.name.size ≤ 140737488355328 := fun y hy => by have := hS.2 y hy; omega
  have hl0 := hS.1
  obtain ⟨q, rfl⟩ := Int.eq_ofNat_of_zero_le hr0
  go_wp2_with fail
  refine (toFieldS_any _ l0 _ s1 hS.1).mono ?_
  rintro x w2 ⟨v1, rfl, ho1, hb2⟩
  have t1 : Sl fldS w2 v1 l0 := Sl.of_owns ho1
  clear ho1
  go_wp2_with fail
  refine (s_FieldsText _ l0 _ t1 hz).mono ?_
  rintro x w3 ⟨out, hrw, rfl, hb3⟩
  have hb13 := below_trans (below_trans hb1 hb2) hb3
  have s3 := w0.mono hb13
  clear t1 hb2 hb3 hb1 s1
  go_wp2_with fail
  refine (toFieldS_any _ l0 _ s3 hl0).mono ?_
  rintro x w4 ⟨vx, rfl, ox, hb4⟩
  have t2 : Sl fldS w4 vx l0 := Sl.of_owns ox
  go_wp2_with fail
  refine (i_FieldsText _ l0 _ t2 hz).mono ?_
  rintro x w5 ⟨out', hrg, rfl, hb5⟩
  obtain rfl := hrw.eq hrg
  have b5 : Below w.heap.size w w5 := below_trans (below_trans hb13 hb4) hb5
  have s5 := w0.mono b5
  have tx5 := t2.mono hb5
  clear ox t2 s3 hb4 hb5 hb13
  go_wp2_with fail
  refine (toFieldS_any _ l0 _ s5 hl0).mono ?_
  rintro x w7 ⟨v3, rfl, o3, hb7⟩
  have t3 : Sl fldS w7 v3 l0 := Sl.of_owns o3
  have tx7 := tx5.mono hb7
  go_wp2_with fail
  refine (eqFieldS_same _ _ l0 _ tx7 t3).mono ?_
  rintro x w8 ⟨rfl, hb8⟩
  go_wp2_with fail
  go_ret
  exact ⟨rfl, below_trans b5 (below_trans hb7 hb8)⟩

set_option maxRecDepth 100000 in
theorem lifted (os : Os) (started : os.Started) (H : Type) (enc : TypeId × Value → H) :
    ReturnsInHanded {} Try.checked os 7 .any (Rows.fnExactFieldsTextSpec.pre6 enc Try.prog Try.f7 Rows.fnExactFieldsTextRow.domain false) (Rows.fnExactFieldsTextSpec.post enc Try.prog Try.f7 false true false false) := by
  refine returnsInHanded_of_change (C := Try.checked) own started (by kernel_rfl) Try.func7
    (ChangeSpec.witness6 (enc := enc) (C := Try.checked) false ⟨#[], #[.slice none 0 0], []⟩ 8 (by kernel_rfl) (by kernel_rfl) (by kernel_rfl) (by kernel_rfl)) ?_
  intro W base args ds gs before hval0 hW hcnd _
  have hval : ∀ (j : Nat) t v, Try.f7.params[j]? = some t → args[j]? = some v → Value.okWide Try.prog W .any base t v := hval0
  have hW' := hW
  obtain ⟨p, q, hA0, hV, rfl, hfz, hnd⟩ := hW
  have hA : DataW.TrodAll enc Try.prog W 0 (fun _ => true) true Try.f7.params.toList args.toList ds p := hA0
  rw [Try.params7] at hA hval
  obtain ⟨v0, vs0, d0, ds0, p0, q0, hargs, rfl, rfl, h0, r0⟩ := trodAll_cons hA
  obtain ⟨rfl, rfl, rfl⟩ := trodAll_nil r0
  obtain rfl : args = #[v0] := by cases args; simp_all
  obtain ⟨rfl, rfl⟩ := trodVars_none hV
  have k0 := h0
  have lt0 : ∀ x ∈ p0, x.block < W.heap.size := by obtain ⟨m, hm⟩ := k0; exact DataW.trod_lt m _ _ _ hm
  obtain ⟨aa0, len0, cap0, rfl⟩ := okWide_slice Try.underlying30 (hval 0 30 v0 rfl rfl)
  obtain ⟨l0, w0, x0⟩ : ∃ l, Sl fldS W (.slice aa0 len0 cap0) l ∧ ∀ y ∈ l, OkFld y := by obtain ⟨fuel, hf⟩ := h0; exact open_rows fldS (fun y => OkFld y) Try.underlying30 (by kernel_rfl) openFld hf
  clear hA0 hval0
  refine (walk _ l0 W w0 x0).mono fun e W' ⟨he, bel⟩ => ?_
  subst he
  exact ⟨_, rfl, _, _, _, [], _, [], hW', trodAll_mk1 (shut_bool Try.underlying4 _), (trodAll_cons_mk (Below.trod laidOut (by kernel_rfl) (of_decide_eq_true (by kernel_rfl)) k0 bel lt0) trodAll_mk0), rfl, bel.frame _, fun h => by cases h⟩

theorem over : Rows.fnExactFieldsTextRow.holds Try.pinned (OpenSpec.ofChange Rows.fnExactFieldsTextSpec) :=
  OpenClaim.holds_of_wide 7 Try.f7 rfl rfl rfl rfl rfl rfl rfl ⟨rfl, rfl, rfl, rfl, rfl⟩ rfl rfl rfl rfl rfl (by kernel_rfl) Try.func7 (by kernel_rfl)
    (of_decide_eq_true (by kernel_rfl)) (by unfold Func.isWrapper; first | (rw [if_pos (by decide +kernel)]; kernel_rfl) | (rw [if_neg (by decide +kernel)]; exact ⟨rfl, rfl⟩))
    (fun os started H enc _ => lifted os started H enc)

theorem proved : Rows.FnExactFieldsTextSaid := over
end Go.Proofs.Ytemjonibpachbaa.fnExactFieldsText
