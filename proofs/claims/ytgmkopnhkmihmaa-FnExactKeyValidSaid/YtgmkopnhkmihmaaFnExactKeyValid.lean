/- FnExactKeyValid: for every input the law returns true, and each argument reads afterwards as it read before. No condition. -/
import Derived.Test.YtgmkopnhkmihmaaRows
import Derived.WalkKit
import Derived.ProofKit
import Derived.OpenShut
import Derived.ChangeOld
import Derived.Below
import Derived.Test.YtgmkopnhkmihmaaOpen
import Derived.Test.YtgmkopnhkmihmaaTypes
import Derived.Test.YtgmkopnhkmihmaaKey
namespace Go.Proofs.Ytgmkopnhkmihmaa.fnExactKeyValid
open Go.ChangeShapes Go.WideShapes Go.ChangeAt Go.RowKit
open Go.ChangeMaps (open_string shut_string)
set_option linter.unusedVariables false

theorem own : ownKnob Try.prog.godebug = none := by kernel_rfl
theorem laidOut : laidOutB Try.prog = true := by kernel_rfl

def OkKey3 (y : Key3) : Prop := (Lit.int .i64 y.one).wf = true ∧ (Lit.int .i64 y.two).wf = true ∧ (Lit.int .i64 y.exp).wf = true
theorem openKey3 {H : Type} {enc : TypeId × Value → H} {w : World} (fuel : Nat) (cs : List Value) (x : DataW H × List MemPlace) (h : DataW.trod enc Try.prog w 0 (fun _ => true) true fuel 35 cs = some x) : ∃ y : Key3, cs = keyS.enc y ∧ OkKey3 y := by
  obtain ⟨xs, n, _, _, hl, hx, hf⟩ := DataW.trod_struct Try.underlying35 h
  have hl2 : cs.length = 3 := hl.trans (by kernel_rfl)
  have hx2 : xs.length = 3 := hx
  match cs, hl2, xs, hx2 with
  | [c0, c1, c2], _, [x0, x1, x2], _ =>
    have e0 : DataW.trod enc Try.prog w 0 (fun _ => true) true n 3 [c0] = some x0 := by have := hf 0 _ rfl; simpa [show Try.prog.cellsOf 3 = 1 by kernel_rfl] using this
    obtain ⟨s0, hs0, _, hb0⟩ := DataW.trod_int Try.underlying3 e0
    simp only [List.cons.injEq, and_true] at hs0
    subst hs0
    have e1 : DataW.trod enc Try.prog w 0 (fun _ => true) true n 3 [c1] = some x1 := by have := hf 1 _ rfl; simpa [show Try.prog.cellsOf 3 = 1 by kernel_rfl] using this
    obtain ⟨s1, hs1, _, hb1⟩ := DataW.trod_int Try.underlying3 e1
    simp only [List.cons.injEq, and_true] at hs1
    subst hs1
    have e2 : DataW.trod enc Try.prog w 0 (fun _ => true) true n 3 [c2] = some x2 := by have := hf 2 _ rfl; simpa [show Try.prog.cellsOf 3 = 1 by kernel_rfl] using this
    obtain ⟨s2, hs2, _, hb2⟩ := DataW.trod_int Try.underlying3 e2
    simp only [List.cons.injEq, and_true] at hs2
    subst hs2
    exact ⟨⟨s0, s1, s2⟩, rfl, hb0, hb1, hb2⟩


theorem walk (a0 : Key3) (w : World) (w0 : OkKey3 a0) :
    Calls Try.prog 11 #[.agg #[.int .i64 a0.one, .int .i64 a0.two, .int .i64 a0.exp]] w fun e w' => e = .returned (.bool true) ∧ Below w.heap.size w w' := by
  go_enter Try.func11, Try.ntmps11
  go_wp2_with fail
  refine (to_SignKey _ _ _ _).mono ?_
  rintro x w1 ⟨rfl, hb1⟩
  go_wp2_with fail
  refine (s_KeyValid _ _ _ _).mono ?_
  rintro x w2 ⟨u, rfl, hu, hb2⟩
  have c0 : w2.cell? ⟨w.heap.size, 0, none⟩ = some (.int .i64 a0.one) := keep_cell hb2 (keep_cell hb1 (by simp))
  have c1 : w2.cell? ⟨w.heap.size, 1, none⟩ = some (.int .i64 a0.two) := keep_cell hb2 (keep_cell hb1 (by simp))
  have c2 : w2.cell? ⟨w.heap.size, 2, none⟩ = some (.int .i64 a0.exp) := keep_cell hb2 (keep_cell hb1 (by simp))
  go_wp2_with fail
  refine (to_SignKey _ _ _ _).mono ?_
  rintro x w3 ⟨rfl, hb3⟩
  go_wp2_with fail
  refine (i_KeyValid _ _ _ _).mono ?_
  rintro x w4 ⟨v, rfl, hv, hb4⟩
  obtain rfl := hu.unique hv
  clear hu hv
  go_wp2_with fail
  go_ret
  exact ⟨rfl, below_trans (below_trans (below_trans (below_trans (below1 _ _) hb1) hb2) hb3) hb4⟩

set_option maxRecDepth 100000 in
theorem lifted (os : Os) (started : os.Started) (H : Type) (enc : TypeId × Value → H) :
    ReturnsInHanded {} Try.checked os 11 .any (Rows.fnExactKeyValidSpec.pre6 enc Try.prog Try.f11 Rows.fnExactKeyValidRow.domain false) (Rows.fnExactKeyValidSpec.post enc Try.prog Try.f11 false true false false) := by
  refine returnsInHanded_of_change (C := Try.checked) own started (by kernel_rfl) Try.func11
    (ChangeSpec.witness6 (enc := enc) (C := Try.checked) false ⟨#[], #[.agg #[.int .i64 0, .int .i64 0, .int .i64 0]], []⟩ 8 (by kernel_rfl) (by kernel_rfl) (by kernel_rfl) (by kernel_rfl)) ?_
  intro W base args ds gs before hval0 hW hcnd _
  have hval : ∀ (j : Nat) t v, Try.f11.params[j]? = some t → args[j]? = some v → Value.okWide Try.prog W .any base t v := hval0
  have hW' := hW
  obtain ⟨p, q, hA0, hV, rfl, hfz, hnd⟩ := hW
  have hA : DataW.TrodAll enc Try.prog W 0 (fun _ => true) true Try.f11.params.toList args.toList ds p := hA0
  rw [Try.params11] at hA hval
  obtain ⟨v0, vs0, d0, ds0, p0, q0, hargs, rfl, rfl, h0, r0⟩ := trodAll_cons hA
  obtain ⟨rfl, rfl, rfl⟩ := trodAll_nil r0
  obtain rfl : args = #[v0] := by cases args; simp_all
  obtain ⟨rfl, rfl⟩ := trodVars_none hV
  have k0 := h0
  have lt0 : ∀ x ∈ p0, x.block < W.heap.size := by obtain ⟨m, hm⟩ := k0; exact DataW.trod_lt m _ _ _ hm
  obtain ⟨cs0, rfl, _⟩ := okWide_struct Try.underlying35 (hval 0 35 v0 rfl rfl)
  obtain ⟨a0, hcs0, w0⟩ : ∃ y, cs0.toList = keyS.enc y ∧ OkKey3 y := by obtain ⟨fuel, hf⟩ := h0; exact openKey3 fuel _ _ hf
  obtain rfl : cs0 = (keyS.enc a0).toArray := by rw [← hcs0]
  clear hA0 hval0
  refine (walk a0 W w0).mono fun e W' ⟨he, bel⟩ => ?_
  subst he
  exact ⟨_, rfl, _, _, _, [], _, [], hW', trodAll_mk1 (shut_bool Try.underlying4 _), (trodAll_cons_mk (Below.trod laidOut (by kernel_rfl) (of_decide_eq_true (by kernel_rfl)) k0 bel lt0) trodAll_mk0), rfl, bel.frame _, fun h => by cases h⟩

theorem over : Rows.fnExactKeyValidRow.holds Try.pinned (OpenSpec.ofChange Rows.fnExactKeyValidSpec) :=
  OpenClaim.holds_of_wide 11 Try.f11 rfl rfl rfl rfl rfl rfl rfl ⟨rfl, rfl, rfl, rfl, rfl⟩ rfl rfl rfl rfl rfl (by kernel_rfl) Try.func11 (by kernel_rfl)
    (of_decide_eq_true (by kernel_rfl)) (by unfold Func.isWrapper; first | (rw [if_pos (by decide +kernel)]; kernel_rfl) | (rw [if_neg (by decide +kernel)]; exact ⟨rfl, rfl⟩))
    (fun os started H enc _ => lifted os started H enc)

theorem proved : Rows.FnExactKeyValidSaid := over
end Go.Proofs.Ytgmkopnhkmihmaa.fnExactKeyValid
