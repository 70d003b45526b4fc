/- FnExactHandleValid: for every input the law returns true, and each argument reads afterwards as it read before. No condition. -/
import Derived.Test.YtkfcbjhfioblgaaRows
import Derived.WalkKit
import Derived.ProofKit
import Derived.OpenShut
import Derived.ChangeOld
import Derived.Below
import Derived.Test.YtkfcbjhfioblgaaOpen
import Derived.Test.YtkfcbjhfioblgaaTypes
import Derived.Test.YtkfcbjhfioblgaaHandF
namespace Go.Proofs.Ytkfcbjhfioblgaa.fnExactHandleValid
open Go.ChangeShapes Go.WideShapes Go.ChangeAt Go.RowKit
open Go.ChangeMaps (open_string shut_string)
set_option linter.unusedVariables false

theorem own : ownKnob Try.prog.godebug = none := by kernel_rfl
theorem laidOut : laidOutB Try.prog = true := by kernel_rfl

def OkHnd (y : Hnd) : Prop := y.name.size ≤ maxLen ∧ y.host.size ≤ maxLen
theorem openHnd {H : Type} {enc : TypeId × Value → H} {w : World} (fuel : Nat) (cs : List Value) (x : DataW H × List MemPlace) (h : DataW.trod enc Try.prog w 0 (fun _ => true) true fuel 23 cs = some x) : ∃ y : Hnd, cs = hndS.enc y ∧ OkHnd y := by
  obtain ⟨xs, n, _, _, hl, hx, hf⟩ := DataW.trod_struct Try.underlying23 h
  have hl2 : cs.length = 2 := hl.trans (by kernel_rfl)
  have hx2 : xs.length = 2 := hx
  match cs, hl2, xs, hx2 with
  | [c0, c1], _, [x0, x1], _ =>
    have e0 : DataW.trod enc Try.prog w 0 (fun _ => true) true n 9 [c0] = some x0 := by have := hf 0 _ rfl; simpa [show Try.prog.cellsOf 9 = 1 by kernel_rfl] using this
    obtain ⟨s0, hs0, _, hb0⟩ := DataW.trod_string Try.underlying9 e0
    simp only [List.cons.injEq, and_true] at hs0
    subst hs0
    have e1 : DataW.trod enc Try.prog w 0 (fun _ => true) true n 9 [c1] = some x1 := by have := hf 1 _ rfl; simpa [show Try.prog.cellsOf 9 = 1 by kernel_rfl] using this
    obtain ⟨s1, hs1, _, hb1⟩ := DataW.trod_string Try.underlying9 e1
    simp only [List.cons.injEq, and_true] at hs1
    subst hs1
    exact ⟨⟨s0, s1⟩, rfl, hb0, hb1⟩


theorem walk (a0 : Hnd) (w : World) (w0 : OkHnd a0) :
    Calls Try.prog 4 #[.agg #[.string a0.name, .string a0.host]] w fun e w' => e = .returned (.bool true) ∧ Below w.heap.size w w' := by
  go_enter Try.func4, Try.ntmps4
  go_wp2_with fail
  refine (sz_Handle _ _ _ _ w0.1 w0.2 (by decide) (by decide)).mono ?_
  rintro x w1 ⟨r, rfl, hr, hb0⟩
  have c0 : w1.cell? ⟨w.heap.size, 0, none⟩ = some (.string a0.name) := keep_cell hb0 (by simp)
  have c1 : w1.cell? ⟨w.heap.size, 1, none⟩ = some (.string a0.host) := keep_cell hb0 (by simp)
  rcases hr with rfl | ⟨hr, hs⟩
  · go_wp2_with fail
    go_ret
    exact ⟨rfl, below_trans (below1 _ _) hb0⟩
  go_wp2_with fail
  refine (to_Handle _ _ _).mono ?_
  rintro x w2 ⟨rfl, hb1⟩
  go_wp2_with fail
  refine (s_HandleValid _ _ _ (by omega) (by omega)).mono ?_
  rintro x w3 ⟨rfl, hb2⟩
  have c2 : w3.cell? ⟨w.heap.size, 0, none⟩ = some (.string a0.name) := keep_cell hb2 (keep_cell hb1 c0)
  have c3 : w3.cell? ⟨w.heap.size, 1, none⟩ = some (.string a0.host) := keep_cell hb2 (keep_cell hb1 c1)
  go_wp2_with fail
  refine (to_Handle _ _ _).mono ?_
  rintro x w4 ⟨rfl, hb3⟩
  go_wp2_with fail
  refine (i_HandleValid _ _ _ (by omega) (by omega)).mono ?_
  rintro x w5 ⟨rfl, hb4⟩
  go_wp2_with fail
  go_ret
  exact ⟨rfl, below_trans (below_trans (below_trans (below_trans (below_trans (below1 _ _) hb0) hb1) hb2) hb3) hb4⟩

set_option maxRecDepth 100000 in
theorem lifted (os : Os) (started : os.Started) (H : Type) (enc : TypeId × Value → H) :
    ReturnsInHanded {} Try.checked os 4 .any (Rows.fnExactHandleValidSpec.pre6 enc Try.prog Try.f4 Rows.fnExactHandleValidRow.domain false) (Rows.fnExactHandleValidSpec.post enc Try.prog Try.f4 false true false false) := by
  refine returnsInHanded_of_change (C := Try.checked) own started (by kernel_rfl) Try.func4
    (ChangeSpec.witness6 (enc := enc) (C := Try.checked) false ⟨#[], #[.agg #[.string ByteArray.empty, .string ByteArray.empty]], []⟩ 8 (by kernel_rfl) (by kernel_rfl) (by kernel_rfl) (by kernel_rfl)) ?_
  intro W base args ds gs before hval0 hW hcnd _
  have hval : ∀ (j : Nat) t v, Try.f4.params[j]? = some t → args[j]? = some v → Value.okWide Try.prog W .any base t v := hval0
  have hW' := hW
  obtain ⟨p, q, hA0, hV, rfl, hfz, hnd⟩ := hW
  have hA : DataW.TrodAll enc Try.prog W 0 (fun _ => true) true Try.f4.params.toList args.toList ds p := hA0
  rw [Try.params4] at hA hval
  obtain ⟨v0, vs0, d0, ds0, p0, q0, hargs, rfl, rfl, h0, r0⟩ := trodAll_cons hA
  obtain ⟨rfl, rfl, rfl⟩ := trodAll_nil r0
  obtain rfl : args = #[v0] := by cases args; simp_all
  obtain ⟨rfl, rfl⟩ := trodVars_none hV
  have k0 := h0
  have lt0 : ∀ x ∈ p0, x.block < W.heap.size := by obtain ⟨m, hm⟩ := k0; exact DataW.trod_lt m _ _ _ hm
  obtain ⟨cs0, rfl, _⟩ := okWide_struct Try.underlying23 (hval 0 23 v0 rfl rfl)
  obtain ⟨a0, hcs0, w0⟩ : ∃ y, cs0.toList = hndS.enc y ∧ OkHnd y := by obtain ⟨fuel, hf⟩ := h0; exact openHnd fuel _ _ hf
  obtain rfl : cs0 = (hndS.enc a0).toArray := by rw [← hcs0]
  clear hA0 hval0
  refine (walk a0 W w0).mono fun e W' ⟨he, bel⟩ => ?_
  subst he
  exact ⟨_, rfl, _, _, _, [], _, [], hW', trodAll_mk1 (shut_bool Try.underlying4 _), (trodAll_cons_mk (Below.trod laidOut (by kernel_rfl) (of_decide_eq_true (by kernel_rfl)) k0 bel lt0) trodAll_mk0), rfl, bel.frame _, fun h => by cases h⟩

theorem over : Rows.fnExactHandleValidRow.holds Try.pinned (OpenSpec.ofChange Rows.fnExactHandleValidSpec) :=
  OpenClaim.holds_of_wide 4 Try.f4 rfl rfl rfl rfl rfl rfl rfl ⟨rfl, rfl, rfl, rfl, rfl⟩ rfl rfl rfl rfl rfl (by kernel_rfl) Try.func4 (by kernel_rfl)
    (of_decide_eq_true (by kernel_rfl)) (by unfold Func.isWrapper; first | (rw [if_pos (by decide +kernel)]; kernel_rfl) | (rw [if_neg (by decide +kernel)]; exact ⟨rfl, rfl⟩))
    (fun os started H enc _ => lifted os started H enc)

theorem proved : Rows.FnExactHandleValidSaid := over
end Go.Proofs.Ytkfcbjhfioblgaa.fnExactHandleValid
