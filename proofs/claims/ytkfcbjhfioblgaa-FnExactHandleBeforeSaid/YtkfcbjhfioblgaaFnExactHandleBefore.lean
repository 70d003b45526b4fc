/- FnExactHandleBefore: for every input the law returns true, and each argument reads afterwards as it read before. No condition. -/
import Derived.Test.YtkfcbjhfioblgaaRows
import Derived.WalkKit
import Derived.ProofKit
import Derived.OpenShut
import Derived.ChangeOld
import Derived.Below
import Derived.Test.YtkfcbjhfioblgaaOpen
import Derived.Test.YtkfcbjhfioblgaaTypes
import Derived.Test.YtkfcbjhfioblgaaHandF
import Derived.Deep.RegionHeld3
namespace Go.Proofs.Ytkfcbjhfioblgaa.fnExactHandleBefore
open Go.ChangeShapes Go.WideShapes Go.ChangeAt Go.RowKit
open Go.ChangeMaps (open_string shut_string)
set_option linter.unusedVariables false

theorem own : ownKnob Try.prog.godebug = none := by kernel_rfl
theorem laidOut : laidOutB Try.prog = true := by kernel_rfl

def OkHnd (y : Hnd) : Prop := y.name.size ≤ maxLen ∧ y.host.size ≤ maxLen
theorem openHnd {H : Type} {enc : TypeId × Value → H} {w : World} (fuel : Nat) (cs : List Value) (x : DataW H × List MemPlace) (h : DataW.trod enc Try.prog w 0 (fun _ => true) true fuel 23 cs = some x) : ∃ y : Hnd, cs = hndS.enc y ∧ OkHnd y := by
  obtain ⟨xs, n, _, _, hl, hx, hf⟩ := DataW.trod_struct Try.underlying23 h
  have hl2 : cs.length = 2 := hl.trans (by kernel_rfl)
  have hx2 : xs.length = 2 := hx
  match cs, hl2, xs, hx2 with
  | [c0, c1], _, [x0, x1], _ =>
    have e0 : DataW.trod enc Try.prog w 0 (fun _ => true) true n 9 [c0] = some x0 := by have := hf 0 _ rfl; simpa [show Try.prog.cellsOf 9 = 1 by kernel_rfl] using this
    obtain ⟨s0, hs0, _, hb0⟩ := DataW.trod_string Try.underlying9 e0
    simp only [List.cons.injEq, and_true] at hs0
    subst hs0
    have e1 : DataW.trod enc Try.prog w 0 (fun _ => true) true n 9 [c1] = some x1 := by have := hf 1 _ rfl; simpa [show Try.prog.cellsOf 9 = 1 by kernel_rfl] using this
    obtain ⟨s1, hs1, _, hb1⟩ := DataW.trod_string Try.underlying9 e1
    simp only [List.cons.injEq, and_true] at hs1
    subst hs1
    exact ⟨⟨s0, s1⟩, rfl, hb0, hb1⟩


theorem walk (a0 : Hnd) (a1 : Hnd) (w : World) (w0 : OkHnd a0) (w1 : OkHnd a1) :
    Calls Try.prog 3 #[.agg #[.string a0.name, .string a0.host], .agg #[.string a1.name, .string a1.host]] w fun e w' => e = .returned (.bool true) ∧ Below w.heap.size w w' := by
  have m0 := w0
  have m1 := w1
  clear w0 w1
  go_enter Try.func3, Try.ntmps3
  go_wp2_with fail
  refine (sz_Handle _ _ _ _ m0.1 m0.2 (by decide) (by decide)).mono ?_
  rintro x w1 ⟨r, rfl, hr, hb0⟩
  have c0 : w1.cell? ⟨w.heap.size, 0, none⟩ = some (.string a0.name) := keep_cell hb0 (by simp)
  have c1 : w1.cell? ⟨w.heap.size, 1, none⟩ = some (.string a0.host) := keep_cell hb0 (by simp)
  have d0 : w1.cell? ⟨w.heap.size + 1, 0, none⟩ = some (.string a1.name) := keep_cell hb0 (by simp)
  have d1 : w1.cell? ⟨w.heap.size + 1, 1, none⟩ = some (.string a1.host) := keep_cell hb0 (by simp)
  rcases hr with rfl | ⟨hr, hs⟩
  · go_wp2_with fail
    go_ret
    exact ⟨rfl, below_trans (by repeat (first | exact Below.refl _ _ | refine Below.alloc ?_ (by first | (simp; done) | (simp; omega)) _ | refine Below.drew ?_)) hb0⟩
  go_wp2_with fail
  refine (sz_Handle _ _ _ _ m1.1 m1.2 (by omega) (by omega)).mono ?_
  rintro x w2 ⟨r2, rfl, hr2, hb1⟩
  replace c0 := keep_cell hb1 c0
  replace c1 := keep_cell hb1 c1
  replace d0 := keep_cell hb1 d0
  replace d1 := keep_cell hb1 d1
  have hb : Below w.heap.size w w2 := below_trans (below_trans (by repeat (first | exact Below.refl _ _ | refine Below.alloc ?_ (by first | (simp; done) | (simp; omega)) _ | refine Below.drew ?_)) hb0) hb1
  clear hb0 hb1
  rcases hr2 with rfl | ⟨hr2, hs2⟩
  · go_wp2_with fail
    go_ret
    exact ⟨rfl, hb⟩
  go_wp2_with fail
  go_region_held3 (fun w' => Below w.heap.size w w' ∧ w'.cell? ⟨w.heap.size, 0, none⟩ = some (.string a0.name) ∧ w'.cell? ⟨w.heap.size, 1, none⟩ = some (.string a0.host) ∧ w'.cell? ⟨w.heap.size + 1, 0, none⟩ = some (.string a1.name) ∧ w'.cell? ⟨w.heap.size + 1, 1, none⟩ = some (.string a1.host))
    (first | assumption | (refine ⟨hb.drew, ?_⟩; go_keep) | (go_split_ands; refine ⟨below_trans (by assumption) hc, ?_, ?_, ?_, ?_⟩ <;> (exact keep_cell hc (by assumption))))
    (first
     | (go_at_call 13; refine (to_Handle _ _ _).mono ?_; rintro x w' ⟨rfl, hc⟩)
     | (go_at_call 12; refine (s_HandleBefore _ _ _ _ _).mono ?_; rintro x w' ⟨rfl, hc⟩))
  rename_i e3 w3 hI
  obtain ⟨hb, c0, c1, d0, d1⟩ := hI
  go_wp2_with fail
  go_region_held3 (fun w' => Below w.heap.size w w' ∧ w'.cell? ⟨w.heap.size, 0, none⟩ = some (.string a0.name) ∧ w'.cell? ⟨w.heap.size, 1, none⟩ = some (.string a0.host) ∧ w'.cell? ⟨w.heap.size + 1, 0, none⟩ = some (.string a1.name) ∧ w'.cell? ⟨w.heap.size + 1, 1, none⟩ = some (.string a1.host))
    (first | assumption | (refine ⟨hb.drew, ?_⟩; go_keep) | (go_split_ands; refine ⟨below_trans (by assumption) hc, ?_, ?_, ?_, ?_⟩ <;> (exact keep_cell hc (by assumption))))
    (first
     | (go_at_call 13; refine (to_Handle _ _ _).mono ?_; rintro x w' ⟨rfl, hc⟩)
     | (go_at_call 14; refine (i_HandleBefore _ _ _ _ _).mono ?_; rintro x w' ⟨rfl, hc⟩))
  rename_i e4 w4 hI
  obtain ⟨hb, -⟩ := hI
  go_wp2_with fail
  go_ret
  exact ⟨rfl, hb⟩

set_option maxRecDepth 100000 in
theorem lifted (os : Os) (started : os.Started) (H : Type) (enc : TypeId × Value → H) :
    ReturnsInHanded {} Try.checked os 3 .any (Rows.fnExactHandleBeforeSpec.pre6 enc Try.prog Try.f3 Rows.fnExactHandleBeforeRow.domain false) (Rows.fnExactHandleBeforeSpec.post enc Try.prog Try.f3 false true false false) := by
  refine returnsInHanded_of_change (C := Try.checked) own started (by kernel_rfl) Try.func3
    (ChangeSpec.witness6 (enc := enc) (C := Try.checked) false ⟨#[], #[.agg #[.string ByteArray.empty, .string ByteArray.empty], .agg #[.string ByteArray.empty, .string ByteArray.empty]], []⟩ 8 (by kernel_rfl) (by kernel_rfl) (by kernel_rfl) (by kernel_rfl)) ?_
  intro W base args ds gs before hval0 hW hcnd _
  have hval : ∀ (j : Nat) t v, Try.f3.params[j]? = some t → args[j]? = some v → Value.okWide Try.prog W .any base t v := hval0
  have hW' := hW
  obtain ⟨p, q, hA0, hV, rfl, hfz, hnd⟩ := hW
  have hA : DataW.TrodAll enc Try.prog W 0 (fun _ => true) true Try.f3.params.toList args.toList ds p := hA0
  rw [Try.params3] at hA hval
  obtain ⟨v0, vs0, d0, ds0, p0, q0, hargs, rfl, rfl, h0, r0⟩ := trodAll_cons hA
  obtain ⟨v1, vs1, d1, ds1, p1, q1, rfl, rfl, rfl, h1, r1⟩ := trodAll_cons r0
  obtain ⟨rfl, rfl, rfl⟩ := trodAll_nil r1
  obtain rfl : args = #[v0, v1] := by cases args; simp_all
  obtain ⟨rfl, rfl⟩ := trodVars_none hV
  have k0 := h0
  have lt0 : ∀ x ∈ p0, x.block < W.heap.size := by obtain ⟨m, hm⟩ := k0; exact DataW.trod_lt m _ _ _ hm
  have k1 := h1
  have lt1 : ∀ x ∈ p1, x.block < W.heap.size := by obtain ⟨m, hm⟩ := k1; exact DataW.trod_lt m _ _ _ hm
  obtain ⟨cs0, rfl, _⟩ := okWide_struct Try.underlying23 (hval 0 23 v0 rfl rfl)
  obtain ⟨a0, hcs0, w0⟩ : ∃ y, cs0.toList = hndS.enc y ∧ OkHnd y := by obtain ⟨fuel, hf⟩ := h0; exact openHnd fuel _ _ hf
  obtain rfl : cs0 = (hndS.enc a0).toArray := by rw [← hcs0]
  obtain ⟨cs1, rfl, _⟩ := okWide_struct Try.underlying23 (hval 1 23 v1 rfl rfl)
  obtain ⟨a1, hcs1, w1⟩ : ∃ y, cs1.toList = hndS.enc y ∧ OkHnd y := by obtain ⟨fuel, hf⟩ := h1; exact openHnd fuel _ _ hf
  obtain rfl : cs1 = (hndS.enc a1).toArray := by rw [← hcs1]
  clear hA0 hval0
  refine (walk a0 a1 W w0 w1).mono fun e W' ⟨he, bel⟩ => ?_
  subst he
  exact ⟨_, rfl, _, _, _, [], _, [], hW', trodAll_mk1 (shut_bool Try.underlying4 _), (trodAll_cons_mk (Below.trod laidOut (by kernel_rfl) (of_decide_eq_true (by kernel_rfl)) k0 bel lt0) (trodAll_cons_mk (Below.trod laidOut (by kernel_rfl) (of_decide_eq_true (by kernel_rfl)) k1 bel lt1) trodAll_mk0)), rfl, bel.frame _, fun h => by cases h⟩

theorem over : Rows.fnExactHandleBeforeRow.holds Try.pinned (OpenSpec.ofChange Rows.fnExactHandleBeforeSpec) :=
  OpenClaim.holds_of_wide 3 Try.f3 rfl rfl rfl rfl rfl rfl rfl ⟨rfl, rfl, rfl, rfl, rfl⟩ rfl rfl rfl rfl rfl (by kernel_rfl) Try.func3 (by kernel_rfl)
    (of_decide_eq_true (by kernel_rfl)) (by unfold Func.isWrapper; first | (rw [if_pos (by decide +kernel)]; kernel_rfl) | (rw [if_neg (by decide +kernel)]; exact ⟨rfl, rfl⟩))
    (fun os started H enc _ => lifted os started H enc)

theorem proved : Rows.FnExactHandleBeforeSaid := over
end Go.Proofs.Ytkfcbjhfioblgaa.fnExactHandleBefore
