/- FnExactReadHandle: for every input the law returns true, and each argument reads afterwards as it read before. No condition. -/
import Derived.Test.YtkfcbjhfioblgaaRows
import Derived.WalkKit
import Derived.ProofKit
import Derived.OpenShut
import Derived.ChangeOld
import Derived.Below
import Derived.Test.YtkfcbjhfioblgaaOpen
import Derived.Test.YtkfcbjhfioblgaaTypes
import Derived.Test.YtkfcbjhfioblgaaHandI
namespace Go.Proofs.Ytkfcbjhfioblgaa.fnExactReadHandle
open Go.ChangeShapes Go.WideShapes Go.ChangeAt Go.RowKit
open Go.ChangeMaps (open_string shut_string)
set_option linter.unusedVariables false

theorem own : ownKnob Try.prog.godebug = none := by kernel_rfl
theorem laidOut : laidOutB Try.prog = true := by kernel_rfl


theorem eq_Handle (n h : ByteArray) (w : World) :
    Calls Try.prog 24 #[.agg #[.string n, .string h], .agg #[.string n, .string h]] w fun x w' => x = .returned (.bool true) ∧ Below w.heap.size w w' := by
  go_enter Try.func24, Try.ntmps24
  go_wp2
  go_ret
  exact ⟨rfl, (by repeat (first | exact Below.refl _ _ | refine Below.alloc ?_ (by first | (simp; done) | (simp; omega)) _ | refine Below.drew ?_))⟩

theorem walk (a0 : ByteArray) (w : World) (w0 : a0.size ≤ maxLen) :
    Calls Try.prog 8 #[.string a0] w fun e w' => e = .returned (.bool true) ∧ Below w.heap.size w w' := by
  by_cases hs : a0.size ≤ 1048576
  · go_enter Try.func8, Try.ntmps8
    go_wp2_with fail
    refine (s_ReadHandle _ _ (by omega)).mono ?_
    rintro x w1 ⟨n, h, ok, rfl, hr1, -, -, hb1⟩
    go_wp2_with fail
    refine (i_ReadHandle _ _ (by omega)).mono ?_
    rintro x w2 ⟨n', h', ok', rfl, hr2, -, -, hb2⟩
    obtain ⟨rfl, rfl, rfl⟩ := hr1.eq hr2
    clear hr1 hr2
    have c0 : w2.cell? ⟨w1.heap.size, 0, none⟩ = some (.string n) := keep_cell hb2 (by simp)
    have c1 : w2.cell? ⟨w1.heap.size, 1, none⟩ = some (.string h) := keep_cell hb2 (by simp)
    have hlt : w1.heap.size < w2.heap.size := Nat.lt_of_lt_of_le (by simp) hb2.size
    have hb : Below w.heap.size w w2 := below_trans hb1 (below_trans (below1 _ _) hb2)
    go_wp2_with fail
    refine (eq_Handle _ _ _).mono ?_
    rintro x w3 ⟨rfl, hb3⟩
    have hb4 : Below w.heap.size w w3 := below_trans hb (below_trans (below1 _ _) hb3)
    go_wp2_with fail
    go_ret
    exact ⟨rfl, hb4⟩
  · go_enter Try.func8, Try.ntmps8
    go_wp2_with fail
    go_ret
    exact ⟨rfl, Below.refl _ _⟩

set_option maxRecDepth 100000 in
theorem lifted (os : Os) (started : os.Started) (H : Type) (enc : TypeId × Value → H) :
    ReturnsInHanded {} Try.checked os 8 .any (Rows.fnExactReadHandleSpec.pre6 enc Try.prog Try.f8 Rows.fnExactReadHandleRow.domain false) (Rows.fnExactReadHandleSpec.post enc Try.prog Try.f8 false true false false) := by
  refine returnsInHanded_of_change (C := Try.checked) own started (by kernel_rfl) Try.func8
    (ChangeSpec.witness6 (enc := enc) (C := Try.checked) false ⟨#[], #[.string ByteArray.empty], []⟩ 8 (by kernel_rfl) (by kernel_rfl) (by kernel_rfl) (by kernel_rfl)) ?_
  intro W base args ds gs before hval0 hW hcnd _
  have hval : ∀ (j : Nat) t v, Try.f8.params[j]? = some t → args[j]? = some v → Value.okWide Try.prog W .any base t v := hval0
  have hW' := hW
  obtain ⟨p, q, hA0, hV, rfl, hfz, hnd⟩ := hW
  have hA : DataW.TrodAll enc Try.prog W 0 (fun _ => true) true Try.f8.params.toList args.toList ds p := hA0
  rw [Try.params8] at hA hval
  obtain ⟨v0, vs0, d0, ds0, p0, q0, hargs, rfl, rfl, h0, r0⟩ := trodAll_cons hA
  obtain ⟨rfl, rfl, rfl⟩ := trodAll_nil r0
  obtain rfl : args = #[v0] := by cases args; simp_all
  obtain ⟨rfl, rfl⟩ := trodVars_none hV
  have k0 := h0
  have lt0 : ∀ x ∈ p0, x.block < W.heap.size := by obtain ⟨m, hm⟩ := k0; exact DataW.trod_lt m _ _ _ hm
  obtain ⟨a0, rfl, _, _, w0⟩ := open_string Try.underlying9 (hval 0 9 v0 rfl rfl) h0
  clear hA0 hval0
  refine (walk a0 W w0).mono fun e W' ⟨he, bel⟩ => ?_
  subst he
  exact ⟨_, rfl, _, _, _, [], _, [], hW', trodAll_mk1 (shut_bool Try.underlying4 _), (trodAll_cons_mk (Below.trod laidOut (by kernel_rfl) (of_decide_eq_true (by kernel_rfl)) k0 bel lt0) trodAll_mk0), rfl, bel.frame _, fun h => by cases h⟩

theorem over : Rows.fnExactReadHandleRow.holds Try.pinned (OpenSpec.ofChange Rows.fnExactReadHandleSpec) :=
  OpenClaim.holds_of_wide 8 Try.f8 rfl rfl rfl rfl rfl rfl rfl ⟨rfl, rfl, rfl, rfl, rfl⟩ rfl rfl rfl rfl rfl (by kernel_rfl) Try.func8 (by kernel_rfl)
    (of_decide_eq_true (by kernel_rfl)) (by unfold Func.isWrapper; first | (rw [if_pos (by decide +kernel)]; kernel_rfl) | (rw [if_neg (by decide +kernel)]; exact ⟨rfl, rfl⟩))
    (fun os started H enc _ => lifted os started H enc)

theorem proved : Rows.FnExactReadHandleSaid := over
end Go.Proofs.Ytkfcbjhfioblgaa.fnExactReadHandle
