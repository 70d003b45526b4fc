/- FnExactUndoOf: for every input the law returns true, and each argument reads afterwards as it read before. No condition. -/
import Derived.Test.YtackffegdmohiaaRows
import Derived.WalkKit
import Derived.ProofKit
import Derived.OpenShut
import Derived.ChangeOld
import Derived.Below
import Derived.Test.YtackffegdmohiaaOpen
import Derived.Test.YtackffegdmohiaaTypes
import Derived.Test.YtackffegdmohiaaActEq
namespace Go.Proofs.Ytackffegdmohiaa.fnExactUndoOf
open Go.ChangeShapes Go.WideShapes Go.ChangeAt Go.RowKit
open Go.ChangeMaps (open_string shut_string)
set_option linter.unusedVariables false

theorem own : ownKnob Try.prog.godebug = none := by kernel_rfl
theorem laidOut : laidOutB Try.prog = true := by kernel_rfl

def OkHnd (y : Hnd) : Prop := y.name.size ≤ maxLen ∧ y.host.size ≤ maxLen
theorem openHnd {H : Type} {enc : TypeId × Value → H} {w : World} (fuel : Nat) (cs : List Value) (x : DataW H × List MemPlace) (h : DataW.trod enc Try.prog w 0 (fun _ => true) true fuel 23 cs = some x) : ∃ y : Hnd, cs = hndS.enc y ∧ OkHnd y := by
  obtain ⟨xs, n, _, _, hl, hx, hf⟩ := DataW.trod_struct Try.underlying23 h
  have hl2 : cs.length = 2 := hl.trans (by kernel_rfl)
  have hx2 : xs.length = 2 := hx
  match cs, hl2, xs, hx2 with
  | [c0, c1], _, [x0, x1], _ =>
    have e0 : DataW.trod enc Try.prog w 0 (fun _ => true) true n 9 [c0] = some x0 := by have := hf 0 _ rfl; simpa [show Try.prog.cellsOf 9 = 1 by kernel_rfl] using this
    obtain ⟨s0, hs0, _, hb0⟩ := DataW.trod_string Try.underlying9 e0
    simp only [List.cons.injEq, and_true] at hs0
    subst hs0
    have e1 : DataW.trod enc Try.prog w 0 (fun _ => true) true n 9 [c1] = some x1 := by have := hf 1 _ rfl; simpa [show Try.prog.cellsOf 9 = 1 by kernel_rfl] using this
    obtain ⟨s1, hs1, _, hb1⟩ := DataW.trod_string Try.underlying9 e1
    simp only [List.cons.injEq, and_true] at hs1
    subst hs1
    exact ⟨⟨s0, s1⟩, rfl, hb0, hb1⟩
def OkAct1 (y : Act1) : Prop := (Lit.int .i64 y.kind).wf = true ∧ (Lit.int .i64 y.number).wf = true ∧ y.name.size ≤ maxLen ∧ y.host.size ≤ maxLen ∧ y.what.size ≤ maxLen
theorem openAct1 {H : Type} {enc : TypeId × Value → H} {w : World} (fuel : Nat) (cs : List Value) (x : DataW H × List MemPlace) (h : DataW.trod enc Try.prog w 0 (fun _ => true) true fuel 25 cs = some x) : ∃ y : Act1, cs = actS.enc y ∧ OkAct1 y := by
  obtain ⟨xs, n, _, _, hl, hx, hf⟩ := DataW.trod_struct Try.underlying25 h
  have hl2 : cs.length = 5 := hl.trans (by kernel_rfl)
  have hx2 : xs.length = 4 := hx
  match cs, hl2, xs, hx2 with
  | [c0, c1, c2, c3, c4], _, [x0, x1, x2, x3], _ =>
    have e0 : DataW.trod enc Try.prog w 0 (fun _ => true) true n 3 [c0] = some x0 := by have := hf 0 _ rfl; simpa [show Try.prog.cellsOf 3 = 1 by kernel_rfl] using this
    obtain ⟨s0, hs0, _, hb0⟩ := DataW.trod_int Try.underlying3 e0
    simp only [List.cons.injEq, and_true] at hs0
    subst hs0
    have e1 : DataW.trod enc Try.prog w 0 (fun _ => true) true n 3 [c1] = some x1 := by have := hf 1 _ rfl; simpa [show Try.prog.cellsOf 3 = 1 by kernel_rfl] using this
    obtain ⟨s1, hs1, _, hb1⟩ := DataW.trod_int Try.underlying3 e1
    simp only [List.cons.injEq, and_true] at hs1
    subst hs1
    have e2 : DataW.trod enc Try.prog w 0 (fun _ => true) true n 23 [c2, c3] = some x2 := by have := hf 2 _ rfl; simpa [show Try.prog.cellsOf 23 = 2 by kernel_rfl] using this
    obtain ⟨y2, hs2, hb2⟩ := openHnd n _ _ e2
    simp only [hndS, List.cons.injEq, and_true] at hs2
    obtain ⟨rfl, rfl⟩ := hs2
    have e3 : DataW.trod enc Try.prog w 0 (fun _ => true) true n 9 [c4] = some x3 := by have := hf 3 _ rfl; simpa [show Try.prog.cellsOf 9 = 1 by kernel_rfl] using this
    obtain ⟨s3, hs3, _, hb3⟩ := DataW.trod_string Try.underlying9 e3
    simp only [List.cons.injEq, and_true] at hs3
    subst hs3
    exact ⟨⟨s0, s1, y2.name, y2.host, s3⟩, rfl, hb0, hb1, hb2.1, hb2.2, hb3⟩


set_option maxHeartbeats 1600000 in
theorem walk (a0 : Act1) (a1 : Int) (w : World) (w0 : OkAct1 a0) (w1 : (Lit.int .i64 a1).wf = true) :
    Calls Try.prog 6 #[.agg #[.int .i64 a0.kind, .int .i64 a0.number, .string a0.name, .string a0.host, .string a0.what], .int .i64 a1] w fun e w' => e = .returned (.bool true) ∧ Below w.heap.size w w' := by
  go_enter Try.func6, Try.ntmps6
  go_wp2_with fail
  refine (sz_Activity _ _ _ _ _ _ _ w0.2.2.1 w0.2.2.2.1 w0.2.2.2.2 (by decide) (by decide)).mono ?_
  rintro x w1 ⟨r, rfl, hr, hb0⟩
  have c0 : w1.cell? ⟨w.heap.size, 0, none⟩ = some (.int .i64 a0.kind) := keep_cell hb0 (by simp)
  have c1 : w1.cell? ⟨w.heap.size, 1, none⟩ = some (.int .i64 a0.number) := keep_cell hb0 (by simp)
  have c2 : w1.cell? ⟨w.heap.size, 2, none⟩ = some (.string a0.name) := keep_cell hb0 (by simp)
  have c3 : w1.cell? ⟨w.heap.size, 3, none⟩ = some (.string a0.host) := keep_cell hb0 (by simp)
  have c4 : w1.cell? ⟨w.heap.size, 4, none⟩ = some (.string a0.what) := keep_cell hb0 (by simp)
  rcases hr with rfl | ⟨hr, hs⟩
  · go_wp2_with fail
    go_ret
    exact ⟨rfl, below_trans (below1 _ _) hb0⟩
  have z1 : a0.name.size ≤ 140737488355328 := by omega
  have z2 : a0.host.size ≤ 140737488355328 := by omega
  have z3 : a0.what.size ≤ 140737488355328 := by omega
  obtain ⟨q, rfl⟩ := Int.eq_ofNat_of_zero_le hr
  clear hs
  have bz : Below w.heap.size w w1 := below_trans (below1 _ _) hb0
  go_wp2_with fail
  refine (to_Activity _ _ _ _ _ _).mono ?_
  rintro x w2 ⟨rfl, hb1⟩
  go_wp2_with fail
  refine (s_UndoOf _ _ _ _ _ _ _ z1 z2 z3).mono ?_
  rintro x w3 ⟨rfl, hb2⟩
  cases hU : undoOk a0.kind a0.number a0.name a0.host a0.what a1
  · rw [undoV_no hU]
    have HU := Lib.hid hU
    have HV := Lib.hid (undoV_no hU)
    clear hU
    have hb12 := below_trans hb1 hb2
    replace c0 := keep_cell hb12 c0
    replace c1 := keep_cell hb12 c1
    replace c2 := keep_cell hb12 c2
    replace c3 := keep_cell hb12 c3
    replace c4 := keep_cell hb12 c4
    have d0 : ∀ o, (w3.alloc o).cell? ⟨w.heap.size, 0, none⟩ = some (.int .i64 a0.kind) := fun o => keep_cell (below1 _ _) c0
    have d1 : ∀ o, (w3.alloc o).cell? ⟨w.heap.size, 1, none⟩ = some (.int .i64 a0.number) := fun o => keep_cell (below1 _ _) c1
    have d2 : ∀ o, (w3.alloc o).cell? ⟨w.heap.size, 2, none⟩ = some (.string a0.name) := fun o => keep_cell (below1 _ _) c2
    have d3 : ∀ o, (w3.alloc o).cell? ⟨w.heap.size, 3, none⟩ = some (.string a0.host) := fun o => keep_cell (below1 _ _) c3
    have d4 : ∀ o, (w3.alloc o).cell? ⟨w.heap.size, 4, none⟩ = some (.string a0.what) := fun o => keep_cell (below1 _ _) c4
    replace bz := below_trans bz hb12
    go_wp2_with fail
    refine (to_Activity _ _ _ _ _ _).mono ?_
    rintro x w4 ⟨rfl, hb3⟩
    go_wp2_with fail
    refine (i_UndoOf _ _ _ _ _ _ _ z1 z2 z3).mono ?_
    rintro x w5 ⟨rfl, hb4⟩
    rw [HU.out, HV.out]
    have e0 : w5.cell? ⟨w3.heap.size, 0, none⟩ = some (.int .i64 0) := keep_cell hb4 (keep_cell hb3 (by simp))
    have e1 : w5.cell? ⟨w3.heap.size, 1, none⟩ = some (.int .i64 0) := keep_cell hb4 (keep_cell hb3 (by simp))
    have e2 : w5.cell? ⟨w3.heap.size, 2, none⟩ = some (.string ⟨#[]⟩) := keep_cell hb4 (keep_cell hb3 (by simp))
    have e3 : w5.cell? ⟨w3.heap.size, 3, none⟩ = some (.string ⟨#[]⟩) := keep_cell hb4 (keep_cell hb3 (by simp))
    have e4 : w5.cell? ⟨w3.heap.size, 4, none⟩ = some (.string ⟨#[]⟩) := keep_cell hb4 (keep_cell hb3 (by simp))
    have E0 : ∀ o, (w5.alloc o).cell? ⟨w3.heap.size, 0, none⟩ = some (.int .i64 0) := fun o => keep_cell (below1 _ _) e0
    have E1 : ∀ o, (w5.alloc o).cell? ⟨w3.heap.size, 1, none⟩ = some (.int .i64 0) := fun o => keep_cell (below1 _ _) e1
    have E2 : ∀ o, (w5.alloc o).cell? ⟨w3.heap.size, 2, none⟩ = some (.string ⟨#[]⟩) := fun o => keep_cell (below1 _ _) e2
    have E3 : ∀ o, (w5.alloc o).cell? ⟨w3.heap.size, 3, none⟩ = some (.string ⟨#[]⟩) := fun o => keep_cell (below1 _ _) e3
    have E4 : ∀ o, (w5.alloc o).cell? ⟨w3.heap.size, 4, none⟩ = some (.string ⟨#[]⟩) := fun o => keep_cell (below1 _ _) e4
    replace bz := below_trans bz (below_trans (below1 _ _) (below_trans hb3 hb4))
    clear c0 c1 c2 c3 c4 d0 d1 d2 d3 d4
    go_wp2_with fail
    refine (eq_Activity _ _ _ _ _ _).mono ?_
    rintro x w6 ⟨rfl, hb5⟩
    go_wp2_with fail
    go_ret
    exact ⟨rfl, below_trans bz (below_trans (below1 _ _) hb5)⟩
  · rw [undoV_yes hU]
    have HU := Lib.hid hU
    have HV := Lib.hid (undoV_yes hU)
    clear hU
    obtain ⟨kk, hkk⟩ : ∃ kk, kk = undoKind a0.kind := ⟨_, rfl⟩
    rw [← hkk] at HV ⊢
    clear hkk
    have hb12 := below_trans hb1 hb2
    replace c0 := keep_cell hb12 c0
    replace c1 := keep_cell hb12 c1
    replace c2 := keep_cell hb12 c2
    replace c3 := keep_cell hb12 c3
    replace c4 := keep_cell hb12 c4
    have d0 : ∀ o, (w3.alloc o).cell? ⟨w.heap.size, 0, none⟩ = some (.int .i64 a0.kind) := fun o => keep_cell (below1 _ _) c0
    have d1 : ∀ o, (w3.alloc o).cell? ⟨w.heap.size, 1, none⟩ = some (.int .i64 a0.number) := fun o => keep_cell (below1 _ _) c1
    have d2 : ∀ o, (w3.alloc o).cell? ⟨w.heap.size, 2, none⟩ = some (.string a0.name) := fun o => keep_cell (below1 _ _) c2
    have d3 : ∀ o, (w3.alloc o).cell? ⟨w.heap.size, 3, none⟩ = some (.string a0.host) := fun o => keep_cell (below1 _ _) c3
    have d4 : ∀ o, (w3.alloc o).cell? ⟨w.heap.size, 4, none⟩ = some (.string a0.what) := fun o => keep_cell (below1 _ _) c4
    replace bz := below_trans bz hb12
    go_wp2_with fail
    refine (to_Activity _ _ _ _ _ _).mono ?_
    rintro x w4 ⟨rfl, hb3⟩
    go_wp2_with fail
    refine (i_UndoOf _ _ _ _ _ _ _ z1 z2 z3).mono ?_
    rintro x w5 ⟨rfl, hb4⟩
    rw [HU.out, HV.out]
    have e0 : w5.cell? ⟨w3.heap.size, 0, none⟩ = some (.int .i64 kk) := keep_cell hb4 (keep_cell hb3 (by simp))
    have e1 : w5.cell? ⟨w3.heap.size, 1, none⟩ = some (.int .i64 a1) := keep_cell hb4 (keep_cell hb3 (by simp))
    have e2 : w5.cell? ⟨w3.heap.size, 2, none⟩ = some (.string a0.name) := keep_cell hb4 (keep_cell hb3 (by simp))
    have e3 : w5.cell? ⟨w3.heap.size, 3, none⟩ = some (.string a0.host) := keep_cell hb4 (keep_cell hb3 (by simp))
    have e4 : w5.cell? ⟨w3.heap.size, 4, none⟩ = some (.string a0.what) := keep_cell hb4 (keep_cell hb3 (by simp))
    have E0 : ∀ o, (w5.alloc o).cell? ⟨w3.heap.size, 0, none⟩ = some (.int .i64 kk) := fun o => keep_cell (below1 _ _) e0
    have E1 : ∀ o, (w5.alloc o).cell? ⟨w3.heap.size, 1, none⟩ = some (.int .i64 a1) := fun o => keep_cell (below1 _ _) e1
    have E2 : ∀ o, (w5.alloc o).cell? ⟨w3.heap.size, 2, none⟩ = some (.string a0.name) := fun o => keep_cell (below1 _ _) e2
    have E3 : ∀ o, (w5.alloc o).cell? ⟨w3.heap.size, 3, none⟩ = some (.string a0.host) := fun o => keep_cell (below1 _ _) e3
    have E4 : ∀ o, (w5.alloc o).cell? ⟨w3.heap.size, 4, none⟩ = some (.string a0.what) := fun o => keep_cell (below1 _ _) e4
    replace bz := below_trans bz (below_trans (below1 _ _) (below_trans hb3 hb4))
    clear c0 c1 c2 c3 c4 d0 d1 d2 d3 d4
    go_wp2_with fail
    refine (eq_Activity _ _ _ _ _ _).mono ?_
    rintro x w6 ⟨rfl, hb5⟩
    go_wp2_with fail
    go_ret
    exact ⟨rfl, below_trans bz (below_trans (below1 _ _) hb5)⟩

set_option maxRecDepth 100000 in
theorem lifted (os : Os) (started : os.Started) (H : Type) (enc : TypeId × Value → H) :
    ReturnsInHanded {} Try.checked os 6 .any (Rows.fnExactUndoOfSpec.pre6 enc Try.prog Try.f6 Rows.fnExactUndoOfRow.domain false) (Rows.fnExactUndoOfSpec.post enc Try.prog Try.f6 false true false false) := by
  refine returnsInHanded_of_change (C := Try.checked) own started (by kernel_rfl) Try.func6
    (ChangeSpec.witness6 (enc := enc) (C := Try.checked) false ⟨#[], #[.agg #[.int .i64 0, .int .i64 0, .string ByteArray.empty, .string ByteArray.empty, .string ByteArray.empty], .int .i64 0], []⟩ 8 (by kernel_rfl) (by kernel_rfl) (by kernel_rfl) (by kernel_rfl)) ?_
  intro W base args ds gs before hval0 hW hcnd _
  have hval : ∀ (j : Nat) t v, Try.f6.params[j]? = some t → args[j]? = some v → Value.okWide Try.prog W .any base t v := hval0
  have hW' := hW
  obtain ⟨p, q, hA0, hV, rfl, hfz, hnd⟩ := hW
  have hA : DataW.TrodAll enc Try.prog W 0 (fun _ => true) true Try.f6.params.toList args.toList ds p := hA0
  rw [Try.params6] at hA hval
  obtain ⟨v0, vs0, d0, ds0, p0, q0, hargs, rfl, rfl, h0, r0⟩ := trodAll_cons hA
  obtain ⟨v1, vs1, d1, ds1, p1, q1, rfl, rfl, rfl, h1, r1⟩ := trodAll_cons r0
  obtain ⟨rfl, rfl, rfl⟩ := trodAll_nil r1
  obtain rfl : args = #[v0, v1] := by cases args; simp_all
  obtain ⟨rfl, rfl⟩ := trodVars_none hV
  have k0 := h0
  have lt0 : ∀ x ∈ p0, x.block < W.heap.size := by obtain ⟨m, hm⟩ := k0; exact DataW.trod_lt m _ _ _ hm
  have k1 := h1
  have lt1 : ∀ x ∈ p1, x.block < W.heap.size := by obtain ⟨m, hm⟩ := k1; exact DataW.trod_lt m _ _ _ hm
  obtain ⟨cs0, rfl, _⟩ := okWide_struct Try.underlying25 (hval 0 25 v0 rfl rfl)
  obtain ⟨a0, hcs0, w0⟩ : ∃ y, cs0.toList = actS.enc y ∧ OkAct1 y := by obtain ⟨fuel, hf⟩ := h0; exact openAct1 fuel _ _ hf
  obtain rfl : cs0 = (actS.enc a0).toArray := by rw [← hcs0]
  obtain ⟨a1, rfl, _, _, w1⟩ := open_int Try.underlying3 (hval 1 3 v1 rfl rfl) h1
  clear hA0 hval0
  refine (walk a0 a1 W w0 w1).mono fun e W' ⟨he, bel⟩ => ?_
  subst he
  exact ⟨_, rfl, _, _, _, [], _, [], hW', trodAll_mk1 (shut_bool Try.underlying4 _), (trodAll_cons_mk (Below.trod laidOut (by kernel_rfl) (of_decide_eq_true (by kernel_rfl)) k0 bel lt0) (trodAll_cons_mk (Below.trod laidOut (by kernel_rfl) (of_decide_eq_true (by kernel_rfl)) k1 bel lt1) trodAll_mk0)), rfl, bel.frame _, fun h => by cases h⟩

theorem over : Rows.fnExactUndoOfRow.holds Try.pinned (OpenSpec.ofChange Rows.fnExactUndoOfSpec) :=
  OpenClaim.holds_of_wide 6 Try.f6 rfl rfl rfl rfl rfl rfl rfl ⟨rfl, rfl, rfl, rfl, rfl⟩ rfl rfl rfl rfl rfl (by kernel_rfl) Try.func6 (by kernel_rfl)
    (of_decide_eq_true (by kernel_rfl)) (by unfold Func.isWrapper; first | (rw [if_pos (by decide +kernel)]; kernel_rfl) | (rw [if_neg (by decide +kernel)]; exact ⟨rfl, rfl⟩))
    (fun os started H enc _ => lifted os started H enc)

theorem proved : Rows.FnExactUndoOfSaid := over
end Go.Proofs.Ytackffegdmohiaa.fnExactUndoOf
