/- FnUndoOf: for every input the law returns true, and each argument reads afterwards as it read before. No condition. -/
import Derived.Test.YtackffegdmohiaaRows
import Derived.WalkKit
import Derived.ProofKit
import Derived.OpenShut
import Derived.ChangeOld
import Derived.Below
import Derived.Test.YtackffegdmohiaaOpen
import Derived.Test.YtackffegdmohiaaTypes
import Derived.Test.YtackffegdmohiaaActUS
import Derived.Test.YtackffegdmohiaaDrawAu
import Derived.Test.YtackffegdmohiaaAlive
namespace Go.Proofs.Ytackffegdmohiaa.fnUndoOf
open Go.ChangeShapes Go.WideShapes Go.ChangeAt Go.RowKit
open Go.ChangeMaps (open_string shut_string)
set_option linter.unusedVariables false

theorem own : ownKnob Try.prog.godebug = none := by kernel_rfl
theorem laidOut : laidOutB Try.prog = true := by kernel_rfl

theorem openByte {H : Type} {enc : TypeId × Value → H} {w : World} (fuel : Nat) (cs : List Value) (x : DataW H × List MemPlace) (h : DataW.trod enc Try.prog w 0 (fun _ => true) true fuel 5 cs = some x) : ∃ y : UInt8, cs = byteS.enc y ∧ True := by
  obtain ⟨s, rfl, _, hb⟩ := DataW.trod_int Try.underlying5 h
  have := bounds_u8 hb
  exact ⟨UInt8.ofNat s.toNat, by simp [byteS]; omega, trivial⟩

theorem undo_kind (k : Int) : undoKind k = 2 ∨ undoKind k = 5 := by unfold undoKind; split <;> simp
theorem undo_again {k m q : Int} {n h t : ByteArray} {q2 : Int} : undoOk (undoKind k) m n h t q2 = false := by
  unfold undoOk
  rcases undo_kind k with e | e <;> rw [e] <;> simp
theorem undo_valid {k m q : Int} {n h t : ByteArray} (hu : undoOk k m n h t q = true) : actB (undoKind k) q n h t = true := by
  unfold undoOk at hu
  simp only [Bool.and_eq_true, decide_eq_true_eq] at hu
  have ha := actB_true hu.1
  have hk : 0 ≤ undoKind k ∧ undoKind k ≤ 5 := by rcases undo_kind k with e | e <;> rw [e] <;> decide
  rw [actB_rest hk.1 hk.2 hu.2.1.1 hu.2.1.2, ha.2.2.2.2.1, ha.2.2.2.2.2]; rfl

set_option maxHeartbeats 1600000 in
theorem walk (v0 : Value) (l0 : List UInt8) (w : World) (w0 : Sl byteS w v0 l0) (x0 : ∀ y ∈ l0, True) :
    Calls Try.prog 5 #[v0] w fun e w' => e = .returned (.bool true) ∧ Below w.heap.size w w' := by
  obtain ⟨aa, cap, rfl⟩ : ∃ aa cap, v0 = .slice aa l0.length cap := by obtain ⟨a, c, h, _⟩ := w0; exact ⟨a, c, h⟩
  by_cases hlen : l0.length ≤ 1048576
  rotate_left
  · go_enter Try.func5, Try.ntmps5
    go_wp2_with fail
    go_ret
    exact ⟨rfl, Below.refl _ _⟩
  go_enter Try.func5, Try.ntmps5
  go_wp2_with fail
  refine (draw_UndoOf _ l0 _ w0).mono ?_
  rintro e w1 ⟨k, m, n, h, t, q, rfl, ⟨_, _, z1, z2, z3⟩, hq, hB⟩
  have y1 : n.size ≤ 140737488355328 := by omega
  have y2 : h.size ≤ 140737488355328 := by omega
  have y3 : t.size ≤ 140737488355328 := by omega
  clear z1 z2 z3
  go_wp2_with fail
  refine (i_UndoOf _ _ _ _ _ _ _ y1 y2 y3).mono ?_
  rintro e w2 ⟨rfl, hb1⟩
  have c0 : w2.cell? ⟨w1.heap.size, 0, none⟩ = some (.int .i64 k) := keep_cell hb1 (by simp)
  have c1 : w2.cell? ⟨w1.heap.size, 1, none⟩ = some (.int .i64 m) := keep_cell hb1 (by simp)
  have c2 : w2.cell? ⟨w1.heap.size, 2, none⟩ = some (.string n) := keep_cell hb1 (by simp)
  have c3 : w2.cell? ⟨w1.heap.size, 3, none⟩ = some (.string h) := keep_cell hb1 (by simp)
  have c4 : w2.cell? ⟨w1.heap.size, 4, none⟩ = some (.string t) := keep_cell hb1 (by simp)
  have bz := below_trans hB (below_trans (below1 _ _) hb1)
  clear hb1 hB
  cases hU : undoOk k m n h t q
  · rw [undoV_no hU]
    have HU := Lib.hid hU
    have HV := Lib.hid (undoV_no hU)
    clear hU
    have d0 : ∀ o, (w2.alloc o).cell? ⟨w1.heap.size, 0, none⟩ = some (.int .i64 k) := fun o => keep_cell (below1 _ _) c0
    have d1 : ∀ o, (w2.alloc o).cell? ⟨w1.heap.size, 1, none⟩ = some (.int .i64 m) := fun o => keep_cell (below1 _ _) c1
    have d2 : ∀ o, (w2.alloc o).cell? ⟨w1.heap.size, 2, none⟩ = some (.string n) := fun o => keep_cell (below1 _ _) c2
    have d3 : ∀ o, (w2.alloc o).cell? ⟨w1.heap.size, 3, none⟩ = some (.string h) := fun o => keep_cell (below1 _ _) c3
    have d4 : ∀ o, (w2.alloc o).cell? ⟨w1.heap.size, 4, none⟩ = some (.string t) := fun o => keep_cell (below1 _ _) c4
    go_wp2_with fail
    refine (s_UndoOf _ _ _ _ _ _ _ y1 y2 y3).mono ?_
    rintro e w3 ⟨rfl, hb2⟩
    rw [HU.out, HV.out]
    replace c0 : w3.cell? ⟨w1.heap.size, 0, none⟩ = some (.int .i64 k) := keep_cell hb2 (d0 _)
    replace c1 : w3.cell? ⟨w1.heap.size, 1, none⟩ = some (.int .i64 m) := keep_cell hb2 (d1 _)
    replace c2 : w3.cell? ⟨w1.heap.size, 2, none⟩ = some (.string n) := keep_cell hb2 (d2 _)
    replace c3 : w3.cell? ⟨w1.heap.size, 3, none⟩ = some (.string h) := keep_cell hb2 (d3 _)
    replace c4 : w3.cell? ⟨w1.heap.size, 4, none⟩ = some (.string t) := keep_cell hb2 (d4 _)
    have x0 : w3.cell? ⟨w2.heap.size, 0, none⟩ = some (.int .i64 0) := keep_cell hb2 (by simp)
    have x1 : w3.cell? ⟨w2.heap.size, 1, none⟩ = some (.int .i64 0) := keep_cell hb2 (by simp)
    have x2 : w3.cell? ⟨w2.heap.size, 2, none⟩ = some (.string ⟨#[]⟩) := keep_cell hb2 (by simp)
    have x3 : w3.cell? ⟨w2.heap.size, 3, none⟩ = some (.string ⟨#[]⟩) := keep_cell hb2 (by simp)
    have x4 : w3.cell? ⟨w2.heap.size, 4, none⟩ = some (.string ⟨#[]⟩) := keep_cell hb2 (by simp)
    have X0 : ∀ o, (w3.alloc o).cell? ⟨w2.heap.size, 0, none⟩ = some (.int .i64 0) := fun o => keep_cell (below1 _ _) x0
    have X1 : ∀ o, (w3.alloc o).cell? ⟨w2.heap.size, 1, none⟩ = some (.int .i64 0) := fun o => keep_cell (below1 _ _) x1
    have X2 : ∀ o, (w3.alloc o).cell? ⟨w2.heap.size, 2, none⟩ = some (.string ⟨#[]⟩) := fun o => keep_cell (below1 _ _) x2
    have X3 : ∀ o, (w3.alloc o).cell? ⟨w2.heap.size, 3, none⟩ = some (.string ⟨#[]⟩) := fun o => keep_cell (below1 _ _) x3
    have X4 : ∀ o, (w3.alloc o).cell? ⟨w2.heap.size, 4, none⟩ = some (.string ⟨#[]⟩) := fun o => keep_cell (below1 _ _) x4
    replace bz := below_trans bz (below_trans (below1 _ _) hb2)
    clear d0 d1 d2 d3 d4 hb2
    clear c0 c1 c2 c3 c4
    go_wp2_with (first | (go_at_call 12; refine (alive_any _).mono ?_; rintro e w' ⟨rfl, rfl⟩))
    go_ret
    exact ⟨rfl, below_trans bz (below1 _ _)⟩
  · rw [undoV_yes hU]
    have HU := Lib.hid hU
    have HV := Lib.hid (undoV_yes hU)
    have HA : Hid (actB (undoKind k) q n h t = true) := undo_valid hU
    have HM : Hid (undoOk (undoKind k) q n h t q = false) := undo_again (q := q)
    have HN : Hid (undoV (undoKind k) q n h t q = .agg #[.int .i64 0, .int .i64 0, .string ⟨#[]⟩, .string ⟨#[]⟩, .string ⟨#[]⟩]) := undoV_no (undo_again (q := q))
    clear hU
    obtain ⟨kk, hkk⟩ : ∃ kk, kk = undoKind k := ⟨_, rfl⟩
    rw [← hkk] at HV HA HM HN ⊢
    clear hkk
    have d0 : ∀ o, (w2.alloc o).cell? ⟨w1.heap.size, 0, none⟩ = some (.int .i64 k) := fun o => keep_cell (below1 _ _) c0
    have d1 : ∀ o, (w2.alloc o).cell? ⟨w1.heap.size, 1, none⟩ = some (.int .i64 m) := fun o => keep_cell (below1 _ _) c1
    have d2 : ∀ o, (w2.alloc o).cell? ⟨w1.heap.size, 2, none⟩ = some (.string n) := fun o => keep_cell (below1 _ _) c2
    have d3 : ∀ o, (w2.alloc o).cell? ⟨w1.heap.size, 3, none⟩ = some (.string h) := fun o => keep_cell (below1 _ _) c3
    have d4 : ∀ o, (w2.alloc o).cell? ⟨w1.heap.size, 4, none⟩ = some (.string t) := fun o => keep_cell (below1 _ _) c4
    go_wp2_with fail
    refine (s_UndoOf _ _ _ _ _ _ _ y1 y2 y3).mono ?_
    rintro e w3 ⟨rfl, hb2⟩
    rw [HU.out, HV.out]
    replace c0 : w3.cell? ⟨w1.heap.size, 0, none⟩ = some (.int .i64 k) := keep_cell hb2 (d0 _)
    replace c1 : w3.cell? ⟨w1.heap.size, 1, none⟩ = some (.int .i64 m) := keep_cell hb2 (d1 _)
    replace c2 : w3.cell? ⟨w1.heap.size, 2, none⟩ = some (.string n) := keep_cell hb2 (d2 _)
    replace c3 : w3.cell? ⟨w1.heap.size, 3, none⟩ = some (.string h) := keep_cell hb2 (d3 _)
    replace c4 : w3.cell? ⟨w1.heap.size, 4, none⟩ = some (.string t) := keep_cell hb2 (d4 _)
    have x0 : w3.cell? ⟨w2.heap.size, 0, none⟩ = some (.int .i64 kk) := keep_cell hb2 (by simp)
    have x1 : w3.cell? ⟨w2.heap.size, 1, none⟩ = some (.int .i64 q) := keep_cell hb2 (by simp)
    have x2 : w3.cell? ⟨w2.heap.size, 2, none⟩ = some (.string n) := keep_cell hb2 (by simp)
    have x3 : w3.cell? ⟨w2.heap.size, 3, none⟩ = some (.string h) := keep_cell hb2 (by simp)
    have x4 : w3.cell? ⟨w2.heap.size, 4, none⟩ = some (.string t) := keep_cell hb2 (by simp)
    have X0 : ∀ o, (w3.alloc o).cell? ⟨w2.heap.size, 0, none⟩ = some (.int .i64 kk) := fun o => keep_cell (below1 _ _) x0
    have X1 : ∀ o, (w3.alloc o).cell? ⟨w2.heap.size, 1, none⟩ = some (.int .i64 q) := fun o => keep_cell (below1 _ _) x1
    have X2 : ∀ o, (w3.alloc o).cell? ⟨w2.heap.size, 2, none⟩ = some (.string n) := fun o => keep_cell (below1 _ _) x2
    have X3 : ∀ o, (w3.alloc o).cell? ⟨w2.heap.size, 3, none⟩ = some (.string h) := fun o => keep_cell (below1 _ _) x3
    have X4 : ∀ o, (w3.alloc o).cell? ⟨w2.heap.size, 4, none⟩ = some (.string t) := fun o => keep_cell (below1 _ _) x4
    replace bz := below_trans bz (below_trans (below1 _ _) hb2)
    clear d0 d1 d2 d3 d4 hb2
    have d0 : ∀ o, (w3.alloc o).cell? ⟨w1.heap.size, 0, none⟩ = some (.int .i64 k) := fun o => keep_cell (below1 _ _) c0
    have d1 : ∀ o, (w3.alloc o).cell? ⟨w1.heap.size, 1, none⟩ = some (.int .i64 m) := fun o => keep_cell (below1 _ _) c1
    have d2 : ∀ o, (w3.alloc o).cell? ⟨w1.heap.size, 2, none⟩ = some (.string n) := fun o => keep_cell (below1 _ _) c2
    have d3 : ∀ o, (w3.alloc o).cell? ⟨w1.heap.size, 3, none⟩ = some (.string h) := fun o => keep_cell (below1 _ _) c3
    have d4 : ∀ o, (w3.alloc o).cell? ⟨w1.heap.size, 4, none⟩ = some (.string t) := fun o => keep_cell (below1 _ _) c4
    go_wp2_with fail
    refine (i_UndoOf _ _ _ _ _ _ _ y1 y2 y3).mono ?_
    rintro e w4 ⟨rfl, hb3⟩
    rw [HM.out, HN.out]
    replace c0 : w4.cell? ⟨w1.heap.size, 0, none⟩ = some (.int .i64 k) := keep_cell hb3 (d0 _)
    replace c1 : w4.cell? ⟨w1.heap.size, 1, none⟩ = some (.int .i64 m) := keep_cell hb3 (d1 _)
    replace c2 : w4.cell? ⟨w1.heap.size, 2, none⟩ = some (.string n) := keep_cell hb3 (d2 _)
    replace c3 : w4.cell? ⟨w1.heap.size, 3, none⟩ = some (.string h) := keep_cell hb3 (d3 _)
    replace c4 : w4.cell? ⟨w1.heap.size, 4, none⟩ = some (.string t) := keep_cell hb3 (d4 _)
    replace x0 : w4.cell? ⟨w2.heap.size, 0, none⟩ = some (.int .i64 kk) := keep_cell hb3 (X0 _)
    replace x1 : w4.cell? ⟨w2.heap.size, 1, none⟩ = some (.int .i64 q) := keep_cell hb3 (X1 _)
    replace x2 : w4.cell? ⟨w2.heap.size, 2, none⟩ = some (.string n) := keep_cell hb3 (X2 _)
    replace x3 : w4.cell? ⟨w2.heap.size, 3, none⟩ = some (.string h) := keep_cell hb3 (X3 _)
    replace x4 : w4.cell? ⟨w2.heap.size, 4, none⟩ = some (.string t) := keep_cell hb3 (X4 _)
    clear d0 d1 d2 d3 d4 X0 X1 X2 X3 X4
    have d0 : ∀ o, (w4.alloc o).cell? ⟨w1.heap.size, 0, none⟩ = some (.int .i64 k) := fun o => keep_cell (below1 _ _) c0
    have d1 : ∀ o, (w4.alloc o).cell? ⟨w1.heap.size, 1, none⟩ = some (.int .i64 m) := fun o => keep_cell (below1 _ _) c1
    have d2 : ∀ o, (w4.alloc o).cell? ⟨w1.heap.size, 2, none⟩ = some (.string n) := fun o => keep_cell (below1 _ _) c2
    have d3 : ∀ o, (w4.alloc o).cell? ⟨w1.heap.size, 3, none⟩ = some (.string h) := fun o => keep_cell (below1 _ _) c3
    have d4 : ∀ o, (w4.alloc o).cell? ⟨w1.heap.size, 4, none⟩ = some (.string t) := fun o => keep_cell (below1 _ _) c4
    have X0 : ∀ o, (w4.alloc o).cell? ⟨w2.heap.size, 0, none⟩ = some (.int .i64 kk) := fun o => keep_cell (below1 _ _) x0
    have X1 : ∀ o, (w4.alloc o).cell? ⟨w2.heap.size, 1, none⟩ = some (.int .i64 q) := fun o => keep_cell (below1 _ _) x1
    have X2 : ∀ o, (w4.alloc o).cell? ⟨w2.heap.size, 2, none⟩ = some (.string n) := fun o => keep_cell (below1 _ _) x2
    have X3 : ∀ o, (w4.alloc o).cell? ⟨w2.heap.size, 3, none⟩ = some (.string h) := fun o => keep_cell (below1 _ _) x3
    have X4 : ∀ o, (w4.alloc o).cell? ⟨w2.heap.size, 4, none⟩ = some (.string t) := fun o => keep_cell (below1 _ _) x4
    replace bz := below_trans bz (below_trans (below1 _ _) hb3)
    go_wp2_with fail
    refine (i_ActivityValid _ _ _ _ _ _ y1 y2 y3).mono ?_
    rintro e w5 ⟨rfl, hb4⟩
    rw [HA.out]
    replace c0 : w5.cell? ⟨w1.heap.size, 0, none⟩ = some (.int .i64 k) := keep_cell hb4 (d0 _)
    replace c1 : w5.cell? ⟨w1.heap.size, 1, none⟩ = some (.int .i64 m) := keep_cell hb4 (d1 _)
    replace c2 : w5.cell? ⟨w1.heap.size, 2, none⟩ = some (.string n) := keep_cell hb4 (d2 _)
    replace c3 : w5.cell? ⟨w1.heap.size, 3, none⟩ = some (.string h) := keep_cell hb4 (d3 _)
    replace c4 : w5.cell? ⟨w1.heap.size, 4, none⟩ = some (.string t) := keep_cell hb4 (d4 _)
    replace x0 : w5.cell? ⟨w2.heap.size, 0, none⟩ = some (.int .i64 kk) := keep_cell hb4 (X0 _)
    replace x1 : w5.cell? ⟨w2.heap.size, 1, none⟩ = some (.int .i64 q) := keep_cell hb4 (X1 _)
    replace x2 : w5.cell? ⟨w2.heap.size, 2, none⟩ = some (.string n) := keep_cell hb4 (X2 _)
    replace x3 : w5.cell? ⟨w2.heap.size, 3, none⟩ = some (.string h) := keep_cell hb4 (X3 _)
    replace x4 : w5.cell? ⟨w2.heap.size, 4, none⟩ = some (.string t) := keep_cell hb4 (X4 _)
    clear d0 d1 d2 d3 d4 X0 X1 X2 X3 X4
    replace bz := below_trans bz (below_trans (below1 _ _) hb4)
    go_wp2_with fail
    go_ret
    exact ⟨rfl, bz⟩

set_option maxRecDepth 100000 in
theorem lifted (os : Os) (started : os.Started) (H : Type) (enc : TypeId × Value → H) :
    ReturnsInHanded {} Try.checked os 5 .any (Rows.fnUndoOfSpec.pre6 enc Try.prog Try.f5 Rows.fnUndoOfRow.domain false) (Rows.fnUndoOfSpec.post enc Try.prog Try.f5 false true false false) := by
  refine returnsInHanded_of_change (C := Try.checked) own started (by kernel_rfl) Try.func5
    (ChangeSpec.witness6 (enc := enc) (C := Try.checked) false ⟨#[], #[.slice none 0 0], []⟩ 8 (by kernel_rfl) (by kernel_rfl) (by kernel_rfl) (by kernel_rfl)) ?_
  intro W base args ds gs before hval0 hW hcnd _
  have hval : ∀ (j : Nat) t v, Try.f5.params[j]? = some t → args[j]? = some v → Value.okWide Try.prog W .any base t v := hval0
  have hW' := hW
  obtain ⟨p, q, hA0, hV, rfl, hfz, hnd⟩ := hW
  have hA : DataW.TrodAll enc Try.prog W 0 (fun _ => true) true Try.f5.params.toList args.toList ds p := hA0
  rw [Try.params5] at hA hval
  obtain ⟨v0, vs0, d0, ds0, p0, q0, hargs, rfl, rfl, h0, r0⟩ := trodAll_cons hA
  obtain ⟨rfl, rfl, rfl⟩ := trodAll_nil r0
  obtain rfl : args = #[v0] := by cases args; simp_all
  obtain ⟨rfl, rfl⟩ := trodVars_none hV
  have k0 := h0
  have lt0 : ∀ x ∈ p0, x.block < W.heap.size := by obtain ⟨m, hm⟩ := k0; exact DataW.trod_lt m _ _ _ hm
  obtain ⟨aa0, len0, cap0, rfl⟩ := okWide_slice Try.underlying33 (hval 0 33 v0 rfl rfl)
  obtain ⟨l0, w0, x0⟩ : ∃ l, Sl byteS W (.slice aa0 len0 cap0) l ∧ ∀ y ∈ l, True := by obtain ⟨fuel, hf⟩ := h0; exact open_rows byteS (fun y => True) Try.underlying33 (by kernel_rfl) openByte hf
  clear hA0 hval0
  refine (walk _ l0 W w0 x0).mono fun e W' ⟨he, bel⟩ => ?_
  subst he
  exact ⟨_, rfl, _, _, _, [], _, [], hW', trodAll_mk1 (shut_bool Try.underlying4 _), (trodAll_cons_mk (Below.trod laidOut (by kernel_rfl) (of_decide_eq_true (by kernel_rfl)) k0 bel lt0) trodAll_mk0), rfl, bel.frame _, fun h => by cases h⟩

theorem over : Rows.fnUndoOfRow.holds Try.pinned (OpenSpec.ofChange Rows.fnUndoOfSpec) :=
  OpenClaim.holds_of_wide 5 Try.f5 rfl rfl rfl rfl rfl rfl rfl ⟨rfl, rfl, rfl, rfl, rfl⟩ rfl rfl rfl rfl rfl (by kernel_rfl) Try.func5 (by kernel_rfl)
    (of_decide_eq_true (by kernel_rfl)) (by unfold Func.isWrapper; first | (rw [if_pos (by decide +kernel)]; kernel_rfl) | (rw [if_neg (by decide +kernel)]; exact ⟨rfl, rfl⟩))
    (fun os started H enc _ => lifted os started H enc)

theorem proved : Rows.FnUndoOfSaid := over
end Go.Proofs.Ytackffegdmohiaa.fnUndoOf
