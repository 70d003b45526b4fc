/- FnActivityValid: for every input the law returns true, and each argument reads afterwards as it read before. No condition. -/
import Derived.Test.YtackffegdmohiaaRows
import Derived.WalkKit
import Derived.ProofKit
import Derived.OpenShut
import Derived.ChangeOld
import Derived.Below
import Derived.Test.YtackffegdmohiaaOpen
import Derived.Test.YtackffegdmohiaaTypes
import Derived.Test.YtackffegdmohiaaActV
import Derived.Test.YtackffegdmohiaaDrawAd
import Derived.Test.YtackffegdmohiaaAlive
namespace Go.Proofs.Ytackffegdmohiaa.fnActivityValid
open Go.ChangeShapes Go.WideShapes Go.ChangeAt Go.RowKit
open Go.ChangeMaps (open_string shut_string)
set_option linter.unusedVariables false

theorem own : ownKnob Try.prog.godebug = none := by kernel_rfl
theorem laidOut : laidOutB Try.prog = true := by kernel_rfl

theorem openByte {H : Type} {enc : TypeId × Value → H} {w : World} (fuel : Nat) (cs : List Value) (x : DataW H × List MemPlace) (h : DataW.trod enc Try.prog w 0 (fun _ => true) true fuel 5 cs = some x) : ∃ y : UInt8, cs = byteS.enc y ∧ True := by
  obtain ⟨s, rfl, _, hb⟩ := DataW.trod_int Try.underlying5 h
  have := bounds_u8 hb
  exact ⟨UInt8.ofNat s.toNat, by simp [byteS]; omega, trivial⟩

theorem actB_minus (m : Int) (n h t : ByteArray) : actB (-1) m n h t = false := actB_kind (.inl (by decide))
theorem actB_zero {k m : Int} {n h t : ByteArray} (hb : actB k m n h t = true) : actB k 0 n h t = true := by
  have := actB_true hb
  rw [actB_rest this.1 this.2.1 (by decide) (by decide), this.2.2.2.2.1, this.2.2.2.2.2]; rfl

set_option maxHeartbeats 1000000 in
theorem walk (v0 : Value) (l0 : List UInt8) (w : World) (w0 : Sl byteS w v0 l0) (x0 : ∀ y ∈ l0, True) :
    Calls Try.prog 4 #[v0] w fun e w' => e = .returned (.bool true) ∧ Below w.heap.size w w' := by
  obtain ⟨aa, cap, rfl⟩ : ∃ aa cap, v0 = .slice aa l0.length cap := by obtain ⟨a, c, h, _⟩ := w0; exact ⟨a, c, h⟩
  by_cases hlen : l0.length ≤ 1048576
  · go_enter Try.func4, Try.ntmps4
    go_wp2_with fail
    refine (draw_ActivityValid _ l0 _ w0).mono ?_
    rintro e w1 ⟨k, m, n, h, t, rfl, ⟨_, _, z1, z2, z3⟩, hB⟩
    have y1 : n.size ≤ 140737488355328 := by omega
    have y2 : h.size ≤ 140737488355328 := by omega
    have y3 : t.size ≤ 140737488355328 := by omega
    clear z1 z2 z3
    go_wp2_with fail
    refine (i_ActivityValid _ _ _ _ _ _ y1 y2 y3).mono ?_
    rintro e w2 ⟨rfl, hb1⟩
    have c0 : w2.cell? ⟨w1.heap.size, 0, none⟩ = some (.int .i64 k) := keep_cell hb1 (by simp)
    have c1 : w2.cell? ⟨w1.heap.size, 1, none⟩ = some (.int .i64 m) := keep_cell hb1 (by simp)
    have c2 : w2.cell? ⟨w1.heap.size, 2, none⟩ = some (.string n) := keep_cell hb1 (by simp)
    have c3 : w2.cell? ⟨w1.heap.size, 3, none⟩ = some (.string h) := keep_cell hb1 (by simp)
    have c4 : w2.cell? ⟨w1.heap.size, 4, none⟩ = some (.string t) := keep_cell hb1 (by simp)
    have bz := below_trans hB (below_trans (below1 _ _) hb1)
    clear hb1 hB
    go_wp2_with fail
    refine (s_ActivityValid _ _ _ _ _ _ y1 y2 y3).mono ?_
    rintro e w3 ⟨rfl, hb2⟩
    replace c0 := keep_cell hb2 c0
    replace c1 := keep_cell hb2 c1
    replace c2 := keep_cell hb2 c2
    replace c3 := keep_cell hb2 c3
    replace c4 := keep_cell hb2 c4
    replace bz := below_trans bz hb2
    cases hA : actB k m n h t
    · go_wp2_with (first | (go_at_call 10; refine (i_ActivityValid _ _ _ _ _ _ y1 y2 y3).mono ?_; rintro e w4 ⟨rfl, hb3⟩; rw [actB_minus]; replace bz := below_trans bz hb3) | (go_at_call 12; refine (alive_any _).mono ?_; rintro e w' ⟨rfl, rfl⟩))
      go_ret
      exact ⟨rfl, bz⟩
    · have hZ : Hid (actB k 0 n h t = true) := actB_zero hA
      clear hA
      go_wp2_with fail
      refine (i_ActivityValid _ _ _ _ _ _ y1 y2 y3).mono ?_
      rintro e w4 ⟨rfl, hb3⟩
      rw [actB_minus]
      replace c0 := keep_cell hb3 c0
      replace c2 := keep_cell hb3 c2
      replace c3 := keep_cell hb3 c3
      replace c4 := keep_cell hb3 c4
      replace bz := below_trans bz hb3
      go_wp2_with fail
      refine (i_ActivityValid _ _ _ _ _ _ y1 y2 y3).mono ?_
      rintro e w5 ⟨rfl, hb4⟩
      rw [hZ.out]
      replace bz := below_trans bz hb4
      go_wp2_with (first | (go_at_call 12; refine (alive_any _).mono ?_; rintro e w' ⟨rfl, rfl⟩))
      go_ret
      exact ⟨rfl, bz⟩
  · go_enter Try.func4, Try.ntmps4
    go_wp2_with fail
    go_ret
    exact ⟨rfl, Below.refl _ _⟩

set_option maxRecDepth 100000 in
theorem lifted (os : Os) (started : os.Started) (H : Type) (enc : TypeId × Value → H) :
    ReturnsInHanded {} Try.checked os 4 .any (Rows.fnActivityValidSpec.pre6 enc Try.prog Try.f4 Rows.fnActivityValidRow.domain false) (Rows.fnActivityValidSpec.post enc Try.prog Try.f4 false true false false) := by
  refine returnsInHanded_of_change (C := Try.checked) own started (by kernel_rfl) Try.func4
    (ChangeSpec.witness6 (enc := enc) (C := Try.checked) false ⟨#[], #[.slice none 0 0], []⟩ 8 (by kernel_rfl) (by kernel_rfl) (by kernel_rfl) (by kernel_rfl)) ?_
  intro W base args ds gs before hval0 hW hcnd _
  have hval : ∀ (j : Nat) t v, Try.f4.params[j]? = some t → args[j]? = some v → Value.okWide Try.prog W .any base t v := hval0
  have hW' := hW
  obtain ⟨p, q, hA0, hV, rfl, hfz, hnd⟩ := hW
  have hA : DataW.TrodAll enc Try.prog W 0 (fun _ => true) true Try.f4.params.toList args.toList ds p := hA0
  rw [Try.params4] at hA hval
  obtain ⟨v0, vs0, d0, ds0, p0, q0, hargs, rfl, rfl, h0, r0⟩ := trodAll_cons hA
  obtain ⟨rfl, rfl, rfl⟩ := trodAll_nil r0
  obtain rfl : args = #[v0] := by cases args; simp_all
  obtain ⟨rfl, rfl⟩ := trodVars_none hV
  have k0 := h0
  have lt0 : ∀ x ∈ p0, x.block < W.heap.size := by obtain ⟨m, hm⟩ := k0; exact DataW.trod_lt m _ _ _ hm
  obtain ⟨aa0, len0, cap0, rfl⟩ := okWide_slice Try.underlying33 (hval 0 33 v0 rfl rfl)
  obtain ⟨l0, w0, x0⟩ : ∃ l, Sl byteS W (.slice aa0 len0 cap0) l ∧ ∀ y ∈ l, True := by obtain ⟨fuel, hf⟩ := h0; exact open_rows byteS (fun y => True) Try.underlying33 (by kernel_rfl) openByte hf
  clear hA0 hval0
  refine (walk _ l0 W w0 x0).mono fun e W' ⟨he, bel⟩ => ?_
  subst he
  exact ⟨_, rfl, _, _, _, [], _, [], hW', trodAll_mk1 (shut_bool Try.underlying4 _), (trodAll_cons_mk (Below.trod laidOut (by kernel_rfl) (of_decide_eq_true (by kernel_rfl)) k0 bel lt0) trodAll_mk0), rfl, bel.frame _, fun h => by cases h⟩

theorem over : Rows.fnActivityValidRow.holds Try.pinned (OpenSpec.ofChange Rows.fnActivityValidSpec) :=
  OpenClaim.holds_of_wide 4 Try.f4 rfl rfl rfl rfl rfl rfl rfl ⟨rfl, rfl, rfl, rfl, rfl⟩ rfl rfl rfl rfl rfl (by kernel_rfl) Try.func4 (by kernel_rfl)
    (of_decide_eq_true (by kernel_rfl)) (by unfold Func.isWrapper; first | (rw [if_pos (by decide +kernel)]; kernel_rfl) | (rw [if_neg (by decide +kernel)]; exact ⟨rfl, rfl⟩))
    (fun os started H enc _ => lifted os started H enc)

theorem proved : Rows.FnActivityValidSaid := over
end Go.Proofs.Ytackffegdmohiaa.fnActivityValid
