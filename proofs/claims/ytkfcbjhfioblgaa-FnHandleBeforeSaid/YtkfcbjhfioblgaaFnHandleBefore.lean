/- FnHandleBefore: for every input the law returns true, and each argument reads afterwards as it read before. No condition. -/
import Derived.Test.YtkfcbjhfioblgaaRows
import Derived.WalkKit
import Derived.ProofKit
import Derived.OpenShut
import Derived.ChangeOld
import Derived.Below
import Derived.Test.YtkfcbjhfioblgaaOpen
import Derived.Test.YtkfcbjhfioblgaaTypes
import Derived.Test.YtkfcbjhfioblgaaHandF
import Derived.WideShapes
import Derived.Test.YtkfcbjhfioblgaaDrawHB
import Derived.Test.YtkfcbjhfioblgaaAlive
namespace Go.Proofs.Ytkfcbjhfioblgaa.fnHandleBefore
open Go.ChangeShapes Go.WideShapes Go.ChangeAt Go.RowKit
open Go.ChangeMaps (open_string shut_string)
set_option linter.unusedVariables false

theorem own : ownKnob Try.prog.godebug = none := by kernel_rfl
theorem laidOut : laidOutB Try.prog = true := by kernel_rfl

theorem openByte {H : Type} {enc : TypeId × Value → H} {w : World} (fuel : Nat) (cs : List Value) (x : DataW H × List MemPlace) (h : DataW.trod enc Try.prog w 0 (fun _ => true) true fuel 5 cs = some x) : ∃ y : UInt8, cs = byteS.enc y ∧ True := by
  obtain ⟨s, rfl, _, hb⟩ := DataW.trod_int Try.underlying5 h
  have := bounds_u8 hb
  exact ⟨UInt8.ofNat s.toNat, by simp [byteS]; omega, trivial⟩

theorem before_irr (n h : ByteArray) : beforeB n h n h = false := by unfold beforeB; rw [if_pos rfl]; exact less_irr _
theorem before_asymm {n h n2 h2 : ByteArray} (hb : beforeB n h n2 h2 = true) : beforeB n2 h2 n h = false := by
  unfold beforeB at *
  by_cases e : h.toList = h2.toList
  · rw [if_pos e] at hb; rw [if_pos e.symm]; exact less_asymm hb
  · rw [if_neg e] at hb; rw [if_neg (fun x => e x.symm)]; exact less_asymm hb
theorem list_inj {a b : ByteArray} (h : a.toList = b.toList) : a = b := Go.WideShapes.bytes_inj (by rw [ByteArray.toList_eq, ByteArray.toList_eq] at h; exact h)
theorem before_total {n h n2 h2 : ByteArray} (hne : ¬ (n = n2 ∧ h = h2)) (hb : beforeB n h n2 h2 = false) : beforeB n2 h2 n h = true := by
  unfold beforeB at *
  by_cases e : h.toList = h2.toList
  · rw [if_pos e] at hb; rw [if_pos e.symm]; exact less_total (fun x => hne ⟨list_inj x, list_inj e⟩) hb
  · rw [if_neg e] at hb; rw [if_neg (fun x => e x.symm)]; exact less_total e hb

set_option maxHeartbeats 1000000 in
theorem walk (v0 : Value) (l0 : List UInt8) (w : World) (w0 : Sl byteS w v0 l0) (x0 : ∀ y ∈ l0, True) :
    Calls Try.prog 6 #[v0] w fun e w' => e = .returned (.bool true) ∧ Below w.heap.size w w' := by
  obtain ⟨aa, cap, rfl⟩ : ∃ aa cap, v0 = .slice aa l0.length cap := by obtain ⟨a, c, h, _⟩ := w0; exact ⟨a, c, h⟩
  by_cases hlen : l0.length ≤ 1048576
  · go_enter Try.func6, Try.ntmps6
    go_wp2_with fail
    refine (draw_HandleBefore _ l0 _ w0).mono ?_
    rintro e w1 ⟨n, h, n2, h2, rfl, hB⟩
    by_cases he : n = n2 ∧ h = h2
    · obtain ⟨rfl, rfl⟩ := he
      have b1 : Hid (beforeB n h n h = false) := before_irr n h
      have b2 := b1
      go_wp2_with fail
      refine (i_HandleBefore _ _ _ _ _).mono ?_
      rintro e w2 ⟨rfl, hb1⟩
      rw [b1.out]
      have c0 : w2.cell? ⟨w1.heap.size, 0, none⟩ = some (.string n) := keep_cell hb1 (by simp)
      have c1 : w2.cell? ⟨w1.heap.size, 1, none⟩ = some (.string h) := keep_cell hb1 (by simp)
      have d0 : w2.cell? ⟨w1.heap.size + 1, 0, none⟩ = some (.string n) := keep_cell hb1 (by simp)
      have d1 : w2.cell? ⟨w1.heap.size + 1, 1, none⟩ = some (.string h) := keep_cell hb1 (by simp)
      have bz : Below w.heap.size w w2 := below_trans hB (below_trans (below1 _ _) (below_trans (below1 _ _) hb1))
      go_wp2_with fail
      refine (s_HandleBefore _ _ _ _ _).mono ?_
      rintro e w3 ⟨rfl, hb2⟩
      rw [b1.out]
      replace c0 := keep_cell hb2 c0
      replace c1 := keep_cell hb2 c1
      replace d0 := keep_cell hb2 d0
      replace d1 := keep_cell hb2 d1
      replace bz := below_trans bz hb2
      go_wp2_with fail
      refine (i_HandleBefore _ _ _ _ _).mono ?_
      rintro e w4 ⟨rfl, hb3⟩
      rw [b2.out]
      replace c0 := keep_cell hb3 c0
      replace c1 := keep_cell hb3 c1
      replace d0 := keep_cell hb3 d0
      replace d1 := keep_cell hb3 d1
      replace bz := below_trans bz hb3
      go_wp2_with (first | (go_at_call 14; refine (i_HandleBefore _ _ _ _ _).mono ?_; rintro e w5 ⟨rfl, hb4⟩; rw [before_irr]; replace bz := below_trans bz hb4) | (go_at_call 20; refine (alive_any _).mono ?_; rintro e w' ⟨rfl, rfl⟩))
      all_goals first | (go_ret; exact ⟨rfl, bz⟩) | (exact absurd ⟨list_inj (by assumption), list_inj (by assumption)⟩ he) | go_ways
    · cases hb : beforeB n h n2 h2
      · have b1 : Hid (beforeB n h n2 h2 = false) := hb
        have b2 : Hid (beforeB n2 h2 n h = true) := before_total he hb
        go_wp2_with fail
        refine (i_HandleBefore _ _ _ _ _).mono ?_
        rintro e w2 ⟨rfl, hb1⟩
        rw [b1.out]
        have c0 : w2.cell? ⟨w1.heap.size, 0, none⟩ = some (.string n) := keep_cell hb1 (by simp)
        have c1 : w2.cell? ⟨w1.heap.size, 1, none⟩ = some (.string h) := keep_cell hb1 (by simp)
        have d0 : w2.cell? ⟨w1.heap.size + 1, 0, none⟩ = some (.string n2) := keep_cell hb1 (by simp)
        have d1 : w2.cell? ⟨w1.heap.size + 1, 1, none⟩ = some (.string h2) := keep_cell hb1 (by simp)
        have bz : Below w.heap.size w w2 := below_trans hB (below_trans (below1 _ _) (below_trans (below1 _ _) hb1))
        go_wp2_with fail
        refine (s_HandleBefore _ _ _ _ _).mono ?_
        rintro e w3 ⟨rfl, hb2⟩
        rw [b1.out]
        replace c0 := keep_cell hb2 c0
        replace c1 := keep_cell hb2 c1
        replace d0 := keep_cell hb2 d0
        replace d1 := keep_cell hb2 d1
        replace bz := below_trans bz hb2
        go_wp2_with fail
        refine (i_HandleBefore _ _ _ _ _).mono ?_
        rintro e w4 ⟨rfl, hb3⟩
        rw [b2.out]
        replace c0 := keep_cell hb3 c0
        replace c1 := keep_cell hb3 c1
        replace d0 := keep_cell hb3 d0
        replace d1 := keep_cell hb3 d1
        replace bz := below_trans bz hb3
        go_wp2_with (first | (go_at_call 14; refine (i_HandleBefore _ _ _ _ _).mono ?_; rintro e w5 ⟨rfl, hb4⟩; rw [before_irr]; replace bz := below_trans bz hb4) | (go_at_call 20; refine (alive_any _).mono ?_; rintro e w' ⟨rfl, rfl⟩))
        all_goals first | (go_ret; exact ⟨rfl, bz⟩) | (exact absurd ⟨list_inj (by assumption), list_inj (by assumption)⟩ he) | go_ways
      · have b1 : Hid (beforeB n h n2 h2 = true) := hb
        have b2 : Hid (beforeB n2 h2 n h = false) := before_asymm hb
        go_wp2_with fail
        refine (i_HandleBefore _ _ _ _ _).mono ?_
        rintro e w2 ⟨rfl, hb1⟩
        rw [b1.out]
        have c0 : w2.cell? ⟨w1.heap.size, 0, none⟩ = some (.string n) := keep_cell hb1 (by simp)
        have c1 : w2.cell? ⟨w1.heap.size, 1, none⟩ = some (.string h) := keep_cell hb1 (by simp)
        have d0 : w2.cell? ⟨w1.heap.size + 1, 0, none⟩ = some (.string n2) := keep_cell hb1 (by simp)
        have d1 : w2.cell? ⟨w1.heap.size + 1, 1, none⟩ = some (.string h2) := keep_cell hb1 (by simp)
        have bz : Below w.heap.size w w2 := below_trans hB (below_trans (below1 _ _) (below_trans (below1 _ _) hb1))
        go_wp2_with fail
        refine (s_HandleBefore _ _ _ _ _).mono ?_
        rintro e w3 ⟨rfl, hb2⟩
        rw [b1.out]
        replace c0 := keep_cell hb2 c0
        replace c1 := keep_cell hb2 c1
        replace d0 := keep_cell hb2 d0
        replace d1 := keep_cell hb2 d1
        replace bz := below_trans bz hb2
        go_wp2_with fail
        refine (i_HandleBefore _ _ _ _ _).mono ?_
        rintro e w4 ⟨rfl, hb3⟩
        rw [b2.out]
        replace c0 := keep_cell hb3 c0
        replace c1 := keep_cell hb3 c1
        replace d0 := keep_cell hb3 d0
        replace d1 := keep_cell hb3 d1
        replace bz := below_trans bz hb3
        go_wp2_with (first | (go_at_call 14; refine (i_HandleBefore _ _ _ _ _).mono ?_; rintro e w5 ⟨rfl, hb4⟩; rw [before_irr]; replace bz := below_trans bz hb4) | (go_at_call 20; refine (alive_any _).mono ?_; rintro e w' ⟨rfl, rfl⟩))
        all_goals first | (go_ret; exact ⟨rfl, bz⟩) | (exact absurd ⟨list_inj (by assumption), list_inj (by assumption)⟩ he) | go_ways
  · go_enter Try.func6, Try.ntmps6
    go_wp2_with fail
    go_ret
    exact ⟨rfl, Below.refl _ _⟩

set_option maxRecDepth 100000 in
theorem lifted (os : Os) (started : os.Started) (H : Type) (enc : TypeId × Value → H) :
    ReturnsInHanded {} Try.checked os 6 .any (Rows.fnHandleBeforeSpec.pre6 enc Try.prog Try.f6 Rows.fnHandleBeforeRow.domain false) (Rows.fnHandleBeforeSpec.post enc Try.prog Try.f6 false true false false) := by
  refine returnsInHanded_of_change (C := Try.checked) own started (by kernel_rfl) Try.func6
    (ChangeSpec.witness6 (enc := enc) (C := Try.checked) false ⟨#[], #[.slice none 0 0], []⟩ 8 (by kernel_rfl) (by kernel_rfl) (by kernel_rfl) (by kernel_rfl)) ?_
  intro W base args ds gs before hval0 hW hcnd _
  have hval : ∀ (j : Nat) t v, Try.f6.params[j]? = some t → args[j]? = some v → Value.okWide Try.prog W .any base t v := hval0
  have hW' := hW
  obtain ⟨p, q, hA0, hV, rfl, hfz, hnd⟩ := hW
  have hA : DataW.TrodAll enc Try.prog W 0 (fun _ => true) true Try.f6.params.toList args.toList ds p := hA0
  rw [Try.params6] at hA hval
  obtain ⟨v0, vs0, d0, ds0, p0, q0, hargs, rfl, rfl, h0, r0⟩ := trodAll_cons hA
  obtain ⟨rfl, rfl, rfl⟩ := trodAll_nil r0
  obtain rfl : args = #[v0] := by cases args; simp_all
  obtain ⟨rfl, rfl⟩ := trodVars_none hV
  have k0 := h0
  have lt0 : ∀ x ∈ p0, x.block < W.heap.size := by obtain ⟨m, hm⟩ := k0; exact DataW.trod_lt m _ _ _ hm
  obtain ⟨aa0, len0, cap0, rfl⟩ := okWide_slice Try.underlying32 (hval 0 32 v0 rfl rfl)
  obtain ⟨l0, w0, x0⟩ : ∃ l, Sl byteS W (.slice aa0 len0 cap0) l ∧ ∀ y ∈ l, True := by obtain ⟨fuel, hf⟩ := h0; exact open_rows byteS (fun y => True) Try.underlying32 (by kernel_rfl) openByte hf
  clear hA0 hval0
  refine (walk _ l0 W w0 x0).mono fun e W' ⟨he, bel⟩ => ?_
  subst he
  exact ⟨_, rfl, _, _, _, [], _, [], hW', trodAll_mk1 (shut_bool Try.underlying4 _), (trodAll_cons_mk (Below.trod laidOut (by kernel_rfl) (of_decide_eq_true (by kernel_rfl)) k0 bel lt0) trodAll_mk0), rfl, bel.frame _, fun h => by cases h⟩

theorem over : Rows.fnHandleBeforeRow.holds Try.pinned (OpenSpec.ofChange Rows.fnHandleBeforeSpec) :=
  OpenClaim.holds_of_wide 6 Try.f6 rfl rfl rfl rfl rfl rfl rfl ⟨rfl, rfl, rfl, rfl, rfl⟩ rfl rfl rfl rfl rfl (by kernel_rfl) Try.func6 (by kernel_rfl)
    (of_decide_eq_true (by kernel_rfl)) (by unfold Func.isWrapper; first | (rw [if_pos (by decide +kernel)]; kernel_rfl) | (rw [if_neg (by decide +kernel)]; exact ⟨rfl, rfl⟩))
    (fun os started H enc _ => lifted os started H enc)

theorem proved : Rows.FnHandleBeforeSaid := over
end Go.Proofs.Ytkfcbjhfioblgaa.fnHandleBefore
