/- FnPowMod: for every input the law returns true, and each argument reads afterwards as it read before. No condition. -/
import Derived.Test.YtikebbdkcpcmkaaRows
import Derived.WalkKit
import Derived.ProofKit
import Derived.OpenShut
import Derived.ChangeOld
import Derived.Below
import Derived.Test.YtikebbdkcpcmkaaOpen
import Derived.Test.YtikebbdkcpcmkaaTypes
import Derived.Test.YtikebbdkcpcmkaaNum
import Derived.Test.YtikebbdkcpcmkaaDrawN
import Derived.Test.YtikebbdkcpcmkaaAlive
namespace Go.Proofs.Ytikebbdkcpcmkaa.fnPowMod
open Go.ChangeShapes Go.WideShapes Go.ChangeAt Go.RowKit
open Go.ChangeMaps (open_string shut_string)
set_option linter.unusedVariables false

theorem own : ownKnob Try.prog.godebug = none := by kernel_rfl
theorem laidOut : laidOutB Try.prog = true := by kernel_rfl

theorem openByte {H : Type} {enc : TypeId × Value → H} {w : World} (fuel : Nat) (cs : List Value) (x : DataW H × List MemPlace) (h : DataW.trod enc Try.prog w 0 (fun _ => true) true fuel 5 cs = some x) : ∃ y : UInt8, cs = byteS.enc y ∧ True := by
  obtain ⟨s, rfl, _, hb⟩ := DataW.trod_int Try.underlying5 h
  have := bounds_u8 hb
  exact ⟨UInt8.ofNat s.toNat, by simp [byteS]; omega, trivial⟩

theorem pm_in {a x m : Int} (h : 1 ≤ m ∧ m ≤ 1000000 ∧ 0 ≤ a ∧ a ≤ m - 1 ∧ 0 ≤ x ∧ x ≤ 1000000000) : 0 ≤ powModM a x m ∧ powModM a x m ≤ m - 1 := by
  unfold powModM; rw [if_pos h]
  have h1 := Int.emod_nonneg (a ^ x.toNat) (show m ≠ 0 by omega)
  have h2 := Int.emod_lt_of_pos (a ^ x.toNat) (show 0 < m by omega)
  omega
theorem pm_sum {a x m : Int} (h : 1 ≤ m ∧ m ≤ 1000000 ∧ 0 ≤ a ∧ a ≤ m - 1 ∧ 0 ≤ x ∧ x ≤ 1000000000) : mulModM (powModM a (x / 2) m) (powModM a (x - x / 2) m) m = powModM a x m := by
  have p1 := pm_in (a := a) (x := x / 2) (m := m) (by omega)
  have p2 := pm_in (a := a) (x := x - x / 2) (m := m) (by omega)
  unfold mulModM; rw [if_pos (by omega)]
  unfold powModM
  rw [if_pos (by omega), if_pos (by omega), if_pos h, ← Int.mul_emod, ← Int.pow_add]
  congr 2
  omega
theorem pm_one {a x m : Int} (h : 1 ≤ m ∧ m ≤ 1000000 ∧ 0 ≤ a ∧ a ≤ m - 1 ∧ 0 ≤ x ∧ x ≤ 1000000000) : powModM a 1 m = a := by
  unfold powModM; rw [if_pos (by omega), show (1 : Int).toNat = 1 from rfl, Int.pow_succ, Int.pow_zero, Int.one_mul]; exact Int.emod_eq_of_lt (by omega) (by omega)

set_option maxHeartbeats 400000 in
theorem walk (v0 : Value) (l0 : List UInt8) (w : World) (w0 : Sl byteS w v0 l0) (x0 : ∀ y ∈ l0, True) :
    Calls Try.prog 7 #[v0] w fun e w' => e = .returned (.bool true) ∧ Below w.heap.size w w' := by
  obtain ⟨aa, cap, rfl⟩ : ∃ aa cap, v0 = .slice aa l0.length cap := by obtain ⟨a, c, h, _⟩ := w0; exact ⟨a, c, h⟩
  by_cases hlen : l0.length ≤ 1048576
  · go_enter Try.func7, Try.ntmps7
    go_wp2_with fail
    refine (draw_PowMod _ l0 _ w0).mono ?_
    rintro e w1 ⟨a, x, m, rfl, ⟨a1, a2, b1, b2, m1, m2⟩, hB⟩
    by_cases hv : 1 ≤ m ∧ m ≤ 1000000 ∧ 0 ≤ a ∧ a ≤ m - 1 ∧ 0 ≤ x ∧ x ≤ 1000000000
    · obtain ⟨n1, n2⟩ := pm_in hv
      have h1 : Hid (powModM a 1 m = a) := pm_one hv
      have h2 : Hid (mulModM (powModM a (x / 2) m) (powModM a (x - x / 2) m) m = powModM a x m) := pm_sum hv
      obtain ⟨v1, v2, v3, v4, v5, v6⟩ := hv
      go_wp2_with (first | (go_at_call 25; refine (i_PowMod _ _ _ _).mono ?_; rintro e w' ⟨rfl, rfl⟩; first | rw [h1.out] | skip) | (go_at_call 26; refine (s_PowMod _ _ _ _).mono ?_; rintro e w' ⟨rfl, rfl⟩) | (go_at_call 15; refine (i_MulMod _ _ _ _).mono ?_; rintro e w' ⟨rfl, rfl⟩; rw [h2.out]))
      go_ret
      exact ⟨rfl, hB⟩
    · have hn : Hid (powModM a x m = -1) := by show _ = _; unfold powModM; rw [if_neg hv]
      clear hv
      go_wp2_with (first | (go_at_call 25; refine (i_PowMod _ _ _ _).mono ?_; rintro e w' ⟨rfl, rfl⟩; rw [hn.out]) | (go_at_call 26; refine (s_PowMod _ _ _ _).mono ?_; rintro e w' ⟨rfl, rfl⟩; rw [hn.out]) | (go_at_call 13; refine (alive_any _).mono ?_; rintro e w' ⟨rfl, rfl⟩))
      go_ret
      exact ⟨rfl, hB⟩
  · go_enter Try.func7, Try.ntmps7
    go_wp2_with fail
    go_ret
    exact ⟨rfl, Below.refl _ _⟩

set_option maxRecDepth 100000 in
theorem lifted (os : Os) (started : os.Started) (H : Type) (enc : TypeId × Value → H) :
    ReturnsInHanded {} Try.checked os 7 .any (Rows.fnPowModSpec.pre6 enc Try.prog Try.f7 Rows.fnPowModRow.domain false) (Rows.fnPowModSpec.post enc Try.prog Try.f7 false true false false) := by
  refine returnsInHanded_of_change (C := Try.checked) own started (by kernel_rfl) Try.func7
    (ChangeSpec.witness6 (enc := enc) (C := Try.checked) false ⟨#[], #[.slice none 0 0], []⟩ 8 (by kernel_rfl) (by kernel_rfl) (by kernel_rfl) (by kernel_rfl)) ?_
  intro W base args ds gs before hval0 hW hcnd _
  have hval : ∀ (j : Nat) t v, Try.f7.params[j]? = some t → args[j]? = some v → Value.okWide Try.prog W .any base t v := hval0
  have hW' := hW
  obtain ⟨p, q, hA0, hV, rfl, hfz, hnd⟩ := hW
  have hA : DataW.TrodAll enc Try.prog W 0 (fun _ => true) true Try.f7.params.toList args.toList ds p := hA0
  rw [Try.params7] at hA hval
  obtain ⟨v0, vs0, d0, ds0, p0, q0, hargs, rfl, rfl, h0, r0⟩ := trodAll_cons hA
  obtain ⟨rfl, rfl, rfl⟩ := trodAll_nil r0
  obtain rfl : args = #[v0] := by cases args; simp_all
  obtain ⟨rfl, rfl⟩ := trodVars_none hV
  have k0 := h0
  have lt0 : ∀ x ∈ p0, x.block < W.heap.size := by obtain ⟨m, hm⟩ := k0; exact DataW.trod_lt m _ _ _ hm
  obtain ⟨aa0, len0, cap0, rfl⟩ := okWide_slice Try.underlying22 (hval 0 22 v0 rfl rfl)
  obtain ⟨l0, w0, x0⟩ : ∃ l, Sl byteS W (.slice aa0 len0 cap0) l ∧ ∀ y ∈ l, True := by obtain ⟨fuel, hf⟩ := h0; exact open_rows byteS (fun y => True) Try.underlying22 (by kernel_rfl) openByte hf
  clear hA0 hval0
  refine (walk _ l0 W w0 x0).mono fun e W' ⟨he, bel⟩ => ?_
  subst he
  exact ⟨_, rfl, _, _, _, [], _, [], hW', trodAll_mk1 (shut_bool Try.underlying4 _), (trodAll_cons_mk (Below.trod laidOut (by kernel_rfl) (of_decide_eq_true (by kernel_rfl)) k0 bel lt0) trodAll_mk0), rfl, bel.frame _, fun h => by cases h⟩

theorem over : Rows.fnPowModRow.holds Try.pinned (OpenSpec.ofChange Rows.fnPowModSpec) :=
  OpenClaim.holds_of_wide 7 Try.f7 rfl rfl rfl rfl rfl rfl rfl ⟨rfl, rfl, rfl, rfl, rfl⟩ rfl rfl rfl rfl rfl (by kernel_rfl) Try.func7 (by kernel_rfl)
    (of_decide_eq_true (by kernel_rfl)) (by unfold Func.isWrapper; first | (rw [if_pos (by decide +kernel)]; kernel_rfl) | (rw [if_neg (by decide +kernel)]; exact ⟨rfl, rfl⟩))
    (fun os started H enc _ => lifted os started H enc)

theorem proved : Rows.FnPowModSaid := over
end Go.Proofs.Ytikebbdkcpcmkaa.fnPowMod
