/- FnActorNamed: for every input the law returns true, and each argument reads afterwards as it read before. No condition. -/
import Derived.Test.YtipalcmfhmmdiaaRows
import Derived.WalkKit
import Derived.ProofKit
import Derived.OpenShut
import Derived.ChangeOld
import Derived.Below
import Derived.Test.YtipalcmfhmmdiaaOpen
import Derived.Test.YtipalcmfhmmdiaaTypes
import Derived.Test.YtipalcmfhmmdiaaDrawAs
import Derived.Test.YtipalcmfhmmdiaaAlive
namespace Go.Proofs.Ytipalcmfhmmdiaa.fnActorNamed
open Go.ChangeShapes Go.WideShapes Go.ChangeAt Go.RowKit
open Go.ChangeMaps (open_string shut_string)
set_option linter.unusedVariables false

theorem own : ownKnob Try.prog.godebug = none := by kernel_rfl
theorem laidOut : laidOutB Try.prog = true := by kernel_rfl

theorem openByte {H : Type} {enc : TypeId × Value → H} {w : World} (fuel : Nat) (cs : List Value) (x : DataW H × List MemPlace) (h : DataW.trod enc Try.prog w 0 (fun _ => true) true fuel 5 cs = some x) : ∃ y : UInt8, cs = byteS.enc y ∧ True := by
  obtain ⟨s, rfl, _, hb⟩ := DataW.trod_int Try.underlying5 h
  have := bounds_u8 hb
  exact ⟨UInt8.ofNat s.toNat, by simp [byteS]; omega, trivial⟩


set_option maxHeartbeats 1600000 in
theorem walk (v0 : Value) (l0 : List UInt8) (w : World) (w0 : Sl byteS w v0 l0) (x0 : ∀ y ∈ l0, True) :
    Calls Try.prog 6 #[v0] w fun e w' => e = .returned (.bool true) ∧ Below w.heap.size w w' := by
  obtain ⟨aa, cap, rfl⟩ : ∃ aa cap, v0 = .slice aa l0.length cap := by obtain ⟨a, c, h, _⟩ := w0; exact ⟨a, c, h⟩
  by_cases hlen : l0.length ≤ 1048576
  rotate_left
  · go_enter Try.func6, Try.ntmps6
    go_wp2_with fail
    go_ret
    exact ⟨rfl, Below.refl _ _⟩
  go_enter Try.func6, Try.ntmps6
  go_wp2_with fail
  refine (draw_ActorNamed _ l0 _ w0).mono ?_
  rintro e w1 ⟨v, o, s, rfl, hs, ho, hdr, hsl, hB⟩
  obtain ⟨A, c, rfl⟩ : ∃ A c, v = .slice A o.length c := by obtain ⟨a, c, h, _⟩ := hsl; exact ⟨a, c, h⟩
  go_wp2_with fail
  refine (i_ActorNamed _ o s _ hsl (dr_sizes hdr)).mono ?_
  rintro e w2 ⟨rfl, hb1⟩
  go_wp2_with fail
  refine (s_ActorNamed _ o s _ (hsl.mono hb1) (dr_sizes hdr)).mono ?_
  rintro e w3 ⟨rfl, hb2⟩
  have hsl3 := (hsl.mono hb1).mono hb2
  have bz := below_trans (below_trans hB hb1) hb2
  clear hB hb1 hb2 hsl
  obtain ⟨m, hm⟩ : ∃ m, Hid (m = namedM o s) := ⟨_, rfl⟩
  rw [← hm.out]
  rcases Nat.eq_zero_or_pos o.length with h0 | h0
  · obtain rfl := List.eq_nil_of_length_eq_zero h0
    have H : m = -1 := by
      rw [hm.out]
      exact named_none (by decide) (fun j hj => by simp at hj)
    clear hm
    subst H
    go_wp2
    go_loopw [6] (fun i wr => i = .int .i64 0 ∧ Below w.heap.size w wr) (fun _ _ => 0)
    case atStart => exact ⟨rfl, bz⟩
    case round =>
      obtain ⟨rfl, hB⟩ := hrel
      go_wp2_with (first | (go_at_call 15; refine (alive_any _).mono ?_; rintro e w' ⟨rfl, rfl⟩))
      go_ret
      exact ⟨rfl, hB⟩
  · obtain ⟨b, off, cc, hv, hcap, hbs, hc⟩ := SlActr.open hsl3 h0
    injection hv with hv1 _ hv3
    subst hv1; subst hv3
    go_wp2
    go_loopw [6] (fun i wr => ∃ k : Nat, k ≤ o.length ∧ i = .int .i64 k ∧ NoneTo o s k ∧ Below w3.heap.size w3 wr) (fun i _ => o.length - (intOf i).toNat)
    case atStart => exact ⟨0, Nat.zero_le _, rfl, NoneTo.zero _ _, Below.refl _ _⟩
    case round =>
      obtain ⟨wo, rfl⟩ : ∃ wo : World, wo = wr := ⟨_, rfl⟩
      obtain ⟨k, hk, rfl, hT, hB⟩ := hrel
      have bw := below_trans bz hB
      by_cases hlt : k < o.length
      · have hcell0 : ∀ w', Below wo.heap.size wo w' → w'.cell? ⟨b, off + k * 3, none⟩ = some (.string o[k].name) := fun w' h => (below_trans hB h).cell (p := ⟨b, off + k * 3, none⟩) hbs |>.trans (hc k hlt).1
        have q2 : (0 : Int) ≤ (k : Int) := by omega
        have q3 : (k : Int) < (o.length : Int) := by omega
        clear hc
        cases hA : actorsB o
        · have H : m = -1 := by rw [hm.out]; exact named_inv hA
          clear hm hT
          subst H
          go_wp2_with (first | (go_at_call 12; refine (i_ActorsValid _ o _ (hsl3.mono hB) (dr_sizes hdr)).mono ?_; rintro e w4 ⟨rfl, hb4⟩; rw [hA]; replace bw := below_trans bw hb4) | (go_at_call 15; refine (alive_any _).mono ?_; rintro e w' ⟨rfl, rfl⟩))
          go_ret
          exact ⟨rfl, bw⟩
        · cases he : (o[k].name.toList == s.toList)
          · have HT : Hid (NoneTo o s (k + 1)) := hT.succ hlt he
            clear hT hm
            go_wp2_with (first | (go_at_call 12; refine (i_ActorsValid _ o _ (hsl3.mono hB) (dr_sizes hdr)).mono ?_; rintro e w4 ⟨rfl, hb4⟩; rw [hA]; have c4 := hcell0 w4 hb4; have hB4 := below_trans hB hb4))
            go_roundw
            case rel => exact ⟨k + 1, by omega, by go_num, HT.out, hB4⟩
            case measure => simp [intOf]; omega
          · have H : m = k := by rw [hm.out]; exact named_hit hA hlt hT he
            clear hT hm
            subst H
            go_wp2_with (first | (go_at_call 12; refine (i_ActorsValid _ o _ (hsl3.mono hB) (dr_sizes hdr)).mono ?_; rintro e w4 ⟨rfl, hb4⟩; rw [hA]; have c4 := hcell0 w4 hb4; replace bw := below_trans bw hb4))
            go_ret
            exact ⟨rfl, bw⟩
      · have H : m = -1 := by
          rw [hm.out]
          obtain rfl : k = o.length := by omega
          cases hA : actorsB o
          · exact named_inv hA
          · exact named_none hA hT
        clear hT hc hm
        subst H
        go_wp2_with (first | (go_at_call 15; refine (alive_any _).mono ?_; rintro e w' ⟨rfl, rfl⟩))
        go_ret
        exact ⟨rfl, bw⟩

set_option maxRecDepth 100000 in
theorem lifted (os : Os) (started : os.Started) (H : Type) (enc : TypeId × Value → H) :
    ReturnsInHanded {} Try.checked os 6 .any (Rows.fnActorNamedSpec.pre6 enc Try.prog Try.f6 Rows.fnActorNamedRow.domain false) (Rows.fnActorNamedSpec.post enc Try.prog Try.f6 false true false false) := by
  refine returnsInHanded_of_change (C := Try.checked) own started (by kernel_rfl) Try.func6
    (ChangeSpec.witness6 (enc := enc) (C := Try.checked) false ⟨#[], #[.slice none 0 0], []⟩ 8 (by kernel_rfl) (by kernel_rfl) (by kernel_rfl) (by kernel_rfl)) ?_
  intro W base args ds gs before hval0 hW hcnd _
  have hval : ∀ (j : Nat) t v, Try.f6.params[j]? = some t → args[j]? = some v → Value.okWide Try.prog W .any base t v := hval0
  have hW' := hW
  obtain ⟨p, q, hA0, hV, rfl, hfz, hnd⟩ := hW
  have hA : DataW.TrodAll enc Try.prog W 0 (fun _ => true) true Try.f6.params.toList args.toList ds p := hA0
  rw [Try.params6] at hA hval
  obtain ⟨v0, vs0, d0, ds0, p0, q0, hargs, rfl, rfl, h0, r0⟩ := trodAll_cons hA
  obtain ⟨rfl, rfl, rfl⟩ := trodAll_nil r0
  obtain rfl : args = #[v0] := by cases args; simp_all
  obtain ⟨rfl, rfl⟩ := trodVars_none hV
  have k0 := h0
  have lt0 : ∀ x ∈ p0, x.block < W.heap.size := by obtain ⟨m, hm⟩ := k0; exact DataW.trod_lt m _ _ _ hm
  obtain ⟨aa0, len0, cap0, rfl⟩ := okWide_slice Try.underlying29 (hval 0 29 v0 rfl rfl)
  obtain ⟨l0, w0, x0⟩ : ∃ l, Sl byteS W (.slice aa0 len0 cap0) l ∧ ∀ y ∈ l, True := by obtain ⟨fuel, hf⟩ := h0; exact open_rows byteS (fun y => True) Try.underlying29 (by kernel_rfl) openByte hf
  clear hA0 hval0
  refine (walk _ l0 W w0 x0).mono fun e W' ⟨he, bel⟩ => ?_
  subst he
  exact ⟨_, rfl, _, _, _, [], _, [], hW', trodAll_mk1 (shut_bool Try.underlying4 _), (trodAll_cons_mk (Below.trod laidOut (by kernel_rfl) (of_decide_eq_true (by kernel_rfl)) k0 bel lt0) trodAll_mk0), rfl, bel.frame _, fun h => by cases h⟩

theorem over : Rows.fnActorNamedRow.holds Try.pinned (OpenSpec.ofChange Rows.fnActorNamedSpec) :=
  OpenClaim.holds_of_wide 6 Try.f6 rfl rfl rfl rfl rfl rfl rfl ⟨rfl, rfl, rfl, rfl, rfl⟩ rfl rfl rfl rfl rfl (by kernel_rfl) Try.func6 (by kernel_rfl)
    (of_decide_eq_true (by kernel_rfl)) (by unfold Func.isWrapper; first | (rw [if_pos (by decide +kernel)]; kernel_rfl) | (rw [if_neg (by decide +kernel)]; exact ⟨rfl, rfl⟩))
    (fun os started H enc _ => lifted os started H enc)

theorem proved : Rows.FnActorNamedSaid := over
end Go.Proofs.Ytipalcmfhmmdiaa.fnActorNamed
