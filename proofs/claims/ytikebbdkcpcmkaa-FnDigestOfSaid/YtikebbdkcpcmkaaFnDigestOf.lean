/- FnDigestOf: for every input the law returns true, and each argument reads afterwards as it read before. No condition. -/
import Derived.Test.YtikebbdkcpcmkaaRows
import Derived.WalkKit
import Derived.ProofKit
import Derived.OpenShut
import Derived.ChangeOld
import Derived.Below
import Derived.Test.YtikebbdkcpcmkaaOpen
import Derived.Test.YtikebbdkcpcmkaaTypes
import Derived.Test.YtikebbdkcpcmkaaNum
import Derived.Test.YtikebbdkcpcmkaaDig
import Derived.Test.YtikebbdkcpcmkaaDrawN
import Derived.Test.YtikebbdkcpcmkaaAlive
namespace Go.Proofs.Ytikebbdkcpcmkaa.fnDigestOf
open Go.ChangeShapes Go.WideShapes Go.ChangeAt Go.RowKit
open Go.ChangeMaps (open_string shut_string)
set_option linter.unusedVariables false

theorem own : ownKnob Try.prog.godebug = none := by kernel_rfl
theorem laidOut : laidOutB Try.prog = true := by kernel_rfl

theorem openByte {H : Type} {enc : TypeId × Value → H} {w : World} (fuel : Nat) (cs : List Value) (x : DataW H × List MemPlace) (h : DataW.trod enc Try.prog w 0 (fun _ => true) true fuel 5 cs = some x) : ∃ y : UInt8, cs = byteS.enc y ∧ True := by
  obtain ⟨s, rfl, _, hb⟩ := DataW.trod_int Try.underlying5 h
  have := bounds_u8 hb
  exact ⟨UInt8.ofNat s.toNat, by simp [byteS]; omega, trivial⟩

theorem app_list (s : ByteArray) (c : UInt8) : (s ++ ⟨#[c]⟩).data.toList = s.data.toList ++ [c] := by
  rw [ByteArray.data_append]; simp
theorem textB_app {l : List UInt8} {c : UInt8} (h : textB l = true) (hl : l.length < 80) (h1 : 32 ≤ c.toNat) (h2 : c.toNat ≤ 126) : textB (l ++ [c]) = true := by
  unfold textB at h ⊢
  simp only [Bool.and_eq_true, decide_eq_true_eq, List.all_append, List.length_append, List.length_cons, List.length_nil, List.all_cons, List.all_nil] at h ⊢
  exact ⟨by omega, h.2, ⟨h1, h2⟩, trivial⟩
theorem digest_app {l : List UInt8} {c : UInt8} (h : textB l = true) (hl : l.length < 80) (h1 : 32 ≤ c.toNat) (h2 : c.toNat ≤ 126) : digestM (l ++ [c]) = digestMoreM (digestM l) (c.toNat : Int) := by
  have hb := digestTo_bd l l.length
  unfold digestM
  rw [if_pos (textB_app h hl h1 h2), if_pos h]
  unfold digestMoreM
  rw [if_pos ⟨hb.1, hb.2, by omega, by omega⟩]
  unfold digestTo
  rw [List.take_of_length_le (Nat.le_refl _), List.take_of_length_le (Nat.le_refl _), List.foldl_append]
  rfl
theorem digest_ab {l : List UInt8} (h : textB l = true) (hl : l.length < 80) : (digestM (l ++ [97]) != digestM (l ++ [98])) = true := by
  rw [digest_app h hl (by decide) (by decide), digest_app h hl (by decide) (by decide)]
  have hb := digestTo_bd l l.length
  rw [bne_iff_ne]; unfold digestMoreM digestM
  rw [if_pos h, if_pos ⟨hb.1, hb.2, by decide, by decide⟩, if_pos ⟨hb.1, hb.2, by decide, by decide⟩]
  simp only [show ((97 : UInt8).toNat : Int) = 97 from rfl, show ((98 : UInt8).toNat : Int) = 98 from rfl]
  omega

set_option maxHeartbeats 400000 in
theorem walk (v0 : Value) (l0 : List UInt8) (w : World) (w0 : Sl byteS w v0 l0) (x0 : ∀ y ∈ l0, True) :
    Calls Try.prog 8 #[v0] w fun e w' => e = .returned (.bool true) ∧ Below w.heap.size w w' := by
  obtain ⟨aa, cap, rfl⟩ : ∃ aa cap, v0 = .slice aa l0.length cap := by obtain ⟨a, c, h, _⟩ := w0; exact ⟨a, c, h⟩
  by_cases hlen : l0.length ≤ 1048576
  · go_enter Try.func8, Try.ntmps8
    go_wp2_with fail
    refine (draw_DigestOf _ l0 _ w0).mono ?_
    rintro e w1 ⟨s, rfl, hsz, hB⟩
    by_cases hv : textB s.data.toList = true
    · have hd := digestTo_bd s.data.toList s.data.toList.length
      have he : digestM s.data.toList = digestTo s.data.toList s.data.toList.length := by unfold digestM; rw [if_pos hv]
      rw [← he] at hd
      clear he
      by_cases h80 : s.size = 80
      · have HD : Hid (digestM s.data.toList = digestM s.data.toList) := rfl
        go_wp2_with (first | (go_at_call 28; refine (i_DigestOf _ _).mono ?_; rintro e w' ⟨rfl, rfl⟩) | (go_at_call 29; refine (s_DigestOf _ _ (by omega)).mono ?_; rintro e w' ⟨rfl, rfl⟩) | (go_at_call 13; refine (alive_any _).mono ?_; rintro e w' ⟨rfl, rfl⟩))
        all_goals (go_ret; exact ⟨rfl, hB⟩)
      · have hl := size_len s
        have hlt : s.data.toList.length < 80 := by unfold textB at hv; simp at hv; omega
        have ha : digestM (s.data.toList ++ [97]) = digestMoreM (digestM s.data.toList) 97 := digest_app hv hlt (by decide) (by decide)
        have hab : ¬ digestMoreM (digestM s.data.toList) 97 = digestM (s.data.toList ++ [98]) := by have := digest_ab hv hlt; rw [ha] at this; simpa using this
        clear hv hlt hl
        go_wp2_with (first | (go_at_call 11; refine (i_DigestMore _ _ _).mono ?_; rintro e w' ⟨rfl, rfl⟩) | (go_at_call 28; refine (i_DigestOf _ _).mono ?_; rintro e w' ⟨rfl, rfl⟩; try rw [app_list]) | (go_at_call 29; refine (s_DigestOf _ _ (by omega)).mono ?_; rintro e w' ⟨rfl, rfl⟩))
        all_goals first | (go_ret; exact ⟨ret_bool (by simp [*]), hB⟩) | (exfalso; simp at *; omega) | go_ways
    · have hn : Hid (digestM s.data.toList = -1) := by show _ = _; unfold digestM; rw [if_neg hv]
      clear hv
      go_wp2_with (first | (go_at_call 28; refine (i_DigestOf _ _).mono ?_; rintro e w' ⟨rfl, rfl⟩; rw [hn.out]) | (go_at_call 29; refine (s_DigestOf _ _ (by omega)).mono ?_; rintro e w' ⟨rfl, rfl⟩; rw [hn.out]) | (go_at_call 13; refine (alive_any _).mono ?_; rintro e w' ⟨rfl, rfl⟩))
      go_ret
      exact ⟨rfl, hB⟩
  · go_enter Try.func8, Try.ntmps8
    go_wp2_with fail
    go_ret
    exact ⟨rfl, Below.refl _ _⟩

set_option maxRecDepth 100000 in
theorem lifted (os : Os) (started : os.Started) (H : Type) (enc : TypeId × Value → H) :
    ReturnsInHanded {} Try.checked os 8 .any (Rows.fnDigestOfSpec.pre6 enc Try.prog Try.f8 Rows.fnDigestOfRow.domain false) (Rows.fnDigestOfSpec.post enc Try.prog Try.f8 false true false false) := by
  refine returnsInHanded_of_change (C := Try.checked) own started (by kernel_rfl) Try.func8
    (ChangeSpec.witness6 (enc := enc) (C := Try.checked) false ⟨#[], #[.slice none 0 0], []⟩ 8 (by kernel_rfl) (by kernel_rfl) (by kernel_rfl) (by kernel_rfl)) ?_
  intro W base args ds gs before hval0 hW hcnd _
  have hval : ∀ (j : Nat) t v, Try.f8.params[j]? = some t → args[j]? = some v → Value.okWide Try.prog W .any base t v := hval0
  have hW' := hW
  obtain ⟨p, q, hA0, hV, rfl, hfz, hnd⟩ := hW
  have hA : DataW.TrodAll enc Try.prog W 0 (fun _ => true) true Try.f8.params.toList args.toList ds p := hA0
  rw [Try.params8] at hA hval
  obtain ⟨v0, vs0, d0, ds0, p0, q0, hargs, rfl, rfl, h0, r0⟩ := trodAll_cons hA
  obtain ⟨rfl, rfl, rfl⟩ := trodAll_nil r0
  obtain rfl : args = #[v0] := by cases args; simp_all
  obtain ⟨rfl, rfl⟩ := trodVars_none hV
  have k0 := h0
  have lt0 : ∀ x ∈ p0, x.block < W.heap.size := by obtain ⟨m, hm⟩ := k0; exact DataW.trod_lt m _ _ _ hm
  obtain ⟨aa0, len0, cap0, rfl⟩ := okWide_slice Try.underlying22 (hval 0 22 v0 rfl rfl)
  obtain ⟨l0, w0, x0⟩ : ∃ l, Sl byteS W (.slice aa0 len0 cap0) l ∧ ∀ y ∈ l, True := by obtain ⟨fuel, hf⟩ := h0; exact open_rows byteS (fun y => True) Try.underlying22 (by kernel_rfl) openByte hf
  clear hA0 hval0
  refine (walk _ l0 W w0 x0).mono fun e W' ⟨he, bel⟩ => ?_
  subst he
  exact ⟨_, rfl, _, _, _, [], _, [], hW', trodAll_mk1 (shut_bool Try.underlying4 _), (trodAll_cons_mk (Below.trod laidOut (by kernel_rfl) (of_decide_eq_true (by kernel_rfl)) k0 bel lt0) trodAll_mk0), rfl, bel.frame _, fun h => by cases h⟩

theorem over : Rows.fnDigestOfRow.holds Try.pinned (OpenSpec.ofChange Rows.fnDigestOfSpec) :=
  OpenClaim.holds_of_wide 8 Try.f8 rfl rfl rfl rfl rfl rfl rfl ⟨rfl, rfl, rfl, rfl, rfl⟩ rfl rfl rfl rfl rfl (by kernel_rfl) Try.func8 (by kernel_rfl)
    (of_decide_eq_true (by kernel_rfl)) (by unfold Func.isWrapper; first | (rw [if_pos (by decide +kernel)]; kernel_rfl) | (rw [if_neg (by decide +kernel)]; exact ⟨rfl, rfl⟩))
    (fun os started H enc _ => lifted os started H enc)

theorem proved : Rows.FnDigestOfSaid := over
end Go.Proofs.Ytikebbdkcpcmkaa.fnDigestOf
