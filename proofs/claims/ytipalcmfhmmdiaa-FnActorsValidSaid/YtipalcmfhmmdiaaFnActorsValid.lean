/- FnActorsValid: for every input the law returns true, and each argument reads afterwards as it read before. No condition. -/
import Derived.Test.YtipalcmfhmmdiaaRows
import Derived.WalkKit
import Derived.ProofKit
import Derived.OpenShut
import Derived.ChangeOld
import Derived.Below
import Derived.Test.YtipalcmfhmmdiaaOpen
import Derived.Test.YtipalcmfhmmdiaaTypes
import Derived.Test.YtipalcmfhmmdiaaDrawAs
import Derived.Test.YtipalcmfhmmdiaaApp
import Derived.Test.YtipalcmfhmmdiaaAlive
namespace Go.Proofs.Ytipalcmfhmmdiaa.fnActorsValid
open Go.ChangeShapes Go.WideShapes Go.ChangeAt Go.RowKit
open Go.ChangeMaps (open_string shut_string)
set_option linter.unusedVariables false

theorem own : ownKnob Try.prog.godebug = none := by kernel_rfl
theorem laidOut : laidOutB Try.prog = true := by kernel_rfl

theorem openByte {H : Type} {enc : TypeId × Value → H} {w : World} (fuel : Nat) (cs : List Value) (x : DataW H × List MemPlace) (h : DataW.trod enc Try.prog w 0 (fun _ => true) true fuel 5 cs = some x) : ∃ y : UInt8, cs = byteS.enc y ∧ True := by
  obtain ⟨s, rfl, _, hb⟩ := DataW.trod_int Try.underlying5 h
  have := bounds_u8 hb
  exact ⟨UInt8.ofNat s.toNat, by simp [byteS]; omega, trivial⟩

theorem actorsB_drop {l : List Actr} (h : actorsB l = true) : actorsB (l.drop 1) = true := by
  cases l with
  | nil => exact h
  | cons x l =>
    show actorsB l = true
    obtain ⟨h1, h2, h3⟩ := goodB_iff.1 h
    refine goodB_iff.2 ⟨by simp at h1; omega, fun k hk => ?_, fun j k hj hk => ?_⟩
    · have := h2 (k + 1) (by simp; omega)
      unfold actAt at this ⊢
      rw [Bool.and_eq_true] at this ⊢
      refine ⟨?_, ?_⟩
      · have e := this.1
        rw [okBy_eq (by simp; omega)] at e
        rw [okBy_eq hk]
        simpa using e
      · rcases Nat.eq_zero_or_pos k with h0 | h0
        · rw [h0]; exact ascAt_zero _
        · have e := this.2
          rw [ascAt_pos (by omega) (by simp; omega)] at e
          rw [ascAt_pos h0 hk]
          obtain ⟨j, rfl⟩ : ∃ j, k = j + 1 := ⟨k - 1, by omega⟩
          simpa using e
    · have := h3 (j + 1) (k + 1) (by omega) (by simp; omega)
      simpa using this
theorem actorsB_twice (x : Actr) (l : List Actr) : actorsB ([x] ++ (x :: l)) = false := by
  cases h : actorsB ([x] ++ (x :: l)) with
  | false => rfl
  | true => exact absurd rfl ((goodB_iff.1 h).2.2 0 1 (by omega) (by simp))

set_option maxHeartbeats 1600000 in
theorem walk (v0 : Value) (l0 : List UInt8) (w : World) (w0 : Sl byteS w v0 l0) (x0 : ∀ y ∈ l0, True) :
    Calls Try.prog 4 #[v0] w fun e w' => e = .returned (.bool true) ∧ Below w.heap.size w w' := by
  obtain ⟨i0, hi, hz0, hz1, hz2⟩ := info_parts Try.infoActr
  obtain ⟨aa, cap, rfl⟩ : ∃ aa cap, v0 = .slice aa l0.length cap := by obtain ⟨a, c, h, _⟩ := w0; exact ⟨a, c, h⟩
  by_cases hlen : l0.length ≤ 1048576
  rotate_left
  · go_enter Try.func4, Try.ntmps4
    go_wp2_with fail
    go_ret
    exact ⟨rfl, Below.refl _ _⟩
  go_enter Try.func4, Try.ntmps4
  go_wp2_with fail
  refine (draw_ActorsValid _ l0 _ w0).mono ?_
  rintro e w1 ⟨v, o, rfl, ho, hdr, hsl, hB⟩
  obtain ⟨A, c, rfl⟩ : ∃ A c, v = .slice A o.length c := by obtain ⟨a, c, h, _⟩ := hsl; exact ⟨a, c, h⟩
  go_wp2_with fail
  refine (i_ActorsValid _ o _ hsl (dr_sizes hdr)).mono ?_
  rintro e w2 ⟨rfl, hb1⟩
  go_wp2_with fail
  refine (s_ActorsValid _ o _ (hsl.mono hb1) (dr_sizes hdr)).mono ?_
  rintro e w3 ⟨rfl, hb2⟩
  have hsl3 := (hsl.mono hb1).mono hb2
  have bz := below_trans (below_trans hB hb1) hb2
  clear hB hb1 hb2 hsl
  cases hA : actorsB o
  · go_wp2_with (first | (go_at_call 15; refine (alive_any _).mono ?_; rintro e w' ⟨rfl, rfl⟩))
    go_ret
    exact ⟨rfl, bz⟩
  · rcases Nat.eq_zero_or_pos o.length with h0 | h0
    · obtain rfl := List.eq_nil_of_length_eq_zero h0
      go_wp2_with (first | (go_at_call 15; refine (alive_any _).mono ?_; rintro e w' ⟨rfl, rfl⟩))
      go_ret
      exact ⟨rfl, bz⟩
    · have HT : Hid (actorsB (o.drop 1) = true) := actorsB_drop hA
      have H2 : Hid (actorsB ([o[0]] ++ o) = false) := by
        cases o with
        | nil => exact absurd h0 (by simp)
        | cons x l => exact actorsB_twice x l
      obtain ⟨b, off, cc, hv, hcap, hbs, hc⟩ := SlActr.open hsl3 h0
      injection hv with hv1 _ hv3
      subst hv1; subst hv3
      have hmx : c ≤ maxLen := by obtain ⟨_, _, e, _, h2, _⟩ := hsl3; injection e with _ _ e; subst e; exact h2
      have c0 := hc 0 h0
      simp only [Nat.zero_mul, Nat.add_zero] at c0
      obtain ⟨c1, c2, c3⟩ := c0
      have q1 : (1 : Int) ≤ (o.length : Int) := by omega
      have q2 : (o.length : Int) ≤ (c : Int) := by omega
      have q3 : (1 : Int) ≤ (c : Int) := by omega
      have q4 : ¬ (o.length : Int) = 0 := by omega
      have q5 : ¬ o.length = 0 := by omega
      have q6 : (0 : Int) < (o.length : Int) := by omega
      clear hA hc
      have D := hsl3.drop 1 h0
      have hds : FeedSizes (o.drop 1) := dr_sizes (fun y hy => hdr y (List.mem_of_mem_drop hy))
      by_cases h1 : c = 1
      · subst h1
        rw [if_pos rfl] at D
        rw [show o.length - 1 = 0 by omega] at D
        have D2 : Sl actrS w3 (.slice (some ⟨b, off, none⟩) 0 0) (o.drop 1) := D
        clear q1 q2 q3 q4 q6 D
        have q1 : (1 : Int) ≤ (o.length : Int) := by omega
        have q2 : (o.length : Int) ≤ 1 := by omega
        have q4 : ¬ (o.length : Int) = 0 := by omega
        have q6 : (0 : Int) < (o.length : Int) := by omega
        go_wp2_with fail
        refine (i_ActorsValid _ (o.drop 1) _ D2 hds).mono ?_
        rintro e w4 ⟨rfl, hb3⟩
        rw [HT.out]
        have d1 := keep_cell hb3 c1
        have d2 := keep_cell hb3 c2
        have d3 := keep_cell hb3 c3
        have hsl4 := hsl3.mono hb3
        replace bz := below_trans bz hb3
        clear c1 c2 c3 hb3 hsl3 D2
        have hown : (w4.alloc (.cells #[.string o[0].name, .string o[0].feed, .int .i64 o[0].sign] 33)).ownsRow w4.heap.size 33 actrS.sz (.slice (some ⟨w4.heap.size, 0, none⟩) 1 1) 1 (actrS.cells [o[0]]) := World.ownsRow_lit _ _ _ (Nat.le_refl _) (by simp [maxLen]) (by simp [actrS])
        go_wp2_with (at_builtin; refine wpList_app_slw (S := actrS) ?_ (.tmp 31) (.tmp 32) 25 rfl w4.heap.size 33 i0 (.agg #[.string ⟨#[]⟩, .string ⟨#[]⟩, .int .i64 0]) 40 Try.underlying25 hi hz0 hz1 hz2 rfl _ _ _ rfl hown o (hsl4.mono (below1 _ _)) (by simp [maxLen]; omega) (by omega) (by rw [World.size_alloc]; omega) ?_; simp [Region.wanted, yielded]; intro v5 w5 hown5 hgrow5 hat5; clear hat5)
        have b5 : Below w4.heap.size w4 w5 := (below1 _ _).grown hgrow5 (by simp) (fun g hg => (hown.lt g hg).1)
        have hs5 : Sl actrS w5 v5 ([o[0]] ++ o) := Sl.of_owns (by rw [List.length_append, actrS.cells_append]; exact hown5)
        refine (i_ActorsValid _ _ _ hs5 (dr_sizes (fun y hy => by
          rcases List.mem_append.1 hy with hy | hy
          · rw [List.mem_singleton.1 hy]; exact hdr _ (List.getElem_mem h0)
          · exact hdr y hy))).mono ?_
        rintro e w6 ⟨rfl, hb4⟩
        rw [H2.out]
        replace bz := below_trans (below_trans bz b5) hb4
        go_wp2_with fail
        go_ret
        exact ⟨rfl, bz⟩
      · rw [if_neg h1] at D
        simp only [Option.map_some, Addr.add_lit] at D
        have D2 : Sl actrS w3 (.slice (some ⟨b, off + 3, none⟩) (o.length - 1) (c - 1)) (o.drop 1) := D
        clear D
        go_wp2_with fail
        refine (i_ActorsValid _ (o.drop 1) _ D2 hds).mono ?_
        rintro e w4 ⟨rfl, hb3⟩
        rw [HT.out]
        have d1 := keep_cell hb3 c1
        have d2 := keep_cell hb3 c2
        have d3 := keep_cell hb3 c3
        have hsl4 := hsl3.mono hb3
        replace bz := below_trans bz hb3
        clear c1 c2 c3 hb3 hsl3 D2
        have hown : (w4.alloc (.cells #[.string o[0].name, .string o[0].feed, .int .i64 o[0].sign] 33)).ownsRow w4.heap.size 33 actrS.sz (.slice (some ⟨w4.heap.size, 0, none⟩) 1 1) 1 (actrS.cells [o[0]]) := World.ownsRow_lit _ _ _ (Nat.le_refl _) (by simp [maxLen]) (by simp [actrS])
        go_wp2_with (at_builtin; refine wpList_app_slw (S := actrS) ?_ (.tmp 31) (.tmp 32) 25 rfl w4.heap.size 33 i0 (.agg #[.string ⟨#[]⟩, .string ⟨#[]⟩, .int .i64 0]) 40 Try.underlying25 hi hz0 hz1 hz2 rfl _ _ _ rfl hown o (hsl4.mono (below1 _ _)) (by simp [maxLen]; omega) (by omega) (by rw [World.size_alloc]; omega) ?_; simp [Region.wanted, yielded]; intro v5 w5 hown5 hgrow5 hat5; clear hat5)
        have b5 : Below w4.heap.size w4 w5 := (below1 _ _).grown hgrow5 (by simp) (fun g hg => (hown.lt g hg).1)
        have hs5 : Sl actrS w5 v5 ([o[0]] ++ o) := Sl.of_owns (by rw [List.length_append, actrS.cells_append]; exact hown5)
        refine (i_ActorsValid _ _ _ hs5 (dr_sizes (fun y hy => by
          rcases List.mem_append.1 hy with hy | hy
          · rw [List.mem_singleton.1 hy]; exact hdr _ (List.getElem_mem h0)
          · exact hdr y hy))).mono ?_
        rintro e w6 ⟨rfl, hb4⟩
        rw [H2.out]
        replace bz := below_trans (below_trans bz b5) hb4
        go_wp2_with fail
        go_ret
        exact ⟨rfl, bz⟩

set_option maxRecDepth 100000 in
theorem lifted (os : Os) (started : os.Started) (H : Type) (enc : TypeId × Value → H) :
    ReturnsInHanded {} Try.checked os 4 .any (Rows.fnActorsValidSpec.pre6 enc Try.prog Try.f4 Rows.fnActorsValidRow.domain false) (Rows.fnActorsValidSpec.post enc Try.prog Try.f4 false true false false) := by
  refine returnsInHanded_of_change (C := Try.checked) own started (by kernel_rfl) Try.func4
    (ChangeSpec.witness6 (enc := enc) (C := Try.checked) false ⟨#[], #[.slice none 0 0], []⟩ 8 (by kernel_rfl) (by kernel_rfl) (by kernel_rfl) (by kernel_rfl)) ?_
  intro W base args ds gs before hval0 hW hcnd _
  have hval : ∀ (j : Nat) t v, Try.f4.params[j]? = some t → args[j]? = some v → Value.okWide Try.prog W .any base t v := hval0
  have hW' := hW
  obtain ⟨p, q, hA0, hV, rfl, hfz, hnd⟩ := hW
  have hA : DataW.TrodAll enc Try.prog W 0 (fun _ => true) true Try.f4.params.toList args.toList ds p := hA0
  rw [Try.params4] at hA hval
  obtain ⟨v0, vs0, d0, ds0, p0, q0, hargs, rfl, rfl, h0, r0⟩ := trodAll_cons hA
  obtain ⟨rfl, rfl, rfl⟩ := trodAll_nil r0
  obtain rfl : args = #[v0] := by cases args; simp_all
  obtain ⟨rfl, rfl⟩ := trodVars_none hV
  have k0 := h0
  have lt0 : ∀ x ∈ p0, x.block < W.heap.size := by obtain ⟨m, hm⟩ := k0; exact DataW.trod_lt m _ _ _ hm
  obtain ⟨aa0, len0, cap0, rfl⟩ := okWide_slice Try.underlying29 (hval 0 29 v0 rfl rfl)
  obtain ⟨l0, w0, x0⟩ : ∃ l, Sl byteS W (.slice aa0 len0 cap0) l ∧ ∀ y ∈ l, True := by obtain ⟨fuel, hf⟩ := h0; exact open_rows byteS (fun y => True) Try.underlying29 (by kernel_rfl) openByte hf
  clear hA0 hval0
  refine (walk _ l0 W w0 x0).mono fun e W' ⟨he, bel⟩ => ?_
  subst he
  exact ⟨_, rfl, _, _, _, [], _, [], hW', trodAll_mk1 (shut_bool Try.underlying4 _), (trodAll_cons_mk (Below.trod laidOut (by kernel_rfl) (of_decide_eq_true (by kernel_rfl)) k0 bel lt0) trodAll_mk0), rfl, bel.frame _, fun h => by cases h⟩

theorem over : Rows.fnActorsValidRow.holds Try.pinned (OpenSpec.ofChange Rows.fnActorsValidSpec) :=
  OpenClaim.holds_of_wide 4 Try.f4 rfl rfl rfl rfl rfl rfl rfl ⟨rfl, rfl, rfl, rfl, rfl⟩ rfl rfl rfl rfl rfl (by kernel_rfl) Try.func4 (by kernel_rfl)
    (of_decide_eq_true (by kernel_rfl)) (by unfold Func.isWrapper; first | (rw [if_pos (by decide +kernel)]; kernel_rfl) | (rw [if_neg (by decide +kernel)]; exact ⟨rfl, rfl⟩))
    (fun os started H enc _ => lifted os started H enc)

theorem proved : Rows.FnActorsValidSaid := over
end Go.Proofs.Ytipalcmfhmmdiaa.fnActorsValid
