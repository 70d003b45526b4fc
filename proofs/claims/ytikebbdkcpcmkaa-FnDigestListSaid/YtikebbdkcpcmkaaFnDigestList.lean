/- FnDigestList: for every input the law returns true, and each argument reads afterwards as it read before. No condition. -/
import Derived.Test.YtikebbdkcpcmkaaRows
import Derived.WalkKit
import Derived.ProofKit
import Derived.OpenShut
import Derived.ChangeOld
import Derived.Below
import Derived.Test.YtikebbdkcpcmkaaOpen
import Derived.Test.YtikebbdkcpcmkaaTypes
import Derived.Test.YtikebbdkcpcmkaaDrawDl
import Derived.Test.YtikebbdkcpcmkaaAlive
namespace Go.Proofs.Ytikebbdkcpcmkaa.fnDigestList
open Go.ChangeShapes Go.WideShapes Go.ChangeAt Go.RowKit
open Go.ChangeMaps (open_string shut_string)
set_option linter.unusedVariables false

theorem own : ownKnob Try.prog.godebug = none := by kernel_rfl
theorem laidOut : laidOutB Try.prog = true := by kernel_rfl

theorem openByte {H : Type} {enc : TypeId × Value → H} {w : World} (fuel : Nat) (cs : List Value) (x : DataW H × List MemPlace) (h : DataW.trod enc Try.prog w 0 (fun _ => true) true fuel 5 cs = some x) : ∃ y : UInt8, cs = byteS.enc y ∧ True := by
  obtain ⟨s, rfl, _, hb⟩ := DataW.trod_int Try.underlying5 h
  have := bounds_u8 hb
  exact ⟨UInt8.ofNat s.toNat, by simp [byteS]; omega, trivial⟩

theorem list_cases (o : List Int) : listM o = -1 ∨ (o.length ≤ 20 ∧ o.all lnumB = true ∧ listM o = listTo o o.length) := by
  unfold listM
  by_cases h : o.length ≤ 20 ∧ o.all lnumB = true
  · rw [if_pos h]; exact .inr ⟨h.1, h.2, rfl⟩
  · rw [if_neg h]; exact .inl rfl
theorem list_snoc {o : List Int} {x : Int} (h1 : o.length ≤ 19) (h2 : o.all lnumB = true) (hx : lnumB x = true) : listM (o ++ [x]) = (1009 * listTo o o.length + x) % 999983 := by
  unfold listM
  rw [if_pos ⟨by rw [List.length_append, List.length_singleton]; omega, by rw [List.all_append, h2]; simp [hx]⟩]
  unfold listTo
  rw [List.take_length, List.take_length, List.foldl_append]; rfl

set_option maxHeartbeats 1600000 in
theorem walk (v0 : Value) (l0 : List UInt8) (w : World) (w0 : Sl byteS w v0 l0) (x0 : ∀ y ∈ l0, True) :
    Calls Try.prog 5 #[v0] w fun e w' => e = .returned (.bool true) ∧ Below w.heap.size w w' := by
  obtain ⟨i0, hi, hz0, hz1, hz2⟩ := info_parts Try.infoI
  obtain ⟨aa, cap, rfl⟩ : ∃ aa cap, v0 = .slice aa l0.length cap := by obtain ⟨a, c, h, _⟩ := w0; exact ⟨a, c, h⟩
  by_cases hlen : l0.length ≤ 1048576
  rotate_left
  · go_enter Try.func5, Try.ntmps5
    go_wp2_with fail
    go_ret
    exact ⟨rfl, Below.refl _ _⟩
  go_enter Try.func5, Try.ntmps5
  go_wp2_with fail
  refine (draw_DigestList _ l0 _ w0).mono ?_
  rintro e w1 ⟨v, o, rfl, ho, hsl, hB⟩
  obtain ⟨A, c, rfl⟩ : ∃ A c, v = .slice A o.length c := by obtain ⟨a, c, h, _⟩ := hsl; exact ⟨a, c, h⟩
  go_wp2_with fail
  refine (i_DigestList _ o _ hsl).mono ?_
  rintro e w2 ⟨rfl, rfl⟩
  go_wp2_with fail
  refine (s_DigestList _ o _ hsl).mono ?_
  rintro e w3 ⟨rfl, rfl⟩
  have hsl3 := hsl
  have bz := hB
  clear hB hsl
  rcases list_cases o with hm | ⟨h20, hall, hm⟩
  · rw [hm]
    go_wp2_with (first | (go_at_call 13; refine (alive_any _).mono ?_; rintro e w' ⟨rfl, rfl⟩))
    go_ret
    exact ⟨rfl, bz⟩
  rw [hm]
  have hbd := listTo_bd o o.length
  have hA5 : o.length ≤ 19 → Hid (listM (o ++ [5]) = (1009 * listTo o o.length + 5) % 999983) := fun h => list_snoc h hall (by decide)
  have hA6 : o.length ≤ 19 → Hid (listM (o ++ [6]) = (1009 * listTo o o.length + 6) % 999983) := fun h => list_snoc h hall (by decide)
  generalize listTo o o.length = m at *
  obtain ⟨m0, m1⟩ := hbd
  have m2 : ¬ m < 0 := by omega
  have m3 : -1 ≤ m := by omega
  have m4 : m < 999983 := by omega
  clear hm hall
  by_cases h19 : o.length = 20
  · have q1 : (o.length : Int) = 20 := by omega
    go_wp2_with (first | (go_at_call 13; refine (alive_any _).mono ?_; rintro e w' ⟨rfl, rfl⟩))
    go_ret
    exact ⟨rfl, bz⟩
  · have HA := hA5 (by omega)
    have HB := hA6 (by omega)
    obtain ⟨a, ha⟩ : ∃ a, Hid (a = (1009 * m + 5) % 999983) := ⟨_, rfl⟩
    obtain ⟨b, hb⟩ : ∃ b, Hid (b = (1009 * m + 6) % 999983) := ⟨_, rfl⟩
    rw [← ha.out] at HA
    rw [← hb.out] at HB
    have a0 : 0 ≤ a := by rw [ha.out]; exact Int.emod_nonneg _ (by decide)
    have a1 : a < 999983 := by rw [ha.out]; exact Int.emod_lt_of_pos _ (by decide)
    have b0 : 0 ≤ b := by rw [hb.out]; exact Int.emod_nonneg _ (by decide)
    have b1 : b < 999983 := by rw [hb.out]; exact Int.emod_lt_of_pos _ (by decide)
    have r0 : IntKind.i64.wrap (a + 1) = a + 1 := IntWalk.i64_in _ (by omega)
    have r1 : (a + 1).tmod 999983 = b := by
      rw [Int.tmod_eq_emod_of_nonneg (by omega)]
      have h1 := ha.out
      have h2 := hb.out
      omega
    have r2 : IntKind.i64.wrap b = b := IntWalk.i64_in _ (by omega)
    have q1 : ¬ (o.length : Int) = 20 := by omega
    have q2 : ((o.length : Int) == 20) = false := by simpa using q1
    clear hA5 hA6 ha hb
    go_wp2_with (first
      | (at_builtin; refine wpList_app_sl (S := intS) rfl (.tmp 30) (.tmp 31) 31 rfl w1.heap.size 3 i0 (.int .i64 0) 8 Try.underlying31 hi hz0 hz1 hz2 rfl _ 0 (intS.cells []) rfl (World.ownsRow_lit _ _ _ (Nat.le_refl _) (by simp [maxLen]) (by simp)) o (hsl3.mono (below1 _ _)) (by simp [maxLen]; omega) (by omega) (by rw [World.size_alloc]; omega) ?_; intro v5 w5 hown5 hgrow5 hat5; clear hat5; have b5 : Below w1.heap.size w1 w5 := (below1 _ _).grown hgrow5 (by rw [World.size_alloc]; omega) (fun g hg => by cases hg; exact Nat.le_refl _))
      | (at_builtin; refine wpList_app_sl (S := intS) rfl (.tmp 32) (.tmp 33) 31 rfl w1.heap.size 3 i0 (.int .i64 0) 8 Try.underlying31 hi hz0 hz1 hz2 rfl _ _ _ rfl (hown5.alloc _) [5] (one_sl (S := intS) (x := 5) (heap_alloc_new _ _)) (by simp [maxLen]; omega) (by simp; omega) (by rw [World.size_alloc]; have := b5.size; omega) ?_; intro v6 w6 hown6 hgrow6 hat6; clear hat6; have b6 : Below w1.heap.size w1 w6 := (b5.alloc b5.size _).grown hgrow6 (by rw [World.size_alloc]; have := b5.size; omega) (fun g hg => (hown5.lt g hg).1)))
    have hs6 : Sl intS w6 v6 (o ++ [5]) := Sl.of_owns (by rw [List.length_append, intS.cells_append]; simpa [show intS.cells [] = [] from rfl] using hown6)
    refine (i_DigestList _ (o ++ [5]) _ hs6).mono ?_
    rintro e w7 ⟨rfl, rfl⟩
    rw [HA.out]
    have hsl7 := hsl3.mono b6
    replace bz := below_trans bz b6
    clear hs6 hown6 hown5 hgrow5 hgrow6 b5 b6 hsl3
    go_wp2_with (first
      | (at_builtin; refine wpList_app_sl (S := intS) rfl (.tmp 36) (.tmp 37) 31 rfl w6.heap.size 3 i0 (.int .i64 0) 8 Try.underlying31 hi hz0 hz1 hz2 rfl _ 0 (intS.cells []) rfl (World.ownsRow_lit _ _ _ (Nat.le_refl _) (by simp [maxLen]) (by simp)) o (hsl7.mono (below1 _ _)) (by simp [maxLen]; omega) (by omega) (by rw [World.size_alloc]; omega) ?_; intro v8 w8 hown8 hgrow8 hat8; clear hat8; have b8 : Below w6.heap.size w6 w8 := (below1 _ _).grown hgrow8 (by rw [World.size_alloc]; omega) (fun g hg => by cases hg; exact Nat.le_refl _))
      | (at_builtin; refine wpList_app_sl (S := intS) rfl (.tmp 38) (.tmp 39) 31 rfl w6.heap.size 3 i0 (.int .i64 0) 8 Try.underlying31 hi hz0 hz1 hz2 rfl _ _ _ rfl (hown8.alloc _) [6] (one_sl (S := intS) (x := 6) (heap_alloc_new _ _)) (by simp [maxLen]; omega) (by simp; omega) (by rw [World.size_alloc]; have := b8.size; omega) ?_; intro v9 w9 hown9 hgrow9 hat9; clear hat9; have b9 : Below w6.heap.size w6 w9 := (b8.alloc b8.size _).grown hgrow9 (by rw [World.size_alloc]; have := b8.size; omega) (fun g hg => (hown8.lt g hg).1)))
    have hs9 : Sl intS w9 v9 (o ++ [6]) := Sl.of_owns (by rw [List.length_append, intS.cells_append]; simpa [show intS.cells [] = [] from rfl] using hown9)
    refine (i_DigestList _ (o ++ [6]) _ hs9).mono ?_
    rintro e w10 ⟨rfl, rfl⟩
    rw [HB.out]
    replace bz := below_trans bz b9
    go_wp2_with fail
    go_ret
    exact ⟨rfl, bz⟩

set_option maxRecDepth 100000 in
theorem lifted (os : Os) (started : os.Started) (H : Type) (enc : TypeId × Value → H) :
    ReturnsInHanded {} Try.checked os 5 .any (Rows.fnDigestListSpec.pre6 enc Try.prog Try.f5 Rows.fnDigestListRow.domain false) (Rows.fnDigestListSpec.post enc Try.prog Try.f5 false true false false) := by
  refine returnsInHanded_of_change (C := Try.checked) own started (by kernel_rfl) Try.func5
    (ChangeSpec.witness6 (enc := enc) (C := Try.checked) false ⟨#[], #[.slice none 0 0], []⟩ 8 (by kernel_rfl) (by kernel_rfl) (by kernel_rfl) (by kernel_rfl)) ?_
  intro W base args ds gs before hval0 hW hcnd _
  have hval : ∀ (j : Nat) t v, Try.f5.params[j]? = some t → args[j]? = some v → Value.okWide Try.prog W .any base t v := hval0
  have hW' := hW
  obtain ⟨p, q, hA0, hV, rfl, hfz, hnd⟩ := hW
  have hA : DataW.TrodAll enc Try.prog W 0 (fun _ => true) true Try.f5.params.toList args.toList ds p := hA0
  rw [Try.params5] at hA hval
  obtain ⟨v0, vs0, d0, ds0, p0, q0, hargs, rfl, rfl, h0, r0⟩ := trodAll_cons hA
  obtain ⟨rfl, rfl, rfl⟩ := trodAll_nil r0
  obtain rfl : args = #[v0] := by cases args; simp_all
  obtain ⟨rfl, rfl⟩ := trodVars_none hV
  have k0 := h0
  have lt0 : ∀ x ∈ p0, x.block < W.heap.size := by obtain ⟨m, hm⟩ := k0; exact DataW.trod_lt m _ _ _ hm
  obtain ⟨aa0, len0, cap0, rfl⟩ := okWide_slice Try.underlying22 (hval 0 22 v0 rfl rfl)
  obtain ⟨l0, w0, x0⟩ : ∃ l, Sl byteS W (.slice aa0 len0 cap0) l ∧ ∀ y ∈ l, True := by obtain ⟨fuel, hf⟩ := h0; exact open_rows byteS (fun y => True) Try.underlying22 (by kernel_rfl) openByte hf
  clear hA0 hval0
  refine (walk _ l0 W w0 x0).mono fun e W' ⟨he, bel⟩ => ?_
  subst he
  exact ⟨_, rfl, _, _, _, [], _, [], hW', trodAll_mk1 (shut_bool Try.underlying4 _), (trodAll_cons_mk (Below.trod laidOut (by kernel_rfl) (of_decide_eq_true (by kernel_rfl)) k0 bel lt0) trodAll_mk0), rfl, bel.frame _, fun h => by cases h⟩

theorem over : Rows.fnDigestListRow.holds Try.pinned (OpenSpec.ofChange Rows.fnDigestListSpec) :=
  OpenClaim.holds_of_wide 5 Try.f5 rfl rfl rfl rfl rfl rfl rfl ⟨rfl, rfl, rfl, rfl, rfl⟩ rfl rfl rfl rfl rfl (by kernel_rfl) Try.func5 (by kernel_rfl)
    (of_decide_eq_true (by kernel_rfl)) (by unfold Func.isWrapper; first | (rw [if_pos (by decide +kernel)]; kernel_rfl) | (rw [if_neg (by decide +kernel)]; exact ⟨rfl, rfl⟩))
    (fun os started H enc _ => lifted os started H enc)

theorem proved : Rows.FnDigestListSaid := over
end Go.Proofs.Ytikebbdkcpcmkaa.fnDigestList
