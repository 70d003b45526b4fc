/- FnFieldsValid: for every input the law returns true, and each argument reads afterwards as it read before. No condition. -/
import Derived.Test.YtemjonibpachbaaRows
import Derived.WalkKit
import Derived.ProofKit
import Derived.OpenShut
import Derived.ChangeOld
import Derived.Below
import Derived.Test.YtemjonibpachbaaOpen
import Derived.Test.YtemjonibpachbaaTypes
import Derived.Test.YtemjonibpachbaaDrawFs
import Derived.Test.YtemjonibpachbaaApp
import Derived.Test.YtemjonibpachbaaAlive
namespace Go.Proofs.Ytemjonibpachbaa.fnFieldsValid
open Go.ChangeShapes Go.WideShapes Go.ChangeAt Go.RowKit
open Go.ChangeMaps (open_string shut_string)
set_option linter.unusedVariables false

theorem own : ownKnob Try.prog.godebug = none := by kernel_rfl
theorem laidOut : laidOutB Try.prog = true := by kernel_rfl

theorem openByte {H : Type} {enc : TypeId × Value → H} {w : World} (fuel : Nat) (cs : List Value) (x : DataW H × List MemPlace) (h : DataW.trod enc Try.prog w 0 (fun _ => true) true fuel 5 cs = some x) : ∃ y : UInt8, cs = byteS.enc y ∧ True := by
  obtain ⟨s, rfl, _, hb⟩ := DataW.trod_int Try.underlying5 h
  have := bounds_u8 hb
  exact ⟨UInt8.ofNat s.toNat, by simp [byteS]; omega, trivial⟩

theorem fieldsB_drop {l : List Fld} (h : fieldsB l = true) : fieldsB (l.drop 1) = true := by
  cases l with
  | nil => exact h
  | cons x l =>
    show fieldsB l = true
    obtain ⟨h1, h2, h3⟩ := goodB_iff.1 h
    refine goodB_iff.2 ⟨by simp at h1; omega, fun k hk => ?_, fun j k hj hk => ?_⟩
    · have e := h2 (k + 1) (by simp; omega)
      rw [okBy_eq (by simp; omega)] at e
      rw [okBy_eq hk]
      simpa using e
    · have := h3 (j + 1) (k + 1) (by omega) (by simp; omega)
      simpa using this
theorem fieldsB_twice (x : Fld) (l : List Fld) : fieldsB ([x] ++ (x :: l)) = false := by
  cases h : fieldsB ([x] ++ (x :: l)) with
  | false => rfl
  | true => exact absurd rfl ((goodB_iff.1 h).2.2 0 1 (by omega) (by simp))

set_option maxHeartbeats 1600000 in
theorem walk (v0 : Value) (l0 : List UInt8) (w : World) (w0 : Sl byteS w v0 l0) (x0 : ∀ y ∈ l0, True) :
    Calls Try.prog 3 #[v0] w fun e w' => e = .returned (.bool true) ∧ Below w.heap.size w w' := by
  obtain ⟨i0, hi, hz0, hz1, hz2⟩ := info_parts Try.infoFld
  obtain ⟨aa, cap, rfl⟩ : ∃ aa cap, v0 = .slice aa l0.length cap := by obtain ⟨a, c, h, _⟩ := w0; exact ⟨a, c, h⟩
  by_cases hlen : l0.length ≤ 1048576
  rotate_left
  · go_enter Try.func3, Try.ntmps3
    go_wp2_with fail
    go_ret
    exact ⟨rfl, Below.refl _ _⟩
  go_enter Try.func3, Try.ntmps3
  go_wp2_with fail
  refine (draw_FieldsValid _ l0 _ w0).mono ?_
  rintro e w1 ⟨v, o, rfl, ho, hdr, hsl, hB⟩
  obtain ⟨A, c, rfl⟩ : ∃ A c, v = .slice A o.length c := by obtain ⟨a, c, h, _⟩ := hsl; exact ⟨a, c, h⟩
  go_wp2_with fail
  refine (i_FieldsValid _ o _ hsl (dr_sizes hdr)).mono ?_
  rintro e w2 ⟨rfl, hb1⟩
  go_wp2_with fail
  refine (s_FieldsValid _ o _ (hsl.mono hb1) (dr_sizes hdr)).mono ?_
  rintro e w3 ⟨rfl, hb2⟩
  have hsl3 := (hsl.mono hb1).mono hb2
  have bz := below_trans (below_trans hB hb1) hb2
  clear hB hb1 hb2 hsl
  cases hA : fieldsB o
  · go_wp2_with (first | (go_at_call 11; refine (alive_any _).mono ?_; rintro e w' ⟨rfl, rfl⟩))
    go_ret
    exact ⟨rfl, bz⟩
  · rcases Nat.eq_zero_or_pos o.length with h0 | h0
    · obtain rfl := List.eq_nil_of_length_eq_zero h0
      go_wp2_with (first | (go_at_call 11; refine (alive_any _).mono ?_; rintro e w' ⟨rfl, rfl⟩))
      go_ret
      exact ⟨rfl, bz⟩
    · have HT : Hid (fieldsB (o.drop 1) = true) := fieldsB_drop hA
      have H2 : Hid (fieldsB ([o[0]] ++ o) = false) := by
        cases o with
        | nil => exact absurd h0 (by simp)
        | cons x l => exact fieldsB_twice x l
      obtain ⟨b, off, cc, hv, hcap, hbs, hc⟩ := SlFld.open hsl3 h0
      injection hv with hv1 _ hv3
      subst hv1; subst hv3
      have hmx : c ≤ maxLen := by obtain ⟨_, _, e, _, h2, _⟩ := hsl3; injection e with _ _ e; subst e; exact h2
      have c0 := hc 0 h0
      simp only [Nat.zero_mul, Nat.add_zero] at c0
      obtain ⟨c1, c2⟩ := c0
      have q1 : (1 : Int) ≤ (o.length : Int) := by omega
      have q2 : (o.length : Int) ≤ (c : Int) := by omega
      have q3 : (1 : Int) ≤ (c : Int) := by omega
      have q4 : ¬ (o.length : Int) = 0 := by omega
      have q5 : ¬ o.length = 0 := by omega
      have q6 : (0 : Int) < (o.length : Int) := by omega
      clear hA hc
      have D := hsl3.drop 1 h0
      have hds : ∀ y ∈ o.drop 1, y.name.size ≤ 140737488355328 := dr_sizes (fun y hy => hdr y (List.mem_of_mem_drop hy))
      by_cases h1 : c = 1
      · subst h1
        rw [if_pos rfl] at D
        rw [show o.length - 1 = 0 by omega] at D
        have D2 : Sl fldS w3 (.slice (some ⟨b, off, none⟩) 0 0) (o.drop 1) := D
        clear q1 q2 q3 q4 q6 D
        have q1 : (1 : Int) ≤ (o.length : Int) := by omega
        have q2 : (o.length : Int) ≤ 1 := by omega
        have q4 : ¬ (o.length : Int) = 0 := by omega
        have q6 : (0 : Int) < (o.length : Int) := by omega
        go_wp2_with fail
        refine (i_FieldsValid _ (o.drop 1) _ D2 hds).mono ?_
        rintro e w4 ⟨rfl, hb3⟩
        rw [HT.out]
        have d1 := keep_cell hb3 c1
        have d2 := keep_cell hb3 c2
        have hsl4 := hsl3.mono hb3
        replace bz := below_trans bz hb3
        clear c1 c2 hb3 hsl3 D2
        have hown : (w4.alloc (.cells #[.string o[0].name, .int .i64 o[0].val] 28)).ownsRow w4.heap.size 28 fldS.sz (.slice (some ⟨w4.heap.size, 0, none⟩) 1 1) 1 (fldS.cells [o[0]]) := World.ownsRow_lit _ _ _ (Nat.le_refl _) (by simp [maxLen]) (by simp [fldS])
        go_wp2_with (at_builtin; refine wpList_app_slw (S := fldS) ?_ (.tmp 31) (.tmp 32) 23 rfl w4.heap.size 28 i0 (.agg #[.string ⟨#[]⟩, .int .i64 0]) 24 Try.underlying23 hi hz0 hz1 hz2 rfl _ _ _ rfl hown o (hsl4.mono (below1 _ _)) (by simp [maxLen]; omega) (by omega) (by rw [World.size_alloc]; omega) ?_; simp [Region.wanted, yielded]; intro v5 w5 hown5 hgrow5 hat5; clear hat5)
        have b5 : Below w4.heap.size w4 w5 := (below1 _ _).grown hgrow5 (by simp) (fun g hg => (hown.lt g hg).1)
        have hs5 : Sl fldS w5 v5 ([o[0]] ++ o) := Sl.of_owns (by rw [List.length_append, fldS.cells_append]; exact hown5)
        refine (i_FieldsValid _ _ _ hs5 (dr_sizes (fun y hy => by
          rcases List.mem_append.1 hy with hy | hy
          · rw [List.mem_singleton.1 hy]; exact hdr _ (List.getElem_mem h0)
          · exact hdr y hy))).mono ?_
        rintro e w6 ⟨rfl, hb4⟩
        rw [H2.out]
        replace bz := below_trans (below_trans bz b5) hb4
        go_wp2_with fail
        go_ret
        exact ⟨rfl, bz⟩
      · rw [if_neg h1] at D
        simp only [Option.map_some, Addr.add_lit] at D
        have D2 : Sl fldS w3 (.slice (some ⟨b, off + 2, none⟩) (o.length - 1) (c - 1)) (o.drop 1) := D
        clear D
        go_wp2_with fail
        refine (i_FieldsValid _ (o.drop 1) _ D2 hds).mono ?_
        rintro e w4 ⟨rfl, hb3⟩
        rw [HT.out]
        have d1 := keep_cell hb3 c1
        have d2 := keep_cell hb3 c2
        have hsl4 := hsl3.mono hb3
        replace bz := below_trans bz hb3
        clear c1 c2 hb3 hsl3 D2
        have hown : (w4.alloc (.cells #[.string o[0].name, .int .i64 o[0].val] 28)).ownsRow w4.heap.size 28 fldS.sz (.slice (some ⟨w4.heap.size, 0, none⟩) 1 1) 1 (fldS.cells [o[0]]) := World.ownsRow_lit _ _ _ (Nat.le_refl _) (by simp [maxLen]) (by simp [fldS])
        go_wp2_with (at_builtin; refine wpList_app_slw (S := fldS) ?_ (.tmp 31) (.tmp 32) 23 rfl w4.heap.size 28 i0 (.agg #[.string ⟨#[]⟩, .int .i64 0]) 24 Try.underlying23 hi hz0 hz1 hz2 rfl _ _ _ rfl hown o (hsl4.mono (below1 _ _)) (by simp [maxLen]; omega) (by omega) (by rw [World.size_alloc]; omega) ?_; simp [Region.wanted, yielded]; intro v5 w5 hown5 hgrow5 hat5; clear hat5)
        have b5 : Below w4.heap.size w4 w5 := (below1 _ _).grown hgrow5 (by simp) (fun g hg => (hown.lt g hg).1)
        have hs5 : Sl fldS w5 v5 ([o[0]] ++ o) := Sl.of_owns (by rw [List.length_append, fldS.cells_append]; exact hown5)
        refine (i_FieldsValid _ _ _ hs5 (dr_sizes (fun y hy => by
          rcases List.mem_append.1 hy with hy | hy
          · rw [List.mem_singleton.1 hy]; exact hdr _ (List.getElem_mem h0)
          · exact hdr y hy))).mono ?_
        rintro e w6 ⟨rfl, hb4⟩
        rw [H2.out]
        replace bz := below_trans (below_trans bz b5) hb4
        go_wp2_with fail
        go_ret
        exact ⟨rfl, bz⟩

set_option maxRecDepth 100000 in
theorem lifted (os : Os) (started : os.Started) (H : Type) (enc : TypeId × Value → H) :
    ReturnsInHanded {} Try.checked os 3 .any (Rows.fnFieldsValidSpec.pre6 enc Try.prog Try.f3 Rows.fnFieldsValidRow.domain false) (Rows.fnFieldsValidSpec.post enc Try.prog Try.f3 false true false false) := by
  refine returnsInHanded_of_change (C := Try.checked) own started (by kernel_rfl) Try.func3
    (ChangeSpec.witness6 (enc := enc) (C := Try.checked) false ⟨#[], #[.slice none 0 0], []⟩ 8 (by kernel_rfl) (by kernel_rfl) (by kernel_rfl) (by kernel_rfl)) ?_
  intro W base args ds gs before hval0 hW hcnd _
  have hval : ∀ (j : Nat) t v, Try.f3.params[j]? = some t → args[j]? = some v → Value.okWide Try.prog W .any base t v := hval0
  have hW' := hW
  obtain ⟨p, q, hA0, hV, rfl, hfz, hnd⟩ := hW
  have hA : DataW.TrodAll enc Try.prog W 0 (fun _ => true) true Try.f3.params.toList args.toList ds p := hA0
  rw [Try.params3] at hA hval
  obtain ⟨v0, vs0, d0, ds0, p0, q0, hargs, rfl, rfl, h0, r0⟩ := trodAll_cons hA
  obtain ⟨rfl, rfl, rfl⟩ := trodAll_nil r0
  obtain rfl : args = #[v0] := by cases args; simp_all
  obtain ⟨rfl, rfl⟩ := trodVars_none hV
  have k0 := h0
  have lt0 : ∀ x ∈ p0, x.block < W.heap.size := by obtain ⟨m, hm⟩ := k0; exact DataW.trod_lt m _ _ _ hm
  obtain ⟨aa0, len0, cap0, rfl⟩ := okWide_slice Try.underlying22 (hval 0 22 v0 rfl rfl)
  obtain ⟨l0, w0, x0⟩ : ∃ l, Sl byteS W (.slice aa0 len0 cap0) l ∧ ∀ y ∈ l, True := by obtain ⟨fuel, hf⟩ := h0; exact open_rows byteS (fun y => True) Try.underlying22 (by kernel_rfl) openByte hf
  clear hA0 hval0
  refine (walk _ l0 W w0 x0).mono fun e W' ⟨he, bel⟩ => ?_
  subst he
  exact ⟨_, rfl, _, _, _, [], _, [], hW', trodAll_mk1 (shut_bool Try.underlying4 _), (trodAll_cons_mk (Below.trod laidOut (by kernel_rfl) (of_decide_eq_true (by kernel_rfl)) k0 bel lt0) trodAll_mk0), rfl, bel.frame _, fun h => by cases h⟩

theorem over : Rows.fnFieldsValidRow.holds Try.pinned (OpenSpec.ofChange Rows.fnFieldsValidSpec) :=
  OpenClaim.holds_of_wide 3 Try.f3 rfl rfl rfl rfl rfl rfl rfl ⟨rfl, rfl, rfl, rfl, rfl⟩ rfl rfl rfl rfl rfl (by kernel_rfl) Try.func3 (by kernel_rfl)
    (of_decide_eq_true (by kernel_rfl)) (by unfold Func.isWrapper; first | (rw [if_pos (by decide +kernel)]; kernel_rfl) | (rw [if_neg (by decide +kernel)]; exact ⟨rfl, rfl⟩))
    (fun os started H enc _ => lifted os started H enc)

theorem proved : Rows.FnFieldsValidSaid := over
end Go.Proofs.Ytemjonibpachbaa.fnFieldsValid
