/- FnSortFields: for every input the law returns true, and each argument reads afterwards as it read before. No condition. -/
import Derived.Test.YtemjonibpachbaaRows
import Derived.WalkKit
import Derived.ProofKit
import Derived.OpenShut
import Derived.ChangeOld
import Derived.Below
import Derived.Test.YtemjonibpachbaaOpen
import Derived.Test.YtemjonibpachbaaTypes
import Derived.Test.YtemjonibpachbaaFldS
import Derived.Test.YtemjonibpachbaaDrawFs
import Derived.Test.YtemjonibpachbaaSameField
import Derived.Test.YtemjonibpachbaaAlive
namespace Go.Proofs.Ytemjonibpachbaa.fnSortFields
open Go.ChangeShapes Go.WideShapes Go.ChangeAt Go.RowKit
open Go.ChangeMaps (open_string shut_string)
set_option linter.unusedVariables false

theorem own : ownKnob Try.prog.godebug = none := by kernel_rfl
theorem laidOut : laidOutB Try.prog = true := by kernel_rfl

theorem openByte {H : Type} {enc : TypeId × Value → H} {w : World} (fuel : Nat) (cs : List Value) (x : DataW H × List MemPlace) (h : DataW.trod enc Try.prog w 0 (fun _ => true) true fuel 5 cs = some x) : ∃ y : UInt8, cs = byteS.enc y ∧ True := by
  obtain ⟨s, rfl, _, hb⟩ := DataW.trod_int Try.underlying5 h
  have := bounds_u8 hb
  exact ⟨UInt8.ofNat s.toNat, by simp [byteS]; omega, trivial⟩

theorem fields_iff {l : List Fld} : fieldsB l = true ↔ l.length ≤ 6 ∧ (∀ y ∈ l, fldOk y = true) ∧ l.Pairwise fun x y => x.name.toList ≠ y.name.toList := by
  constructor
  · intro h
    refine ⟨(goodB_iff.1 h).1, fun y hy => ?_, fields_apart h⟩
    obtain ⟨k, hk, rfl⟩ := List.mem_iff_getElem.1 hy
    have := (goodB_iff.1 h).2.1 k hk
    rwa [okBy_eq hk] at this
  · rintro ⟨h1, h2, h3⟩
    refine goodB_iff.2 ⟨h1, fun k hk => by rw [okBy_eq hk]; exact h2 _ (List.getElem_mem hk), fun j k hj hk => ?_⟩
    exact List.pairwise_iff_getElem.1 h3 j k (by omega) hk hj
theorem fields_perm {a b : List Fld} (hp : a.Perm b) (h : fieldsB a = true) : fieldsB b = true := by
  obtain ⟨h1, h2, h3⟩ := fields_iff.1 h
  exact fields_iff.2 ⟨by rw [← hp.length_eq]; exact h1, fun y hy => h2 y (hp.mem_iff.2 hy), (hp.pairwise_iff (fun h e => h e.symm)).1 h3⟩
theorem sort_turned {o x : List Fld} (h : SortRel o x) (hf : fieldsB o = true) : SortRel o.reverse x := by
  rcases h with ⟨_, h2, h3⟩ | ⟨h1, _⟩
  · exact .inl ⟨fields_perm (List.reverse_perm o).symm hf, h2.trans (List.reverse_perm o).symm, h3⟩
  · rw [hf] at h1; cases h1
theorem sort_again {o x : List Fld} (h : SortRel o x) (hf : fieldsB o = true) : SortRel x x := by
  rcases h with ⟨_, h2, h3⟩ | ⟨h1, _⟩
  · exact .inl ⟨fields_perm h2.symm hf, List.Perm.refl _, h3⟩
  · rw [hf] at h1; cases h1
theorem sort_parts {o x : List Fld} (h : SortRel o x) (hf : fieldsB o = true) : x.Perm o ∧ x.Pairwise lessF := by
  rcases h with ⟨_, h2, h3⟩ | ⟨h1, _⟩
  · exact ⟨h2, h3⟩
  · rw [hf] at h1; cases h1
theorem sort_none {o x : List Fld} (h : SortRel o x) (hf : fieldsB o = false) : x = [] := by
  rcases h with ⟨h1, _⟩ | ⟨_, h2⟩
  · rw [hf] at h1; cases h1
  · exact h2
theorem turned_step {o : List Fld} {i : Nat} (hi : i < o.length) : (o.drop (i + 1)).reverse ++ [o[i]] = (o.drop i).reverse := by
  rw [List.drop_eq_getElem_cons hi, List.reverse_cons]

set_option maxHeartbeats 3200000 in
theorem walk (v0 : Value) (l0 : List UInt8) (w : World) (w0 : Sl byteS w v0 l0) (x0 : ∀ y ∈ l0, True) :
    Calls Try.prog 5 #[v0] w fun e w' => e = .returned (.bool true) ∧ Below w.heap.size w w' := by
  obtain ⟨i0, hi, hz0, hz1, hz2⟩ := info_parts Try.infoFld
  obtain ⟨aa, cap, rfl⟩ : ∃ aa cap, v0 = .slice aa l0.length cap := by obtain ⟨a, c, h, _⟩ := w0; exact ⟨a, c, h⟩
  by_cases hlen : l0.length ≤ 1048576
  rotate_left
  · go_enter Try.func5, Try.ntmps5
    go_wp2_with fail
    go_ret
    exact ⟨rfl, Below.refl _ _⟩
  go_enter Try.func5, Try.ntmps5
  go_wp2_with fail
  refine (draw_SortFields _ l0 _ w0).mono ?_
  rintro e w1 ⟨v, o, rfl, ho, hdr, hsl, hB⟩
  obtain ⟨A, c, rfl⟩ : ∃ A c, v = .slice A o.length c := by obtain ⟨a, c, h, _⟩ := hsl; exact ⟨a, c, h⟩
  go_wp2_with fail
  refine (i_SortFields _ o _ hsl (dr_sizes hdr)).mono ?_
  rintro e w2 ⟨vx, x, rfl, hrx, ox, hb1⟩
  have hx2 : Sl fldS w2 vx x := Sl.of_owns ox
  have hl2 := hsl.mono hb1
  obtain ⟨A', c', rfl⟩ : ∃ A' c', vx = .slice A' x.length c' := by obtain ⟨a, c, h, _⟩ := hx2; exact ⟨a, c, h⟩
  clear ox hsl
  go_wp2_with fail
  refine (s_SortFields _ o _ hl2 (dr_sizes hdr)).mono ?_
  rintro e w3 ⟨vy, y, rfl, hry, oy, hb2⟩
  obtain rfl := hrx.eq hry
  have hy3 : Sl fldS w3 vy x := Sl.of_owns oy
  have hx3 := hx2.mono hb2
  have hl3 := hl2.mono hb2
  clear oy hry hx2 hl2
  go_wp2_with fail
  refine (same_Field _ _ x _ hx3 hy3).mono ?_
  rintro e w4 ⟨rfl, hb3⟩
  have hx4 := hx3.mono hb3
  have hl4 := hl3.mono hb3
  clear hy3 hx3 hl3
  go_wp2_with fail
  refine (i_FieldsValid _ o _ hl4 (dr_sizes hdr)).mono ?_
  rintro e w5 ⟨rfl, hb4⟩
  have hx5 := hx4.mono hb4
  have hl5 := hl4.mono hb4
  have bz := below_trans (below_trans (below_trans (below_trans hB hb1) hb2) hb3) hb4
  clear hx4 hl4 hB hb1 hb2 hb3 hb4
  cases hf : fieldsB o
  · obtain rfl := sort_none hrx hf
    go_wp2_with (first | (go_at_call 11; refine (alive_any _).mono ?_; rintro e w' ⟨rfl, rfl⟩))
    go_ret
    exact ⟨rfl, bz⟩
  obtain ⟨hp, hsd⟩ := sort_parts hrx hf
  have HT : Hid (SortRel o.reverse x) := sort_turned hrx hf
  have HA : Hid (SortRel x x) := sort_again hrx hf
  have hxl : x.length = o.length := hp.length_eq
  have hdx : ∀ y ∈ x, DrFld y := fun y hy => hdr y (hp.mem_iff.1 hy)
  have hdt : ∀ y ∈ o.reverse, DrFld y := fun y hy => hdr y (List.mem_reverse.1 hy)
  have hless : Hid (∀ k, 0 < k → (h : k < x.length) → Op.bytesLess (x[k - 1]'(by omega)).name.toList x[k].name.toList = true) := fun k h0 h => List.pairwise_iff_getElem.1 hsd (k - 1) k (by omega) h (by omega)
  have hw1 : IntKind.i64.wrap ((o.length : Int) - 1) = (o.length : Int) - 1 := IntWalk.i64_in _ (by omega)
  have b5 : Below w5.heap.size w5 (w5.alloc (.cells #[] 28)) := below1 _ _
  clear hf hrx hp hsd
  go_wp2_with fail
  go_loopw [5, 6] (fun V K wr => ∃ (j : Int) (t : List Fld), K = .int .i64 j ∧ -1 ≤ j ∧ j < o.length ∧ t = (o.drop (j + 1).toNat).reverse ∧ wr.ownsRow w5.heap.size 28 fldS.sz V t.length (fldS.cells t) ∧ Below w5.heap.size w5 wr) (fun _ K _ => (intOf K + 1).toNat)
  case atStart => exact ⟨_, [], rfl, by omega, by omega, by simp, World.ownsRow_lit _ _ _ (Nat.le_refl _) (by simp [maxLen]) (by simp), b5⟩
  case round =>
    clear hw1 b5
    obtain ⟨wo, rfl⟩ : ∃ wo : World, wo = wr := ⟨_, rfl⟩
    obtain ⟨j, t, rfl, hj1, hj2, ht, hown, hB⟩ := hrel
    have htl : t.length ≤ 6 := by rw [ht, List.length_reverse, List.length_drop]; omega
    by_cases hj : 0 ≤ j
    · obtain ⟨i, rfl⟩ := Int.eq_ofNat_of_zero_le hj
      have hio : i < o.length := by omega
      obtain ⟨b, off, cc, hv, hcap, hbs, hc⟩ := SlFld.open hl5 (by omega)
      injection hv with hv1 _ hv3
      subst hv1; subst hv3
      have c0 : wo.cell? ⟨b, off + i * 2, none⟩ = some (.string o[i].name) := (hB.cell (p := ⟨b, off + i * 2, none⟩) hbs).trans (hc i hio).1
      have c1 : wo.cell? ⟨b, off + i * 2 + 1, none⟩ = some (.int .i64 o[i].val) := (hB.cell (p := ⟨b, off + i * 2 + 1, none⟩) hbs).trans (hc i hio).2
      have q0 : (0 : Int) ≤ (i : Int) := by omega
      have q1 : (i : Int) < (o.length : Int) := by omega
      have q2 : IntKind.i64.wrap ((i : Int) - 1) = (i : Int) - 1 := IntWalk.i64_in _ (by omega)
      have ht2 : t ++ [o[i]] = (o.drop i).reverse := by
        rw [ht, show ((i : Int) + 1).toNat = i + 1 by omega]; exact turned_step hio
      clear hc ht hj hj1 hj2
      go_wp2_with (at_builtin; refine wpList_app_sl (S := fldS) rfl _ _ 23 rfl w5.heap.size 28 i0 (.agg #[.string ⟨#[]⟩, .int .i64 0]) 24 Try.underlying23 hi hz0 hz1 hz2 rfl _ _ _ rfl (hown.alloc _) [o[i]] (one_sl (S := fldS) (x := o[i]) (heap_alloc_new _ _)) (by simp [maxLen]; omega) (by simp; omega) (by have := hB.size; rw [World.size_alloc]; omega) ?_; intro v7 w7 hown7 hgrow7 hat7; clear hat7)
      have hB7 : Below w5.heap.size w5 w7 := (hB.alloc hB.size _).grown hgrow7 (by have := hB.size; simp; omega) (fun g hg => (hown.lt g hg).1)
      go_roundw
      case rel => exact ⟨(i : Int) - 1, t ++ [o[i]], rfl, by omega, by omega, by rw [ht2, show ((i : Int) - 1 + 1).toNat = i by omega], by rw [List.length_append, fldS.cells_append]; exact hown7, hB7⟩
      case measure => simp [intOf]
    · obtain rfl : j = -1 := by omega
      obtain rfl : t = o.reverse := by rw [ht]; rfl
      have hx6 := hx5.mono hB
      have ht6 : Sl fldS wo _ o.reverse := Sl.of_owns hown
      have bo := below_trans bz hB
      clear ht htl hj hj1 hj2 hown bz hx5 hl5 hB
      go_wp2_with fail
      go_loopw [7] (fun i wr => ∃ k : Nat, 1 ≤ k ∧ k ≤ x.length + 1 ∧ i = .int .i64 k ∧ Below wo.heap.size wo wr) (fun i _ => x.length + 1 - (intOf i).toNat)
      case atStart => exact ⟨1, by omega, by omega, rfl, Below.refl _ _⟩
      case round =>
        obtain ⟨wp, rfl⟩ : ∃ wp : World, wp = wr := ⟨_, rfl⟩
        obtain ⟨k, hk1, hk2, rfl, hB⟩ := hrel
        by_cases hlt : k < x.length
        · obtain ⟨b, off, cc, hv, hcap, hbs, hc⟩ := SlFld.open hx6 (by omega)
          injection hv with hv1 _ hv3
          subst hv1; subst hv3
          have c0 : wp.cell? ⟨b, off + k * 2, none⟩ = some (.string x[k].name) := (hB.cell (p := ⟨b, off + k * 2, none⟩) hbs).trans (hc k hlt).1
          have c1 : wp.cell? ⟨b, off + (k - 1) * 2, none⟩ = some (.string (x[k - 1]'(by omega)).name) := (hB.cell (p := ⟨b, off + (k - 1) * 2, none⟩) hbs).trans (hc (k - 1) (by omega)).1
          have q0 : (0 : Int) ≤ (k : Int) := by omega
          have q1 : (k : Int) < (x.length : Int) := by omega
          have q2 : IntKind.i64.wrap ((k : Int) - 1) = (k : Int) - 1 := IntWalk.i64_in _ (by omega)
          have q3 : (0 : Int) ≤ (k : Int) - 1 := by omega
          have q4 : (k : Int) - 1 < (x.length : Int) := by omega
          have q5 : ((k : Int) - 1).toNat = k - 1 := by omega
          have q6 : (1 : Int) ≤ (k : Int) := by omega
          have q7 : (k : Int) < (x.length : Int) + 1 := by omega
          have h4 := hless.out k (by omega) hlt
          have g4 : (Op.bytesLess x[k].name.toList (x[k - 1]'(by omega)).name.toList || x[k].name.toList == (x[k - 1]'(by omega)).name.toList) = false := by rw [less_not, h4]; rfl
          clear hc
          go_wp2_with fail
          go_quiet (fail)
          go_wp2_with fail
          go_roundw
          case rel => exact ⟨k + 1, by omega, by omega, by go_num, belowN hB _⟩
          case measure => simp [intOf]; omega
        · have q1 : ¬ (k : Int) < (x.length : Int) := by omega
          have q2 : decide ((k : Int) < (x.length : Int)) = false := by simp; omega
          have q3 : ((x.length : Int) == (o.length : Int)) = true := by rw [hxl]; simp
          have q4 : x.length = o.length := hxl
          have hx7 : Sl fldS wp (.slice A' o.length c') x := by rw [← hxl]; exact hx6.mono hB
          have ht7 := ht6.mono hB
          have bp := below_trans bo hB
          clear hx6 ht6 bo hB hxl
          go_wp2_with fail
          refine (i_SortFields _ o.reverse _ ht7 (dr_sizes hdt)).mono ?_
          rintro e w8 ⟨v8, x8, rfl, hr8, o8, hb8⟩
          obtain rfl := HT.out.eq hr8
          have s8 : Sl fldS w8 v8 x := Sl.of_owns o8
          have hx8 := hx7.mono hb8
          replace bp := below_trans bp hb8
          clear o8 hr8 hx7 ht7 hb8
          go_wp2_with fail
          refine (same_Field _ _ x _ s8 hx8).mono ?_
          rintro e w9 ⟨rfl, hb9⟩
          have hx9 := hx8.mono hb9
          replace bp := below_trans bp hb9
          clear s8 hx8 hb9
          go_wp2_with fail
          refine (i_SortFields _ x _ hx9 (dr_sizes hdx)).mono ?_
          rintro e w10 ⟨v10, x10, rfl, hr10, o10, hb10⟩
          obtain rfl := HA.out.eq hr10
          have s10 : Sl fldS w10 v10 x := Sl.of_owns o10
          have hx10 := hx9.mono hb10
          replace bp := below_trans bp hb10
          clear o10 hr10 hx9 hb10
          go_wp2_with fail
          refine (same_Field _ _ x _ s10 hx10).mono ?_
          rintro e w11 ⟨rfl, hb11⟩
          replace bp := below_trans bp hb11
          go_wp2_with fail
          go_ret
          exact ⟨rfl, bp⟩

set_option maxRecDepth 100000 in
theorem lifted (os : Os) (started : os.Started) (H : Type) (enc : TypeId × Value → H) :
    ReturnsInHanded {} Try.checked os 5 .any (Rows.fnSortFieldsSpec.pre6 enc Try.prog Try.f5 Rows.fnSortFieldsRow.domain false) (Rows.fnSortFieldsSpec.post enc Try.prog Try.f5 false true false false) := by
  refine returnsInHanded_of_change (C := Try.checked) own started (by kernel_rfl) Try.func5
    (ChangeSpec.witness6 (enc := enc) (C := Try.checked) false ⟨#[], #[.slice none 0 0], []⟩ 8 (by kernel_rfl) (by kernel_rfl) (by kernel_rfl) (by kernel_rfl)) ?_
  intro W base args ds gs before hval0 hW hcnd _
  have hval : ∀ (j : Nat) t v, Try.f5.params[j]? = some t → args[j]? = some v → Value.okWide Try.prog W .any base t v := hval0
  have hW' := hW
  obtain ⟨p, q, hA0, hV, rfl, hfz, hnd⟩ := hW
  have hA : DataW.TrodAll enc Try.prog W 0 (fun _ => true) true Try.f5.params.toList args.toList ds p := hA0
  rw [Try.params5] at hA hval
  obtain ⟨v0, vs0, d0, ds0, p0, q0, hargs, rfl, rfl, h0, r0⟩ := trodAll_cons hA
  obtain ⟨rfl, rfl, rfl⟩ := trodAll_nil r0
  obtain rfl : args = #[v0] := by cases args; simp_all
  obtain ⟨rfl, rfl⟩ := trodVars_none hV
  have k0 := h0
  have lt0 : ∀ x ∈ p0, x.block < W.heap.size := by obtain ⟨m, hm⟩ := k0; exact DataW.trod_lt m _ _ _ hm
  obtain ⟨aa0, len0, cap0, rfl⟩ := okWide_slice Try.underlying22 (hval 0 22 v0 rfl rfl)
  obtain ⟨l0, w0, x0⟩ : ∃ l, Sl byteS W (.slice aa0 len0 cap0) l ∧ ∀ y ∈ l, True := by obtain ⟨fuel, hf⟩ := h0; exact open_rows byteS (fun y => True) Try.underlying22 (by kernel_rfl) openByte hf
  clear hA0 hval0
  refine (walk _ l0 W w0 x0).mono fun e W' ⟨he, bel⟩ => ?_
  subst he
  exact ⟨_, rfl, _, _, _, [], _, [], hW', trodAll_mk1 (shut_bool Try.underlying4 _), (trodAll_cons_mk (Below.trod laidOut (by kernel_rfl) (of_decide_eq_true (by kernel_rfl)) k0 bel lt0) trodAll_mk0), rfl, bel.frame _, fun h => by cases h⟩

theorem over : Rows.fnSortFieldsRow.holds Try.pinned (OpenSpec.ofChange Rows.fnSortFieldsSpec) :=
  OpenClaim.holds_of_wide 5 Try.f5 rfl rfl rfl rfl rfl rfl rfl ⟨rfl, rfl, rfl, rfl, rfl⟩ rfl rfl rfl rfl rfl (by kernel_rfl) Try.func5 (by kernel_rfl)
    (of_decide_eq_true (by kernel_rfl)) (by unfold Func.isWrapper; first | (rw [if_pos (by decide +kernel)]; kernel_rfl) | (rw [if_neg (by decide +kernel)]; exact ⟨rfl, rfl⟩))
    (fun os started H enc _ => lifted os started H enc)

theorem proved : Rows.FnSortFieldsSaid := over
end Go.Proofs.Ytemjonibpachbaa.fnSortFields
