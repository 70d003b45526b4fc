/- The walks of the reference's drawing functions for fields. No condition. -/
import Derived.Test.YtemjonibpachbaaDoorDrawOwn
import Derived.Test.YtemjonibpachbaaDoorDrawW
import Derived.Test.YtemjonibpachbaaDoorRegS
import Derived.Test.YtemjonibpachbaaDoorRegT
import Derived.Test.YtemjonibpachbaaDoorFldV
import Derived.Test.YtemjonibpachbaaDoorApp
import Derived.Test.YtemjonibpachbaaDoorChain
namespace Go.Proofs.YtemjonibpachbaaDoor
open Go.RowKit

/-- What a drawn field is. -/
def DrFld (y : Fld) : Prop := y.name.size ≤ 9 ∧ -1 ≤ y.val ∧ y.val ≤ 1000000001
theorem dr_sizes {l : List Fld} (h : ∀ y ∈ l, DrFld y) : ∀ y ∈ l, y.name.size ≤ 140737488355328 := fun y hy => by have := (h y hy).1; omega
/-- What the drawing of fields leaves. -/
def FldsRet (rb B : Nat) (w : World) (e : Ending) (w' : World) : Prop :=
  ∃ v o, e = .returned v ∧ o.length ≤ 6 ∧ (∀ y ∈ o, DrFld y) ∧ w'.ownsRow w.heap.size 41 fldS.sz v o.length (fldS.cells o) ∧ Rd w' rb B ∧ Ex (· = rb) w w'
theorem FldsRet.mk {rb B : Nat} {w w' : World} {v : Value} {o : List Fld} (h1 : o.length ≤ 6) (h2 : ∀ y ∈ o, DrFld y) (h3 : w'.ownsRow w.heap.size 41 fldS.sz v o.length (fldS.cells o)) (h4 : Rd w' rb B) (h5 : Ex (· = rb) w w') : FldsRet rb B w (.returned v) w' := ⟨v, o, rfl, h1, h2, h3, h4, h5⟩
theorem dr_snoc {o : List Fld} {y : Fld} (h : ∀ y ∈ o, DrFld y) (hy : DrFld y) : ∀ z ∈ o ++ [y], DrFld z := fun z hz => by
  rcases List.mem_append.1 hz with hz | hz
  · exact h z hz
  · rw [List.mem_singleton.1 hz]; exact hy
theorem one_T {X : Nat → Prop} {w : World} {v : Value} {n : Nat} {lo hi : Int} (h : (sSl (X := X) 1 [sStr X n, sInt X lo hi]).T w v) : ∃ y : Fld, Sl fldS w v [y] ∧ y.name.size ≤ n ∧ lo ≤ y.val ∧ y.val ≤ hi := by
  obtain ⟨b, rfl, hc⟩ := h
  obtain ⟨u0, c0, s, rfl, hs⟩ := (hc 0 (by decide)).2 0 _ rfl
  obtain ⟨u1, c1, k, rfl, h1, h2⟩ := (hc 0 (by decide)).2 1 _ rfl
  refine ⟨⟨s, k⟩, ⟨some ⟨b, 0, none⟩, 1, rfl, Nat.le_refl _, by simp [maxLen], .inr ⟨b, 0, rfl, World.block_lt_of_cell? w _ c0, fun j u hu => ?_⟩⟩, hs, h1, h2⟩
  match j with
  | 0 => simp [fldS, Shape.cells] at hu; subst hu; simpa using c0
  | 1 => simp [fldS, Shape.cells] at hu; subst hu; simpa using c1
  | j + 2 => simp [fldS, Shape.cells] at hu
set_option maxHeartbeats 3200000 in
theorem fields_any (rb B0 : Nat) (n : Int) (w : World) (hR0 : Rd w rb B0) (hB : B0 ≤ 900000) (n1 : 0 ≤ n) (n2 : n ≤ 1000000) :
    Calls Tryd.prog 19 #[.pointer (some ⟨rb, 0, none⟩), .int .i64 n] w (FldsRet rb (B0 + 40) w) := by
  obtain ⟨i0, hi, hz0, hz1, hz2⟩ := info_parts Tryd.infoFld
  have hrb : rb < w.heap.size := hR0.lt
  go_enter Tryd.func19, Tryd.ntmps19
  go_wp2_with fail
  refine (pick_any rb B0 6 _ (hR0.below (below1 _ _)) (by omega) (by omega)).mono ?_
  rintro e w1 ⟨k0, rfl, hk0, hR1, hE1⟩
  obtain ⟨k1, rfl⟩ := Int.eq_ofNat_of_zero_le hk0.1
  have hk5 : k1 ≤ 5 := by have := hk0.2.1 (by decide); omega
  have hE : Ex (· = rb) w w1 := ((Ex.refl _ _).alloc _).trans hE1
  have hown : w1.ownsRow w.heap.size 41 fldS.sz (.slice (some ⟨w.heap.size, 0, none⟩) 0 0) 0 (fldS.cells []) := own_ex (World.ownsRow_lit _ _ _ (Nat.le_refl _) (by simp [maxLen]) (by simp)) hrb hE1
  clear hE1 hk0
  go_wp2_with fail
  go_loopw [5, 6] (fun V K wr => ∃ (k : Nat) (o : List Fld) (uV : Value), uV = V ∧ K = .int .i64 (k : Int) ∧ k ≤ 5 ∧ o.length + k ≤ 5 ∧ (∀ y ∈ o, DrFld y) ∧ wr.ownsRow w.heap.size 41 fldS.sz uV o.length (fldS.cells o) ∧ Rd wr rb (B0 + 1 + 5 * (5 - k)) ∧ Ex (· = rb) w wr) (fun _ K _ => (intOf K).toNat)
  case atStart => exact ⟨k1, [], _, rfl, rfl, hk5, by simp; omega, fun y hy => (by cases hy), hown, hR1.mono (by omega), hE⟩
  case round =>
    clear hown hR1 hE hk5
    obtain ⟨k, o, uV, rfl, rfl, hk, hlen, hdr, hown, hR, hE⟩ := hrel
    by_cases hk0 : k = 0
    · subst hk0
      go_wp2_with fail
      refine (odd_any rb _ n _ hR (by omega) n2 (by omega)).mono ?_
      rintro e w2 ⟨_, rfl, ⟨b, rfl⟩, hR2, hE2⟩
      have hown2 := own_ex hown hrb hE2
      have hE4 := hE.trans hE2
      cases b
      · go_wp2_with fail
        go_ret
        exact FldsRet.mk (by omega) hdr hown2 (hR2.mono (by omega)) hE4
      · clear hown hR hE hE2
        go_upto_region 9 with (fail)
        have hR : Rd w2 rb (B0 + 1 + 5 * 5 + 1) := hR2.mono (by omega)
        have hrN := hR.lt
        refine wp_region_typed_pre 11 (fun i => (([sIs _ (uV), sAgg [sStr _ 0, sInt _ (0) (0)], sAgg [sStr _ 1, sInt _ (0) (0)], sAgg [sStr _ 1, sInt _ (-1) (-1)], sAgg [sStr _ 1, sInt _ (1000000001) (1000000001)], sSl 4 [sStr _ 1, sInt _ (-1) (1000000001)], sIs _ (.pointer (some ⟨rb, 0, none⟩)), sInt _ (0) (3), sRef [sStr _ 1, sInt _ (-1) (1000000001)], sAgg [sStr _ 1, sInt _ (-1) (1000000001)], sSl 1 [sStr _ 1, sInt _ (-1) (1000000001)]] : List (STy (· = rb))).getD i (sAny _)).T) (fun i => ([0, 0, 0, 0, 0, 0, 0, 1, 0, 0, 0] : List Nat).getD i 0) (fun B w' => Rd w' rb (B0 + 1 + 5 * 5 + 1 + B) ∧ Ex (· = rb) w2 w') (Ex (· = rb)) 1 47 rfl (by decide) (by kernel_rfl) (by kernel_rfl) (by decide) ⟨hR, Ex.refl _ _⟩ (fun i u u' v hx hv => STy.st _ _ _ _ hx hv) ?_ ?_
        · refine ⟨?_, ?_, ?_, ?_, ?_, ?_, ?_, ?_, ?_, ?_, ?_, trivial⟩
          · intro B a' w' hB hW hF
            have h5 : a'.tmps[5]? = some (uV) := (hF.at 5 (by kernel_rfl)).trans rfl
            refine wpOp_step rfl (fun K hK => ?_)
            go_simp
            exact hK _ _ ⟨_, rfl, Ex.refl _ _, rfl, hW⟩
          · intro B a' w' hB hW hF
            refine wpOp_step rfl (fun K hK => ?_)
            go_simp
            exact hK _ _ ⟨_, rfl, Ex.refl _ _, ⟨[Value.string { data := #[] }, Value.int IntKind.i64 0], rfl, ⟨_, rfl, by decide⟩, ⟨_, rfl, by omega, by omega⟩, trivial⟩, hW⟩
          · intro B a' w' hB hW hF
            refine wpOp_step rfl (fun K hK => ?_)
            go_simp
            exact hK _ _ ⟨_, rfl, Ex.refl _ _, ⟨[(Value.string { data := #[65] }), Value.int IntKind.i64 0], rfl, ⟨_, rfl, by decide⟩, ⟨_, rfl, by omega, by omega⟩, trivial⟩, hW⟩
          · intro B a' w' hB hW hF
            refine wpOp_step rfl (fun K hK => ?_)
            go_simp
            exact hK _ _ ⟨_, rfl, Ex.refl _ _, ⟨[(Value.string { data := #[122] }), (Value.int IntKind.i64 (-1))], rfl, ⟨_, rfl, by decide⟩, ⟨_, rfl, by omega, by omega⟩, trivial⟩, hW⟩
          · intro B a' w' hB hW hF
            refine wpOp_step rfl (fun K hK => ?_)
            go_simp
            exact hK _ _ ⟨_, rfl, Ex.refl _ _, ⟨[(Value.string { data := #[122] }), (Value.int IntKind.i64 1000000001)], rfl, ⟨_, rfl, by decide⟩, ⟨_, rfl, by omega, by omega⟩, trivial⟩, hW⟩
          · intro B a' w' hB hW hF
            obtain ⟨_, h35, vs35, rfl, A35⟩ := hF.val ⟨1, .data⟩ (by simp) rfl _ rfl
            obtain ⟨u35_0, u35_1, tu35_0, tu35_1, rfl⟩ := AllT.get2 A35
            obtain ⟨s35_0, rfl, z35_0⟩ := tu35_0
            obtain ⟨k35_1, rfl, a35_1, b35_1⟩ := tu35_1
            obtain ⟨_, h36, vs36, rfl, A36⟩ := hF.val ⟨2, .data⟩ (by simp) rfl _ rfl
            obtain ⟨u36_0, u36_1, tu36_0, tu36_1, rfl⟩ := AllT.get2 A36
            obtain ⟨s36_0, rfl, z36_0⟩ := tu36_0
            obtain ⟨k36_1, rfl, a36_1, b36_1⟩ := tu36_1
            obtain ⟨_, h37, vs37, rfl, A37⟩ := hF.val ⟨3, .data⟩ (by simp) rfl _ rfl
            obtain ⟨u37_0, u37_1, tu37_0, tu37_1, rfl⟩ := AllT.get2 A37
            obtain ⟨s37_0, rfl, z37_0⟩ := tu37_0
            obtain ⟨k37_1, rfl, a37_1, b37_1⟩ := tu37_1
            obtain ⟨_, h38, vs38, rfl, A38⟩ := hF.val ⟨4, .data⟩ (by simp) rfl _ rfl
            obtain ⟨u38_0, u38_1, tu38_0, tu38_1, rfl⟩ := AllT.get2 A38
            obtain ⟨s38_0, rfl, z38_0⟩ := tu38_0
            obtain ⟨k38_1, rfl, a38_1, b38_1⟩ := tu38_1
            refine wpOp_step rfl (fun K hK => ?_)
            go_simp
            exact hK _ _ ⟨_, rfl, (Ex.refl _ _).alloc _, sSl_new (cs := [[.string s35_0, .int .i64 k35_1], [.string s36_0, .int .i64 k36_1], [.string s37_0, .int .i64 k37_1], [.string s38_0, .int .i64 k38_1]]) (by intro h; have h2 := hW.2.size; (try dsimp only at h); omega) rfl ⟨⟨⟨_, rfl, by omega⟩, ⟨_, rfl, by omega, by omega⟩, trivial⟩, ⟨⟨_, rfl, by omega⟩, ⟨_, rfl, by omega, by omega⟩, trivial⟩, ⟨⟨_, rfl, by omega⟩, ⟨_, rfl, by omega, by omega⟩, trivial⟩, ⟨⟨_, rfl, by omega⟩, ⟨_, rfl, by omega, by omega⟩, trivial⟩, trivial⟩ (heap_alloc_new w' _), ⟨hW.1.below (below1 _ _), hW.2.alloc _⟩⟩
          · intro B a' w' hB hW hF
            have h0 : a'.tmps[0]? = some (.pointer (some ⟨rb, 0, none⟩)) := (hF.at 0 (by kernel_rfl)).trans rfl
            refine wpOp_step rfl (fun K hK => ?_)
            go_simp
            exact hK _ _ ⟨_, rfl, Ex.refl _ _, rfl, hW⟩
          · intro B a' w' hB hW hF
            obtain ⟨_, h40, rfl⟩ := hF.val ⟨6, .data⟩ (by simp) rfl _ rfl
            refine wpOp_step rfl (fun K hK => ?_)
            go_simp
            refine (pick_any rb _ _ _ hW.1 (by omega) (by omega)).mono ?_
            rintro e w'' ⟨k, rfl, hk, hR', hE'⟩
            exact hK _ _ ⟨_, rfl, hE', ⟨_, rfl, by omega, by omega⟩, ⟨hR', hW.2.trans hE'⟩⟩
          · intro B a' w' hB hW hF
            obtain ⟨_, h39, b39, rfl, c39⟩ := hF.val ⟨5, .data⟩ (by simp) rfl _ rfl
            obtain ⟨_, h41, k41, rfl, a41, b41⟩ := hF.val ⟨7, .data⟩ (by simp) rfl _ rfl
            have i1 : k41 < 4 := by omega
            refine wpOp_step rfl (fun K hK => ?_)
            go_simp
            exact hK _ _ ⟨_, rfl, Ex.refl _ _, ⟨_, _, rfl, c39 k41.toNat (by omega)⟩, hW⟩
          · intro B a' w' hB hW hF
            obtain ⟨_, h42, b42, o42, rfl, x42, c42⟩ := hF.val ⟨8, .data⟩ (by simp) rfl _ rfl
            obtain ⟨u0, hu0, tu0⟩ := c42 0 _ rfl
            have hv0 : w'.cell? ⟨b42, o42, none⟩ = some u0 := by simpa using hu0
            obtain ⟨u1, hu1, tu1⟩ := c42 1 _ rfl
            refine wpOp_step rfl (fun K hK => ?_)
            go_simp
            exact hK _ _ ⟨_, rfl, Ex.refl _ _, ⟨_, rfl, tu0, tu1, trivial⟩, hW⟩
          · intro B a' w' hB hW hF
            obtain ⟨_, h43, vs43, rfl, A43⟩ := hF.val ⟨9, .data⟩ (by simp) rfl _ rfl
            obtain ⟨u43_0, u43_1, tu43_0, tu43_1, rfl⟩ := AllT.get2 A43
            obtain ⟨s43_0, rfl, z43_0⟩ := tu43_0
            obtain ⟨k43_1, rfl, a43_1, b43_1⟩ := tu43_1
            refine wpOp_step rfl (fun K hK => ?_)
            go_simp
            exact hK _ _ ⟨_, rfl, (Ex.refl _ _).alloc _, sSl_new (cs := [[.string s43_0, .int .i64 k43_1]]) (by intro h; have h2 := hW.2.size; (try dsimp only at h); omega) rfl ⟨⟨⟨_, rfl, by omega⟩, ⟨_, rfl, by omega, by omega⟩, trivial⟩, trivial⟩ (heap_alloc_new w' _), ⟨hW.1.below (below1 _ _), hW.2.alloc _⟩⟩
        · intro a' w' hL hW
          obtain ⟨v34, h34, e34⟩ := hL.val 0 _ rfl
          rw [show v34 = uV from e34] at h34
          obtain ⟨v44, h44, t44⟩ := hL.val 10 _ rfl
          obtain ⟨y, hsy, z1, z2, z3⟩ := one_T t44
          have hy : DrFld y := ⟨by omega, by omega, by omega⟩
          have hd := hL.defers
          have hsz := hL.size
          clear hL t44
          have hown3 := own_ex hown2 hrb hW.2
          have hE5 := hE4.trans hW.2
          have hR5 : Rd w' rb (B0 + 40) := Rd.mono (B := B0 + 1 + 5 * 5 + 1 + 1) hW.1 (by omega)
          show wpList _ _ _ [_, _] _ _
          refine wpList_app_sl (S := fldS) rfl (.tmp 34) (.tmp 44) 23 rfl w.heap.size 41 i0 (.agg #[.string ⟨#[]⟩, .int .i64 0]) 24 Tryd.underlying23 hi hz0 hz1 hz2 rfl uV o.length (fldS.cells o) (getD_of h34) hown3 [y] (by rw [show a'.eval (.tmp 44) = _ from getD_of h44]; exact hsy) (by simp [maxLen]; omega) (by simp; omega) hE5.size ?_
          intro v5 w5 hown5 hgrow5 hat5
          have hrow := fun g hg => (hown3.lt g hg).1
          have hE6 := ex_grown hE5 hgrow5 hrow
          have hR6 := hR5.grown hgrow5 (fun g hg => Nat.lt_of_lt_of_le hrb (hrow g hg))
          clear hat5 hgrow5
          have hlt4 : 4 < a'.tmps.size := by rw [hsz]; simp
          go_wp2
          refine bodyPost_ret (results_tmp rfl _ _ _) rfl ?_
          rw [getD_of (show ((a'.tmps.setIfInBounds 45 v5).setIfInBounds 4 v5)[4]? = some v5 from Array.getElem?_setIfInBounds_self_of_lt (by simpa using hlt4))]
          exact FldsRet.mk (o := o ++ [y]) (by simp; omega) (dr_snoc hdr hy) (by rw [List.length_append, fldS.cells_append]; exact hown5) hR6 hE6
    · have q0 : (0 : Int) < (k : Int) := by omega
      have q1 : decide ((0 : Int) < (k : Int)) = true := by simp; omega
      have q2 : IntKind.i64.wrap ((k : Int) - 1) = (k : Int) - 1 := IntWalk.i64_in _ (by omega)
      have q3 : decide (0 < k) = true := by simp; omega
      go_wp2_with fail
      refine (word_any rb _ 0 _ hR (by omega) (by omega) (by omega)).mono ?_
      rintro e w3 ⟨_, rfl, ⟨s, rfl, hs⟩, hR3, hE3⟩
      go_wp2_with fail
      refine (pick_any rb _ 100 _ hR3 (by omega) (by omega)).mono ?_
      rintro e w4 ⟨x, rfl, hx, hR4, hE4⟩
      have hown4 := own_ex (own_ex hown hrb hE3) hrb hE4
      have hE5 := (hE.trans hE3).trans hE4
      have hy : DrFld ⟨s, x⟩ := ⟨hs, by have := hx.1; simp only; omega, by have := hx.2.1 (by decide); simp only; omega⟩
      clear hown hR hR3 hE hE3 hE4 hx
      go_upto_region 6 with (fail)
      obtain ⟨w5, hw5⟩ : ∃ w5, w5 = w4.alloc (.cells #[.string s, .int .i64 x] 41) := ⟨_, rfl⟩
      rw [← hw5]
      have b5 : Below w4.heap.size w4 w5 := by rw [hw5]; exact below1 _ _
      have d0 : w5.cell? ⟨w4.heap.size, 0, none⟩ = some (.string s) := by rw [hw5]; simp
      have d1 : w5.cell? ⟨w4.heap.size, 1, none⟩ = some (.int .i64 x) := by rw [hw5]; simp
      have hbx : w4.heap.size < w5.heap.size := by rw [hw5]; simp
      have hown5 := owns_below hown4 b5
      have hR5 := hR4.below b5
      have hE6 := hE5.trans (Ex.of_below b5)
      clear hw5 hown4 hR4 hE5
      have hsl : Sl fldS w5 uV o := Sl.of_owns hown5
      refine wp_region_typed_used 6 (fun i w v => KTy.T 41 fldS.sz w5.heap.size (([.nil0, .is (uV), .own ((0 + (o).length)) (([] ++ fldS.cells (o))), .is (.agg #[.string s, .int .i64 x]), .one ((fldS.enc (Fld.mk s x)).toArray), .own (((0 + (o).length) + ([(Fld.mk s x)]).length)) ((([] ++ fldS.cells (o)) ++ fldS.cells ([(Fld.mk s x)])))] : List KTy).getD i .any) w v) (fun i => ([2, 999, 5, 999, 5, 999] : List Nat).getD i 999) (fun w' => Below w5.heap.size w5 w') (RApp 41 2 5) (by kernel_rfl) 47 rfl (by decide) (by kernel_rfl) (by kernel_rfl) (by kernel_rfl) (by kernel_rfl) (Below.refl _ _).drew (tyApp (by kernel_rfl)) ?_ ?_
      · refine ⟨?_, ?_, ?_, ?_, ?_, ?_, trivial⟩
        · intro a' w' hW hF
          refine wpOp_step rfl (fun K hK => ?_)
          go_simp
          exact hK _ _ ⟨_, rfl, RApp.still (by decide) (World.grownBy_alloc _ _ _), ⟨w'.heap.size, rfl, hW.size, heap_alloc_new w' _⟩, hW.alloc hW.size _⟩
        · intro a' w' hW hF
          have h5 : a'.tmps[5]? = some (uV) := (hF.at 5 (by kernel_rfl)).trans rfl
          refine wpOp_step rfl (fun K hK => ?_)
          go_simp
          exact hK _ _ ⟨_, rfl, RApp.still (by decide) (World.grownBy.refl _ _), rfl, hW⟩
        · intro a' w' hW hF
          obtain ⟨_, h20, g20, rfl, hg20, hb20⟩ := hF.val ⟨0, .data⟩ (by simp) rfl _ rfl
          obtain ⟨_, h21, rfl⟩ := hF.val ⟨1, .data⟩ (by simp) rfl _ rfl
          refine wpOp_step rfl (fun K hK => ?_)
          refine step_app_sl (S := fldS) rfl (.tmp 20) (.tmp 21) 23 rfl w5.heap.size 41 i0 (.agg #[.string ⟨#[]⟩, .int .i64 0]) 24 Tryd.underlying23 hi hz0 hz1 hz2 rfl _ (0) ([]) (getD_of h20) (nil0_own hg20 hb20) (o) (by rw [show a'.eval (.tmp 21) = _ from getD_of h21]; exact hsl.mono hW) (by first | decide | (simp [maxLen]; omega)) (by first | decide | (simp; omega)) hW.size ?_
          intro v' w'' hown hgrow hat
          exact hK _ _ ⟨_, rfl, RApp.first hb20 hgrow, hown, hW.grown hgrow hW.size (fun j hj => by cases hj; exact hg20)⟩
        · intro a' w' hW hF
          have h7 : a'.tmps[7]? = some (.pointer (some ⟨w4.heap.size, 0, none⟩)) := (hF.at 7 (by kernel_rfl)).trans rfl
          have k0 : w'.cell? ⟨w4.heap.size, 0, none⟩ = some (.string s) := (hW.cell (p := ⟨w4.heap.size, 0, none⟩) hbx).trans d0
          have k1 : w'.cell? ⟨w4.heap.size, 1, none⟩ = some (.int .i64 x) := (hW.cell (p := ⟨w4.heap.size, 1, none⟩) hbx).trans d1
          refine wpOp_step rfl (fun K hK => ?_)
          go_simp
          exact hK _ _ ⟨_, rfl, RApp.still (by decide) (World.grownBy.refl _ _), rfl, hW⟩
        · intro a' w' hW hF
          obtain ⟨_, h23, rfl⟩ := hF.val ⟨3, .data⟩ (by simp) rfl _ rfl
          refine wpOp_step rfl (fun K hK => ?_)
          go_simp
          exact hK _ _ ⟨_, rfl, RApp.still (by decide) (World.grownBy_alloc _ _ _), ⟨w'.heap.size, rfl, by rw [List.size_toArray, fldS.len]; exact fldS.pos, heap_alloc_new w' _⟩, hW.alloc hW.size _⟩
        · intro a' w' hW hF
          obtain ⟨v22, h22, own22⟩ := hF.val ⟨2, .data⟩ (by simp) rfl _ rfl
          obtain ⟨_, h24, g24, rfl, hc24, hb24⟩ := hF.val ⟨4, .data⟩ (by simp) rfl _ rfl
          refine wpOp_step rfl (fun K hK => ?_)
          refine step_app_sl (S := fldS) rfl (.tmp 22) (.tmp 24) 23 rfl w5.heap.size 41 i0 (.agg #[.string ⟨#[]⟩, .int .i64 0]) 24 Tryd.underlying23 hi hz0 hz1 hz2 rfl _ ((0 + (o).length)) (([] ++ fldS.cells (o))) (getD_of h22) own22 ([(Fld.mk s x)]) (by rw [show a'.eval (.tmp 24) = _ from getD_of h24]; exact one_sl (S := fldS) (x := (Fld.mk s x)) hb24) (by first | decide | (simp [maxLen]; omega)) (by first | decide | (simp; omega)) hW.size ?_
          intro v' w'' hown hgrow hat
          exact hK _ _ ⟨_, rfl, RApp.second (by decide), hown, hW.grown hgrow hW.size (fun j hj => (own22.lt j hj).1)⟩
      · intro a' w' hL hW
        have hd := hL.defers
        have hs := hL.size
        obtain ⟨x20, h20⟩ := hL.some_at 20 (by show 20 < 47; decide)
        obtain ⟨_, h21, rfl⟩ := hL.val 1 _ rfl (by decide)
        obtain ⟨x22, h22⟩ := hL.some_at 22 (by show 22 < 47; decide)
        obtain ⟨_, h23, rfl⟩ := hL.val 3 _ rfl (by decide)
        obtain ⟨x24, h24⟩ := hL.some_at 24 (by show 24 < 47; decide)
        obtain ⟨v25, h25, own25⟩ := hL.val 5 _ rfl (by decide)
        have hlit := act_lit (l := [_, _, _, _, _, _, _, _, _, _, _, _, _, _, _, _, _, _, _, _, _, _, _, _, _, _, _, _, _, _, _, _, _, _, _, _, _, _, _, _, _, _, _, _, _, _, _]) (hd.trans rfl) (by rw [hs]; rfl) (AllAt.cons ((hL.at 0 (by kernel_rfl)).trans rfl) (AllAt.cons ((hL.at 1 (by kernel_rfl)).trans rfl) (AllAt.cons ((hL.at 2 (by kernel_rfl)).trans rfl) (AllAt.cons ((hL.at 3 (by kernel_rfl)).trans rfl) (AllAt.cons ((hL.at 4 (by kernel_rfl)).trans rfl) (AllAt.cons ((hL.at 5 (by kernel_rfl)).trans rfl) (AllAt.cons ((hL.at 6 (by kernel_rfl)).trans rfl) (AllAt.cons ((hL.at 7 (by kernel_rfl)).trans rfl) (AllAt.cons ((hL.at 8 (by kernel_rfl)).trans rfl) (AllAt.cons ((hL.at 9 (by kernel_rfl)).trans rfl) (AllAt.cons ((hL.at 10 (by kernel_rfl)).trans rfl) (AllAt.cons ((hL.at 11 (by kernel_rfl)).trans rfl) (AllAt.cons ((hL.at 12 (by kernel_rfl)).trans rfl) (AllAt.cons ((hL.at 13 (by kernel_rfl)).trans rfl) (AllAt.cons ((hL.at 14 (by kernel_rfl)).trans rfl) (AllAt.cons ((hL.at 15 (by kernel_rfl)).trans rfl) (AllAt.cons ((hL.at 16 (by kernel_rfl)).trans rfl) (AllAt.cons ((hL.at 17 (by kernel_rfl)).trans rfl) (AllAt.cons ((hL.at 18 (by kernel_rfl)).trans rfl) (AllAt.cons ((hL.at 19 (by kernel_rfl)).trans rfl) (AllAt.cons h20 (AllAt.cons h21 (AllAt.cons h22 (AllAt.cons h23 (AllAt.cons h24 (AllAt.cons h25 (AllAt.cons ((hL.at 26 (by kernel_rfl)).trans rfl) (AllAt.cons ((hL.at 27 (by kernel_rfl)).trans rfl) (AllAt.cons ((hL.at 28 (by kernel_rfl)).trans rfl) (AllAt.cons ((hL.at 29 (by kernel_rfl)).trans rfl) (AllAt.cons ((hL.at 30 (by kernel_rfl)).trans rfl) (AllAt.cons ((hL.at 31 (by kernel_rfl)).trans rfl) (AllAt.cons ((hL.at 32 (by kernel_rfl)).trans rfl) (AllAt.cons ((hL.at 33 (by kernel_rfl)).trans rfl) (AllAt.cons ((hL.at 34 (by kernel_rfl)).trans rfl) (AllAt.cons ((hL.at 35 (by kernel_rfl)).trans rfl) (AllAt.cons ((hL.at 36 (by kernel_rfl)).trans rfl) (AllAt.cons ((hL.at 37 (by kernel_rfl)).trans rfl) (AllAt.cons ((hL.at 38 (by kernel_rfl)).trans rfl) (AllAt.cons ((hL.at 39 (by kernel_rfl)).trans rfl) (AllAt.cons ((hL.at 40 (by kernel_rfl)).trans rfl) (AllAt.cons ((hL.at 41 (by kernel_rfl)).trans rfl) (AllAt.cons ((hL.at 42 (by kernel_rfl)).trans rfl) (AllAt.cons ((hL.at 43 (by kernel_rfl)).trans rfl) (AllAt.cons ((hL.at 44 (by kernel_rfl)).trans rfl) (AllAt.cons ((hL.at 45 (by kernel_rfl)).trans rfl) (AllAt.cons ((hL.at 46 (by kernel_rfl)).trans rfl) AllAt.nil)))))))))))))))))))))))))))))))))))))))))))))))
        clear hL hd hs h20 h21 h22 h23 h24 h25
        subst hlit
        have hsn : Sl fldS w' v25 (o ++ [Fld.mk s x]) := Sl.of_owns (by
          have o25 : w'.ownsRow w5.heap.size 41 fldS.sz v25 (0 + o.length + [Fld.mk s x].length) ([] ++ fldS.cells o ++ fldS.cells [Fld.mk s x]) := own25
          rw [List.length_append, fldS.cells_append]; simpa using o25)
        show wpOps _ _ _ [6] _ _
        rw [wpOps_cons]
        refine wpOp_step rfl (fun K hK => ?_)
        go_simp
        refine (s_FieldsValid _ (o ++ [Fld.mk s x]) _ hsn (dr_sizes (dr_snoc hdr hy))).mono ?_
        rintro e w6 ⟨rfl, hb6⟩
        refine hK _ _ ?_
        simp only [wpOps]
        have hB6 : Below w5.heap.size w5 w6 := below_trans hW hb6
        have hown6 := owns_below hown5 hB6
        have hR6 := hR5.below hB6
        have hE7 := hE6.trans (Ex.of_below hB6)
        have e0 := keep_cell hB6 d0
        have e1 := keep_cell hB6 d1
        clear hown5 hR5 hE6 d0 d1 hsl hsn own25 hW hb6 hB6
        cases hf : fieldsB (o ++ [Fld.mk s x])
        · go_wp2_with fail
          go_roundw
          case rel => exact ⟨k - 1, o, _, rfl, by go_num, by omega, by omega, hdr, hown6, hR6.mono (by omega), hE7⟩
          case measure => simp [intOf]; omega
        · go_wp2_with (at_builtin; refine wpList_app_sl (S := fldS) rfl _ _ 23 rfl w.heap.size 41 i0 (.agg #[.string ⟨#[]⟩, .int .i64 0]) 24 Tryd.underlying23 hi hz0 hz1 hz2 rfl _ _ _ rfl (hown6.alloc _) [Fld.mk s x] (one_sl (S := fldS) (x := Fld.mk s x) (heap_alloc_new _ _)) (by simp [maxLen]; omega) (by simp; omega) (by have := hE7.size; simp; omega) ?_; intro v7 w7 hown7 hgrow7 hat7; clear hat7)
          have hrow := fun g hg => (hown6.lt g hg).1
          have hE8 := ex_grown (hE7.alloc _) hgrow7 hrow
          have hR8 := (hR6.below (below1 _ _)).grown hgrow7 (fun g hg => Nat.lt_of_lt_of_le hrb (hrow g hg))
          go_roundw
          case rel => exact ⟨k - 1, o ++ [Fld.mk s x], _, rfl, by go_num, by omega, by simp; omega, dr_snoc hdr hy, by rw [List.length_append, fldS.cells_append]; exact hown7, hR8.mono (by omega), hE8⟩
          case measure => simp [intOf]; omega
end Go.Proofs.YtemjonibpachbaaDoor
