/- The walk of the reference's drawing function for feeds. No condition. -/
import Derived.Test.YtlmpkajnbdhppaaDrawIt
import Derived.Test.YtlmpkajnbdhppaaChain
import Derived.Test.YtlmpkajnbdhppaaNewS
namespace Go.Proofs.Ytlmpkajnbdhppaa
open Go.RowKit

/-- What the drawing of items leaves. -/
def FdRet (rb B m : Nat) (w : World) (e : Ending) (w' : World) : Prop :=
  ∃ v o, e = .returned v ∧ o.length ≤ m ∧ (∀ y ∈ o, DrItm y) ∧ w'.ownsRow w.heap.size 30 itmS.sz v o.length (itmS.cells o) ∧ Rd w' rb B ∧ Ex (· = rb) w w'
theorem FdRet.mk {rb B m : Nat} {w w' : World} {v : Value} {o : List Itm} (h1 : o.length ≤ m) (h2 : ∀ y ∈ o, DrItm y) (h3 : w'.ownsRow w.heap.size 30 itmS.sz v o.length (itmS.cells o)) (h4 : Rd w' rb B) (h5 : Ex (· = rb) w w') : FdRet rb B m w (.returned v) w' := ⟨v, o, rfl, h1, h2, h3, h4, h5⟩
theorem dr_snoc {o : List Itm} {y : Itm} (h : ∀ y ∈ o, DrItm y) (hy : DrItm y) : ∀ z ∈ o ++ [y], DrItm z := fun z hz => by
  rcases List.mem_append.1 hz with hz | hz
  · exact h z hz
  · rw [List.mem_singleton.1 hz]; exact hy

set_option maxHeartbeats 3200000 in
theorem feed_any (rb B0 : Nat) (n : Int) (w : World) (hR0 : Rd w rb B0) (hB : B0 ≤ 900000) (n1 : 0 ≤ n) (n2 : n ≤ 1000000) :
    Calls Try.prog 28 #[.pointer (some ⟨rb, 0, none⟩), .int .i64 n] w (FdRet rb (B0 + 160) 7 w) := by
  obtain ⟨i0, hi, hz0, hz1, hz2⟩ := info_parts Try.infoItm
  have hrb : rb < w.heap.size := hR0.lt
  go_enter Try.func28, Try.ntmps28
  go_wp2_with fail
  refine (pick_any rb B0 7 _ (hR0.below (below1 _ _)) (by omega) (by omega)).mono ?_
  rintro e w1 ⟨k0, rfl, hk0, hR1, hE1⟩
  obtain ⟨k1, rfl⟩ := Int.eq_ofNat_of_zero_le hk0.1
  have hk5 : k1 ≤ 6 := by have := hk0.2.1 (by decide); omega
  have hE : Ex (· = rb) w w1 := ((Ex.refl _ _).alloc _).trans hE1
  have hown : w1.ownsRow w.heap.size 30 itmS.sz (.slice (some ⟨w.heap.size, 0, none⟩) 0 0) 0 (itmS.cells []) := own_ex (Try.emptyItm w) hrb hE1
  clear hE1 hk0
  go_wp2_with fail
  go_loopw [5, 6] (fun V K wr => ∃ (k : Nat) (o : List Itm) (uV : Value), uV = V ∧ K = .int .i64 (k : Int) ∧ k ≤ 6 ∧ o.length + k ≤ 6 ∧ (∀ y ∈ o, DrItm y) ∧ wr.ownsRow w.heap.size 30 itmS.sz uV o.length (itmS.cells o) ∧ Rd wr rb (B0 + 1 + 20 * (6 - k)) ∧ Ex (· = rb) w wr) (fun _ K _ => (intOf K).toNat)
  case atStart => exact ⟨k1, [], _, rfl, rfl, hk5, by simp; omega, fun y hy => (by cases hy), hown, hR1.mono (by omega), hE⟩
  case round =>
    clear hown hR1 hE hk5
    obtain ⟨k, o, uV, rfl, rfl, hk, hlen, hdr, hown, hR, hE⟩ := hrel
    by_cases hk0 : k = 0
    · subst hk0
      go_wp2_with fail
      refine (odd_any rb _ n _ hR (by omega) n2 (by omega)).mono ?_
      rintro e w2 ⟨_, rfl, ⟨b, rfl⟩, hR2, hE2⟩
      replace hown := own_ex hown hrb hE2
      replace hE := hE.trans hE2
      replace hR := hR2.mono (show B0 + 1 + 20 * (6 - 0) + 1 ≤ B0 + 125 by omega)
      clear hR2 hE2
      cases b
      · go_wp2_with fail
        go_ret
        exact FdRet.mk (by omega) hdr hown (hR.mono (by omega)) hE
      · have last : ∀ (u : World), Ex (· = rb) w u → Rd u rb (B0 + 130) → u.ownsRow w.heap.size 30 itmS.sz uV o.length (itmS.cells o) → Calls Try.prog 48 #[.pointer (some ⟨rb, 0, none⟩), .int .i64 1] u (fun e u' => ItmRet rb (B0 + 150) u e u' ∧ u'.ownsRow w.heap.size 30 itmS.sz uV o.length (itmS.cells o) ∧ Ex (· = rb) w u') := fun u h1 h2 h3 =>
          (item_any rb _ 1 u h2 (by omega) (by decide) (by decide)).mono fun e u' h => ⟨h, own_ex h3 hrb (by obtain ⟨y, _, _, _, h4⟩ := h; exact h4), h1.trans (by obtain ⟨y, _, _, _, h4⟩ := h; exact h4)⟩
        obtain ⟨A, c, rfl⟩ : ∃ A c, uV = .slice A o.length c := by
          rcases hown.2 with ⟨rfl, h0⟩ | ⟨g, cap, cur, rfl, _⟩
          · exact ⟨none, 0, by rw [h0]⟩
          · exact ⟨_, _, rfl⟩
        by_cases ho : 0 < o.length
        · have ho1 : (0 : Int) < (o.length : Int) := by omega
          have ho2 : decide ((0 : Int) < (o.length : Int)) = true := decide_eq_true ho1
          go_wp2_with fail
          refine (pick_any rb _ 2 _ hR (by omega) (by omega)).mono ?_
          rintro e w3 ⟨x, rfl, hx, hR3, hE3⟩
          replace hown := own_ex hown hrb hE3
          replace hE := hE.trans hE3
          replace hR := hR3.mono (show B0 + 125 + 1 ≤ B0 + 130 by omega)
          clear hR3 hE3 hx
          by_cases hx : x = 0
          · subst hx
            obtain ⟨b, off, c', hv, hcap, hbs, hc⟩ := SlItm.open (Sl.of_owns (S := itmS) hown) ho
            injection hv with hv1 _ hv3
            subst hv1; subst hv3
            have c0 := (hc 0 ho).1
            have c1 := (hc 0 ho).2.1
            have c2 := (hc 0 ho).2.2.1
            have c3 := (hc 0 ho).2.2.2
            rw [Nat.zero_mul, Nat.add_zero] at c0 c1 c2 c3
            have ho3 : ¬ (o.length : Int) = 0 := by omega
            have ho4 : ¬ o.length = 0 := by omega
            clear hc last
            go_wp2_with (at_builtin; refine wpList_app_sl (S := itmS) rfl _ _ 23 rfl w.heap.size 30 i0 (.agg #[.string ⟨#[]⟩, .string ⟨#[]⟩, .string ⟨#[]⟩, .int .i64 0]) 56 Try.underlying23 hi hz0 hz1 hz2 rfl _ _ _ rfl (hown.alloc _) [o[0]] (one_sl (S := itmS) (x := o[0]) (heap_alloc_new _ _)) (by simp [maxLen]; omega) (by simp; omega) (by have := hE.size; rw [World.size_alloc]; omega) ?_; intro v5 w5 hown5 hgrow5 hat5; clear hat5)
            have hrow := fun g hg => (hown.lt g hg).1
            have hE6 := ex_grown (hE.alloc _) hgrow5 hrow
            have hR6 := (hR.below (below1 _ _)).grown hgrow5 (fun g hg => Nat.lt_of_lt_of_le hrb (hrow g hg))
            go_ret
            exact FdRet.mk (o := o ++ [o[0]]) (by simp; omega) (dr_snoc hdr (hdr _ (List.getElem_mem ho))) (by rw [List.length_append, itmS.cells_append]; exact hown5) (hR6.mono (by omega)) hE6
          · have hx2 : (x == 0) = false := by simpa using hx
            go_wp2_with fail
            refine (last _ hE hR hown).mono ?_
            rintro e w4 ⟨⟨y, rfl, hy, hR4, hE4⟩, hown4, hE5⟩
            clear last
            go_wp2_with (at_builtin; refine wpList_app_sl (S := itmS) rfl _ _ 23 rfl w.heap.size 30 i0 (.agg #[.string ⟨#[]⟩, .string ⟨#[]⟩, .string ⟨#[]⟩, .int .i64 0]) 56 Try.underlying23 hi hz0 hz1 hz2 rfl _ _ _ rfl (hown4.alloc _) [y] (one_sl (S := itmS) (x := y) (heap_alloc_new _ _)) (by simp [maxLen]; omega) (by simp; omega) (by have := hE5.size; rw [World.size_alloc]; omega) ?_; intro v5 w5 hown5 hgrow5 hat5; clear hat5)
            have hrow := fun g hg => (hown4.lt g hg).1
            have hE6 := ex_grown (hE5.alloc _) hgrow5 hrow
            have hR6 := (hR4.below (below1 _ _)).grown hgrow5 (fun g hg => Nat.lt_of_lt_of_le hrb (hrow g hg))
            go_ret
            exact FdRet.mk (o := o ++ [y]) (by simp; omega) (dr_snoc hdr hy) (by rw [List.length_append, itmS.cells_append]; exact hown5) (hR6.mono (by omega)) hE6
        · have ho1 : ¬ (0 : Int) < (o.length : Int) := by omega
          have ho2 : decide ((0 : Int) < (o.length : Int)) = false := decide_eq_false ho1
          go_wp2_with fail
          refine (last _ hE (hR.mono (by omega)) hown).mono ?_
          rintro e w4 ⟨⟨y, rfl, hy, hR4, hE4⟩, hown4, hE5⟩
          clear last
          go_wp2_with (at_builtin; refine wpList_app_sl (S := itmS) rfl _ _ 23 rfl w.heap.size 30 i0 (.agg #[.string ⟨#[]⟩, .string ⟨#[]⟩, .string ⟨#[]⟩, .int .i64 0]) 56 Try.underlying23 hi hz0 hz1 hz2 rfl _ _ _ rfl (hown4.alloc _) [y] (one_sl (S := itmS) (x := y) (heap_alloc_new _ _)) (by simp [maxLen]; omega) (by simp; omega) (by have := hE5.size; rw [World.size_alloc]; omega) ?_; intro v5 w5 hown5 hgrow5 hat5; clear hat5)
          have hrow := fun g hg => (hown4.lt g hg).1
          have hE6 := ex_grown (hE5.alloc _) hgrow5 hrow
          have hR6 := (hR4.below (below1 _ _)).grown hgrow5 (fun g hg => Nat.lt_of_lt_of_le hrb (hrow g hg))
          go_ret
          exact FdRet.mk (o := o ++ [y]) (by simp; omega) (dr_snoc hdr hy) (by rw [List.length_append, itmS.cells_append]; exact hown5) (hR6.mono (by omega)) hE6
    · have q0 : (0 : Int) < (k : Int) := by omega
      have q1 : decide ((0 : Int) < (k : Int)) = true := by simp; omega
      have q2 : IntKind.i64.wrap ((k : Int) - 1) = (k : Int) - 1 := IntWalk.i64_in _ (by omega)
      have q3 : decide (0 < k) = true := by simp; omega
      go_wp2_with fail
      refine (item_any rb _ 0 _ hR (by omega) (by omega) (by omega)).mono ?_
      rintro e w4 ⟨y, rfl, hy, hR4, hE4⟩
      have hown4 := own_ex hown hrb hE4
      have hE5 := hE.trans hE4
      clear hown hR hE hE4
      go_upto_region 6 with (fail)
      obtain ⟨w5, hw5⟩ : ∃ w5, w5 = w4.alloc (.cells #[.string y.key, .string y.title, .string y.body, .int .i64 y.day] 30) := ⟨_, rfl⟩
      rw [← hw5]
      have b5 : Below w4.heap.size w4 w5 := by rw [hw5]; exact below1 _ _
      have d0 : w5.cell? ⟨w4.heap.size, 0, none⟩ = some (.string y.key) := by rw [hw5]; simp [go_sem]
      have d1 : w5.cell? ⟨w4.heap.size, 1, none⟩ = some (.string y.title) := by rw [hw5]; simp [go_sem]
      have d2 : w5.cell? ⟨w4.heap.size, 2, none⟩ = some (.string y.body) := by rw [hw5]; simp [go_sem]
      have d3 : w5.cell? ⟨w4.heap.size, 3, none⟩ = some (.int .i64 y.day) := by rw [hw5]; simp [go_sem]
      have hbx : w4.heap.size < w5.heap.size := by rw [hw5, World.size_alloc]; omega
      have hown5 := owns_below hown4 b5
      have hR5 := hR4.below b5
      have hE6 := hE5.trans (Ex.of_below b5)
      clear hw5 hown4 hR4 hE5
      have hsl : Sl itmS w5 uV o := Sl.of_owns hown5
      refine wp_region_typed_used 6 (fun i w v => KTy.T 30 itmS.sz w5.heap.size (([.nil0, .is (uV), .own ((0 + (o).length)) (([] ++ itmS.cells (o))), .is (.agg #[.string y.key, .string y.title, .string y.body, .int .i64 y.day]), .one ((itmS.enc y).toArray), .own (((0 + (o).length) + ([y]).length)) ((([] ++ itmS.cells (o)) ++ itmS.cells ([y])))] : List KTy).getD i .any) w v) (fun i => ([2, 999, 5, 999, 5, 999] : List Nat).getD i 999) (fun w' => Below w5.heap.size w5 w') (RApp 30 2 5) (by kernel_rfl) 51 rfl (by decide) (by kernel_rfl) (by kernel_rfl) (by kernel_rfl) (by kernel_rfl) (Below.refl _ _).drew (tyApp (by kernel_rfl)) ?_ ?_
      · refine ⟨?_, ?_, ?_, ?_, ?_, ?_, trivial⟩
        · intro a' w' hW hF
          refine wpOp_step rfl (fun K hK => ?_)
          go_simp
          exact hK _ _ ⟨_, rfl, RApp.still (by decide) (World.grownBy_alloc _ _ _), ⟨w'.heap.size, rfl, hW.size, heap_alloc_new w' _⟩, hW.alloc hW.size _⟩
        · intro a' w' hW hF
          have h5 : a'.tmps[5]? = some (uV) := (hF.at 5 (by kernel_rfl)).trans rfl
          refine wpOp_step rfl (fun K hK => ?_)
          go_simp
          exact hK _ _ ⟨_, rfl, RApp.still (by decide) (World.grownBy.refl _ _), rfl, hW⟩
        · intro a' w' hW hF
          obtain ⟨_, h17, g17, rfl, hg17, hb17⟩ := hF.val ⟨0, .data⟩ (by simp) rfl _ rfl
          obtain ⟨_, h18, rfl⟩ := hF.val ⟨1, .data⟩ (by simp) rfl _ rfl
          refine wpOp_step rfl (fun K hK => ?_)
          refine step_app_sl (S := itmS) rfl (.tmp 17) (.tmp 18) 23 rfl w5.heap.size 30 i0 (.agg #[.string ⟨#[]⟩, .string ⟨#[]⟩, .string ⟨#[]⟩, .int .i64 0]) 56 Try.underlying23 hi hz0 hz1 hz2 rfl _ (0) ([]) (getD_of h17) (nil0_own hg17 hb17) (o) (by rw [show a'.eval (.tmp 18) = _ from getD_of h18]; exact hsl.mono hW) (by first | decide | (simp [maxLen]; omega)) (by first | decide | (simp; omega)) hW.size ?_
          intro v' w'' hown hgrow hat
          exact hK _ _ ⟨_, rfl, RApp.first hb17 hgrow, hown, hW.grown hgrow hW.size (fun j hj => by cases hj; exact hg17)⟩
        · intro a' w' hW hF
          have h7 : a'.tmps[7]? = some (.pointer (some ⟨w4.heap.size, 0, none⟩)) := (hF.at 7 (by kernel_rfl)).trans rfl
          have k0 : w'.cell? ⟨w4.heap.size, 0, none⟩ = some (.string y.key) := (hW.cell (p := ⟨w4.heap.size, 0, none⟩) hbx).trans d0
          have k1 : w'.cell? ⟨w4.heap.size, 1, none⟩ = some (.string y.title) := (hW.cell (p := ⟨w4.heap.size, 1, none⟩) hbx).trans d1
          have k2 : w'.cell? ⟨w4.heap.size, 2, none⟩ = some (.string y.body) := (hW.cell (p := ⟨w4.heap.size, 2, none⟩) hbx).trans d2
          have k3 : w'.cell? ⟨w4.heap.size, 3, none⟩ = some (.int .i64 y.day) := (hW.cell (p := ⟨w4.heap.size, 3, none⟩) hbx).trans d3
          refine wpOp_step rfl (fun K hK => ?_)
          go_simp
          exact hK _ _ ⟨_, rfl, RApp.still (by decide) (World.grownBy.refl _ _), rfl, hW⟩
        · intro a' w' hW hF
          obtain ⟨_, h20, rfl⟩ := hF.val ⟨3, .data⟩ (by simp) rfl _ rfl
          refine wpOp_step rfl (fun K hK => ?_)
          go_simp
          exact hK _ _ ⟨_, rfl, RApp.still (by decide) (World.grownBy_alloc _ _ _), ⟨w'.heap.size, rfl, by rw [List.size_toArray, itmS.len]; exact itmS.pos, heap_alloc_new w' _⟩, hW.alloc hW.size _⟩
        · intro a' w' hW hF
          obtain ⟨v19, h19, own19⟩ := hF.val ⟨2, .data⟩ (by simp) rfl _ rfl
          obtain ⟨_, h21, g21, rfl, hc21, hb21⟩ := hF.val ⟨4, .data⟩ (by simp) rfl _ rfl
          refine wpOp_step rfl (fun K hK => ?_)
          refine step_app_sl (S := itmS) rfl (.tmp 19) (.tmp 21) 23 rfl w5.heap.size 30 i0 (.agg #[.string ⟨#[]⟩, .string ⟨#[]⟩, .string ⟨#[]⟩, .int .i64 0]) 56 Try.underlying23 hi hz0 hz1 hz2 rfl _ ((0 + (o).length)) (([] ++ itmS.cells (o))) (getD_of h19) own19 ([y]) (by rw [show a'.eval (.tmp 21) = _ from getD_of h21]; exact one_sl (S := itmS) (x := y) hb21) (by first | decide | (simp [maxLen]; omega)) (by first | decide | (simp; omega)) hW.size ?_
          intro v' w'' hown hgrow hat
          exact hK _ _ ⟨_, rfl, RApp.second (by decide), hown, hW.grown hgrow hW.size (fun j hj => (own19.lt j hj).1)⟩
      · intro a' w' hL hW
        have hd := hL.defers
        have hs := hL.size
        obtain ⟨x17, h17⟩ := hL.some_at 17 (by show 17 < 51; decide)
        obtain ⟨_, h18, rfl⟩ := hL.val 1 _ rfl (by decide)
        obtain ⟨x19, h19⟩ := hL.some_at 19 (by show 19 < 51; decide)
        obtain ⟨_, h20, rfl⟩ := hL.val 3 _ rfl (by decide)
        obtain ⟨x21, h21⟩ := hL.some_at 21 (by show 21 < 51; decide)
        obtain ⟨v22, h22, own22⟩ := hL.val 5 _ rfl (by decide)
        have hlit := act_lit (l := [_, _, _, _, _, _, _, _, _, _, _, _, _, _, _, _, _, _, _, _, _, _, _, _, _, _, _, _, _, _, _, _, _, _, _, _, _, _, _, _, _, _, _, _, _, _, _, _, _, _, _]) (hd.trans rfl) (by rw [hs]; rfl) (AllAt.cons ((hL.at 0 (by kernel_rfl)).trans rfl) (AllAt.cons ((hL.at 1 (by kernel_rfl)).trans rfl) (AllAt.cons ((hL.at 2 (by kernel_rfl)).trans rfl) (AllAt.cons ((hL.at 3 (by kernel_rfl)).trans rfl) (AllAt.cons ((hL.at 4 (by kernel_rfl)).trans rfl) (AllAt.cons ((hL.at 5 (by kernel_rfl)).trans rfl) (AllAt.cons ((hL.at 6 (by kernel_rfl)).trans rfl) (AllAt.cons ((hL.at 7 (by kernel_rfl)).trans rfl) (AllAt.cons ((hL.at 8 (by kernel_rfl)).trans rfl) (AllAt.cons ((hL.at 9 (by kernel_rfl)).trans rfl) (AllAt.cons ((hL.at 10 (by kernel_rfl)).trans rfl) (AllAt.cons ((hL.at 11 (by kernel_rfl)).trans rfl) (AllAt.cons ((hL.at 12 (by kernel_rfl)).trans rfl) (AllAt.cons ((hL.at 13 (by kernel_rfl)).trans rfl) (AllAt.cons ((hL.at 14 (by kernel_rfl)).trans rfl) (AllAt.cons ((hL.at 15 (by kernel_rfl)).trans rfl) (AllAt.cons ((hL.at 16 (by kernel_rfl)).trans rfl) (AllAt.cons h17 (AllAt.cons h18 (AllAt.cons h19 (AllAt.cons h20 (AllAt.cons h21 (AllAt.cons h22 (AllAt.cons ((hL.at 23 (by kernel_rfl)).trans rfl) (AllAt.cons ((hL.at 24 (by kernel_rfl)).trans rfl) (AllAt.cons ((hL.at 25 (by kernel_rfl)).trans rfl) (AllAt.cons ((hL.at 26 (by kernel_rfl)).trans rfl) (AllAt.cons ((hL.at 27 (by kernel_rfl)).trans rfl) (AllAt.cons ((hL.at 28 (by kernel_rfl)).trans rfl) (AllAt.cons ((hL.at 29 (by kernel_rfl)).trans rfl) (AllAt.cons ((hL.at 30 (by kernel_rfl)).trans rfl) (AllAt.cons ((hL.at 31 (by kernel_rfl)).trans rfl) (AllAt.cons ((hL.at 32 (by kernel_rfl)).trans rfl) (AllAt.cons ((hL.at 33 (by kernel_rfl)).trans rfl) (AllAt.cons ((hL.at 34 (by kernel_rfl)).trans rfl) (AllAt.cons ((hL.at 35 (by kernel_rfl)).trans rfl) (AllAt.cons ((hL.at 36 (by kernel_rfl)).trans rfl) (AllAt.cons ((hL.at 37 (by kernel_rfl)).trans rfl) (AllAt.cons ((hL.at 38 (by kernel_rfl)).trans rfl) (AllAt.cons ((hL.at 39 (by kernel_rfl)).trans rfl) (AllAt.cons ((hL.at 40 (by kernel_rfl)).trans rfl) (AllAt.cons ((hL.at 41 (by kernel_rfl)).trans rfl) (AllAt.cons ((hL.at 42 (by kernel_rfl)).trans rfl) (AllAt.cons ((hL.at 43 (by kernel_rfl)).trans rfl) (AllAt.cons ((hL.at 44 (by kernel_rfl)).trans rfl) (AllAt.cons ((hL.at 45 (by kernel_rfl)).trans rfl) (AllAt.cons ((hL.at 46 (by kernel_rfl)).trans rfl) (AllAt.cons ((hL.at 47 (by kernel_rfl)).trans rfl) (AllAt.cons ((hL.at 48 (by kernel_rfl)).trans rfl) (AllAt.cons ((hL.at 49 (by kernel_rfl)).trans rfl) (AllAt.cons ((hL.at 50 (by kernel_rfl)).trans rfl) AllAt.nil)))))))))))))))))))))))))))))))))))))))))))))))))))
        clear hL hd hs h17 h18 h19 h20 h21 h22
        subst hlit
        have hsn : Sl itmS w' v22 (o ++ [y]) := Sl.of_owns (by
          have o25 : w'.ownsRow w5.heap.size 30 itmS.sz v22 (0 + o.length + [y].length) ([] ++ itmS.cells o ++ itmS.cells [y]) := own22
          rw [List.length_append, itmS.cells_append]; simpa using o25)
        show wpOps _ _ _ [6] _ _
        rw [wpOps_cons]
        refine wpOp_step rfl (fun K hK => ?_)
        go_simp
        refine (s_FeedValid _ (o ++ [y]) _ hsn (dr_szl (dr_snoc hdr hy))).mono ?_
        rintro e w6 ⟨rfl, hb6⟩
        refine hK _ _ ?_
        simp only [wpOps]
        have hB6 : Below w5.heap.size w5 w6 := below_trans hW hb6
        have hown6 := owns_below hown5 hB6
        have hR6 := hR5.below hB6
        have hE7 := hE6.trans (Ex.of_below hB6)
        have e0 := keep_cell hB6 d0
        have e1 := keep_cell hB6 d1
        have e2 := keep_cell hB6 d2
        have e3 := keep_cell hB6 d3
        clear hown5 hR5 hE6 d0 d1 d2 d3 hsl hsn own22 hW hb6 hB6
        cases hf : feedB (o ++ [y])
        · go_wp2_with fail
          go_roundw
          case rel => exact ⟨k - 1, o, _, rfl, by go_num, by omega, by omega, hdr, hown6, hR6.mono (by omega), hE7⟩
          case measure => simp [intOf]; omega
        · go_wp2_with (at_builtin; refine wpList_app_sl (S := itmS) rfl _ _ 23 rfl w.heap.size 30 i0 (.agg #[.string ⟨#[]⟩, .string ⟨#[]⟩, .string ⟨#[]⟩, .int .i64 0]) 56 Try.underlying23 hi hz0 hz1 hz2 rfl _ _ _ rfl (hown6.alloc _) [y] (one_sl (S := itmS) (x := y) (heap_alloc_new _ _)) (by simp [maxLen]; omega) (by simp; omega) (by have := hE7.size; rw [World.size_alloc]; omega) ?_; intro v7 w7 hown7 hgrow7 hat7; clear hat7)
          have hrow := fun g hg => (hown6.lt g hg).1
          have hE8 := ex_grown (hE7.alloc _) hgrow7 hrow
          have hR8 := (hR6.below (below1 _ _)).grown hgrow7 (fun g hg => Nat.lt_of_lt_of_le hrb (hrow g hg))
          go_roundw
          case rel => exact ⟨k - 1, o ++ [y], _, rfl, by go_num, by omega, by simp; omega, dr_snoc hdr hy, by rw [List.length_append, itmS.cells_append]; exact hown7, hR8.mono (by omega), hE8⟩
          case measure => simp [intOf]; omega
end Go.Proofs.Ytlmpkajnbdhppaa
