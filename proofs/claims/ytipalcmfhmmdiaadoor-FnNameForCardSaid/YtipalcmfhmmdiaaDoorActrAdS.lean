/- The walk of the reference's AddActor. Condition: the slice reads as the list, texts are no longer than a machine holds. -/
import Derived.Test.YtipalcmfhmmdiaaDoorActrAdd
import Derived.Test.YtipalcmfhmmdiaaDoorChain
namespace Go.Proofs.YtipalcmfhmmdiaaDoor
open Go.RowKit

set_option maxHeartbeats 3200000 in
theorem s_AddActor (v : Value) (l : List Actr) (x : Actr) (w : World) (h : Sl actrS w v l) (hs : FeedSizes l) (hb : l.length ≤ 1048576) (h1 : x.name.size ≤ 140737488355328) (h2 : x.feed.size ≤ 140737488355328) :
    Calls Tryd.prog 30 #[v, .agg #[.string x.name, .string x.feed, .int .i64 x.sign]] w (AddRet l x w) := by
  obtain ⟨i0, hi, hz0, hz1, hz2⟩ := info_parts Tryd.infoActr
  obtain ⟨A, c, rfl⟩ : ∃ A c, v = .slice A l.length c := by obtain ⟨a, c, h, _⟩ := h; exact ⟨a, c, h⟩
  have hB0 : Below w.heap.size w (w.alloc (.cells #[.string x.name, .string x.feed, .int .i64 x.sign] 40)) := below1 _ _
  cases ha : actorsB l
  · have HR : Hid (AddRel l x [] false) := .inl ⟨ha, rfl, rfl⟩
    go_enter Tryd.func30, Tryd.ntmps30
    go_wp2_with fail
    refine (s_ActorsValid _ l _ (h.mono hB0) hs).mono ?_
    rintro e w1 ⟨rfl, hb1⟩
    rw [ha]
    have hB1 := below_trans hB0 hb1
    have ho : (w1.alloc (.cells #[] 40)).ownsRow w.heap.size 40 actrS.sz (.slice (some ⟨w1.heap.size, 0, none⟩) 0 0) 0 [] := World.ownsRow_lit _ _ _ hB1.size (by simp [maxLen]) (by simp)
    have HO := Lib.hid ho
    clear ho
    go_wp2_with fail
    go_ret2
    exact AddRet.mk (out := []) HR.out HO.out (hB1.alloc hB1.size _)
  · have HA := Lib.hid ha
    go_enter Tryd.func30, Tryd.ntmps30
    go_wp2_with fail
    refine (s_ActorsValid _ l _ (h.mono hB0) hs).mono ?_
    rintro e w1 ⟨rfl, hb1⟩
    rw [ha]
    clear ha
    have c0 : w1.cell? ⟨w.heap.size, 0, none⟩ = some (.string x.name) := keep_cell hb1 (by simp)
    have c1 : w1.cell? ⟨w.heap.size, 1, none⟩ = some (.string x.feed) := keep_cell hb1 (by simp)
    have c2 : w1.cell? ⟨w.heap.size, 2, none⟩ = some (.int .i64 x.sign) := keep_cell hb1 (by simp)
    have hB1 := below_trans hB0 hb1
    clear hb1
    go_wp2_with fail
    go_loopw [6] (fun i wr => ∃ n : Nat, n ≤ l.length ∧ i = .int .i64 n ∧ LessTo l x.name n ∧ wr.cell? ⟨w.heap.size, 0, none⟩ = some (.string x.name) ∧ wr.cell? ⟨w.heap.size, 1, none⟩ = some (.string x.feed) ∧ wr.cell? ⟨w.heap.size, 2, none⟩ = some (.int .i64 x.sign) ∧ Below w.heap.size w wr) (fun i _ => l.length - (intOf i).toNat)
    case atStart => exact ⟨0, Nat.zero_le _, rfl, LessTo.zero _ _, c0, c1, c2, hB1⟩
    case round =>
      clear c0 c1 c2 hB1 hB0
      obtain ⟨n, hn, rfl, hT, c0, c1, c2, hB⟩ := hrel
      have q0 : (0 : Int) ≤ (n : Int) := by omega
      by_cases hlt : n < l.length
      · obtain ⟨b, off, cap, hv, hcap, hbs, hc⟩ := SlActr.open h (by omega)
        injection hv with hv1 _ hv3
        subst hv1; subst hv3
        have d0 : wr.cell? ⟨b, off + n * 3, none⟩ = some (.string l[n].name) := (hB.cell (p := ⟨b, off + n * 3, none⟩) hbs).trans (hc n hlt).1
        have q1 : (n : Int) < (l.length : Int) := by omega
        clear hc
        cases hl : Op.bytesLess l[n].name.toList x.name.toList
        · have HT : Hid (AtRel l x.name n) := ⟨hn, hT, fun _ => hl⟩
          clear hT
          go_wp2_with fail
          go_quiet (fail)
          obtain ⟨A, hA⟩ : ∃ A : Option Addr, A = some ⟨b, off, none⟩ := ⟨_, rfl⟩
          rw [← hA] at h ⊢
          have c0 : (wr.drewN nq).cell? ⟨w.heap.size, 0, none⟩ = some (.string x.name) := c0
          have c1 : (wr.drewN nq).cell? ⟨w.heap.size, 1, none⟩ = some (.string x.feed) := c1
          have c2 : (wr.drewN nq).cell? ⟨w.heap.size, 2, none⟩ = some (.int .i64 x.sign) := c2
          have hB2 : Below w.heap.size w (wr.drewN nq) := belowN hB nq
          clear hA hB d0
          generalize wr.drewN nq = w2 at *
          have hs2 : Sl actrS w2 (.slice A l.length c) l := h.mono hB2
          have hbx : w.heap.size < w2.heap.size := World.block_lt_of_cell? w2 _ c0
          have hcc : l.length ≤ c ∧ c ≤ maxLen := by obtain ⟨_, _, e, h1, h2, _⟩ := h; injection e with _ _ e; subst e; exact ⟨h1, h2⟩
          obtain ⟨hcc1, hcc2⟩ := hcc
          have qn1 : (n : Int) ≤ (l.length : Int) := by omega
          have qn2 : (l.length : Int) ≤ (c : Int) := by omega
          have qn3 : (n : Int) ≤ (c : Int) := by omega
          have hl8 : l.length ≤ 8 := (goodB_iff.1 HA.out).1
          go_wp2_with fail
          refine wp_region_typed_used 11 (fun i w v => KTy.T 40 actrS.sz w2.heap.size (([.nil0, .is (.slice A l.length c), .is (.int .i64 (n : Int)), .is (.slice A n c), .own ((0 + (l.take n).length)) (([] ++ actrS.cells (l.take n))), .is (.agg #[.string x.name, .string x.feed, .int .i64 x.sign]), .one ((actrS.enc x).toArray), .own (((0 + (l.take n).length) + ([x]).length)) ((([] ++ actrS.cells (l.take n)) ++ actrS.cells ([x]))), .is (.slice A l.length c), .is (.int .i64 (n : Int)), .is (.slice (if c = n then A else A.map (·.add (n * 3))) (l.length - n) (c - n))] : List KTy).getD i .any) w v) (fun i => ([4, 999, 999, 999, 7, 999, 7, 999, 999, 999, 999] : List Nat).getD i 999) (fun w' => Below w2.heap.size w2 w') (RApp 40 4 7) (by kernel_rfl) 47 rfl (by decide) (by kernel_rfl) (by kernel_rfl) (by kernel_rfl) (by kernel_rfl) (Below.refl _ _).drew (tyApp (by kernel_rfl)) ?_ ?_
          · refine ⟨?_, ?_, ?_, ?_, ?_, ?_, ?_, ?_, ?_, ?_, ?_, trivial⟩
            · intro a' w' hW hF
              refine wpOp_step rfl (fun K hK => ?_)
              go_simp
              exact hK _ _ ⟨_, rfl, RApp.still (by decide) (World.grownBy_alloc _ _ _), ⟨w'.heap.size, rfl, hW.size, heap_alloc_new w' _⟩, hW.alloc hW.size _⟩
            · intro a' w' hW hF
              have h0 : a'.tmps[0]? = some (.slice A l.length c) := (hF.at 0 (by kernel_rfl)).trans rfl
              refine wpOp_step rfl (fun K hK => ?_)
              go_simp
              exact hK _ _ ⟨_, rfl, RApp.still (by decide) (World.grownBy.refl _ _), rfl, hW⟩
            · intro a' w' hW hF
              have h6 : a'.tmps[6]? = some (.int .i64 (n : Int)) := (hF.at 6 (by kernel_rfl)).trans rfl
              refine wpOp_step rfl (fun K hK => ?_)
              go_simp
              exact hK _ _ ⟨_, rfl, RApp.still (by decide) (World.grownBy.refl _ _), rfl, hW⟩
            · intro a' w' hW hF
              obtain ⟨_, h29, rfl⟩ := hF.val ⟨1, .data⟩ (by simp) rfl _ rfl
              obtain ⟨_, h30, rfl⟩ := hF.val ⟨2, .data⟩ (by simp) rfl _ rfl
              refine wpOp_step rfl (fun K hK => ?_)
              go_simp
              exact hK _ _ ⟨_, rfl, RApp.still (by decide) (World.grownBy.refl _ _), rfl, hW⟩
            · intro a' w' hW hF
              obtain ⟨_, h28, g28, rfl, hg28, hb28⟩ := hF.val ⟨0, .data⟩ (by simp) rfl _ rfl
              obtain ⟨_, h31, rfl⟩ := hF.val ⟨3, .data⟩ (by simp) rfl _ rfl
              refine wpOp_step rfl (fun K hK => ?_)
              refine step_app_sl (S := actrS) rfl (.tmp 28) (.tmp 31) 25 rfl w2.heap.size 40 i0 (.agg #[.string ⟨#[]⟩, .string ⟨#[]⟩, .int .i64 0]) 40 Tryd.underlying25 hi hz0 hz1 hz2 rfl _ (0) ([]) (getD_of h28) (nil0_own hg28 hb28) (l.take n) (by rw [show a'.eval (.tmp 31) = _ from getD_of h31]; exact Sl.take (hs2.mono hW) n hn) (by first | decide | (simp [maxLen]; omega)) (by first | decide | (simp; omega)) hW.size ?_
              intro v' w'' hown hgrow hat
              exact hK _ _ ⟨_, rfl, RApp.first hb28 hgrow, hown, hW.grown hgrow hW.size (fun j hj => by cases hj; exact hg28)⟩
            · intro a' w' hW hF
              have h3 : a'.tmps[3]? = some (.pointer (some ⟨w.heap.size, 0, none⟩)) := (hF.at 3 (by kernel_rfl)).trans rfl
              have k0 : w'.cell? ⟨w.heap.size, 0, none⟩ = some (.string x.name) := (hW.cell (p := ⟨w.heap.size, 0, none⟩) hbx).trans c0
              have k1 : w'.cell? ⟨w.heap.size, 1, none⟩ = some (.string x.feed) := (hW.cell (p := ⟨w.heap.size, 1, none⟩) hbx).trans c1
              have k2 : w'.cell? ⟨w.heap.size, 2, none⟩ = some (.int .i64 x.sign) := (hW.cell (p := ⟨w.heap.size, 2, none⟩) hbx).trans c2
              refine wpOp_step rfl (fun K hK => ?_)
              go_simp
              exact hK _ _ ⟨_, rfl, RApp.still (by decide) (World.grownBy.refl _ _), rfl, hW⟩
            · intro a' w' hW hF
              obtain ⟨_, h33, rfl⟩ := hF.val ⟨5, .data⟩ (by simp) rfl _ rfl
              refine wpOp_step rfl (fun K hK => ?_)
              go_simp
              exact hK _ _ ⟨_, rfl, RApp.still (by decide) (World.grownBy_alloc _ _ _), ⟨w'.heap.size, rfl, by rw [List.size_toArray, actrS.len]; exact actrS.pos, heap_alloc_new w' _⟩, hW.alloc hW.size _⟩
            · intro a' w' hW hF
              obtain ⟨v32, h32, own32⟩ := hF.val ⟨4, .data⟩ (by simp) rfl _ rfl
              obtain ⟨_, h34, g34, rfl, hc34, hb34⟩ := hF.val ⟨6, .data⟩ (by simp) rfl _ rfl
              refine wpOp_step rfl (fun K hK => ?_)
              refine step_app_sl (S := actrS) rfl (.tmp 32) (.tmp 34) 25 rfl w2.heap.size 40 i0 (.agg #[.string ⟨#[]⟩, .string ⟨#[]⟩, .int .i64 0]) 40 Tryd.underlying25 hi hz0 hz1 hz2 rfl _ ((0 + (l.take n).length)) (([] ++ actrS.cells (l.take n))) (getD_of h32) own32 ([x]) (by rw [show a'.eval (.tmp 34) = _ from getD_of h34]; exact one_sl (S := actrS) (x := x) hb34) (by first | decide | (simp [maxLen]; omega)) (by first | decide | (simp; omega)) hW.size ?_
              intro v' w'' hown hgrow hat
              exact hK _ _ ⟨_, rfl, RApp.second (by decide), hown, hW.grown hgrow hW.size (fun j hj => (own32.lt j hj).1)⟩
            · intro a' w' hW hF
              have h0 : a'.tmps[0]? = some (.slice A l.length c) := (hF.at 0 (by kernel_rfl)).trans rfl
              refine wpOp_step rfl (fun K hK => ?_)
              go_simp
              exact hK _ _ ⟨_, rfl, RApp.still (by decide) (World.grownBy.refl _ _), rfl, hW⟩
            · intro a' w' hW hF
              have h6 : a'.tmps[6]? = some (.int .i64 (n : Int)) := (hF.at 6 (by kernel_rfl)).trans rfl
              refine wpOp_step rfl (fun K hK => ?_)
              go_simp
              exact hK _ _ ⟨_, rfl, RApp.still (by decide) (World.grownBy.refl _ _), rfl, hW⟩
            · intro a' w' hW hF
              obtain ⟨_, h36, rfl⟩ := hF.val ⟨8, .data⟩ (by simp) rfl _ rfl
              obtain ⟨_, h37, rfl⟩ := hF.val ⟨9, .data⟩ (by simp) rfl _ rfl
              refine wpOp_step rfl (fun K hK => ?_)
              go_simp
              exact hK _ _ ⟨_, rfl, RApp.still (by decide) (World.grownBy.refl _ _), rfl, hW⟩
          · intro a' w' hL hW
            have hd := hL.defers
            have hs := hL.size
            obtain ⟨x28, h28⟩ := hL.some_at 28 (by show 28 < 47; decide)
            obtain ⟨_, h29, rfl⟩ := hL.val 1 _ rfl (by decide)
            obtain ⟨_, h30, rfl⟩ := hL.val 2 _ rfl (by decide)
            obtain ⟨_, h31, rfl⟩ := hL.val 3 _ rfl (by decide)
            obtain ⟨x32, h32⟩ := hL.some_at 32 (by show 32 < 47; decide)
            obtain ⟨_, h33, rfl⟩ := hL.val 5 _ rfl (by decide)
            obtain ⟨x34, h34⟩ := hL.some_at 34 (by show 34 < 47; decide)
            obtain ⟨v35, h35, own35⟩ := hL.val 7 _ rfl (by decide)
            obtain ⟨_, h36, rfl⟩ := hL.val 8 _ rfl (by decide)
            obtain ⟨_, h37, rfl⟩ := hL.val 9 _ rfl (by decide)
            obtain ⟨_, h38, rfl⟩ := hL.val 10 _ rfl (by decide)
            have hlit := act_lit (l := [_, _, _, _, _, _, _, _, _, _, _, _, _, _, _, _, _, _, _, _, _, _, _, _, _, _, _, _, _, _, _, _, _, _, _, _, _, _, _, _, _, _, _, _, _, _, _]) (hd.trans rfl) (by rw [hs]; rfl) (AllAt.cons ((hL.at 0 (by kernel_rfl)).trans rfl) (AllAt.cons ((hL.at 1 (by kernel_rfl)).trans rfl) (AllAt.cons ((hL.at 2 (by kernel_rfl)).trans rfl) (AllAt.cons ((hL.at 3 (by kernel_rfl)).trans rfl) (AllAt.cons ((hL.at 4 (by kernel_rfl)).trans rfl) (AllAt.cons ((hL.at 5 (by kernel_rfl)).trans rfl) (AllAt.cons ((hL.at 6 (by kernel_rfl)).trans rfl) (AllAt.cons ((hL.at 7 (by kernel_rfl)).trans rfl) (AllAt.cons ((hL.at 8 (by kernel_rfl)).trans rfl) (AllAt.cons ((hL.at 9 (by kernel_rfl)).trans rfl) (AllAt.cons ((hL.at 10 (by kernel_rfl)).trans rfl) (AllAt.cons ((hL.at 11 (by kernel_rfl)).trans rfl) (AllAt.cons ((hL.at 12 (by kernel_rfl)).trans rfl) (AllAt.cons ((hL.at 13 (by kernel_rfl)).trans rfl) (AllAt.cons ((hL.at 14 (by kernel_rfl)).trans rfl) (AllAt.cons ((hL.at 15 (by kernel_rfl)).trans rfl) (AllAt.cons ((hL.at 16 (by kernel_rfl)).trans rfl) (AllAt.cons ((hL.at 17 (by kernel_rfl)).trans rfl) (AllAt.cons ((hL.at 18 (by kernel_rfl)).trans rfl) (AllAt.cons ((hL.at 19 (by kernel_rfl)).trans rfl) (AllAt.cons ((hL.at 20 (by kernel_rfl)).trans rfl) (AllAt.cons ((hL.at 21 (by kernel_rfl)).trans rfl) (AllAt.cons ((hL.at 22 (by kernel_rfl)).trans rfl) (AllAt.cons ((hL.at 23 (by kernel_rfl)).trans rfl) (AllAt.cons ((hL.at 24 (by kernel_rfl)).trans rfl) (AllAt.cons ((hL.at 25 (by kernel_rfl)).trans rfl) (AllAt.cons ((hL.at 26 (by kernel_rfl)).trans rfl) (AllAt.cons ((hL.at 27 (by kernel_rfl)).trans rfl) (AllAt.cons h28 (AllAt.cons h29 (AllAt.cons h30 (AllAt.cons h31 (AllAt.cons h32 (AllAt.cons h33 (AllAt.cons h34 (AllAt.cons h35 (AllAt.cons h36 (AllAt.cons h37 (AllAt.cons h38 (AllAt.cons ((hL.at 39 (by kernel_rfl)).trans rfl) (AllAt.cons ((hL.at 40 (by kernel_rfl)).trans rfl) (AllAt.cons ((hL.at 41 (by kernel_rfl)).trans rfl) (AllAt.cons ((hL.at 42 (by kernel_rfl)).trans rfl) (AllAt.cons ((hL.at 43 (by kernel_rfl)).trans rfl) (AllAt.cons ((hL.at 44 (by kernel_rfl)).trans rfl) (AllAt.cons ((hL.at 45 (by kernel_rfl)).trans rfl) (AllAt.cons ((hL.at 46 (by kernel_rfl)).trans rfl) AllAt.nil)))))))))))))))))))))))))))))))))))))))))))))))
            clear hL hd hs h28 h29 h30 h31 h32 h33 h34 h35 h36 h37 h38
            subst hlit
            show wpOps _ _ _ [11, 12] _ _
            rw [wpOps_cons]
            refine wpOp_step rfl (fun K hK => ?_)
            refine step_app_sl (S := actrS) rfl (.tmp 35) (.tmp 38) 25 rfl w2.heap.size 40 i0 (.agg #[.string ⟨#[]⟩, .string ⟨#[]⟩, .int .i64 0]) 40 Tryd.underlying25 hi hz0 hz1 hz2 rfl v35 _ _ rfl own35 (l.drop n) ((hs2.mono hW).drop n hn) (by simp [maxLen]; omega) (by simp; omega) hW.size ?_
            intro v3 w3 hown hgrow hat
            generalize (if c = n then A else A.map (·.add (n * 3))) = A38
            have hB3 : Below w.heap.size w w3 := (hB2.trans (hW.mono hB2.size)).grown hgrow (Nat.le_trans hB2.size hW.size) (fun j hj => Nat.le_trans hB2.size (own35.lt j hj).1)
            have hlen : 0 + (l.take n).length + [x].length + (l.drop n).length = (insAt l x n).length := by rw [insAt_len]; simp; omega
            have hcel : [] ++ actrS.cells (l.take n) ++ actrS.cells [x] ++ actrS.cells (l.drop n) = actrS.cells (insAt l x n) := by
              unfold insAt
              rw [List.nil_append, ← actrS.cells_append, ← actrS.cells_append, List.append_assoc]; rfl
            rw [hlen, hcel] at hown
            have hown3' := owns_base hown hB2.size
            clear hown hlen hcel hgrow hat own35 hW
            refine hK _ _ ?_
            rw [wpOps_cons]
            refine wpOp_step rfl (fun K hK => ?_)
            go_simp
            refine hK _ _ ?_
            simp only [wpOps]
            clear c0 c1 c2 hs2
            cases hm : actorsB (insAt l x n)
            · have HR : Hid (AddRel l x l false) := .inr ⟨HA.out, n, HT.out, .inr ⟨hm, rfl, rfl⟩⟩
              go_wp2_with fail
              refine (s_ActorsValid _ (insAt l x n) _ (Sl.of_owns hown3') (insAt_sizes hs h1 h2)).mono ?_
              rintro e w4 ⟨rfl, hb4⟩
              rw [hm]
              have hB4 := below_trans hB3 hb4
              have hs4 := (h.mono hB4).mono (below1 w4 (.cells #[] 40))
              have ho4 : (w4.alloc (.cells #[] 40)).ownsRow w.heap.size 40 actrS.sz (.slice (some ⟨w4.heap.size, 0, none⟩) 0 0) 0 [] := World.ownsRow_lit _ _ _ hB4.size (by simp [maxLen]) (by simp)
              have hB5 : Below w.heap.size w (w4.alloc (.cells #[] 40)) := hB4.alloc hB4.size _
              clear hown3'
              go_wp2_with (at_builtin; refine wpList_app_sl (S := actrS) rfl (.tmp 43) (.tmp 44) 25 rfl w.heap.size 40 i0 (.agg #[.string ⟨#[]⟩, .string ⟨#[]⟩, .int .i64 0]) 40 Tryd.underlying25 hi hz0 hz1 hz2 rfl _ _ _ rfl ho4 l hs4 (by simp [maxLen]; omega) (by omega) hB5.size ?_; intro v6 w6 hown6 hgrow6 hat6; clear hat6)
              go_ret2
              rw [Nat.zero_add, List.nil_append] at hown6
              exact AddRet.mk HR.out hown6 (hB5.grown hgrow6 hB5.size (fun k hk => (ho4.lt k hk).1))
            · have HR : Hid (AddRel l x (insAt l x n) true) := .inr ⟨HA.out, n, HT.out, .inl ⟨hm, rfl, rfl⟩⟩
              go_wp2_with fail
              refine (s_ActorsValid _ (insAt l x n) _ (Sl.of_owns hown3') (insAt_sizes hs h1 h2)).mono ?_
              rintro e w4 ⟨rfl, hb4⟩
              rw [hm]
              have hB4 := below_trans hB3 hb4
              have hown4 := owns_below hown3' hb4
              clear hown3'
              go_wp2_with fail
              go_ret2
              exact AddRet.mk HR.out hown4 hB4
        · have HT : Hid (LessTo l x.name (n + 1)) := hT.succ hlt hl
          clear hT
          go_wp2_with fail
          go_quiet (fail)
          go_wp2_with fail
          go_roundw
          case rel => exact ⟨n + 1, by omega, by go_num, HT.out, c0, c1, c2, belowN hB _⟩
          case measure => simp [intOf]; omega
      · have HT : Hid (AtRel l x.name n) := ⟨hn, hT, fun h => absurd h hlt⟩
        have g1 : decide ((n : Int) < (l.length : Int)) = false := by simp; omega
        have g2 : decide (n < l.length) = false := by simp; omega
        clear hT hlt
        go_wp2_with fail
        go_quiet (fail)
        have c0 : (wr.drewN nq).cell? ⟨w.heap.size, 0, none⟩ = some (.string x.name) := c0
        have c1 : (wr.drewN nq).cell? ⟨w.heap.size, 1, none⟩ = some (.string x.feed) := c1
        have c2 : (wr.drewN nq).cell? ⟨w.heap.size, 2, none⟩ = some (.int .i64 x.sign) := c2
        have hB2 : Below w.heap.size w (wr.drewN nq) := belowN hB nq
        clear hB g1 g2
        generalize wr.drewN nq = w2 at *
        have hs2 : Sl actrS w2 (.slice A l.length c) l := h.mono hB2
        have hbx : w.heap.size < w2.heap.size := World.block_lt_of_cell? w2 _ c0
        have hcc : l.length ≤ c ∧ c ≤ maxLen := by obtain ⟨_, _, e, h1, h2, _⟩ := h; injection e with _ _ e; subst e; exact ⟨h1, h2⟩
        obtain ⟨hcc1, hcc2⟩ := hcc
        have qn1 : (n : Int) ≤ (l.length : Int) := by omega
        have qn2 : (l.length : Int) ≤ (c : Int) := by omega
        have qn3 : (n : Int) ≤ (c : Int) := by omega
        have hl8 : l.length ≤ 8 := (goodB_iff.1 HA.out).1
        go_wp2_with fail
        refine wp_region_typed_used 11 (fun i w v => KTy.T 40 actrS.sz w2.heap.size (([.nil0, .is (.slice A l.length c), .is (.int .i64 (n : Int)), .is (.slice A n c), .own ((0 + (l.take n).length)) (([] ++ actrS.cells (l.take n))), .is (.agg #[.string x.name, .string x.feed, .int .i64 x.sign]), .one ((actrS.enc x).toArray), .own (((0 + (l.take n).length) + ([x]).length)) ((([] ++ actrS.cells (l.take n)) ++ actrS.cells ([x]))), .is (.slice A l.length c), .is (.int .i64 (n : Int)), .is (.slice (if c = n then A else A.map (·.add (n * 3))) (l.length - n) (c - n))] : List KTy).getD i .any) w v) (fun i => ([4, 999, 999, 999, 7, 999, 7, 999, 999, 999, 999] : List Nat).getD i 999) (fun w' => Below w2.heap.size w2 w') (RApp 40 4 7) (by kernel_rfl) 47 rfl (by decide) (by kernel_rfl) (by kernel_rfl) (by kernel_rfl) (by kernel_rfl) (Below.refl _ _).drew (tyApp (by kernel_rfl)) ?_ ?_
        · refine ⟨?_, ?_, ?_, ?_, ?_, ?_, ?_, ?_, ?_, ?_, ?_, trivial⟩
          · intro a' w' hW hF
            refine wpOp_step rfl (fun K hK => ?_)
            go_simp
            exact hK _ _ ⟨_, rfl, RApp.still (by decide) (World.grownBy_alloc _ _ _), ⟨w'.heap.size, rfl, hW.size, heap_alloc_new w' _⟩, hW.alloc hW.size _⟩
          · intro a' w' hW hF
            have h0 : a'.tmps[0]? = some (.slice A l.length c) := (hF.at 0 (by kernel_rfl)).trans rfl
            refine wpOp_step rfl (fun K hK => ?_)
            go_simp
            exact hK _ _ ⟨_, rfl, RApp.still (by decide) (World.grownBy.refl _ _), rfl, hW⟩
          · intro a' w' hW hF
            have h6 : a'.tmps[6]? = some (.int .i64 (n : Int)) := (hF.at 6 (by kernel_rfl)).trans rfl
            refine wpOp_step rfl (fun K hK => ?_)
            go_simp
            exact hK _ _ ⟨_, rfl, RApp.still (by decide) (World.grownBy.refl _ _), rfl, hW⟩
          · intro a' w' hW hF
            obtain ⟨_, h29, rfl⟩ := hF.val ⟨1, .data⟩ (by simp) rfl _ rfl
            obtain ⟨_, h30, rfl⟩ := hF.val ⟨2, .data⟩ (by simp) rfl _ rfl
            refine wpOp_step rfl (fun K hK => ?_)
            go_simp
            exact hK _ _ ⟨_, rfl, RApp.still (by decide) (World.grownBy.refl _ _), rfl, hW⟩
          · intro a' w' hW hF
            obtain ⟨_, h28, g28, rfl, hg28, hb28⟩ := hF.val ⟨0, .data⟩ (by simp) rfl _ rfl
            obtain ⟨_, h31, rfl⟩ := hF.val ⟨3, .data⟩ (by simp) rfl _ rfl
            refine wpOp_step rfl (fun K hK => ?_)
            refine step_app_sl (S := actrS) rfl (.tmp 28) (.tmp 31) 25 rfl w2.heap.size 40 i0 (.agg #[.string ⟨#[]⟩, .string ⟨#[]⟩, .int .i64 0]) 40 Tryd.underlying25 hi hz0 hz1 hz2 rfl _ (0) ([]) (getD_of h28) (nil0_own hg28 hb28) (l.take n) (by rw [show a'.eval (.tmp 31) = _ from getD_of h31]; exact Sl.take (hs2.mono hW) n hn) (by first | decide | (simp [maxLen]; omega)) (by first | decide | (simp; omega)) hW.size ?_
            intro v' w'' hown hgrow hat
            exact hK _ _ ⟨_, rfl, RApp.first hb28 hgrow, hown, hW.grown hgrow hW.size (fun j hj => by cases hj; exact hg28)⟩
          · intro a' w' hW hF
            have h3 : a'.tmps[3]? = some (.pointer (some ⟨w.heap.size, 0, none⟩)) := (hF.at 3 (by kernel_rfl)).trans rfl
            have k0 : w'.cell? ⟨w.heap.size, 0, none⟩ = some (.string x.name) := (hW.cell (p := ⟨w.heap.size, 0, none⟩) hbx).trans c0
            have k1 : w'.cell? ⟨w.heap.size, 1, none⟩ = some (.string x.feed) := (hW.cell (p := ⟨w.heap.size, 1, none⟩) hbx).trans c1
            have k2 : w'.cell? ⟨w.heap.size, 2, none⟩ = some (.int .i64 x.sign) := (hW.cell (p := ⟨w.heap.size, 2, none⟩) hbx).trans c2
            refine wpOp_step rfl (fun K hK => ?_)
            go_simp
            exact hK _ _ ⟨_, rfl, RApp.still (by decide) (World.grownBy.refl _ _), rfl, hW⟩
          · intro a' w' hW hF
            obtain ⟨_, h33, rfl⟩ := hF.val ⟨5, .data⟩ (by simp) rfl _ rfl
            refine wpOp_step rfl (fun K hK => ?_)
            go_simp
            exact hK _ _ ⟨_, rfl, RApp.still (by decide) (World.grownBy_alloc _ _ _), ⟨w'.heap.size, rfl, by rw [List.size_toArray, actrS.len]; exact actrS.pos, heap_alloc_new w' _⟩, hW.alloc hW.size _⟩
          · intro a' w' hW hF
            obtain ⟨v32, h32, own32⟩ := hF.val ⟨4, .data⟩ (by simp) rfl _ rfl
            obtain ⟨_, h34, g34, rfl, hc34, hb34⟩ := hF.val ⟨6, .data⟩ (by simp) rfl _ rfl
            refine wpOp_step rfl (fun K hK => ?_)
            refine step_app_sl (S := actrS) rfl (.tmp 32) (.tmp 34) 25 rfl w2.heap.size 40 i0 (.agg #[.string ⟨#[]⟩, .string ⟨#[]⟩, .int .i64 0]) 40 Tryd.underlying25 hi hz0 hz1 hz2 rfl _ ((0 + (l.take n).length)) (([] ++ actrS.cells (l.take n))) (getD_of h32) own32 ([x]) (by rw [show a'.eval (.tmp 34) = _ from getD_of h34]; exact one_sl (S := actrS) (x := x) hb34) (by first | decide | (simp [maxLen]; omega)) (by first | decide | (simp; omega)) hW.size ?_
            intro v' w'' hown hgrow hat
            exact hK _ _ ⟨_, rfl, RApp.second (by decide), hown, hW.grown hgrow hW.size (fun j hj => (own32.lt j hj).1)⟩
          · intro a' w' hW hF
            have h0 : a'.tmps[0]? = some (.slice A l.length c) := (hF.at 0 (by kernel_rfl)).trans rfl
            refine wpOp_step rfl (fun K hK => ?_)
            go_simp
            exact hK _ _ ⟨_, rfl, RApp.still (by decide) (World.grownBy.refl _ _), rfl, hW⟩
          · intro a' w' hW hF
            have h6 : a'.tmps[6]? = some (.int .i64 (n : Int)) := (hF.at 6 (by kernel_rfl)).trans rfl
            refine wpOp_step rfl (fun K hK => ?_)
            go_simp
            exact hK _ _ ⟨_, rfl, RApp.still (by decide) (World.grownBy.refl _ _), rfl, hW⟩
          · intro a' w' hW hF
            obtain ⟨_, h36, rfl⟩ := hF.val ⟨8, .data⟩ (by simp) rfl _ rfl
            obtain ⟨_, h37, rfl⟩ := hF.val ⟨9, .data⟩ (by simp) rfl _ rfl
            refine wpOp_step rfl (fun K hK => ?_)
            go_simp
            exact hK _ _ ⟨_, rfl, RApp.still (by decide) (World.grownBy.refl _ _), rfl, hW⟩
        · intro a' w' hL hW
          have hd := hL.defers
          have hs := hL.size
          obtain ⟨x28, h28⟩ := hL.some_at 28 (by show 28 < 47; decide)
          obtain ⟨_, h29, rfl⟩ := hL.val 1 _ rfl (by decide)
          obtain ⟨_, h30, rfl⟩ := hL.val 2 _ rfl (by decide)
          obtain ⟨_, h31, rfl⟩ := hL.val 3 _ rfl (by decide)
          obtain ⟨x32, h32⟩ := hL.some_at 32 (by show 32 < 47; decide)
          obtain ⟨_, h33, rfl⟩ := hL.val 5 _ rfl (by decide)
          obtain ⟨x34, h34⟩ := hL.some_at 34 (by show 34 < 47; decide)
          obtain ⟨v35, h35, own35⟩ := hL.val 7 _ rfl (by decide)
          obtain ⟨_, h36, rfl⟩ := hL.val 8 _ rfl (by decide)
          obtain ⟨_, h37, rfl⟩ := hL.val 9 _ rfl (by decide)
          obtain ⟨_, h38, rfl⟩ := hL.val 10 _ rfl (by decide)
          have hlit := act_lit (l := [_, _, _, _, _, _, _, _, _, _, _, _, _, _, _, _, _, _, _, _, _, _, _, _, _, _, _, _, _, _, _, _, _, _, _, _, _, _, _, _, _, _, _, _, _, _, _]) (hd.trans rfl) (by rw [hs]; rfl) (AllAt.cons ((hL.at 0 (by kernel_rfl)).trans rfl) (AllAt.cons ((hL.at 1 (by kernel_rfl)).trans rfl) (AllAt.cons ((hL.at 2 (by kernel_rfl)).trans rfl) (AllAt.cons ((hL.at 3 (by kernel_rfl)).trans rfl) (AllAt.cons ((hL.at 4 (by kernel_rfl)).trans rfl) (AllAt.cons ((hL.at 5 (by kernel_rfl)).trans rfl) (AllAt.cons ((hL.at 6 (by kernel_rfl)).trans rfl) (AllAt.cons ((hL.at 7 (by kernel_rfl)).trans rfl) (AllAt.cons ((hL.at 8 (by kernel_rfl)).trans rfl) (AllAt.cons ((hL.at 9 (by kernel_rfl)).trans rfl) (AllAt.cons ((hL.at 10 (by kernel_rfl)).trans rfl) (AllAt.cons ((hL.at 11 (by kernel_rfl)).trans rfl) (AllAt.cons ((hL.at 12 (by kernel_rfl)).trans rfl) (AllAt.cons ((hL.at 13 (by kernel_rfl)).trans rfl) (AllAt.cons ((hL.at 14 (by kernel_rfl)).trans rfl) (AllAt.cons ((hL.at 15 (by kernel_rfl)).trans rfl) (AllAt.cons ((hL.at 16 (by kernel_rfl)).trans rfl) (AllAt.cons ((hL.at 17 (by kernel_rfl)).trans rfl) (AllAt.cons ((hL.at 18 (by kernel_rfl)).trans rfl) (AllAt.cons ((hL.at 19 (by kernel_rfl)).trans rfl) (AllAt.cons ((hL.at 20 (by kernel_rfl)).trans rfl) (AllAt.cons ((hL.at 21 (by kernel_rfl)).trans rfl) (AllAt.cons ((hL.at 22 (by kernel_rfl)).trans rfl) (AllAt.cons ((hL.at 23 (by kernel_rfl)).trans rfl) (AllAt.cons ((hL.at 24 (by kernel_rfl)).trans rfl) (AllAt.cons ((hL.at 25 (by kernel_rfl)).trans rfl) (AllAt.cons ((hL.at 26 (by kernel_rfl)).trans rfl) (AllAt.cons ((hL.at 27 (by kernel_rfl)).trans rfl) (AllAt.cons h28 (AllAt.cons h29 (AllAt.cons h30 (AllAt.cons h31 (AllAt.cons h32 (AllAt.cons h33 (AllAt.cons h34 (AllAt.cons h35 (AllAt.cons h36 (AllAt.cons h37 (AllAt.cons h38 (AllAt.cons ((hL.at 39 (by kernel_rfl)).trans rfl) (AllAt.cons ((hL.at 40 (by kernel_rfl)).trans rfl) (AllAt.cons ((hL.at 41 (by kernel_rfl)).trans rfl) (AllAt.cons ((hL.at 42 (by kernel_rfl)).trans rfl) (AllAt.cons ((hL.at 43 (by kernel_rfl)).trans rfl) (AllAt.cons ((hL.at 44 (by kernel_rfl)).trans rfl) (AllAt.cons ((hL.at 45 (by kernel_rfl)).trans rfl) (AllAt.cons ((hL.at 46 (by kernel_rfl)).trans rfl) AllAt.nil)))))))))))))))))))))))))))))))))))))))))))))))
          clear hL hd hs h28 h29 h30 h31 h32 h33 h34 h35 h36 h37 h38
          subst hlit
          show wpOps _ _ _ [11, 12] _ _
          rw [wpOps_cons]
          refine wpOp_step rfl (fun K hK => ?_)
          refine step_app_sl (S := actrS) rfl (.tmp 35) (.tmp 38) 25 rfl w2.heap.size 40 i0 (.agg #[.string ⟨#[]⟩, .string ⟨#[]⟩, .int .i64 0]) 40 Tryd.underlying25 hi hz0 hz1 hz2 rfl v35 _ _ rfl own35 (l.drop n) ((hs2.mono hW).drop n hn) (by simp [maxLen]; omega) (by simp; omega) hW.size ?_
          intro v3 w3 hown hgrow hat
          generalize (if c = n then A else A.map (·.add (n * 3))) = A38
          have hB3 : Below w.heap.size w w3 := (hB2.trans (hW.mono hB2.size)).grown hgrow (Nat.le_trans hB2.size hW.size) (fun j hj => Nat.le_trans hB2.size (own35.lt j hj).1)
          have hlen : 0 + (l.take n).length + [x].length + (l.drop n).length = (insAt l x n).length := by rw [insAt_len]; simp; omega
          have hcel : [] ++ actrS.cells (l.take n) ++ actrS.cells [x] ++ actrS.cells (l.drop n) = actrS.cells (insAt l x n) := by
            unfold insAt
            rw [List.nil_append, ← actrS.cells_append, ← actrS.cells_append, List.append_assoc]; rfl
          rw [hlen, hcel] at hown
          have hown3' := owns_base hown hB2.size
          clear hown hlen hcel hgrow hat own35 hW
          refine hK _ _ ?_
          rw [wpOps_cons]
          refine wpOp_step rfl (fun K hK => ?_)
          go_simp
          refine hK _ _ ?_
          simp only [wpOps]
          clear c0 c1 c2 hs2
          cases hm : actorsB (insAt l x n)
          · have HR : Hid (AddRel l x l false) := .inr ⟨HA.out, n, HT.out, .inr ⟨hm, rfl, rfl⟩⟩
            go_wp2_with fail
            refine (s_ActorsValid _ (insAt l x n) _ (Sl.of_owns hown3') (insAt_sizes hs h1 h2)).mono ?_
            rintro e w4 ⟨rfl, hb4⟩
            rw [hm]
            have hB4 := below_trans hB3 hb4
            have hs4 := (h.mono hB4).mono (below1 w4 (.cells #[] 40))
            have ho4 : (w4.alloc (.cells #[] 40)).ownsRow w.heap.size 40 actrS.sz (.slice (some ⟨w4.heap.size, 0, none⟩) 0 0) 0 [] := World.ownsRow_lit _ _ _ hB4.size (by simp [maxLen]) (by simp)
            have hB5 : Below w.heap.size w (w4.alloc (.cells #[] 40)) := hB4.alloc hB4.size _
            clear hown3'
            go_wp2_with (at_builtin; refine wpList_app_sl (S := actrS) rfl (.tmp 43) (.tmp 44) 25 rfl w.heap.size 40 i0 (.agg #[.string ⟨#[]⟩, .string ⟨#[]⟩, .int .i64 0]) 40 Tryd.underlying25 hi hz0 hz1 hz2 rfl _ _ _ rfl ho4 l hs4 (by simp [maxLen]; omega) (by omega) hB5.size ?_; intro v6 w6 hown6 hgrow6 hat6; clear hat6)
            go_ret2
            rw [Nat.zero_add, List.nil_append] at hown6
            exact AddRet.mk HR.out hown6 (hB5.grown hgrow6 hB5.size (fun k hk => (ho4.lt k hk).1))
          · have HR : Hid (AddRel l x (insAt l x n) true) := .inr ⟨HA.out, n, HT.out, .inl ⟨hm, rfl, rfl⟩⟩
            go_wp2_with fail
            refine (s_ActorsValid _ (insAt l x n) _ (Sl.of_owns hown3') (insAt_sizes hs h1 h2)).mono ?_
            rintro e w4 ⟨rfl, hb4⟩
            rw [hm]
            have hB4 := below_trans hB3 hb4
            have hown4 := owns_below hown3' hb4
            clear hown3'
            go_wp2_with fail
            go_ret2
            exact AddRet.mk HR.out hown4 hB4
end Go.Proofs.YtipalcmfhmmdiaaDoor
