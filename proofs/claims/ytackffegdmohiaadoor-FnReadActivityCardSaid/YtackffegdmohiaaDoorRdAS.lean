/- The walk of the reference's ReadActivity. Condition: the text has less than 2^32 - 15 bytes. -/
import Derived.Test.YtackffegdmohiaaDoorWords
import Derived.Test.YtackffegdmohiaaDoorPick
import Derived.Deep.Cut
namespace Go.Proofs.YtackffegdmohiaaDoor
open Go.RowKit

theorem all5 {W : World} {b : Nat} {t : TypeId} {u0 u1 u2 u3 u4 : Value} (v0 v1 v2 v3 v4 : Value) (h : W.heap[b]? = some (.cells #[u0, u1, u2, u3, u4] t (0, 0))) :
    (((((W.setCell ⟨b, 0, none⟩ v0).setCell ⟨b, 1, none⟩ v1).setCell ⟨b, 2, none⟩ v2).setCell ⟨b, 3, none⟩ v3).setCell ⟨b, 4, none⟩ v4).heap[b]? = some (.cells #[v0, v1, v2, v3, v4] t (0, 0)) :=
  heap_setCell_same _ b 4 _ t v4 (heap_setCell_same _ b 3 _ t v3 (heap_setCell_same _ b 2 _ t v2 (heap_setCell_same _ b 1 _ t v1 (heap_setCell_same _ b 0 _ t v0 h))))
/-- The cells of a block of five. -/
theorem at5 {W : World} {b : Nat} {t : TypeId} {u0 u1 u2 u3 u4 : Value} (h : W.heap[b]? = some (.cells #[u0, u1, u2, u3, u4] t (0, 0))) :
    W.cell? ⟨b, 0, none⟩ = some u0 ∧ W.cell? ⟨b, 1, none⟩ = some u1 ∧ W.cell? ⟨b, 2, none⟩ = some u2 ∧ W.cell? ⟨b, 3, none⟩ = some u3 ∧ W.cell? ⟨b, 4, none⟩ = some u4 ∧ (∀ i, W.frozen? ⟨b, i, none⟩ = false) ∧ b < W.heap.size := by
  refine ⟨by simp [World.cell?, h], by simp [World.cell?, h], by simp [World.cell?, h], by simp [World.cell?, h], by simp [World.cell?, h], fun i => by simp [World.frozen?, h], (Array.getElem?_eq_some_iff.1 h).1⟩
theorem ex1 {W0 W : World} {b i : Nat} (h : Ex (· = b) W0 W) (v : Value) : Ex (· = b) W0 (W.setCell ⟨b, i, none⟩ v) := Ex.setCell (X := (· = b)) (a := ⟨b, i, none⟩) h rfl v
theorem ex5 {W0 W : World} {b : Nat} (h : Ex (· = b) W0 W) (v0 v1 v2 v3 v4 : Value) : Ex (· = b) W0 (((((W.setCell ⟨b, 0, none⟩ v0).setCell ⟨b, 1, none⟩ v1).setCell ⟨b, 2, none⟩ v2).setCell ⟨b, 3, none⟩ v3).setCell ⟨b, 4, none⟩ v4) := ex1 (ex1 (ex1 (ex1 (ex1 h v0) v1) v2) v3) v4
set_option maxHeartbeats 3200000 in
theorem s_ReadActivity (s : ByteArray) (w : World) (hs : s.size < 4294967281) : Calls Tryd.prog 16 #[.string s] w (ActRet s w) := by
  go_enter Tryd.func16, Tryd.ntmps16
  go_wp2_with fail
  refine (s_l1Words s _ hs).mono ?_
  rintro e w1 ⟨L, gw, cw, rfl, hL, hgw, hc, hbA⟩
  have hgw2 : w.heap.size + 1 ≤ gw := by simpa using hgw
  have hlen : L.length = (parts 32 s.data.toList).length := by rw [← hL, List.length_map]
  have b1 : Below w.heap.size w w1 := below_trans (below1 _ _) hbA
  have hZ : w1.heap[w.heap.size]? = some (.cells #[.int .i64 0, .int .i64 0, .string ⟨#[]⟩, .string ⟨#[]⟩, .string ⟨#[]⟩] 30 (0, 0)) := (hbA.block _ (by simp)).trans (heap_alloc_new w _)
  clear hbA hgw
  by_cases h4 : L.length = 4
  · obtain ⟨p0, p1, p2, p3, rfl⟩ := four_of h4
    have hz := part_size hL
    have y0 : p0.size ≤ s.size := hz p0 (by simp)
    have y1 : p1.size ≤ s.size := hz p1 (by simp)
    have y2 : p2.size ≤ s.size := hz p2 (by simp)
    have y3 : p3.size ≤ s.size := hz p3 (by simp)
    have c0 : w1.cell? ⟨gw, 0, none⟩ = some (.string p0) := hc 0 (by simp)
    have c1 : w1.cell? ⟨gw, 1, none⟩ = some (.string p1) := hc 1 (by simp)
    have c2 : w1.cell? ⟨gw, 2, none⟩ = some (.string p2) := hc 2 (by simp)
    have c3 : w1.cell? ⟨gw, 3, none⟩ = some (.string p3) := hc 3 (by simp)
    have hgl : gw < w1.heap.size := World.block_lt_of_cell? _ _ c0
    have HP : Hid (parts 32 s.data.toList = [p0.data.toList, p1.data.toList, p2.data.toList, p3.data.toList]) := hL.symm
    obtain ⟨mv, hmv⟩ : ∃ mv, Hid (MarkIs p1.data.toList mv) := markIs_ex _
    have h3 : p3.size ≤ 140737488355328 := by omega
    clear hL hlen hz h4 hc
    go_wp2_with fail
    refine wp_region_typed_last 9 (fun iX wX vX => (([bIs (.slice (some ⟨gw, 0, none⟩) 4 cw), bIs (.pointer (some ⟨gw, 1, none⟩)), bIs (.string p1), bIs (.int .i64 mv), bIs (.slice (some ⟨gw, 0, none⟩) 4 cw), bIs (.pointer (some ⟨gw, 3, none⟩)), bIs (.string p3), bIs (.agg #[.int .i64 (-1), .int .i64 mv, .string ⟨#[]⟩, .string ⟨#[]⟩, .string p3]), bNew w1.heap.size [.int .i64 0, .int .i64 0, .string ⟨#[]⟩, .string ⟨#[]⟩, .string ⟨#[]⟩] 30] : List BTy).getD iX bAny).T wX vX) (fun _ => 0) (fun _ w' => Below w1.heap.size w1 w') (fun u u' => Below u.heap.size u u') 0 (by kernel_rfl) 55 rfl rfl (by kernel_rfl) (by kernel_rfl) (by kernel_rfl) (by decide) (Below.refl _ _).drew (bty_st _) ?_ ?_
    · refine ⟨?_, ?_, ?_, ?_, ?_, ?_, ?_, ?_, ?_, trivial⟩
      · intro B a' w' hB hW hF
        have h4 : a'.tmps[4]? = some (.slice (some ⟨gw, 0, none⟩) 4 cw) := (hF.at 4 (by kernel_rfl)).trans rfl
        refine wpOp_step rfl (fun K hK => ?_)
        go_simp
        exact hK _ _ ⟨_, rfl, Below.refl _ _, rfl, hW⟩
      · intro B a' w' hB hW hF
        have h15 : a'.tmps[15]? = some (.slice (some ⟨gw, 0, none⟩) 4 cw) := by obtain ⟨_, h, e⟩ := hF.val ⟨0, .data⟩ (by simp) rfl _ rfl; rw [h, show _ = (.slice (some ⟨gw, 0, none⟩) 4 cw : Value) from e]
        refine wpOp_step rfl (fun K hK => ?_)
        go_simp
        exact hK _ _ ⟨_, rfl, Below.refl _ _, rfl, hW⟩
      · intro B a' w' hB hW hF
        have h16 : a'.tmps[16]? = some (.pointer (some ⟨gw, 1, none⟩)) := by obtain ⟨_, h, e⟩ := hF.val ⟨1, .data⟩ (by simp) rfl _ rfl; rw [h, show _ = (.pointer (some ⟨gw, 1, none⟩) : Value) from e]
        have e1 : w'.cell? ⟨gw, 1, none⟩ = some (.string p1) := keep_cell hW c1
        refine wpOp_step rfl (fun K hK => ?_)
        go_simp
        exact hK _ _ ⟨_, rfl, Below.refl _ _, rfl, hW⟩
      · intro B a' w' hB hW hF
        have h17 : a'.tmps[17]? = some (.string p1) := by obtain ⟨_, h, e⟩ := hF.val ⟨2, .data⟩ (by simp) rfl _ rfl; rw [h, show _ = (.string p1 : Value) from e]
        refine wpOp_step rfl (fun K hK => ?_)
        go_simp
        refine (s_ReadMark p1 _ (by omega)).mono ?_
        rintro e w'' ⟨v2, rfl, hv2, rfl⟩
        rw [hv2.eq hmv.out]
        have hb : Below w'.heap.size w' w' := Below.refl _ _
        exact hK _ _ ⟨_, rfl, hb, rfl, below_trans hW hb⟩
      · intro B a' w' hB hW hF
        have h4 : a'.tmps[4]? = some (.slice (some ⟨gw, 0, none⟩) 4 cw) := (hF.at 4 (by kernel_rfl)).trans rfl
        refine wpOp_step rfl (fun K hK => ?_)
        go_simp
        exact hK _ _ ⟨_, rfl, Below.refl _ _, rfl, hW⟩
      · intro B a' w' hB hW hF
        have h19 : a'.tmps[19]? = some (.slice (some ⟨gw, 0, none⟩) 4 cw) := by obtain ⟨_, h, e⟩ := hF.val ⟨4, .data⟩ (by simp) rfl _ rfl; rw [h, show _ = (.slice (some ⟨gw, 0, none⟩) 4 cw : Value) from e]
        refine wpOp_step rfl (fun K hK => ?_)
        go_simp
        exact hK _ _ ⟨_, rfl, Below.refl _ _, rfl, hW⟩
      · intro B a' w' hB hW hF
        have h20 : a'.tmps[20]? = some (.pointer (some ⟨gw, 3, none⟩)) := by obtain ⟨_, h, e⟩ := hF.val ⟨5, .data⟩ (by simp) rfl _ rfl; rw [h, show _ = (.pointer (some ⟨gw, 3, none⟩) : Value) from e]
        have e3 : w'.cell? ⟨gw, 3, none⟩ = some (.string p3) := keep_cell hW c3
        refine wpOp_step rfl (fun K hK => ?_)
        go_simp
        exact hK _ _ ⟨_, rfl, Below.refl _ _, rfl, hW⟩
      · intro B a' w' hB hW hF
        have h18 : a'.tmps[18]? = some (.int .i64 mv) := by obtain ⟨_, h, e⟩ := hF.val ⟨3, .data⟩ (by simp) rfl _ rfl; rw [h, show _ = (.int .i64 mv : Value) from e]
        have h21 : a'.tmps[21]? = some (.string p3) := by obtain ⟨_, h, e⟩ := hF.val ⟨6, .data⟩ (by simp) rfl _ rfl; rw [h, show _ = (.string p3 : Value) from e]
        refine wpOp_step rfl (fun K hK => ?_)
        go_simp
        exact hK _ _ ⟨_, rfl, Below.refl _ _, rfl, hW⟩
      · intro B a' w' hB hW hF
        refine wpOp_step rfl (fun K hK => ?_)
        go_simp
        exact hK _ _ ⟨_, rfl, below1 _ _, ⟨_, rfl, hW.size, heap_alloc_new w' _⟩, below_trans hW (below1 _ _)⟩
    · intro a' w' hL hW
      have hd := hL.defers
      have hs := hL.size
      have h15 : a'.tmps[15]? = some (.slice (some ⟨gw, 0, none⟩) 4 cw) := by obtain ⟨_, h, e⟩ := hL.val 0 _ rfl; rw [h, show _ = (.slice (some ⟨gw, 0, none⟩) 4 cw : Value) from e]
      have h16 : a'.tmps[16]? = some (.pointer (some ⟨gw, 1, none⟩)) := by obtain ⟨_, h, e⟩ := hL.val 1 _ rfl; rw [h, show _ = (.pointer (some ⟨gw, 1, none⟩) : Value) from e]
      have h17 : a'.tmps[17]? = some (.string p1) := by obtain ⟨_, h, e⟩ := hL.val 2 _ rfl; rw [h, show _ = (.string p1 : Value) from e]
      have h18 : a'.tmps[18]? = some (.int .i64 mv) := by obtain ⟨_, h, e⟩ := hL.val 3 _ rfl; rw [h, show _ = (.int .i64 mv : Value) from e]
      have h19 : a'.tmps[19]? = some (.slice (some ⟨gw, 0, none⟩) 4 cw) := by obtain ⟨_, h, e⟩ := hL.val 4 _ rfl; rw [h, show _ = (.slice (some ⟨gw, 0, none⟩) 4 cw : Value) from e]
      have h20 : a'.tmps[20]? = some (.pointer (some ⟨gw, 3, none⟩)) := by obtain ⟨_, h, e⟩ := hL.val 5 _ rfl; rw [h, show _ = (.pointer (some ⟨gw, 3, none⟩) : Value) from e]
      have h21 : a'.tmps[21]? = some (.string p3) := by obtain ⟨_, h, e⟩ := hL.val 6 _ rfl; rw [h, show _ = (.string p3 : Value) from e]
      have h22 : a'.tmps[22]? = some (.agg #[.int .i64 (-1), .int .i64 mv, .string ⟨#[]⟩, .string ⟨#[]⟩, .string p3]) := by obtain ⟨_, h, e⟩ := hL.val 7 _ rfl; rw [h, show _ = (.agg #[.int .i64 (-1), .int .i64 mv, .string ⟨#[]⟩, .string ⟨#[]⟩, .string p3] : Value) from e]
      obtain ⟨_, h5, g5, rfl, q5, b5⟩ := hL.val 8 _ rfl
      have hlit := act_lit (l := [_, _, _, _, _, _, _, _, _, _, _, _, _, _, _, _, _, _, _, _, _, _, _, _, _, _, _, _, _, _, _, _, _, _, _, _, _, _, _, _, _, _, _, _, _, _, _, _, _, _, _, _, _, _, _]) (hd.trans rfl) (by rw [hs]; rfl) (AllAt.cons ((hL.at 0 (by kernel_rfl)).trans rfl) (AllAt.cons ((hL.at 1 (by kernel_rfl)).trans rfl) (AllAt.cons ((hL.at 2 (by kernel_rfl)).trans rfl) (AllAt.cons ((hL.at 3 (by kernel_rfl)).trans rfl) (AllAt.cons ((hL.at 4 (by kernel_rfl)).trans rfl) (AllAt.cons h5 (AllAt.cons ((hL.at 6 (by kernel_rfl)).trans rfl) (AllAt.cons ((hL.at 7 (by kernel_rfl)).trans rfl) (AllAt.cons ((hL.at 8 (by kernel_rfl)).trans rfl) (AllAt.cons ((hL.at 9 (by kernel_rfl)).trans rfl) (AllAt.cons ((hL.at 10 (by kernel_rfl)).trans rfl) (AllAt.cons ((hL.at 11 (by kernel_rfl)).trans rfl) (AllAt.cons ((hL.at 12 (by kernel_rfl)).trans rfl) (AllAt.cons ((hL.at 13 (by kernel_rfl)).trans rfl) (AllAt.cons ((hL.at 14 (by kernel_rfl)).trans rfl) (AllAt.cons h15 (AllAt.cons h16 (AllAt.cons h17 (AllAt.cons h18 (AllAt.cons h19 (AllAt.cons h20 (AllAt.cons h21 (AllAt.cons h22 (AllAt.cons ((hL.at 23 (by kernel_rfl)).trans rfl) (AllAt.cons ((hL.at 24 (by kernel_rfl)).trans rfl) (AllAt.cons ((hL.at 25 (by kernel_rfl)).trans rfl) (AllAt.cons ((hL.at 26 (by kernel_rfl)).trans rfl) (AllAt.cons ((hL.at 27 (by kernel_rfl)).trans rfl) (AllAt.cons ((hL.at 28 (by kernel_rfl)).trans rfl) (AllAt.cons ((hL.at 29 (by kernel_rfl)).trans rfl) (AllAt.cons ((hL.at 30 (by kernel_rfl)).trans rfl) (AllAt.cons ((hL.at 31 (by kernel_rfl)).trans rfl) (AllAt.cons ((hL.at 32 (by kernel_rfl)).trans rfl) (AllAt.cons ((hL.at 33 (by kernel_rfl)).trans rfl) (AllAt.cons ((hL.at 34 (by kernel_rfl)).trans rfl) (AllAt.cons ((hL.at 35 (by kernel_rfl)).trans rfl) (AllAt.cons ((hL.at 36 (by kernel_rfl)).trans rfl) (AllAt.cons ((hL.at 37 (by kernel_rfl)).trans rfl) (AllAt.cons ((hL.at 38 (by kernel_rfl)).trans rfl) (AllAt.cons ((hL.at 39 (by kernel_rfl)).trans rfl) (AllAt.cons ((hL.at 40 (by kernel_rfl)).trans rfl) (AllAt.cons ((hL.at 41 (by kernel_rfl)).trans rfl) (AllAt.cons ((hL.at 42 (by kernel_rfl)).trans rfl) (AllAt.cons ((hL.at 43 (by kernel_rfl)).trans rfl) (AllAt.cons ((hL.at 44 (by kernel_rfl)).trans rfl) (AllAt.cons ((hL.at 45 (by kernel_rfl)).trans rfl) (AllAt.cons ((hL.at 46 (by kernel_rfl)).trans rfl) (AllAt.cons ((hL.at 47 (by kernel_rfl)).trans rfl) (AllAt.cons ((hL.at 48 (by kernel_rfl)).trans rfl) (AllAt.cons ((hL.at 49 (by kernel_rfl)).trans rfl) (AllAt.cons ((hL.at 50 (by kernel_rfl)).trans rfl) (AllAt.cons ((hL.at 51 (by kernel_rfl)).trans rfl) (AllAt.cons ((hL.at 52 (by kernel_rfl)).trans rfl) (AllAt.cons ((hL.at 53 (by kernel_rfl)).trans rfl) (AllAt.cons ((hL.at 54 (by kernel_rfl)).trans rfl) AllAt.nil)))))))))))))))))))))))))))))))))))))))))))))))))))))))
      clear hL hd hs h5 h15 h16 h17 h18 h19 h20 h21 h22
      subst hlit
      dsimp only [List.getElem_toArray, List.getElem_cons_zero, List.getElem_cons_succ]
      have b5 : w'.heap[g5]? = some (.cells #[.int .i64 0, .int .i64 0, .string ⟨#[]⟩, .string ⟨#[]⟩, .string ⟨#[]⟩] 30 (0, 0)) := b5
      obtain ⟨x0, x1, x2, x3, x4, xf, hg5⟩ := at5 b5
      have X := all5 (.int .i64 (-1)) (.int .i64 mv) (.string ⟨#[]⟩) (.string ⟨#[]⟩) (.string p3) b5
      refine wpOp_step rfl (fun K hK => ?_)
      go_simp
      refine hK _ _ ?_
      obtain ⟨w5, hw5⟩ : ∃ w5, w5 = (((((w'.setCell ⟨g5, 0, none⟩ (.int .i64 (-1))).setCell ⟨g5, 1, none⟩ (.int .i64 mv)).setCell ⟨g5, 2, none⟩ (.string ⟨#[]⟩)).setCell ⟨g5, 3, none⟩ (.string ⟨#[]⟩)).setCell ⟨g5, 4, none⟩ (.string p3)) := ⟨_, rfl⟩
      rw [← hw5] at X ⊢
      have E5 : Ex (· = g5) w1 w5 := by
        rw [hw5]
        exact ex5 (Ex.of_below hW) _ _ _ _ _
      have hne : w.heap.size ≠ g5 := by have := b1.size; have := (Array.getElem?_eq_some_iff.1 hZ).1; omega
      have hne2 : gw ≠ g5 := by omega
      clear hw5 x0 x1 x2 x3 x4 xf hg5 b5 hK hW K
      go_wp2_with fail
      go_loopw [6] (fun I wr => ∃ (k : Nat) (v : Int), k ≤ 6 ∧ I = .int .i64 k ∧ Hid (KindTo p0.data.toList k v) ∧ wr.heap[g5]? = some (.cells #[.int .i64 v, .int .i64 mv, .string ⟨#[]⟩, .string ⟨#[]⟩, .string p3] 30 (0, 0)) ∧ Ex (· = g5) w1 wr) (fun I _ => 6 - (intOf I).toNat)
      case atStart => exact ⟨0, -1, by omega, rfl, KindTo.zero _, X, E5⟩
      case round =>
        obtain ⟨wo, rfl⟩ : ∃ wo : World, wo = wr := ⟨_, rfl⟩
        clear X E5
        obtain ⟨k, v, hk, rfl, hT, hG, hE⟩ := hrel
        have d0 := hE.cell (p := ⟨gw, 0, none⟩) hne2 c0
        have d2 := hE.cell (p := ⟨gw, 2, none⟩) hne2 c2
        have hZ2 := (hE.block _ (Array.getElem?_eq_some_iff.1 hZ).1 hne).trans hZ
        by_cases h6 : k = 6
        · subst h6
          have HK : Hid (KindIs p0.data.toList v) := hT.out.all
          clear hT d0
          go_wp2_with fail
          refine (s_ReadHandle p2 _ (by omega)).mono ?_
          rintro e w6 ⟨n, g, okh, rfl, hr, n1, n2, hb6⟩
          have HR := Lib.hid hr
          have hn : n.size ≤ 140737488355328 := by omega
          have hg : g.size ≤ 140737488355328 := by omega
          obtain ⟨w7, hw7⟩ : ∃ w7, w7 = w6.alloc (.cells #[.string n, .string g] 28) := ⟨_, rfl⟩
          have hb7 := below_eq hw7
          have g0 : w7.cell? ⟨w6.heap.size, 0, none⟩ = some (.string n) := cells_eq hw7 rfl 0 _ rfl
          have g1 : w7.cell? ⟨w6.heap.size, 1, none⟩ = some (.string g) := cells_eq hw7 rfl 1 _ rfl
          have bA := below_trans hb6 hb7
          have hG7 := (bA.block g5 (Array.getElem?_eq_some_iff.1 hG).1).trans hG
          have hZ7 := (bA.block _ (Array.getElem?_eq_some_iff.1 hZ2).1).trans hZ2
          have hE7 : Ex (· = g5) w1 w7 := hE.trans (Ex.of_below bA)
          obtain ⟨x0, x1, x2, x3, x4, xf, xl⟩ := at5 hG7
          clear d2 hr
          go_upto_region 11 with (fail)
          rw [← hw7]
          clear hw7 hb7 bA hG hE hZ2 hb6
          go_upto_region 12 with (fail)
          obtain ⟨w8, hw8⟩ : ∃ w8, w8 = (w7.setCell ⟨g5, 2, none⟩ (.string n)).setCell ⟨g5, 3, none⟩ (.string g) := ⟨_, rfl⟩
          rw [← hw8]
          have hG8 : w8.heap[g5]? = some (.cells #[.int .i64 v, .int .i64 mv, .string n, .string g, .string p3] 30 (0, 0)) := by
            rw [hw8]; exact heap_setCell_same _ g5 3 _ _ _ (heap_setCell_same _ g5 2 _ _ _ hG7)
          have hZ8 : w8.heap[w.heap.size]? = some (.cells #[.int .i64 0, .int .i64 0, .string ⟨#[]⟩, .string ⟨#[]⟩, .string ⟨#[]⟩] 30 (0, 0)) := by
            rw [hw8, heap_setCell_other _ _ _ _ hne, heap_setCell_other _ _ _ _ hne]; exact hZ7
          have hE8 : Ex (· = g5) w1 w8 := by rw [hw8]; exact ex1 (ex1 hE7 _) _
          have bz0 : Below w.heap.size w w8 := b1.trans (hE8.below b1.size (fun k hk => by have hk2 : k = g5 := hk; have := b1.size; omega))
          clear hw8 hG7 hZ7 hE7 hE8 x0 x1 x2 x3 x4 xf xl g0 g1
          cases okh
          · have HN := Lib.hid (act_no HP.out HK.out hmv.out HR.out (.inr rfl))
            obtain ⟨r0, r1, r2, r3, r4, f0, l0⟩ := at5 hZ8
            have HS := Lib.hid (set5 (.int .i64 0) (.int .i64 0) (.string ⟨#[]⟩) (.string ⟨#[]⟩) (.string ⟨#[]⟩) r0 r1 r2 r3 r4)
            have bz := bz0
            clear hG8 hZ8 HP HK hmv HR bz0
            go_wp2
            clear r0 r1 r2 r3 r4 f0
            obtain ⟨P0, P1, P2, P3, P4⟩ := HS.out
            clear HS
            exact bodyPost_ret (resActB Tryd.results16 _ _ rfl P0 P1 P2 P3 P4) rfl (ActRet.no HN.out (by repeat (first | (with_reducible exact bz) | (with_reducible refine Below.setCell ?_ (by simp only; omega) _) | (with_reducible refine Below.alloc ?_ (by have := bz.size; simp; omega) _))))
          · cases hB : actB v mv n g p3
            · have HN := Lib.hid (act_no HP.out HK.out hmv.out HR.out (.inl hB))
              have HB := Lib.hid hB
              clear hB HP HK hmv HR
              obtain ⟨X0, X1, X2, X3, X4, -, -⟩ := at5 hG8
              go_wp2_with fail
              refine (s_ActivityValid v mv n g p3 _ hn hg h3).mono ?_
              rintro x w9 ⟨rfl, hb9⟩
              rw [HB.out]
              have hZ9 := (hb9.block _ (Array.getElem?_eq_some_iff.1 hZ8).1).trans hZ8
              have bz := below_trans bz0 hb9
              obtain ⟨r0, r1, r2, r3, r4, f0, l0⟩ := at5 hZ9
              have HS := Lib.hid (set5 (.int .i64 0) (.int .i64 0) (.string ⟨#[]⟩) (.string ⟨#[]⟩) (.string ⟨#[]⟩) r0 r1 r2 r3 r4)
              clear X0 X1 X2 X3 X4 hG8 hZ8 hZ9 bz0 hb9
              go_wp2
              clear r0 r1 r2 r3 r4 f0
              obtain ⟨P0, P1, P2, P3, P4⟩ := HS.out
              clear HS
              exact bodyPost_ret (resActB Tryd.results16 _ _ rfl P0 P1 P2 P3 P4) rfl (ActRet.no HN.out (by repeat (first | (with_reducible exact bz) | (with_reducible refine Below.setCell ?_ (by simp only; omega) _) | (with_reducible refine Below.alloc ?_ (by have := bz.size; simp; omega) _))))
            · have HY := Lib.hid (act_yes HP.out HK.out hmv.out HR.out hB).2
              have HB := Lib.hid hB
              clear hB HP HK hmv HR
              obtain ⟨X0, X1, X2, X3, X4, -, -⟩ := at5 hG8
              go_wp2_with fail
              refine (s_ActivityValid v mv n g p3 _ hn hg h3).mono ?_
              rintro x w9 ⟨rfl, hb9⟩
              rw [HB.out]
              have hZ9 := (hb9.block _ (Array.getElem?_eq_some_iff.1 hZ8).1).trans hZ8
              have bz := below_trans bz0 hb9
              obtain ⟨r0, r1, r2, r3, r4, f0, l0⟩ := at5 hZ9
              have hG9 := (hb9.block _ (Array.getElem?_eq_some_iff.1 hG8).1).trans hG8
              obtain ⟨Y0, Y1, Y2, Y3, Y4, -, -⟩ := at5 hG9
              have HS := Lib.hid (set5 (.int .i64 v) (.int .i64 mv) (.string n) (.string g) (.string p3) r0 r1 r2 r3 r4)
              clear hG9
              clear X0 X1 X2 X3 X4 hG8 hZ8 hZ9 bz0 hb9
              go_wp2
              clear r0 r1 r2 r3 r4 f0 Y0 Y1 Y2 Y3 Y4
              obtain ⟨P0, P1, P2, P3, P4⟩ := HS.out
              clear HS
              exact bodyPost_ret (resActB Tryd.results16 _ _ rfl P0 P1 P2 P3 P4) rfl (ActRet.yes HY.out (by repeat (first | (with_reducible exact bz) | (with_reducible refine Below.setCell ?_ (by simp only; omega) _) | (with_reducible refine Below.alloc ?_ (by have := bz.size; simp; omega) _))))
        · have q1 : (0 : Int) ≤ (k : Int) := by omega
          have q2 : (k : Int) < 6 := by omega
          have hk6 : k < 6 := by omega
          obtain ⟨KW, hKW⟩ : ∃ KW, Hid (KW = kindW k) := ⟨_, Lib.hid rfl⟩
          clear hZ2
          cases he : (KW.toList == p0.toList)
          · have HT : Hid (KindTo p0.data.toList (k + 1) v) := hT.out.miss (kind_miss (by rw [← hKW.out]; exact he))
            clear hT
            go_wp2_with fail
            refine wp_region_typed (fun iX wX vX => (([bSix, bIs (.int .i64 (k : Int)), bPtr k (.string KW), bIs (.string KW), bIs (.slice (some ⟨gw, 0, none⟩) 4 cw), bIs (.pointer (some ⟨gw, 0, none⟩)), bIs (.string p0), bIs (.bool false)] : List BTy).getD iX bAny).T wX vX) (fun _ => 0) (fun _ w' => Below wo.heap.size wo w') (fun u u' => Below u.heap.size u u') 0 (by kernel_rfl) 55 rfl (by kernel_rfl) (by decide) (Below.refl _ _).drew (bty_st _) ?_ ?_
            · refine ⟨?_, ?_, ?_, ?_, ?_, ?_, ?_, ?_, trivial⟩
              · intro B a' w' hB hW hF
                refine wpOp_step rfl (fun K hK => ?_)
                go_simp
                refine (s_words _).mono ?_
                rintro e w'' ⟨g27, rfl, k27, hb⟩
                exact hK _ _ ⟨_, rfl, hb, ⟨_, rfl, k27⟩, below_trans hW hb⟩
              · intro B a' w' hB hW hF
                have h6 : a'.tmps[6]? = some (.int .i64 (k : Int)) := (hF.at 6 (by kernel_rfl)).trans rfl
                refine wpOp_step rfl (fun K hK => ?_)
                go_simp
                exact hK _ _ ⟨_, rfl, Below.refl _ _, rfl, hW⟩
              · intro B a' w' hB hW hF
                obtain ⟨_, h27, g27, rfl, k27⟩ := hF.val ⟨0, .data⟩ (by simp) rfl _ rfl
                have h28 : a'.tmps[28]? = some (.int .i64 (k : Int)) := by obtain ⟨_, h, e⟩ := hF.val ⟨1, .data⟩ (by simp) rfl _ rfl; rw [h, show _ = (.int .i64 (k : Int) : Value) from e]
                refine wpOp_step rfl (fun K hK => ?_)
                go_simp
                exact hK _ _ ⟨_, rfl, Below.refl _ _, ⟨_, rfl, by rw [hKW.out]; exact k27 k hk6⟩, hW⟩
              · intro B a' w' hB hW hF
                obtain ⟨_, h29, g29, rfl, k29⟩ := hF.val ⟨2, .data⟩ (by simp) rfl _ rfl
                refine wpOp_step rfl (fun K hK => ?_)
                go_simp
                exact hK _ _ ⟨_, rfl, Below.refl _ _, rfl, hW⟩
              · intro B a' w' hB hW hF
                have h4 : a'.tmps[4]? = some (.slice (some ⟨gw, 0, none⟩) 4 cw) := (hF.at 4 (by kernel_rfl)).trans rfl
                refine wpOp_step rfl (fun K hK => ?_)
                go_simp
                exact hK _ _ ⟨_, rfl, Below.refl _ _, rfl, hW⟩
              · intro B a' w' hB hW hF
                have h31 : a'.tmps[31]? = some (.slice (some ⟨gw, 0, none⟩) 4 cw) := by obtain ⟨_, h, e⟩ := hF.val ⟨4, .data⟩ (by simp) rfl _ rfl; rw [h, show _ = (.slice (some ⟨gw, 0, none⟩) 4 cw : Value) from e]
                refine wpOp_step rfl (fun K hK => ?_)
                go_simp
                exact hK _ _ ⟨_, rfl, Below.refl _ _, rfl, hW⟩
              · intro B a' w' hB hW hF
                have h32 : a'.tmps[32]? = some (.pointer (some ⟨gw, 0, none⟩)) := by obtain ⟨_, h, e⟩ := hF.val ⟨5, .data⟩ (by simp) rfl _ rfl; rw [h, show _ = (.pointer (some ⟨gw, 0, none⟩) : Value) from e]
                have e0 : w'.cell? ⟨gw, 0, none⟩ = some (.string p0) := keep_cell hW d0
                refine wpOp_step rfl (fun K hK => ?_)
                go_simp
                exact hK _ _ ⟨_, rfl, Below.refl _ _, rfl, hW⟩
              · intro B a' w' hB hW hF
                have h30 : a'.tmps[30]? = some (.string KW) := by obtain ⟨_, h, e⟩ := hF.val ⟨3, .data⟩ (by simp) rfl _ rfl; rw [h, show _ = (.string KW : Value) from e]
                have h33 : a'.tmps[33]? = some (.string p0) := by obtain ⟨_, h, e⟩ := hF.val ⟨6, .data⟩ (by simp) rfl _ rfl; rw [h, show _ = (.string p0 : Value) from e]
                refine wpOp_step rfl (fun K hK => ?_)
                go_simp
                exact hK _ _ ⟨_, rfl, Below.refl _ _, rfl, hW⟩
            · intro a' w' hL hW
              have hd := hL.defers
              have hs := hL.size
              obtain ⟨_, h27, g27, rfl, k27⟩ := hL.val 0 _ rfl
              have h28 : a'.tmps[28]? = some (.int .i64 (k : Int)) := by obtain ⟨_, h, e⟩ := hL.val 1 _ rfl; rw [h, show _ = (.int .i64 (k : Int) : Value) from e]
              obtain ⟨_, h29, g29, rfl, k29⟩ := hL.val 2 _ rfl
              have h30 : a'.tmps[30]? = some (.string KW) := by obtain ⟨_, h, e⟩ := hL.val 3 _ rfl; rw [h, show _ = (.string KW : Value) from e]
              have h31 : a'.tmps[31]? = some (.slice (some ⟨gw, 0, none⟩) 4 cw) := by obtain ⟨_, h, e⟩ := hL.val 4 _ rfl; rw [h, show _ = (.slice (some ⟨gw, 0, none⟩) 4 cw : Value) from e]
              have h32 : a'.tmps[32]? = some (.pointer (some ⟨gw, 0, none⟩)) := by obtain ⟨_, h, e⟩ := hL.val 5 _ rfl; rw [h, show _ = (.pointer (some ⟨gw, 0, none⟩) : Value) from e]
              have h33 : a'.tmps[33]? = some (.string p0) := by obtain ⟨_, h, e⟩ := hL.val 6 _ rfl; rw [h, show _ = (.string p0 : Value) from e]
              have h34 : a'.tmps[34]? = some (.bool false) := by obtain ⟨_, h, e⟩ := hL.val 7 _ rfl; rw [h, show _ = (.bool false : Value) from e]
              have hlit := act_lit (l := [_, _, _, _, _, _, _, _, _, _, _, _, _, _, _, _, _, _, _, _, _, _, _, _, _, _, _, _, _, _, _, _, _, _, _, _, _, _, _, _, _, _, _, _, _, _, _, _, _, _, _, _, _, _, _]) (hd.trans rfl) (by rw [hs]; rfl) (AllAt.cons ((hL.at 0 (by kernel_rfl)).trans rfl) (AllAt.cons ((hL.at 1 (by kernel_rfl)).trans rfl) (AllAt.cons ((hL.at 2 (by kernel_rfl)).trans rfl) (AllAt.cons ((hL.at 3 (by kernel_rfl)).trans rfl) (AllAt.cons ((hL.at 4 (by kernel_rfl)).trans rfl) (AllAt.cons ((hL.at 5 (by kernel_rfl)).trans rfl) (AllAt.cons ((hL.at 6 (by kernel_rfl)).trans rfl) (AllAt.cons ((hL.at 7 (by kernel_rfl)).trans rfl) (AllAt.cons ((hL.at 8 (by kernel_rfl)).trans rfl) (AllAt.cons ((hL.at 9 (by kernel_rfl)).trans rfl) (AllAt.cons ((hL.at 10 (by kernel_rfl)).trans rfl) (AllAt.cons ((hL.at 11 (by kernel_rfl)).trans rfl) (AllAt.cons ((hL.at 12 (by kernel_rfl)).trans rfl) (AllAt.cons ((hL.at 13 (by kernel_rfl)).trans rfl) (AllAt.cons ((hL.at 14 (by kernel_rfl)).trans rfl) (AllAt.cons ((hL.at 15 (by kernel_rfl)).trans rfl) (AllAt.cons ((hL.at 16 (by kernel_rfl)).trans rfl) (AllAt.cons ((hL.at 17 (by kernel_rfl)).trans rfl) (AllAt.cons ((hL.at 18 (by kernel_rfl)).trans rfl) (AllAt.cons ((hL.at 19 (by kernel_rfl)).trans rfl) (AllAt.cons ((hL.at 20 (by kernel_rfl)).trans rfl) (AllAt.cons ((hL.at 21 (by kernel_rfl)).trans rfl) (AllAt.cons ((hL.at 22 (by kernel_rfl)).trans rfl) (AllAt.cons ((hL.at 23 (by kernel_rfl)).trans rfl) (AllAt.cons ((hL.at 24 (by kernel_rfl)).trans rfl) (AllAt.cons ((hL.at 25 (by kernel_rfl)).trans rfl) (AllAt.cons ((hL.at 26 (by kernel_rfl)).trans rfl) (AllAt.cons h27 (AllAt.cons h28 (AllAt.cons h29 (AllAt.cons h30 (AllAt.cons h31 (AllAt.cons h32 (AllAt.cons h33 (AllAt.cons h34 (AllAt.cons ((hL.at 35 (by kernel_rfl)).trans rfl) (AllAt.cons ((hL.at 36 (by kernel_rfl)).trans rfl) (AllAt.cons ((hL.at 37 (by kernel_rfl)).trans rfl) (AllAt.cons ((hL.at 38 (by kernel_rfl)).trans rfl) (AllAt.cons ((hL.at 39 (by kernel_rfl)).trans rfl) (AllAt.cons ((hL.at 40 (by kernel_rfl)).trans rfl) (AllAt.cons ((hL.at 41 (by kernel_rfl)).trans rfl) (AllAt.cons ((hL.at 42 (by kernel_rfl)).trans rfl) (AllAt.cons ((hL.at 43 (by kernel_rfl)).trans rfl) (AllAt.cons ((hL.at 44 (by kernel_rfl)).trans rfl) (AllAt.cons ((hL.at 45 (by kernel_rfl)).trans rfl) (AllAt.cons ((hL.at 46 (by kernel_rfl)).trans rfl) (AllAt.cons ((hL.at 47 (by kernel_rfl)).trans rfl) (AllAt.cons ((hL.at 48 (by kernel_rfl)).trans rfl) (AllAt.cons ((hL.at 49 (by kernel_rfl)).trans rfl) (AllAt.cons ((hL.at 50 (by kernel_rfl)).trans rfl) (AllAt.cons ((hL.at 51 (by kernel_rfl)).trans rfl) (AllAt.cons ((hL.at 52 (by kernel_rfl)).trans rfl) (AllAt.cons ((hL.at 53 (by kernel_rfl)).trans rfl) (AllAt.cons ((hL.at 54 (by kernel_rfl)).trans rfl) AllAt.nil)))))))))))))))))))))))))))))))))))))))))))))))))))))))
              clear hL hd hs h27 h28 h29 h30 h31 h32 h33 h34
              subst hlit
              dsimp only [List.getElem_toArray, List.getElem_cons_zero, List.getElem_cons_succ]
              have hE2 : Ex (· = g5) w1 w' := hE.trans (Ex.of_below hW)
              have hG2 := (hW.block g5 (Array.getElem?_eq_some_iff.1 hG).1).trans hG
              clear hW hG hE d0 d2
              go_wp2_with fail
              go_roundw
              case rel => exact ⟨k + 1, v, by omega, by go_num, HT, hG2, hE2⟩
              case measure => simp [intOf]; omega
          · have HT : Hid (KindTo p0.data.toList (k + 1) (k : Int)) := KindTo.hit (by rw [← list_inj (eq_of_beq he), hKW.out]; rfl)
            clear hT
            go_wp2_with fail
            refine wp_region_typed (fun iX wX vX => (([bSix, bIs (.int .i64 (k : Int)), bPtr k (.string KW), bIs (.string KW), bIs (.slice (some ⟨gw, 0, none⟩) 4 cw), bIs (.pointer (some ⟨gw, 0, none⟩)), bIs (.string p0), bIs (.bool true)] : List BTy).getD iX bAny).T wX vX) (fun _ => 0) (fun _ w' => Below wo.heap.size wo w') (fun u u' => Below u.heap.size u u') 0 (by kernel_rfl) 55 rfl (by kernel_rfl) (by decide) (Below.refl _ _).drew (bty_st _) ?_ ?_
            · refine ⟨?_, ?_, ?_, ?_, ?_, ?_, ?_, ?_, trivial⟩
              · intro B a' w' hB hW hF
                refine wpOp_step rfl (fun K hK => ?_)
                go_simp
                refine (s_words _).mono ?_
                rintro e w'' ⟨g27, rfl, k27, hb⟩
                exact hK _ _ ⟨_, rfl, hb, ⟨_, rfl, k27⟩, below_trans hW hb⟩
              · intro B a' w' hB hW hF
                have h6 : a'.tmps[6]? = some (.int .i64 (k : Int)) := (hF.at 6 (by kernel_rfl)).trans rfl
                refine wpOp_step rfl (fun K hK => ?_)
                go_simp
                exact hK _ _ ⟨_, rfl, Below.refl _ _, rfl, hW⟩
              · intro B a' w' hB hW hF
                obtain ⟨_, h27, g27, rfl, k27⟩ := hF.val ⟨0, .data⟩ (by simp) rfl _ rfl
                have h28 : a'.tmps[28]? = some (.int .i64 (k : Int)) := by obtain ⟨_, h, e⟩ := hF.val ⟨1, .data⟩ (by simp) rfl _ rfl; rw [h, show _ = (.int .i64 (k : Int) : Value) from e]
                refine wpOp_step rfl (fun K hK => ?_)
                go_simp
                exact hK _ _ ⟨_, rfl, Below.refl _ _, ⟨_, rfl, by rw [hKW.out]; exact k27 k hk6⟩, hW⟩
              · intro B a' w' hB hW hF
                obtain ⟨_, h29, g29, rfl, k29⟩ := hF.val ⟨2, .data⟩ (by simp) rfl _ rfl
                refine wpOp_step rfl (fun K hK => ?_)
                go_simp
                exact hK _ _ ⟨_, rfl, Below.refl _ _, rfl, hW⟩
              · intro B a' w' hB hW hF
                have h4 : a'.tmps[4]? = some (.slice (some ⟨gw, 0, none⟩) 4 cw) := (hF.at 4 (by kernel_rfl)).trans rfl
                refine wpOp_step rfl (fun K hK => ?_)
                go_simp
                exact hK _ _ ⟨_, rfl, Below.refl _ _, rfl, hW⟩
              · intro B a' w' hB hW hF
                have h31 : a'.tmps[31]? = some (.slice (some ⟨gw, 0, none⟩) 4 cw) := by obtain ⟨_, h, e⟩ := hF.val ⟨4, .data⟩ (by simp) rfl _ rfl; rw [h, show _ = (.slice (some ⟨gw, 0, none⟩) 4 cw : Value) from e]
                refine wpOp_step rfl (fun K hK => ?_)
                go_simp
                exact hK _ _ ⟨_, rfl, Below.refl _ _, rfl, hW⟩
              · intro B a' w' hB hW hF
                have h32 : a'.tmps[32]? = some (.pointer (some ⟨gw, 0, none⟩)) := by obtain ⟨_, h, e⟩ := hF.val ⟨5, .data⟩ (by simp) rfl _ rfl; rw [h, show _ = (.pointer (some ⟨gw, 0, none⟩) : Value) from e]
                have e0 : w'.cell? ⟨gw, 0, none⟩ = some (.string p0) := keep_cell hW d0
                refine wpOp_step rfl (fun K hK => ?_)
                go_simp
                exact hK _ _ ⟨_, rfl, Below.refl _ _, rfl, hW⟩
              · intro B a' w' hB hW hF
                have h30 : a'.tmps[30]? = some (.string KW) := by obtain ⟨_, h, e⟩ := hF.val ⟨3, .data⟩ (by simp) rfl _ rfl; rw [h, show _ = (.string KW : Value) from e]
                have h33 : a'.tmps[33]? = some (.string p0) := by obtain ⟨_, h, e⟩ := hF.val ⟨6, .data⟩ (by simp) rfl _ rfl; rw [h, show _ = (.string p0 : Value) from e]
                refine wpOp_step rfl (fun K hK => ?_)
                go_simp
                exact hK _ _ ⟨_, rfl, Below.refl _ _, rfl, hW⟩
            · intro a' w' hL hW
              have hd := hL.defers
              have hs := hL.size
              obtain ⟨_, h27, g27, rfl, k27⟩ := hL.val 0 _ rfl
              have h28 : a'.tmps[28]? = some (.int .i64 (k : Int)) := by obtain ⟨_, h, e⟩ := hL.val 1 _ rfl; rw [h, show _ = (.int .i64 (k : Int) : Value) from e]
              obtain ⟨_, h29, g29, rfl, k29⟩ := hL.val 2 _ rfl
              have h30 : a'.tmps[30]? = some (.string KW) := by obtain ⟨_, h, e⟩ := hL.val 3 _ rfl; rw [h, show _ = (.string KW : Value) from e]
              have h31 : a'.tmps[31]? = some (.slice (some ⟨gw, 0, none⟩) 4 cw) := by obtain ⟨_, h, e⟩ := hL.val 4 _ rfl; rw [h, show _ = (.slice (some ⟨gw, 0, none⟩) 4 cw : Value) from e]
              have h32 : a'.tmps[32]? = some (.pointer (some ⟨gw, 0, none⟩)) := by obtain ⟨_, h, e⟩ := hL.val 5 _ rfl; rw [h, show _ = (.pointer (some ⟨gw, 0, none⟩) : Value) from e]
              have h33 : a'.tmps[33]? = some (.string p0) := by obtain ⟨_, h, e⟩ := hL.val 6 _ rfl; rw [h, show _ = (.string p0 : Value) from e]
              have h34 : a'.tmps[34]? = some (.bool true) := by obtain ⟨_, h, e⟩ := hL.val 7 _ rfl; rw [h, show _ = (.bool true : Value) from e]
              have hlit := act_lit (l := [_, _, _, _, _, _, _, _, _, _, _, _, _, _, _, _, _, _, _, _, _, _, _, _, _, _, _, _, _, _, _, _, _, _, _, _, _, _, _, _, _, _, _, _, _, _, _, _, _, _, _, _, _, _, _]) (hd.trans rfl) (by rw [hs]; rfl) (AllAt.cons ((hL.at 0 (by kernel_rfl)).trans rfl) (AllAt.cons ((hL.at 1 (by kernel_rfl)).trans rfl) (AllAt.cons ((hL.at 2 (by kernel_rfl)).trans rfl) (AllAt.cons ((hL.at 3 (by kernel_rfl)).trans rfl) (AllAt.cons ((hL.at 4 (by kernel_rfl)).trans rfl) (AllAt.cons ((hL.at 5 (by kernel_rfl)).trans rfl) (AllAt.cons ((hL.at 6 (by kernel_rfl)).trans rfl) (AllAt.cons ((hL.at 7 (by kernel_rfl)).trans rfl) (AllAt.cons ((hL.at 8 (by kernel_rfl)).trans rfl) (AllAt.cons ((hL.at 9 (by kernel_rfl)).trans rfl) (AllAt.cons ((hL.at 10 (by kernel_rfl)).trans rfl) (AllAt.cons ((hL.at 11 (by kernel_rfl)).trans rfl) (AllAt.cons ((hL.at 12 (by kernel_rfl)).trans rfl) (AllAt.cons ((hL.at 13 (by kernel_rfl)).trans rfl) (AllAt.cons ((hL.at 14 (by kernel_rfl)).trans rfl) (AllAt.cons ((hL.at 15 (by kernel_rfl)).trans rfl) (AllAt.cons ((hL.at 16 (by kernel_rfl)).trans rfl) (AllAt.cons ((hL.at 17 (by kernel_rfl)).trans rfl) (AllAt.cons ((hL.at 18 (by kernel_rfl)).trans rfl) (AllAt.cons ((hL.at 19 (by kernel_rfl)).trans rfl) (AllAt.cons ((hL.at 20 (by kernel_rfl)).trans rfl) (AllAt.cons ((hL.at 21 (by kernel_rfl)).trans rfl) (AllAt.cons ((hL.at 22 (by kernel_rfl)).trans rfl) (AllAt.cons ((hL.at 23 (by kernel_rfl)).trans rfl) (AllAt.cons ((hL.at 24 (by kernel_rfl)).trans rfl) (AllAt.cons ((hL.at 25 (by kernel_rfl)).trans rfl) (AllAt.cons ((hL.at 26 (by kernel_rfl)).trans rfl) (AllAt.cons h27 (AllAt.cons h28 (AllAt.cons h29 (AllAt.cons h30 (AllAt.cons h31 (AllAt.cons h32 (AllAt.cons h33 (AllAt.cons h34 (AllAt.cons ((hL.at 35 (by kernel_rfl)).trans rfl) (AllAt.cons ((hL.at 36 (by kernel_rfl)).trans rfl) (AllAt.cons ((hL.at 37 (by kernel_rfl)).trans rfl) (AllAt.cons ((hL.at 38 (by kernel_rfl)).trans rfl) (AllAt.cons ((hL.at 39 (by kernel_rfl)).trans rfl) (AllAt.cons ((hL.at 40 (by kernel_rfl)).trans rfl) (AllAt.cons ((hL.at 41 (by kernel_rfl)).trans rfl) (AllAt.cons ((hL.at 42 (by kernel_rfl)).trans rfl) (AllAt.cons ((hL.at 43 (by kernel_rfl)).trans rfl) (AllAt.cons ((hL.at 44 (by kernel_rfl)).trans rfl) (AllAt.cons ((hL.at 45 (by kernel_rfl)).trans rfl) (AllAt.cons ((hL.at 46 (by kernel_rfl)).trans rfl) (AllAt.cons ((hL.at 47 (by kernel_rfl)).trans rfl) (AllAt.cons ((hL.at 48 (by kernel_rfl)).trans rfl) (AllAt.cons ((hL.at 49 (by kernel_rfl)).trans rfl) (AllAt.cons ((hL.at 50 (by kernel_rfl)).trans rfl) (AllAt.cons ((hL.at 51 (by kernel_rfl)).trans rfl) (AllAt.cons ((hL.at 52 (by kernel_rfl)).trans rfl) (AllAt.cons ((hL.at 53 (by kernel_rfl)).trans rfl) (AllAt.cons ((hL.at 54 (by kernel_rfl)).trans rfl) AllAt.nil)))))))))))))))))))))))))))))))))))))))))))))))))))))))
              clear hL hd hs h27 h28 h29 h30 h31 h32 h33 h34
              subst hlit
              dsimp only [List.getElem_toArray, List.getElem_cons_zero, List.getElem_cons_succ]
              have hE2 : Ex (· = g5) w1 w' := hE.trans (Ex.of_below hW)
              have hG2 := (hW.block g5 (Array.getElem?_eq_some_iff.1 hG).1).trans hG
              clear hW hG hE d0 d2
              obtain ⟨x0, -, -, -, -, xf, -⟩ := at5 hG2
              have hG3 := heap_setCell_same _ g5 0 _ _ (.int .i64 (k : Int)) hG2
              have hE3 := ex1 (i := 0) hE2 (.int .i64 (k : Int))
              clear hG2 hE2
              go_wp2_with fail
              go_roundw
              case rel => exact ⟨k + 1, (k : Int), by omega, by go_num, HT, hG3, hE3⟩
              case measure => simp [intOf]; omega
  · have HN : Hid (∀ k m n g t, ¬ ActIs s k m n g t) := act_four (by rw [← hlen]; exact h4)
    have d1 : ((L.length : Int) == 4) = false := by rw [beq_eq_false_iff_ne]; omega
    have d2 : (L.length == 4) = false := by rw [beq_eq_false_iff_ne]; exact h4
    obtain ⟨r0, r1, r2, r3, r4, f0, hlt⟩ := at5 hZ
    have HP := Lib.hid (set5 (.int .i64 0) (.int .i64 0) (.string ⟨#[]⟩) (.string ⟨#[]⟩) (.string ⟨#[]⟩) r0 r1 r2 r3 r4)
    clear hL hlen hZ hc
    go_wp2
    clear r0 r1 r2 r3 r4 f0
    obtain ⟨P0, P1, P2, P3, P4⟩ := HP.out
    clear HP
    exact bodyPost_ret (resActB Tryd.results16 _ _ rfl P0 P1 P2 P3 P4) rfl (ActRet.no HN.out (by repeat (first | (with_reducible exact b1) | (with_reducible refine Below.setCell ?_ (by simp only; omega) _) | (with_reducible refine Below.alloc ?_ (by have := b1.size; simp; omega) _))))
end Go.Proofs.YtackffegdmohiaaDoor
