/- The walk of the reference's NameFor. Condition: the slice reads as the list, texts are no longer than a machine holds. -/
import Derived.Test.YtipalcmfhmmdiaaDoorNameI
import Derived.Test.YtipalcmfhmmdiaaDoorChain
import Derived.Laws.BytesString
namespace Go.Proofs.YtipalcmfhmmdiaaDoor
open Go.RowKit

def digS : Shape Nat := ⟨fun n => [.int .u8 (48 + (n : Int))], 1, by decide, fun _ => rfl, fun x u hu => by simp at hu; subst hu; rfl⟩
theorem run_one_str {P : Program} (w : World) (src dst e : TypeId) (b : Nat) (z : Int) (d : Nat) (hs : P.underlying src = some (.slice e)) (he : P.underlying e = some (.int .u8)) (hd : P.underlying dst = some .string)
    (hc : w.cell? ⟨b, 0, none⟩ = some (.int .u8 z)) (hz : z = d) : (convert src dst (.slice (some ⟨b, 0, none⟩) 1 1)).run P w = .ok (.string ⟨#[UInt8.ofNat d]⟩) w := by
  subst hz
  rw [run_convert_bytes_string w src dst e _ 1 1 hs he hd]
  have hl := run_loadCells_list (P := P) (w := w) ⟨b, 0, none⟩ ([(d : Int)].map (Value.int .u8)) (fun j v hv => by
    cases j with
    | zero => simp at hv; subst hv; rw [Addr.add_lit]; exact hc
    | succ j => simp at hv)
  exact run_bytesToString w _ 1 1 [(d : Int)] hl

set_option maxHeartbeats 1600000 in
theorem s_NameFor (v : Value) (l : List Actr) (wd : ByteArray) (w : World) (h : Sl actrS w v l) (hs : FeedSizes l) (hz : wd.size ≤ 140737488355328) :
    Calls Tryd.prog 6 #[v, .string wd] w fun e w' => e = .returned (.string (nameM l wd)) ∧ Below w.heap.size w w' := by
  cases ha : actorsB l
  · have H : Hid (nameM l wd = ⟨#[]⟩) := by show _ = _; unfold nameM; rw [if_neg (by rw [ha]; simp)]
    go_enter Tryd.func6, Tryd.ntmps6
    go_wp2_with fail
    refine (s_ActorsValid _ l _ h hs).mono ?_
    rintro e w1 ⟨rfl, hb1⟩
    rw [ha]
    go_wp2_with fail
    go_ret
    exact ⟨congrArg (fun z => Ending.returned (.string z)) H.out.symm, hb1⟩
  cases hw : wordB wd.data.toList
  · have H : Hid (nameM l wd = ⟨#[]⟩) := by show _ = _; unfold nameM; rw [if_neg (by rw [hw]; simp)]
    go_enter Tryd.func6, Tryd.ntmps6
    go_wp2_with fail
    refine (s_ActorsValid _ l _ h hs).mono ?_
    rintro e w1 ⟨rfl, hb1⟩
    rw [ha]
    go_wp2_with fail
    refine (s_WordValid _ _ hz).mono ?_
    rintro e w2 ⟨rfl, rfl⟩
    rw [hw]
    go_wp2_with fail
    go_ret
    exact ⟨congrArg (fun z => Ending.returned (.string z)) H.out.symm, hb1⟩
  by_cases hn : namedM l wd < 0
  · have H : Hid (nameM l wd = wd) := by show _ = _; unfold nameM; rw [if_pos ⟨ha, hw⟩, if_pos hn]
    go_enter Tryd.func6, Tryd.ntmps6
    go_wp2_with fail
    refine (s_ActorsValid _ l _ h hs).mono ?_
    rintro e w1 ⟨rfl, hb1⟩
    rw [ha]
    go_wp2_with fail
    refine (s_WordValid _ _ hz).mono ?_
    rintro e w2 ⟨rfl, rfl⟩
    rw [hw]
    go_wp2_with fail
    refine (s_ActorNamed _ l wd _ (h.mono hb1) hs).mono ?_
    rintro e w3 ⟨rfl, hb3⟩
    go_wp2_with fail
    go_ret
    exact ⟨congrArg (fun z => Ending.returned (.string z)) H.out.symm, below_trans hb1 hb3⟩
  · have H : Hid (nameM l wd = nameTry l wd 8 2) := by show _ = _; unfold nameM; rw [if_pos ⟨ha, hw⟩, if_neg hn]
    by_cases e7 : wd.size ≤ 7
    · have hst : Hid (∀ d, candB wd d = wd ++ dgB d) := by show ∀ d, _; intro d; unfold candB stemB; rw [if_pos e7]
      have hsz : wd.size ≤ 7 := by first | exact e7 | (simp [ByteArray.size_extract]; omega)
      have e8 : (wd.size : Int) ≤ 7 := by omega
      clear e7
      go_enter Tryd.func6, Tryd.ntmps6
      go_wp2_with fail
      refine (s_ActorsValid _ l _ h hs).mono ?_
      rintro e w1 ⟨rfl, hb1⟩
      rw [ha]
      go_wp2_with fail
      refine (s_WordValid _ _ hz).mono ?_
      rintro e w2 ⟨rfl, rfl⟩
      rw [hw]
      go_wp2_with fail
      refine (s_ActorNamed _ l wd _ (h.mono hb1) hs).mono ?_
      rintro e w3 ⟨rfl, hb3⟩
      have hB := below_trans hb1 hb3
      clear hb1 hb3
      have dn : decide (namedM l wd < 0) = false := decide_eq_false (by omega)
      go_wp2_with fail
      go_loopw [5] (fun D wr => ∃ d : Nat, 2 ≤ d ∧ d ≤ 10 ∧ D = .int .u8 (48 + (d : Int)) ∧ Hid (nameTry l wd (10 - d) d = nameTry l wd 8 2) ∧ Below w.heap.size w wr) (fun D _ => 58 - (intOf D).toNat)
      case atStart => exact ⟨2, Nat.le_refl _, by omega, rfl, rfl, hB⟩
      case round =>
        clear hB
        obtain ⟨d, hd2, hd, rfl, hT, hB⟩ := hrel
        by_cases hlt : d ≤ 9
        · have hi : (48 + (d : Int)) ≤ 57 := by omega
          have hone := dgB_size d
          by_cases hm : namedM l (candB wd d) < 0
          · have HR : Hid (nameM l wd = wd ++ dgB d) := by rw [← hst.out d]; exact H.out.trans (hT.out.symm.trans (nameTry_hit hlt hm))
            have hm2 : namedM l (wd ++ dgB d) < 0 := by rw [← hst.out d]; exact hm
            have dm : decide (namedM l (wd ++ dgB d) < 0) = true := decide_eq_true (by omega)
            clear hm hT H
            go_wp2_with fail
            refine wp_region_typed_used 9 (fun i w v => KTy.T 5 digS.sz wr.heap.size (([.is (.string wd), .is (.string wd), .is (.int .i64 wd.size), .is (.int .i64 wd.size), .is (.string wd), .is (.int .u8 (48 + (d : Int))), .one ((digS.enc d).toArray), .is (.string (dgB d)), .is (.string (wd ++ dgB d))] : List KTy).getD i .any) w v) (fun i => ([999, 999, 999, 999, 999, 999, 7, 999, 999] : List Nat).getD i 999) (fun w' => Below wr.heap.size wr w') (RApp 5 990 991) (by kernel_rfl) 38 rfl (by decide) (by kernel_rfl) (by kernel_rfl) (by kernel_rfl) (by kernel_rfl) (Below.refl _ _).drew (tyApp (by kernel_rfl)) ?_ ?_
            · refine ⟨?_, ?_, ?_, ?_, ?_, ?_, ?_, ?_, ?_, trivial⟩
              · intro a' w' hW hF
                have h1 : a'.tmps[1]? = some (.string wd) := (hF.at 1 (by kernel_rfl)).trans rfl
                refine wpOp_step rfl (fun K hK => ?_)
                go_simp
                exact hK _ _ ⟨_, rfl, RApp.still (by decide) (World.grownBy.refl _ _), rfl, hW⟩
              · intro a' w' hW hF
                have h1 : a'.tmps[1]? = some (.string wd) := (hF.at 1 (by kernel_rfl)).trans rfl
                refine wpOp_step rfl (fun K hK => ?_)
                go_simp
                exact hK _ _ ⟨_, rfl, RApp.still (by decide) (World.grownBy.refl _ _), rfl, hW⟩
              · intro a' w' hW hF
                obtain ⟨_, h25, rfl⟩ := hF.val ⟨1, .data⟩ (by simp) rfl _ rfl
                refine wpOp_step rfl (fun K hK => ?_)
                go_simp
                exact hK _ _ ⟨_, rfl, RApp.still (by decide) (World.grownBy.refl _ _), rfl, hW⟩
              · intro a' w' hW hF
                obtain ⟨_, h26, rfl⟩ := hF.val ⟨2, .data⟩ (by simp) rfl _ rfl
                refine wpOp_step rfl (fun K hK => ?_)
                go_simp
                rw [if_neg (by omega)]
                have hb : Below w'.heap.size w' w' := Below.refl _ _
                exact hK _ _ ⟨_, rfl, RApp.still (by decide) (grown_below hb _), rfl, below_trans hW hb⟩
              · intro a' w' hW hF
                obtain ⟨_, h24, rfl⟩ := hF.val ⟨0, .data⟩ (by simp) rfl _ rfl
                obtain ⟨_, h27, rfl⟩ := hF.val ⟨3, .data⟩ (by simp) rfl _ rfl
                refine wpOp_step rfl (fun K hK => ?_)
                go_simp
                exact hK _ _ ⟨_, rfl, RApp.still (by decide) (World.grownBy.refl _ _), rfl, hW⟩
              · intro a' w' hW hF
                have h5 : a'.tmps[5]? = some (.int .u8 (48 + (d : Int))) := (hF.at 5 (by kernel_rfl)).trans rfl
                refine wpOp_step rfl (fun K hK => ?_)
                go_simp
                exact hK _ _ ⟨_, rfl, RApp.still (by decide) (World.grownBy.refl _ _), rfl, hW⟩
              · intro a' w' hW hF
                obtain ⟨_, h29, rfl⟩ := hF.val ⟨5, .data⟩ (by simp) rfl _ rfl
                refine wpOp_step rfl (fun K hK => ?_)
                go_simp
                exact hK _ _ ⟨_, rfl, RApp.still (by decide) (World.grownBy_alloc _ _ _), ⟨w'.heap.size, rfl, by rw [List.size_toArray, digS.len]; exact digS.pos, heap_alloc_new w' _⟩, hW.alloc hW.size _⟩
              · intro a' w' hW hF
                obtain ⟨_, h30, g30, rfl, hc30, hb30⟩ := hF.val ⟨6, .data⟩ (by simp) rfl _ rfl
                have hcell : w'.cell? ⟨g30, 0, none⟩ = some (.int .u8 (48 + (d : Int))) := by rw [cell_of_row w' g30 0 _ _ (0, 0) hb30]; rfl
                have hrun := run_one_str (P := Tryd.prog) w' 29 9 5 g30 _ (48 + d) Tryd.underlying29 Tryd.underlying5 Tryd.underlying9 hcell (by omega)
                change _ = Result.ok (Value.string (dgB d)) w' at hrun
                refine wpOp_step rfl (fun K hK => ?_)
                go_simp
                exact hK _ _ ⟨_, rfl, RApp.still (by decide) (World.grownBy.refl _ _), rfl, hW⟩
              · intro a' w' hW hF
                obtain ⟨_, h28, rfl⟩ := hF.val ⟨4, .data⟩ (by simp) rfl _ rfl
                obtain ⟨_, h31, rfl⟩ := hF.val ⟨7, .data⟩ (by simp) rfl _ rfl
                have hone := dgB_size d
                refine wpOp_step rfl (fun K hK => ?_)
                go_simp
                rw [if_neg (by first | omega | (simp [ByteArray.size_extract]; omega))]
                go_simp
                have hb : Below w'.heap.size w' w' := Below.refl _ _
                exact hK _ _ ⟨_, rfl, RApp.still (by decide) (grown_below hb _), rfl, below_trans hW hb⟩
            · intro a' w' hL hW
              have hd := hL.defers
              have hs := hL.size
              obtain ⟨_, h24, rfl⟩ := hL.val 0 _ rfl (by decide)
              obtain ⟨_, h25, rfl⟩ := hL.val 1 _ rfl (by decide)
              obtain ⟨_, h26, rfl⟩ := hL.val 2 _ rfl (by decide)
              obtain ⟨_, h27, rfl⟩ := hL.val 3 _ rfl (by decide)
              obtain ⟨_, h28, rfl⟩ := hL.val 4 _ rfl (by decide)
              obtain ⟨_, h29, rfl⟩ := hL.val 5 _ rfl (by decide)
              obtain ⟨x30, h30⟩ := hL.some_at 30 (by show 30 < 38; decide)
              obtain ⟨_, h31, rfl⟩ := hL.val 7 _ rfl (by decide)
              obtain ⟨_, h32, rfl⟩ := hL.val 8 _ rfl (by decide)
              have hlit := act_lit (l := [_, _, _, _, _, _, _, _, _, _, _, _, _, _, _, _, _, _, _, _, _, _, _, _, _, _, _, _, _, _, _, _, _, _, _, _, _, _]) (hd.trans rfl) (by rw [hs]; rfl) (AllAt.cons ((hL.at 0 (by kernel_rfl)).trans rfl) (AllAt.cons ((hL.at 1 (by kernel_rfl)).trans rfl) (AllAt.cons ((hL.at 2 (by kernel_rfl)).trans rfl) (AllAt.cons ((hL.at 3 (by kernel_rfl)).trans rfl) (AllAt.cons ((hL.at 4 (by kernel_rfl)).trans rfl) (AllAt.cons ((hL.at 5 (by kernel_rfl)).trans rfl) (AllAt.cons ((hL.at 6 (by kernel_rfl)).trans rfl) (AllAt.cons ((hL.at 7 (by kernel_rfl)).trans rfl) (AllAt.cons ((hL.at 8 (by kernel_rfl)).trans rfl) (AllAt.cons ((hL.at 9 (by kernel_rfl)).trans rfl) (AllAt.cons ((hL.at 10 (by kernel_rfl)).trans rfl) (AllAt.cons ((hL.at 11 (by kernel_rfl)).trans rfl) (AllAt.cons ((hL.at 12 (by kernel_rfl)).trans rfl) (AllAt.cons ((hL.at 13 (by kernel_rfl)).trans rfl) (AllAt.cons ((hL.at 14 (by kernel_rfl)).trans rfl) (AllAt.cons ((hL.at 15 (by kernel_rfl)).trans rfl) (AllAt.cons ((hL.at 16 (by kernel_rfl)).trans rfl) (AllAt.cons ((hL.at 17 (by kernel_rfl)).trans rfl) (AllAt.cons ((hL.at 18 (by kernel_rfl)).trans rfl) (AllAt.cons ((hL.at 19 (by kernel_rfl)).trans rfl) (AllAt.cons ((hL.at 20 (by kernel_rfl)).trans rfl) (AllAt.cons ((hL.at 21 (by kernel_rfl)).trans rfl) (AllAt.cons ((hL.at 22 (by kernel_rfl)).trans rfl) (AllAt.cons ((hL.at 23 (by kernel_rfl)).trans rfl) (AllAt.cons h24 (AllAt.cons h25 (AllAt.cons h26 (AllAt.cons h27 (AllAt.cons h28 (AllAt.cons h29 (AllAt.cons h30 (AllAt.cons h31 (AllAt.cons h32 (AllAt.cons ((hL.at 33 (by kernel_rfl)).trans rfl) (AllAt.cons ((hL.at 34 (by kernel_rfl)).trans rfl) (AllAt.cons ((hL.at 35 (by kernel_rfl)).trans rfl) (AllAt.cons ((hL.at 36 (by kernel_rfl)).trans rfl) (AllAt.cons ((hL.at 37 (by kernel_rfl)).trans rfl) AllAt.nil))))))))))))))))))))))))))))))))))))))
              clear hL hd hs h24 h25 h26 h27 h28 h29 h30 h31 h32
              subst hlit
              show wpOps _ _ _ [9] _ _
              rw [wpOps_cons]
              refine wpOp_step rfl (fun K hK => ?_)
              go_simp
              refine hK _ _ ?_
              simp only [wpOps]
              have hB2 : Below w.heap.size w w' := below_trans hB hW
              clear hW hB
              go_wp2_with fail
              refine (s_ActorNamed _ l _ _ (h.mono hB2) hs).mono ?_
              rintro e w5 ⟨rfl, hb5⟩
              go_wp2_with fail
              go_ret
              exact ⟨congrArg (fun z => Ending.returned (.string z)) HR.out.symm, below_trans hB2 hb5⟩
          · have HT2 : Hid (nameTry l wd (10 - (d + 1)) (d + 1) = nameTry l wd 8 2) := (nameTry_miss hlt hm).trans hT.out
            have hm2 : ¬ namedM l (wd ++ dgB d) < 0 := by rw [← hst.out d]; exact hm
            have dm : decide (namedM l (wd ++ dgB d) < 0) = false := decide_eq_false (by omega)
            clear hm hT
            go_wp2_with fail
            refine wp_region_typed_used 9 (fun i w v => KTy.T 5 digS.sz wr.heap.size (([.is (.string wd), .is (.string wd), .is (.int .i64 wd.size), .is (.int .i64 wd.size), .is (.string wd), .is (.int .u8 (48 + (d : Int))), .one ((digS.enc d).toArray), .is (.string (dgB d)), .is (.string (wd ++ dgB d))] : List KTy).getD i .any) w v) (fun i => ([999, 999, 999, 999, 999, 999, 7, 999, 999] : List Nat).getD i 999) (fun w' => Below wr.heap.size wr w') (RApp 5 990 991) (by kernel_rfl) 38 rfl (by decide) (by kernel_rfl) (by kernel_rfl) (by kernel_rfl) (by kernel_rfl) (Below.refl _ _).drew (tyApp (by kernel_rfl)) ?_ ?_
            · refine ⟨?_, ?_, ?_, ?_, ?_, ?_, ?_, ?_, ?_, trivial⟩
              · intro a' w' hW hF
                have h1 : a'.tmps[1]? = some (.string wd) := (hF.at 1 (by kernel_rfl)).trans rfl
                refine wpOp_step rfl (fun K hK => ?_)
                go_simp
                exact hK _ _ ⟨_, rfl, RApp.still (by decide) (World.grownBy.refl _ _), rfl, hW⟩
              · intro a' w' hW hF
                have h1 : a'.tmps[1]? = some (.string wd) := (hF.at 1 (by kernel_rfl)).trans rfl
                refine wpOp_step rfl (fun K hK => ?_)
                go_simp
                exact hK _ _ ⟨_, rfl, RApp.still (by decide) (World.grownBy.refl _ _), rfl, hW⟩
              · intro a' w' hW hF
                obtain ⟨_, h25, rfl⟩ := hF.val ⟨1, .data⟩ (by simp) rfl _ rfl
                refine wpOp_step rfl (fun K hK => ?_)
                go_simp
                exact hK _ _ ⟨_, rfl, RApp.still (by decide) (World.grownBy.refl _ _), rfl, hW⟩
              · intro a' w' hW hF
                obtain ⟨_, h26, rfl⟩ := hF.val ⟨2, .data⟩ (by simp) rfl _ rfl
                refine wpOp_step rfl (fun K hK => ?_)
                go_simp
                rw [if_neg (by omega)]
                have hb : Below w'.heap.size w' w' := Below.refl _ _
                exact hK _ _ ⟨_, rfl, RApp.still (by decide) (grown_below hb _), rfl, below_trans hW hb⟩
              · intro a' w' hW hF
                obtain ⟨_, h24, rfl⟩ := hF.val ⟨0, .data⟩ (by simp) rfl _ rfl
                obtain ⟨_, h27, rfl⟩ := hF.val ⟨3, .data⟩ (by simp) rfl _ rfl
                refine wpOp_step rfl (fun K hK => ?_)
                go_simp
                exact hK _ _ ⟨_, rfl, RApp.still (by decide) (World.grownBy.refl _ _), rfl, hW⟩
              · intro a' w' hW hF
                have h5 : a'.tmps[5]? = some (.int .u8 (48 + (d : Int))) := (hF.at 5 (by kernel_rfl)).trans rfl
                refine wpOp_step rfl (fun K hK => ?_)
                go_simp
                exact hK _ _ ⟨_, rfl, RApp.still (by decide) (World.grownBy.refl _ _), rfl, hW⟩
              · intro a' w' hW hF
                obtain ⟨_, h29, rfl⟩ := hF.val ⟨5, .data⟩ (by simp) rfl _ rfl
                refine wpOp_step rfl (fun K hK => ?_)
                go_simp
                exact hK _ _ ⟨_, rfl, RApp.still (by decide) (World.grownBy_alloc _ _ _), ⟨w'.heap.size, rfl, by rw [List.size_toArray, digS.len]; exact digS.pos, heap_alloc_new w' _⟩, hW.alloc hW.size _⟩
              · intro a' w' hW hF
                obtain ⟨_, h30, g30, rfl, hc30, hb30⟩ := hF.val ⟨6, .data⟩ (by simp) rfl _ rfl
                have hcell : w'.cell? ⟨g30, 0, none⟩ = some (.int .u8 (48 + (d : Int))) := by rw [cell_of_row w' g30 0 _ _ (0, 0) hb30]; rfl
                have hrun := run_one_str (P := Tryd.prog) w' 29 9 5 g30 _ (48 + d) Tryd.underlying29 Tryd.underlying5 Tryd.underlying9 hcell (by omega)
                change _ = Result.ok (Value.string (dgB d)) w' at hrun
                refine wpOp_step rfl (fun K hK => ?_)
                go_simp
                exact hK _ _ ⟨_, rfl, RApp.still (by decide) (World.grownBy.refl _ _), rfl, hW⟩
              · intro a' w' hW hF
                obtain ⟨_, h28, rfl⟩ := hF.val ⟨4, .data⟩ (by simp) rfl _ rfl
                obtain ⟨_, h31, rfl⟩ := hF.val ⟨7, .data⟩ (by simp) rfl _ rfl
                have hone := dgB_size d
                refine wpOp_step rfl (fun K hK => ?_)
                go_simp
                rw [if_neg (by first | omega | (simp [ByteArray.size_extract]; omega))]
                go_simp
                have hb : Below w'.heap.size w' w' := Below.refl _ _
                exact hK _ _ ⟨_, rfl, RApp.still (by decide) (grown_below hb _), rfl, below_trans hW hb⟩
            · intro a' w' hL hW
              have hd := hL.defers
              have hs := hL.size
              obtain ⟨_, h24, rfl⟩ := hL.val 0 _ rfl (by decide)
              obtain ⟨_, h25, rfl⟩ := hL.val 1 _ rfl (by decide)
              obtain ⟨_, h26, rfl⟩ := hL.val 2 _ rfl (by decide)
              obtain ⟨_, h27, rfl⟩ := hL.val 3 _ rfl (by decide)
              obtain ⟨_, h28, rfl⟩ := hL.val 4 _ rfl (by decide)
              obtain ⟨_, h29, rfl⟩ := hL.val 5 _ rfl (by decide)
              obtain ⟨x30, h30⟩ := hL.some_at 30 (by show 30 < 38; decide)
              obtain ⟨_, h31, rfl⟩ := hL.val 7 _ rfl (by decide)
              obtain ⟨_, h32, rfl⟩ := hL.val 8 _ rfl (by decide)
              have hlit := act_lit (l := [_, _, _, _, _, _, _, _, _, _, _, _, _, _, _, _, _, _, _, _, _, _, _, _, _, _, _, _, _, _, _, _, _, _, _, _, _, _]) (hd.trans rfl) (by rw [hs]; rfl) (AllAt.cons ((hL.at 0 (by kernel_rfl)).trans rfl) (AllAt.cons ((hL.at 1 (by kernel_rfl)).trans rfl) (AllAt.cons ((hL.at 2 (by kernel_rfl)).trans rfl) (AllAt.cons ((hL.at 3 (by kernel_rfl)).trans rfl) (AllAt.cons ((hL.at 4 (by kernel_rfl)).trans rfl) (AllAt.cons ((hL.at 5 (by kernel_rfl)).trans rfl) (AllAt.cons ((hL.at 6 (by kernel_rfl)).trans rfl) (AllAt.cons ((hL.at 7 (by kernel_rfl)).trans rfl) (AllAt.cons ((hL.at 8 (by kernel_rfl)).trans rfl) (AllAt.cons ((hL.at 9 (by kernel_rfl)).trans rfl) (AllAt.cons ((hL.at 10 (by kernel_rfl)).trans rfl) (AllAt.cons ((hL.at 11 (by kernel_rfl)).trans rfl) (AllAt.cons ((hL.at 12 (by kernel_rfl)).trans rfl) (AllAt.cons ((hL.at 13 (by kernel_rfl)).trans rfl) (AllAt.cons ((hL.at 14 (by kernel_rfl)).trans rfl) (AllAt.cons ((hL.at 15 (by kernel_rfl)).trans rfl) (AllAt.cons ((hL.at 16 (by kernel_rfl)).trans rfl) (AllAt.cons ((hL.at 17 (by kernel_rfl)).trans rfl) (AllAt.cons ((hL.at 18 (by kernel_rfl)).trans rfl) (AllAt.cons ((hL.at 19 (by kernel_rfl)).trans rfl) (AllAt.cons ((hL.at 20 (by kernel_rfl)).trans rfl) (AllAt.cons ((hL.at 21 (by kernel_rfl)).trans rfl) (AllAt.cons ((hL.at 22 (by kernel_rfl)).trans rfl) (AllAt.cons ((hL.at 23 (by kernel_rfl)).trans rfl) (AllAt.cons h24 (AllAt.cons h25 (AllAt.cons h26 (AllAt.cons h27 (AllAt.cons h28 (AllAt.cons h29 (AllAt.cons h30 (AllAt.cons h31 (AllAt.cons h32 (AllAt.cons ((hL.at 33 (by kernel_rfl)).trans rfl) (AllAt.cons ((hL.at 34 (by kernel_rfl)).trans rfl) (AllAt.cons ((hL.at 35 (by kernel_rfl)).trans rfl) (AllAt.cons ((hL.at 36 (by kernel_rfl)).trans rfl) (AllAt.cons ((hL.at 37 (by kernel_rfl)).trans rfl) AllAt.nil))))))))))))))))))))))))))))))))))))))
              clear hL hd hs h24 h25 h26 h27 h28 h29 h30 h31 h32
              subst hlit
              show wpOps _ _ _ [9] _ _
              rw [wpOps_cons]
              refine wpOp_step rfl (fun K hK => ?_)
              go_simp
              refine hK _ _ ?_
              simp only [wpOps]
              have hB2 : Below w.heap.size w w' := below_trans hB hW
              clear hW hB
              go_wp2_with fail
              refine (s_ActorNamed _ l _ _ (h.mono hB2) hs).mono ?_
              rintro e w5 ⟨rfl, hb5⟩
              have hB5 := below_trans hB2 hb5
              clear hB2 hb5
              go_wp2_with fail
              go_roundw
              case rel => exact ⟨d + 1, by omega, by omega, by go_num, HT2, hB5⟩
              case measure => simp [intOf]; omega
        · have HR : Hid (nameM l wd = ⟨#[]⟩) := by
            obtain rfl : d = 10 := by omega
            exact H.out.trans hT.out.symm
          have hi : ¬ (48 + (d : Int)) ≤ 57 := by omega
          clear hT H
          go_wp2_with fail
          go_ret
          exact ⟨congrArg (fun z => Ending.returned (.string z)) HR.out.symm, hB⟩
    · have hst : Hid (∀ d, candB wd d = (wd.extract 0 7) ++ dgB d) := by show ∀ d, _; intro d; unfold candB stemB; rw [if_neg e7]
      have hsz : (wd.extract 0 7).size ≤ 7 := by first | exact e7 | (simp [ByteArray.size_extract]; omega)
      have e8 : (7 : Int) < wd.size := by omega
      clear e7
      go_enter Tryd.func6, Tryd.ntmps6
      go_wp2_with fail
      refine (s_ActorsValid _ l _ h hs).mono ?_
      rintro e w1 ⟨rfl, hb1⟩
      rw [ha]
      go_wp2_with fail
      refine (s_WordValid _ _ hz).mono ?_
      rintro e w2 ⟨rfl, rfl⟩
      rw [hw]
      go_wp2_with fail
      refine (s_ActorNamed _ l wd _ (h.mono hb1) hs).mono ?_
      rintro e w3 ⟨rfl, hb3⟩
      have hB := below_trans hb1 hb3
      clear hb1 hb3
      have dn : decide (namedM l wd < 0) = false := decide_eq_false (by omega)
      go_wp2_with fail
      go_loopw [5] (fun D wr => ∃ d : Nat, 2 ≤ d ∧ d ≤ 10 ∧ D = .int .u8 (48 + (d : Int)) ∧ Hid (nameTry l wd (10 - d) d = nameTry l wd 8 2) ∧ Below w.heap.size w wr) (fun D _ => 58 - (intOf D).toNat)
      case atStart => exact ⟨2, Nat.le_refl _, by omega, rfl, rfl, hB⟩
      case round =>
        clear hB
        obtain ⟨d, hd2, hd, rfl, hT, hB⟩ := hrel
        by_cases hlt : d ≤ 9
        · have hi : (48 + (d : Int)) ≤ 57 := by omega
          have hone := dgB_size d
          by_cases hm : namedM l (candB wd d) < 0
          · have HR : Hid (nameM l wd = (wd.extract 0 7) ++ dgB d) := by rw [← hst.out d]; exact H.out.trans (hT.out.symm.trans (nameTry_hit hlt hm))
            have hm2 : namedM l ((wd.extract 0 7) ++ dgB d) < 0 := by rw [← hst.out d]; exact hm
            have dm : decide (namedM l ((wd.extract 0 7) ++ dgB d) < 0) = true := decide_eq_true (by omega)
            clear hm hT H
            go_wp2_with fail
            refine wp_region_typed_used 9 (fun i w v => KTy.T 5 digS.sz wr.heap.size (([.is (.string wd), .is (.string wd), .is (.int .i64 wd.size), .is (.int .i64 7), .is (.string (wd.extract 0 7)), .is (.int .u8 (48 + (d : Int))), .one ((digS.enc d).toArray), .is (.string (dgB d)), .is (.string ((wd.extract 0 7) ++ dgB d))] : List KTy).getD i .any) w v) (fun i => ([999, 999, 999, 999, 999, 999, 7, 999, 999] : List Nat).getD i 999) (fun w' => Below wr.heap.size wr w') (RApp 5 990 991) (by kernel_rfl) 38 rfl (by decide) (by kernel_rfl) (by kernel_rfl) (by kernel_rfl) (by kernel_rfl) (Below.refl _ _).drew (tyApp (by kernel_rfl)) ?_ ?_
            · refine ⟨?_, ?_, ?_, ?_, ?_, ?_, ?_, ?_, ?_, trivial⟩
              · intro a' w' hW hF
                have h1 : a'.tmps[1]? = some (.string wd) := (hF.at 1 (by kernel_rfl)).trans rfl
                refine wpOp_step rfl (fun K hK => ?_)
                go_simp
                exact hK _ _ ⟨_, rfl, RApp.still (by decide) (World.grownBy.refl _ _), rfl, hW⟩
              · intro a' w' hW hF
                have h1 : a'.tmps[1]? = some (.string wd) := (hF.at 1 (by kernel_rfl)).trans rfl
                refine wpOp_step rfl (fun K hK => ?_)
                go_simp
                exact hK _ _ ⟨_, rfl, RApp.still (by decide) (World.grownBy.refl _ _), rfl, hW⟩
              · intro a' w' hW hF
                obtain ⟨_, h25, rfl⟩ := hF.val ⟨1, .data⟩ (by simp) rfl _ rfl
                refine wpOp_step rfl (fun K hK => ?_)
                go_simp
                exact hK _ _ ⟨_, rfl, RApp.still (by decide) (World.grownBy.refl _ _), rfl, hW⟩
              · intro a' w' hW hF
                obtain ⟨_, h26, rfl⟩ := hF.val ⟨2, .data⟩ (by simp) rfl _ rfl
                refine wpOp_step rfl (fun K hK => ?_)
                go_simp
                skip
                have hb : Below w'.heap.size w' w' := Below.refl _ _
                exact hK _ _ ⟨_, rfl, RApp.still (by decide) (grown_below hb _), rfl, below_trans hW hb⟩
              · intro a' w' hW hF
                obtain ⟨_, h24, rfl⟩ := hF.val ⟨0, .data⟩ (by simp) rfl _ rfl
                obtain ⟨_, h27, rfl⟩ := hF.val ⟨3, .data⟩ (by simp) rfl _ rfl
                have p1 : (7 : Int) ≤ wd.size := by omega
                have p2 : 7 ≤ wd.size := by omega
                have p3 : ¬ (wd.size : Int) < 7 := by omega
                have p4 : ¬ wd.size < 7 := by omega
                refine wpOp_step rfl (fun K hK => ?_)
                go_simp
                exact hK _ _ ⟨_, rfl, RApp.still (by decide) (World.grownBy.refl _ _), rfl, hW⟩
              · intro a' w' hW hF
                have h5 : a'.tmps[5]? = some (.int .u8 (48 + (d : Int))) := (hF.at 5 (by kernel_rfl)).trans rfl
                refine wpOp_step rfl (fun K hK => ?_)
                go_simp
                exact hK _ _ ⟨_, rfl, RApp.still (by decide) (World.grownBy.refl _ _), rfl, hW⟩
              · intro a' w' hW hF
                obtain ⟨_, h29, rfl⟩ := hF.val ⟨5, .data⟩ (by simp) rfl _ rfl
                refine wpOp_step rfl (fun K hK => ?_)
                go_simp
                exact hK _ _ ⟨_, rfl, RApp.still (by decide) (World.grownBy_alloc _ _ _), ⟨w'.heap.size, rfl, by rw [List.size_toArray, digS.len]; exact digS.pos, heap_alloc_new w' _⟩, hW.alloc hW.size _⟩
              · intro a' w' hW hF
                obtain ⟨_, h30, g30, rfl, hc30, hb30⟩ := hF.val ⟨6, .data⟩ (by simp) rfl _ rfl
                have hcell : w'.cell? ⟨g30, 0, none⟩ = some (.int .u8 (48 + (d : Int))) := by rw [cell_of_row w' g30 0 _ _ (0, 0) hb30]; rfl
                have hrun := run_one_str (P := Tryd.prog) w' 29 9 5 g30 _ (48 + d) Tryd.underlying29 Tryd.underlying5 Tryd.underlying9 hcell (by omega)
                change _ = Result.ok (Value.string (dgB d)) w' at hrun
                refine wpOp_step rfl (fun K hK => ?_)
                go_simp
                exact hK _ _ ⟨_, rfl, RApp.still (by decide) (World.grownBy.refl _ _), rfl, hW⟩
              · intro a' w' hW hF
                obtain ⟨_, h28, rfl⟩ := hF.val ⟨4, .data⟩ (by simp) rfl _ rfl
                obtain ⟨_, h31, rfl⟩ := hF.val ⟨7, .data⟩ (by simp) rfl _ rfl
                have hone := dgB_size d
                refine wpOp_step rfl (fun K hK => ?_)
                go_simp
                rw [if_neg (by first | omega | (simp [ByteArray.size_extract]; omega))]
                go_simp
                have hb : Below w'.heap.size w' w' := Below.refl _ _
                exact hK _ _ ⟨_, rfl, RApp.still (by decide) (grown_below hb _), rfl, below_trans hW hb⟩
            · intro a' w' hL hW
              have hd := hL.defers
              have hs := hL.size
              obtain ⟨_, h24, rfl⟩ := hL.val 0 _ rfl (by decide)
              obtain ⟨_, h25, rfl⟩ := hL.val 1 _ rfl (by decide)
              obtain ⟨_, h26, rfl⟩ := hL.val 2 _ rfl (by decide)
              obtain ⟨_, h27, rfl⟩ := hL.val 3 _ rfl (by decide)
              obtain ⟨_, h28, rfl⟩ := hL.val 4 _ rfl (by decide)
              obtain ⟨_, h29, rfl⟩ := hL.val 5 _ rfl (by decide)
              obtain ⟨x30, h30⟩ := hL.some_at 30 (by show 30 < 38; decide)
              obtain ⟨_, h31, rfl⟩ := hL.val 7 _ rfl (by decide)
              obtain ⟨_, h32, rfl⟩ := hL.val 8 _ rfl (by decide)
              have hlit := act_lit (l := [_, _, _, _, _, _, _, _, _, _, _, _, _, _, _, _, _, _, _, _, _, _, _, _, _, _, _, _, _, _, _, _, _, _, _, _, _, _]) (hd.trans rfl) (by rw [hs]; rfl) (AllAt.cons ((hL.at 0 (by kernel_rfl)).trans rfl) (AllAt.cons ((hL.at 1 (by kernel_rfl)).trans rfl) (AllAt.cons ((hL.at 2 (by kernel_rfl)).trans rfl) (AllAt.cons ((hL.at 3 (by kernel_rfl)).trans rfl) (AllAt.cons ((hL.at 4 (by kernel_rfl)).trans rfl) (AllAt.cons ((hL.at 5 (by kernel_rfl)).trans rfl) (AllAt.cons ((hL.at 6 (by kernel_rfl)).trans rfl) (AllAt.cons ((hL.at 7 (by kernel_rfl)).trans rfl) (AllAt.cons ((hL.at 8 (by kernel_rfl)).trans rfl) (AllAt.cons ((hL.at 9 (by kernel_rfl)).trans rfl) (AllAt.cons ((hL.at 10 (by kernel_rfl)).trans rfl) (AllAt.cons ((hL.at 11 (by kernel_rfl)).trans rfl) (AllAt.cons ((hL.at 12 (by kernel_rfl)).trans rfl) (AllAt.cons ((hL.at 13 (by kernel_rfl)).trans rfl) (AllAt.cons ((hL.at 14 (by kernel_rfl)).trans rfl) (AllAt.cons ((hL.at 15 (by kernel_rfl)).trans rfl) (AllAt.cons ((hL.at 16 (by kernel_rfl)).trans rfl) (AllAt.cons ((hL.at 17 (by kernel_rfl)).trans rfl) (AllAt.cons ((hL.at 18 (by kernel_rfl)).trans rfl) (AllAt.cons ((hL.at 19 (by kernel_rfl)).trans rfl) (AllAt.cons ((hL.at 20 (by kernel_rfl)).trans rfl) (AllAt.cons ((hL.at 21 (by kernel_rfl)).trans rfl) (AllAt.cons ((hL.at 22 (by kernel_rfl)).trans rfl) (AllAt.cons ((hL.at 23 (by kernel_rfl)).trans rfl) (AllAt.cons h24 (AllAt.cons h25 (AllAt.cons h26 (AllAt.cons h27 (AllAt.cons h28 (AllAt.cons h29 (AllAt.cons h30 (AllAt.cons h31 (AllAt.cons h32 (AllAt.cons ((hL.at 33 (by kernel_rfl)).trans rfl) (AllAt.cons ((hL.at 34 (by kernel_rfl)).trans rfl) (AllAt.cons ((hL.at 35 (by kernel_rfl)).trans rfl) (AllAt.cons ((hL.at 36 (by kernel_rfl)).trans rfl) (AllAt.cons ((hL.at 37 (by kernel_rfl)).trans rfl) AllAt.nil))))))))))))))))))))))))))))))))))))))
              clear hL hd hs h24 h25 h26 h27 h28 h29 h30 h31 h32
              subst hlit
              show wpOps _ _ _ [9] _ _
              rw [wpOps_cons]
              refine wpOp_step rfl (fun K hK => ?_)
              go_simp
              refine hK _ _ ?_
              simp only [wpOps]
              have hB2 : Below w.heap.size w w' := below_trans hB hW
              clear hW hB
              go_wp2_with fail
              refine (s_ActorNamed _ l _ _ (h.mono hB2) hs).mono ?_
              rintro e w5 ⟨rfl, hb5⟩
              go_wp2_with fail
              go_ret
              exact ⟨congrArg (fun z => Ending.returned (.string z)) HR.out.symm, below_trans hB2 hb5⟩
          · have HT2 : Hid (nameTry l wd (10 - (d + 1)) (d + 1) = nameTry l wd 8 2) := (nameTry_miss hlt hm).trans hT.out
            have hm2 : ¬ namedM l ((wd.extract 0 7) ++ dgB d) < 0 := by rw [← hst.out d]; exact hm
            have dm : decide (namedM l ((wd.extract 0 7) ++ dgB d) < 0) = false := decide_eq_false (by omega)
            clear hm hT
            go_wp2_with fail
            refine wp_region_typed_used 9 (fun i w v => KTy.T 5 digS.sz wr.heap.size (([.is (.string wd), .is (.string wd), .is (.int .i64 wd.size), .is (.int .i64 7), .is (.string (wd.extract 0 7)), .is (.int .u8 (48 + (d : Int))), .one ((digS.enc d).toArray), .is (.string (dgB d)), .is (.string ((wd.extract 0 7) ++ dgB d))] : List KTy).getD i .any) w v) (fun i => ([999, 999, 999, 999, 999, 999, 7, 999, 999] : List Nat).getD i 999) (fun w' => Below wr.heap.size wr w') (RApp 5 990 991) (by kernel_rfl) 38 rfl (by decide) (by kernel_rfl) (by kernel_rfl) (by kernel_rfl) (by kernel_rfl) (Below.refl _ _).drew (tyApp (by kernel_rfl)) ?_ ?_
            · refine ⟨?_, ?_, ?_, ?_, ?_, ?_, ?_, ?_, ?_, trivial⟩
              · intro a' w' hW hF
                have h1 : a'.tmps[1]? = some (.string wd) := (hF.at 1 (by kernel_rfl)).trans rfl
                refine wpOp_step rfl (fun K hK => ?_)
                go_simp
                exact hK _ _ ⟨_, rfl, RApp.still (by decide) (World.grownBy.refl _ _), rfl, hW⟩
              · intro a' w' hW hF
                have h1 : a'.tmps[1]? = some (.string wd) := (hF.at 1 (by kernel_rfl)).trans rfl
                refine wpOp_step rfl (fun K hK => ?_)
                go_simp
                exact hK _ _ ⟨_, rfl, RApp.still (by decide) (World.grownBy.refl _ _), rfl, hW⟩
              · intro a' w' hW hF
                obtain ⟨_, h25, rfl⟩ := hF.val ⟨1, .data⟩ (by simp) rfl _ rfl
                refine wpOp_step rfl (fun K hK => ?_)
                go_simp
                exact hK _ _ ⟨_, rfl, RApp.still (by decide) (World.grownBy.refl _ _), rfl, hW⟩
              · intro a' w' hW hF
                obtain ⟨_, h26, rfl⟩ := hF.val ⟨2, .data⟩ (by simp) rfl _ rfl
                refine wpOp_step rfl (fun K hK => ?_)
                go_simp
                skip
                have hb : Below w'.heap.size w' w' := Below.refl _ _
                exact hK _ _ ⟨_, rfl, RApp.still (by decide) (grown_below hb _), rfl, below_trans hW hb⟩
              · intro a' w' hW hF
                obtain ⟨_, h24, rfl⟩ := hF.val ⟨0, .data⟩ (by simp) rfl _ rfl
                obtain ⟨_, h27, rfl⟩ := hF.val ⟨3, .data⟩ (by simp) rfl _ rfl
                have p1 : (7 : Int) ≤ wd.size := by omega
                have p2 : 7 ≤ wd.size := by omega
                have p3 : ¬ (wd.size : Int) < 7 := by omega
                have p4 : ¬ wd.size < 7 := by omega
                refine wpOp_step rfl (fun K hK => ?_)
                go_simp
                exact hK _ _ ⟨_, rfl, RApp.still (by decide) (World.grownBy.refl _ _), rfl, hW⟩
              · intro a' w' hW hF
                have h5 : a'.tmps[5]? = some (.int .u8 (48 + (d : Int))) := (hF.at 5 (by kernel_rfl)).trans rfl
                refine wpOp_step rfl (fun K hK => ?_)
                go_simp
                exact hK _ _ ⟨_, rfl, RApp.still (by decide) (World.grownBy.refl _ _), rfl, hW⟩
              · intro a' w' hW hF
                obtain ⟨_, h29, rfl⟩ := hF.val ⟨5, .data⟩ (by simp) rfl _ rfl
                refine wpOp_step rfl (fun K hK => ?_)
                go_simp
                exact hK _ _ ⟨_, rfl, RApp.still (by decide) (World.grownBy_alloc _ _ _), ⟨w'.heap.size, rfl, by rw [List.size_toArray, digS.len]; exact digS.pos, heap_alloc_new w' _⟩, hW.alloc hW.size _⟩
              · intro a' w' hW hF
                obtain ⟨_, h30, g30, rfl, hc30, hb30⟩ := hF.val ⟨6, .data⟩ (by simp) rfl _ rfl
                have hcell : w'.cell? ⟨g30, 0, none⟩ = some (.int .u8 (48 + (d : Int))) := by rw [cell_of_row w' g30 0 _ _ (0, 0) hb30]; rfl
                have hrun := run_one_str (P := Tryd.prog) w' 29 9 5 g30 _ (48 + d) Tryd.underlying29 Tryd.underlying5 Tryd.underlying9 hcell (by omega)
                change _ = Result.ok (Value.string (dgB d)) w' at hrun
                refine wpOp_step rfl (fun K hK => ?_)
                go_simp
                exact hK _ _ ⟨_, rfl, RApp.still (by decide) (World.grownBy.refl _ _), rfl, hW⟩
              · intro a' w' hW hF
                obtain ⟨_, h28, rfl⟩ := hF.val ⟨4, .data⟩ (by simp) rfl _ rfl
                obtain ⟨_, h31, rfl⟩ := hF.val ⟨7, .data⟩ (by simp) rfl _ rfl
                have hone := dgB_size d
                refine wpOp_step rfl (fun K hK => ?_)
                go_simp
                rw [if_neg (by first | omega | (simp [ByteArray.size_extract]; omega))]
                go_simp
                have hb : Below w'.heap.size w' w' := Below.refl _ _
                exact hK _ _ ⟨_, rfl, RApp.still (by decide) (grown_below hb _), rfl, below_trans hW hb⟩
            · intro a' w' hL hW
              have hd := hL.defers
              have hs := hL.size
              obtain ⟨_, h24, rfl⟩ := hL.val 0 _ rfl (by decide)
              obtain ⟨_, h25, rfl⟩ := hL.val 1 _ rfl (by decide)
              obtain ⟨_, h26, rfl⟩ := hL.val 2 _ rfl (by decide)
              obtain ⟨_, h27, rfl⟩ := hL.val 3 _ rfl (by decide)
              obtain ⟨_, h28, rfl⟩ := hL.val 4 _ rfl (by decide)
              obtain ⟨_, h29, rfl⟩ := hL.val 5 _ rfl (by decide)
              obtain ⟨x30, h30⟩ := hL.some_at 30 (by show 30 < 38; decide)
              obtain ⟨_, h31, rfl⟩ := hL.val 7 _ rfl (by decide)
              obtain ⟨_, h32, rfl⟩ := hL.val 8 _ rfl (by decide)
              have hlit := act_lit (l := [_, _, _, _, _, _, _, _, _, _, _, _, _, _, _, _, _, _, _, _, _, _, _, _, _, _, _, _, _, _, _, _, _, _, _, _, _, _]) (hd.trans rfl) (by rw [hs]; rfl) (AllAt.cons ((hL.at 0 (by kernel_rfl)).trans rfl) (AllAt.cons ((hL.at 1 (by kernel_rfl)).trans rfl) (AllAt.cons ((hL.at 2 (by kernel_rfl)).trans rfl) (AllAt.cons ((hL.at 3 (by kernel_rfl)).trans rfl) (AllAt.cons ((hL.at 4 (by kernel_rfl)).trans rfl) (AllAt.cons ((hL.at 5 (by kernel_rfl)).trans rfl) (AllAt.cons ((hL.at 6 (by kernel_rfl)).trans rfl) (AllAt.cons ((hL.at 7 (by kernel_rfl)).trans rfl) (AllAt.cons ((hL.at 8 (by kernel_rfl)).trans rfl) (AllAt.cons ((hL.at 9 (by kernel_rfl)).trans rfl) (AllAt.cons ((hL.at 10 (by kernel_rfl)).trans rfl) (AllAt.cons ((hL.at 11 (by kernel_rfl)).trans rfl) (AllAt.cons ((hL.at 12 (by kernel_rfl)).trans rfl) (AllAt.cons ((hL.at 13 (by kernel_rfl)).trans rfl) (AllAt.cons ((hL.at 14 (by kernel_rfl)).trans rfl) (AllAt.cons ((hL.at 15 (by kernel_rfl)).trans rfl) (AllAt.cons ((hL.at 16 (by kernel_rfl)).trans rfl) (AllAt.cons ((hL.at 17 (by kernel_rfl)).trans rfl) (AllAt.cons ((hL.at 18 (by kernel_rfl)).trans rfl) (AllAt.cons ((hL.at 19 (by kernel_rfl)).trans rfl) (AllAt.cons ((hL.at 20 (by kernel_rfl)).trans rfl) (AllAt.cons ((hL.at 21 (by kernel_rfl)).trans rfl) (AllAt.cons ((hL.at 22 (by kernel_rfl)).trans rfl) (AllAt.cons ((hL.at 23 (by kernel_rfl)).trans rfl) (AllAt.cons h24 (AllAt.cons h25 (AllAt.cons h26 (AllAt.cons h27 (AllAt.cons h28 (AllAt.cons h29 (AllAt.cons h30 (AllAt.cons h31 (AllAt.cons h32 (AllAt.cons ((hL.at 33 (by kernel_rfl)).trans rfl) (AllAt.cons ((hL.at 34 (by kernel_rfl)).trans rfl) (AllAt.cons ((hL.at 35 (by kernel_rfl)).trans rfl) (AllAt.cons ((hL.at 36 (by kernel_rfl)).trans rfl) (AllAt.cons ((hL.at 37 (by kernel_rfl)).trans rfl) AllAt.nil))))))))))))))))))))))))))))))))))))))
              clear hL hd hs h24 h25 h26 h27 h28 h29 h30 h31 h32
              subst hlit
              show wpOps _ _ _ [9] _ _
              rw [wpOps_cons]
              refine wpOp_step rfl (fun K hK => ?_)
              go_simp
              refine hK _ _ ?_
              simp only [wpOps]
              have hB2 : Below w.heap.size w w' := below_trans hB hW
              clear hW hB
              go_wp2_with fail
              refine (s_ActorNamed _ l _ _ (h.mono hB2) hs).mono ?_
              rintro e w5 ⟨rfl, hb5⟩
              have hB5 := below_trans hB2 hb5
              clear hB2 hb5
              go_wp2_with fail
              go_roundw
              case rel => exact ⟨d + 1, by omega, by omega, by go_num, HT2, hB5⟩
              case measure => simp [intOf]; omega
        · have HR : Hid (nameM l wd = ⟨#[]⟩) := by
            obtain rfl : d = 10 := by omega
            exact H.out.trans hT.out.symm
          have hi : ¬ (48 + (d : Int)) ≤ 57 := by omega
          clear hT H
          go_wp2_with fail
          go_ret
          exact ⟨congrArg (fun z => Ending.returned (.string z)) HR.out.symm, hB⟩
end Go.Proofs.YtipalcmfhmmdiaaDoor
