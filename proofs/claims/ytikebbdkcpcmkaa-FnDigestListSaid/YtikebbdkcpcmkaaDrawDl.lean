/- The walk of the reference's drawing function for DigestList's law. No condition. -/
import Derived.Test.YtikebbdkcpcmkaaIntL
import Derived.Test.YtikebbdkcpcmkaaDrawO
import Derived.Test.YtikebbdkcpcmkaaDrawOwn
import Derived.Test.YtikebbdkcpcmkaaApp
namespace Go.Proofs.Ytikebbdkcpcmkaa
open Go.RowKit

theorem one_TI {X : Nat → Prop} {w : World} {v : Value} {lo hi : Int} (h : (sSl (X := X) 1 [sInt X lo hi]).T w v) : ∃ n : Int, Sl intS w v [n] := by
  obtain ⟨b, rfl, hc⟩ := h
  obtain ⟨u0, c0, k, rfl, h1, h2⟩ := (hc 0 (by decide)).2 0 _ rfl
  refine ⟨k, ⟨some ⟨b, 0, none⟩, 1, rfl, Nat.le_refl _, by simp [maxLen], .inr ⟨b, 0, rfl, World.block_lt_of_cell? w _ c0, fun j u hu => ?_⟩⟩⟩
  match j with
  | 0 => simp [intS, Shape.cells] at hu; subst hu; simpa using c0
  | j + 1 => simp [intS, Shape.cells] at hu
def DrawInts (w : World) (e : Ending) (w' : World) : Prop := ∃ v o, e = .returned v ∧ o.length ≤ 21 ∧ Sl intS w' v o ∧ Below w.heap.size w w'
theorem DrawInts.mk {w w' : World} {v : Value} {o : List Int} (h1 : o.length ≤ 21) (h2 : Sl intS w' v o) (h3 : Below w.heap.size w w') : DrawInts w (.returned v) w' := ⟨v, o, rfl, h1, h2, h3⟩
set_option maxHeartbeats 3200000 in
theorem draw_DigestList (v : Value) (l : List UInt8) (w : World) (h : Sl byteS w v l) :
    Calls Try.prog 17 #[v] w (DrawInts w) := by
  obtain ⟨i0, hi, hz0, hz1, hz2⟩ := info_parts Try.infoI
  go_enter Try.func17, Try.ntmps17
  go_wp2_with fail
  refine (open_any v l _ h).mono ?_
  rintro e w1 ⟨rfl, hR0, hB⟩
  have hrb : w.heap.size < w1.heap.size := hR0.lt
  obtain ⟨rb, hrbe⟩ : ∃ rb, Hid (rb = w.heap.size) := ⟨_, rfl⟩
  rw [← hrbe.out] at hR0 hrb
  rw [← hrbe.out]
  go_wp2_with fail
  refine (pick_any rb 0 8 _ (hR0.below (below1 _ _)) (by omega) (by omega)).mono ?_
  rintro e w2 ⟨k0, rfl, hk0, hR1, hE1⟩
  obtain ⟨k1, rfl⟩ := Int.eq_ofNat_of_zero_le hk0.1
  have hk5 : k1 ≤ 7 := by have := hk0.2.1 (by decide); omega
  have hE : Ex (· = rb) w1 w2 := ((Ex.refl _ _).alloc _).trans hE1
  have hown : w2.ownsRow w1.heap.size 3 intS.sz (.slice (some ⟨w1.heap.size, 0, none⟩) 0 0) 0 (intS.cells []) := own_ex (World.ownsRow_lit _ _ _ (Nat.le_refl _) (by simp [maxLen]) (by simp)) hrb hE1
  clear hE1 hk0
  go_wp2_with fail
  go_loopw [4, 5] (fun V K wr => ∃ (k : Nat) (o : List Int) (uV : Value), uV = V ∧ K = .int .i64 (k : Int) ∧ k ≤ 7 ∧ o.length + k ≤ 7 ∧ wr.ownsRow w1.heap.size 3 intS.sz uV o.length (intS.cells o) ∧ Rd wr rb (1 + 2 * (7 - k)) ∧ Ex (· = rb) w1 wr) (fun _ K _ => (intOf K).toNat)
  case atStart => exact ⟨k1, [], _, rfl, rfl, hk5, by simp; omega, hown, hR1.mono (by omega), hE⟩
  case round =>
    clear hown hR1 hE hk5
    obtain ⟨wo, rfl⟩ : ∃ wo : World, wo = wr := ⟨_, rfl⟩
    obtain ⟨k, o, uV, rfl, rfl, hk, hlen, hown, hR, hE⟩ := hrel
    by_cases hk0 : k = 0
    · subst hk0
      go_wp2_with fail
      refine (odd_any rb _ 24 _ hR (by omega) (by omega) (by omega)).mono ?_
      rintro e w3 ⟨_, rfl, ⟨b, rfl⟩, hR2, hE2⟩
      have hown2 := own_ex hown hrb hE2
      have hE4 := hE.trans hE2
      have hB4 : Below w.heap.size w w3 := by
        have := hrbe.out
        exact hB.trans (hE4.below hB.size (fun k hk => by omega))
      cases b
      · go_wp2_with fail
        go_ret
        exact DrawInts.mk (by omega) (Sl.of_owns hown2) hB4
      · go_wp2_with (at_make; refine wpList_make_full _ rfl _ _ 31 rfl w1.heap.size 3 i0 (.int .i64 0) intS.sz Try.underlying31 hi hz0 hz1 .i64 .i64 _ _ 21 rfl rfl rfl rfl (by rw [hz2]; decide) (by simp [maxLen]) hE4.size ?_; intro w5 hown5 hgrow5)
        have hB5 := hB4.grown hgrow5 hB4.size (fun k hk => by cases hk)
        have e21 : (madeCells (Value.int .i64 0).cells (21 * intS.sz)).toList = intS.cells (List.replicate 21 0) := by
          rw [intS_cells, List.map_replicate]
          show (madeCells #[Value.int .i64 0] 21).toList = _
          rw [toList_madeCells_one]
        rw [e21] at hown5
        go_ret
        exact DrawInts.mk (o := List.replicate 21 0) (by simp) (Sl.of_owns hown5) hB5
    · have q0 : (0 : Int) < (k : Int) := by omega
      have q1 : decide ((0 : Int) < (k : Int)) = true := by simp; omega
      have q2 : IntKind.i64.wrap ((k : Int) - 1) = (k : Int) - 1 := IntWalk.i64_in _ (by omega)
      have q3 : decide (0 < k) = true := by simp; omega
      have hrN := hR.lt
      go_upto_region 6 with (fail)
      refine wp_region_typed_pre 12 (fun i => (([sIs _ (uV), sIs _ (.pointer (some ⟨rb, 0, none⟩)), sInt _ (0) (255), sSl 3 [sInt _ (-1) (1000000000)], sSl 15 [sInt _ (0) (2)], sIs _ (.pointer (some ⟨rb, 0, none⟩)), sInt _ (0) (14), sRef [sInt _ (0) (2)], sInt _ (0) (2), sRef [sInt _ (-1) (1000000000)], sInt _ (-1) (1000000000), sSl 1 [sInt _ (-1) (1000000000)]] : List (STy (· = rb))).getD i (sAny _)).T) (fun i => ([0, 0, 1, 0, 0, 0, 1, 0, 0, 0, 0, 0] : List Nat).getD i 0) (fun B w' => Rd w' rb (1 + 2 * (7 - k) + B) ∧ Ex (· = rb) wo w') (Ex (· = rb)) 2 32 rfl (by decide) (by kernel_rfl) (by kernel_rfl) (by decide) ⟨hR, Ex.refl _ _⟩ (fun i u u' v hx hv => STy.st _ _ _ _ hx hv) ?_ ?_
      · refine ⟨?_, ?_, ?_, ?_, ?_, ?_, ?_, ?_, ?_, ?_, ?_, ?_, trivial⟩
        · intro B a' w' hB hW hF
          have h4 : a'.tmps[4]? = some (uV) := (hF.at 4 (by kernel_rfl)).trans rfl
          refine wpOp_step rfl (fun K hK => ?_)
          go_simp
          exact hK _ _ ⟨_, rfl, Ex.refl _ _, rfl, hW⟩
        · intro B a' w' hB hW hF
          have h3 : a'.tmps[3]? = some (.pointer (some ⟨rb, 0, none⟩)) := (hF.at 3 (by kernel_rfl)).trans rfl
          refine wpOp_step rfl (fun K hK => ?_)
          go_simp
          exact hK _ _ ⟨_, rfl, Ex.refl _ _, rfl, hW⟩
        · intro B a' w' hB hW hF
          obtain ⟨_, h16, rfl⟩ := hF.val ⟨1, .data⟩ (by simp) rfl _ rfl
          refine wpOp_step rfl (fun K hK => ?_)
          go_simp
          refine (pick_any rb _ _ _ hW.1 (by omega) (by omega)).mono ?_
          rintro e w'' ⟨k, rfl, hk, hR', hE'⟩
          exact hK _ _ ⟨_, rfl, hE', ⟨_, rfl, by omega, by omega⟩, ⟨hR', hW.2.trans hE'⟩⟩
        · intro B a' w' hB hW hF
          obtain ⟨_, h17, k17, rfl, a17, b17⟩ := hF.val ⟨2, .data⟩ (by simp) rfl _ rfl
          refine wpOp_step rfl (fun K hK => ?_)
          go_simp
          exact hK _ _ ⟨_, rfl, (Ex.refl _ _).alloc _, sSl_new (cs := [[.int .i64 k17], [(Value.int IntKind.i64 1000000000)], [(Value.int IntKind.i64 (-1))]]) (by intro h; have h2 := hW.2.size; (try dsimp only at h); omega) rfl ⟨⟨⟨_, rfl, by omega, by omega⟩, trivial⟩, ⟨⟨_, rfl, by omega, by omega⟩, trivial⟩, ⟨⟨_, rfl, by omega, by omega⟩, trivial⟩, trivial⟩ (heap_alloc_new w' _), ⟨hW.1.below (below1 _ _), hW.2.alloc _⟩⟩
        · intro B a' w' hB hW hF
          refine wpOp_step rfl (fun K hK => ?_)
          go_simp
          exact hK _ _ ⟨_, rfl, (Ex.refl _ _).alloc _, sSl_new (cs := [[(Value.int IntKind.i64 0)], [(Value.int IntKind.i64 0)], [(Value.int IntKind.i64 0)], [(Value.int IntKind.i64 0)], [(Value.int IntKind.i64 0)], [(Value.int IntKind.i64 0)], [(Value.int IntKind.i64 0)], [(Value.int IntKind.i64 0)], [(Value.int IntKind.i64 0)], [(Value.int IntKind.i64 0)], [(Value.int IntKind.i64 0)], [(Value.int IntKind.i64 0)], [(Value.int IntKind.i64 0)], [(Value.int IntKind.i64 1)], [(Value.int IntKind.i64 2)]]) (by intro h; have h2 := hW.2.size; (try dsimp only at h); omega) rfl ⟨⟨⟨_, rfl, by omega, by omega⟩, trivial⟩, ⟨⟨_, rfl, by omega, by omega⟩, trivial⟩, ⟨⟨_, rfl, by omega, by omega⟩, trivial⟩, ⟨⟨_, rfl, by omega, by omega⟩, trivial⟩, ⟨⟨_, rfl, by omega, by omega⟩, trivial⟩, ⟨⟨_, rfl, by omega, by omega⟩, trivial⟩, ⟨⟨_, rfl, by omega, by omega⟩, trivial⟩, ⟨⟨_, rfl, by omega, by omega⟩, trivial⟩, ⟨⟨_, rfl, by omega, by omega⟩, trivial⟩, ⟨⟨_, rfl, by omega, by omega⟩, trivial⟩, ⟨⟨_, rfl, by omega, by omega⟩, trivial⟩, ⟨⟨_, rfl, by omega, by omega⟩, trivial⟩, ⟨⟨_, rfl, by omega, by omega⟩, trivial⟩, ⟨⟨_, rfl, by omega, by omega⟩, trivial⟩, ⟨⟨_, rfl, by omega, by omega⟩, trivial⟩, trivial⟩ (heap_alloc_new w' _), ⟨hW.1.below (below1 _ _), hW.2.alloc _⟩⟩
        · intro B a' w' hB hW hF
          have h3 : a'.tmps[3]? = some (.pointer (some ⟨rb, 0, none⟩)) := (hF.at 3 (by kernel_rfl)).trans rfl
          refine wpOp_step rfl (fun K hK => ?_)
          go_simp
          exact hK _ _ ⟨_, rfl, Ex.refl _ _, rfl, hW⟩
        · intro B a' w' hB hW hF
          obtain ⟨_, h20, rfl⟩ := hF.val ⟨5, .data⟩ (by simp) rfl _ rfl
          refine wpOp_step rfl (fun K hK => ?_)
          go_simp
          refine (pick_any rb _ _ _ hW.1 (by omega) (by omega)).mono ?_
          rintro e w'' ⟨k, rfl, hk, hR', hE'⟩
          exact hK _ _ ⟨_, rfl, hE', ⟨_, rfl, by omega, by omega⟩, ⟨hR', hW.2.trans hE'⟩⟩
        · intro B a' w' hB hW hF
          obtain ⟨_, h19, b19, rfl, c19⟩ := hF.val ⟨4, .data⟩ (by simp) rfl _ rfl
          obtain ⟨_, h21, k21, rfl, a21, b21⟩ := hF.val ⟨6, .data⟩ (by simp) rfl _ rfl
          have i1 : k21 < 15 := by omega
          refine wpOp_step rfl (fun K hK => ?_)
          go_simp
          exact hK _ _ ⟨_, rfl, Ex.refl _ _, ⟨_, _, rfl, by simpa using c19 k21.toNat (by omega)⟩, hW⟩
        · intro B a' w' hB hW hF
          obtain ⟨_, h22, b22, o22, rfl, x22, c22⟩ := hF.val ⟨7, .data⟩ (by simp) rfl _ rfl
          obtain ⟨u0, hu0, tu0⟩ := c22 0 _ rfl
          have hv0 : w'.cell? ⟨b22, o22, none⟩ = some u0 := by simpa using hu0
          refine wpOp_step rfl (fun K hK => ?_)
          go_simp
          exact hK _ _ ⟨_, rfl, Ex.refl _ _, tu0, hW⟩
        · intro B a' w' hB hW hF
          obtain ⟨_, h18, b18, rfl, c18⟩ := hF.val ⟨3, .data⟩ (by simp) rfl _ rfl
          obtain ⟨_, h23, k23, rfl, a23, b23⟩ := hF.val ⟨8, .data⟩ (by simp) rfl _ rfl
          have i1 : k23 < 3 := by omega
          refine wpOp_step rfl (fun K hK => ?_)
          go_simp
          exact hK _ _ ⟨_, rfl, Ex.refl _ _, ⟨_, _, rfl, by simpa using c18 k23.toNat (by omega)⟩, hW⟩
        · intro B a' w' hB hW hF
          obtain ⟨_, h24, b24, o24, rfl, x24, c24⟩ := hF.val ⟨9, .data⟩ (by simp) rfl _ rfl
          obtain ⟨u0, hu0, tu0⟩ := c24 0 _ rfl
          have hv0 : w'.cell? ⟨b24, o24, none⟩ = some u0 := by simpa using hu0
          refine wpOp_step rfl (fun K hK => ?_)
          go_simp
          exact hK _ _ ⟨_, rfl, Ex.refl _ _, tu0, hW⟩
        · intro B a' w' hB hW hF
          obtain ⟨_, h25, k25, rfl, a25, b25⟩ := hF.val ⟨10, .data⟩ (by simp) rfl _ rfl
          refine wpOp_step rfl (fun K hK => ?_)
          go_simp
          exact hK _ _ ⟨_, rfl, (Ex.refl _ _).alloc _, sSl_new (cs := [[.int .i64 k25]]) (by intro h; have h2 := hW.2.size; (try dsimp only at h); omega) rfl ⟨⟨⟨_, rfl, by omega, by omega⟩, trivial⟩, trivial⟩ (heap_alloc_new w' _), ⟨hW.1.below (below1 _ _), hW.2.alloc _⟩⟩
      · intro a' w' hL hW
        have hd := hL.defers
        have hs := hL.size
        obtain ⟨_, h15, rfl⟩ := hL.val 0 _ rfl
        obtain ⟨_, h16, rfl⟩ := hL.val 1 _ rfl
        obtain ⟨_, h17, k17, rfl, a17, b17⟩ := hL.val 2 _ rfl
        obtain ⟨_, h18, b18, rfl, c18⟩ := hL.val 3 _ rfl
        obtain ⟨_, h19, b19, rfl, c19⟩ := hL.val 4 _ rfl
        obtain ⟨_, h20, rfl⟩ := hL.val 5 _ rfl
        obtain ⟨_, h21, k21, rfl, a21, b21⟩ := hL.val 6 _ rfl
        obtain ⟨_, h22, b22, o22, rfl, x22, c22⟩ := hL.val 7 _ rfl
        obtain ⟨_, h23, k23, rfl, a23, b23⟩ := hL.val 8 _ rfl
        obtain ⟨_, h24, b24, o24, rfl, x24, c24⟩ := hL.val 9 _ rfl
        obtain ⟨_, h25, k25, rfl, a25, b25⟩ := hL.val 10 _ rfl
        obtain ⟨_, h26, b26, rfl, c26⟩ := hL.val 11 _ rfl
        have hlit := act_lit (l := [_, _, _, _, _, _, _, _, _, _, _, _, _, _, _, _, _, _, _, _, _, _, _, _, _, _, _, _, _, _, _, _]) (hd.trans rfl) (by rw [hs]; rfl) (AllAt.cons ((hL.at 0 (by kernel_rfl)).trans rfl) (AllAt.cons ((hL.at 1 (by kernel_rfl)).trans rfl) (AllAt.cons ((hL.at 2 (by kernel_rfl)).trans rfl) (AllAt.cons ((hL.at 3 (by kernel_rfl)).trans rfl) (AllAt.cons ((hL.at 4 (by kernel_rfl)).trans rfl) (AllAt.cons ((hL.at 5 (by kernel_rfl)).trans rfl) (AllAt.cons ((hL.at 6 (by kernel_rfl)).trans rfl) (AllAt.cons ((hL.at 7 (by kernel_rfl)).trans rfl) (AllAt.cons ((hL.at 8 (by kernel_rfl)).trans rfl) (AllAt.cons ((hL.at 9 (by kernel_rfl)).trans rfl) (AllAt.cons ((hL.at 10 (by kernel_rfl)).trans rfl) (AllAt.cons ((hL.at 11 (by kernel_rfl)).trans rfl) (AllAt.cons ((hL.at 12 (by kernel_rfl)).trans rfl) (AllAt.cons ((hL.at 13 (by kernel_rfl)).trans rfl) (AllAt.cons ((hL.at 14 (by kernel_rfl)).trans rfl) (AllAt.cons h15 (AllAt.cons h16 (AllAt.cons h17 (AllAt.cons h18 (AllAt.cons h19 (AllAt.cons h20 (AllAt.cons h21 (AllAt.cons h22 (AllAt.cons h23 (AllAt.cons h24 (AllAt.cons h25 (AllAt.cons h26 (AllAt.cons ((hL.at 27 (by kernel_rfl)).trans rfl) (AllAt.cons ((hL.at 28 (by kernel_rfl)).trans rfl) (AllAt.cons ((hL.at 29 (by kernel_rfl)).trans rfl) (AllAt.cons ((hL.at 30 (by kernel_rfl)).trans rfl) (AllAt.cons ((hL.at 31 (by kernel_rfl)).trans rfl) AllAt.nil))))))))))))))))))))))))))))))))
        clear hL hd hs h15 h16 h17 h18 h19 h20 h21 h22 h23 h24 h25 h26
        subst hlit
        obtain ⟨n, hsn⟩ := one_TI (X := (· = rb)) ⟨_, rfl, c26⟩
        have hown3 := own_ex hown hrb hW.2
        have hE5 := hE.trans hW.2
        have hR5 : Rd w' rb (1 + 2 * (7 - k) + 2) := hW.1
        clear hown hR hE hW
        show wpList _ _ _ [_, _] _ _
        go_wp2_with (at_builtin; refine wpList_app_sl (S := intS) rfl _ _ 31 rfl w1.heap.size 3 i0 (.int .i64 0) 8 Try.underlying31 hi hz0 hz1 hz2 rfl _ _ _ rfl hown3 [n] hsn (by simp [maxLen]; omega) (by simp; omega) hE5.size ?_; intro v7 w7 hown7 hgrow7 hat7; clear hat7)
        have hrow := fun g hg => (hown3.lt g hg).1
        have hE8 := ex_grown hE5 hgrow7 hrow
        have hR8 := hR5.grown hgrow7 (fun g hg => Nat.lt_of_lt_of_le hrb (hrow g hg))
        go_roundw
        case rel => exact ⟨k - 1, o ++ [n], _, rfl, by go_num, by omega, by simp; omega, by rw [List.length_append, intS.cells_append]; exact hown7, hR8.mono (by omega), hE8⟩
        case measure => simp [intOf]; omega
end Go.Proofs.Ytikebbdkcpcmkaa
