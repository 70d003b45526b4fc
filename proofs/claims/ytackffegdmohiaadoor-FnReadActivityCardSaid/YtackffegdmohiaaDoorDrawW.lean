/- The walks of the reference's drawing functions for words. No condition. -/
import Derived.Test.YtackffegdmohiaaDoorDrawO
import Derived.Test.YtackffegdmohiaaDoorRegL
namespace Go.Proofs.YtackffegdmohiaaDoor
open Go.RowKit

theorem Ex.setNew {X : Nat → Prop} {w w' : World} (h : Ex X w w') {p : Addr} (hp : w.heap.size ≤ p.block) (v : Value) : Ex X w (w'.setCell p v) :=
  ⟨h.os, h.tape, h.output, by simpa using h.size, fun k hk hx => (heap_setCell_other w' p k _ (by omega)).trans (h.block k hk hx)⟩
theorem Rd.set_other {w : World} {rb B : Nat} {p : Addr} {u : Value} (hR : Rd w rb B) (hne : p.block ≠ rb) (hc : w.cell? p = some u) (hu : ∀ c, u ≠ .int .u8 c) (v : Value) : Rd (w.setCell p v) rb B := by
  obtain ⟨cv, n, k, h1, h2, h3, a, cap, h4, h5, h6, h7⟩ := hR
  refine ⟨cv, n, k, h1, (heap_setCell_other w p rb _ (fun e => hne e.symm)).trans h2, h3, a, cap, h4, h5, h6, ?_⟩
  rcases h7 with h7 | ⟨b, off, h8, h9, h10, h11⟩
  · exact .inl h7
  · refine .inr ⟨b, off, h8, h9, by simpa using h10, fun j hj => ?_⟩
    obtain ⟨c, c1, c2⟩ := h11 j hj
    refine ⟨c, c1, ?_⟩
    rw [World.cell?_setCell_other _ _ _ _ (fun e => by rw [e, c2] at hc; exact hu _ (Option.some.inj hc).symm)]
    exact c2

set_option maxHeartbeats 1000000 in
theorem word_any (rb B0 : Nat) (n : Int) (w : World) (hR : Rd w rb B0) (hB : B0 ≤ 999000) (n1 : 0 ≤ n) (n2 : n ≤ 1000000) :
    Calls Tryd.prog 50 #[.pointer (some ⟨rb, 0, none⟩), .int .i64 n] w (DrawRet (sStr (· = rb) 9).T rb (B0 + 2) w) := by
  go_enter Tryd.func50, Tryd.ntmps50
  go_wp2_with fail
  refine (odd_any rb B0 n w hR hB n2 (by omega)).mono ?_
  rintro e w1 ⟨_, rfl, ⟨b, rfl⟩, hR, hE⟩
  have hrN := hR.lt
  cases b
  · go_upto_region 3 with (fail)
    refine wp_region_typed_text (fun i => (([sSl 6 [sStr _ 3], sIs _ (.pointer (some ⟨rb, 0, none⟩)), sInt _ (0) (5), sRef [sStr _ 3], sStr _ 3, sStr _ 3] : List (STy (· = rb))).getD i (sAny _)).T) (fun i => ([0, 0, 1, 0, 0, 0] : List Nat).getD i 0) (fun B w' => Rd w' rb (B0 + 1 + B) ∧ Ex (· = rb) w1 w') (Ex (· = rb)) 1 18 rfl (by kernel_rfl) (by decide) ⟨hR, Ex.refl _ _⟩ (fun i u u' v hx hv => STy.st _ _ _ _ hx hv) ?_ ?_
    · refine ⟨?_, ?_, ?_, ?_, ?_, ?_, trivial⟩
      · intro B a' w' hB hW hF
        refine wpOp_step rfl (fun K hK => ?_)
        go_simp
        exact hK _ _ ⟨_, rfl, (Ex.refl _ _).alloc _, sSl_new (cs := [[(Value.string { data := #[97, 110, 110] })], [(Value.string { data := #[98, 111, 98] })], [(Value.string { data := #[114, 101, 100] })], [(Value.string { data := #[115, 101, 97] })], [(Value.string { data := #[107, 49] })], [(Value.string { data := #[107, 50] })]]) (by intro h; have h2 := hW.2.size; (try dsimp only at h); omega) rfl ⟨⟨⟨_, rfl, by decide⟩, trivial⟩, ⟨⟨_, rfl, by decide⟩, trivial⟩, ⟨⟨_, rfl, by decide⟩, trivial⟩, ⟨⟨_, rfl, by decide⟩, trivial⟩, ⟨⟨_, rfl, by decide⟩, trivial⟩, ⟨⟨_, rfl, by decide⟩, trivial⟩, trivial⟩ (heap_alloc_new w' _), ⟨hW.1.below (below1 _ _), hW.2.alloc _⟩⟩
      · intro B a' w' hB hW hF
        have h0 : a'.tmps[0]? = some (.pointer (some ⟨rb, 0, none⟩)) := (hF.at 0 (by kernel_rfl)).trans rfl
        refine wpOp_step rfl (fun K hK => ?_)
        go_simp
        exact hK _ _ ⟨_, rfl, Ex.refl _ _, rfl, hW⟩
      · intro B a' w' hB hW hF
        obtain ⟨_, h14, rfl⟩ := hF.val ⟨1, .data⟩ (by simp) rfl _ rfl
        refine wpOp_step rfl (fun K hK => ?_)
        go_simp
        refine (pick_any rb _ _ _ hW.1 (by omega) (by omega)).mono ?_
        rintro e w'' ⟨k, rfl, hk, hR', hE'⟩
        exact hK _ _ ⟨_, rfl, hE', ⟨_, rfl, by omega, by omega⟩, ⟨hR', hW.2.trans hE'⟩⟩
      · intro B a' w' hB hW hF
        obtain ⟨_, h13, b13, rfl, c13⟩ := hF.val ⟨0, .data⟩ (by simp) rfl _ rfl
        obtain ⟨_, h15, k15, rfl, a15, b15⟩ := hF.val ⟨2, .data⟩ (by simp) rfl _ rfl
        have i1 : k15 < 6 := by omega
        refine wpOp_step rfl (fun K hK => ?_)
        go_simp
        exact hK _ _ ⟨_, rfl, Ex.refl _ _, ⟨_, _, rfl, by simpa using c13 k15.toNat (by omega)⟩, hW⟩
      · intro B a' w' hB hW hF
        obtain ⟨_, h16, b16, o16, rfl, x16, c16⟩ := hF.val ⟨3, .data⟩ (by simp) rfl _ rfl
        obtain ⟨u0, hu0, tu0⟩ := c16 0 _ rfl
        have hv0 : w'.cell? ⟨b16, o16, none⟩ = some u0 := by simpa using hu0
        refine wpOp_step rfl (fun K hK => ?_)
        go_simp
        exact hK _ _ ⟨_, rfl, Ex.refl _ _, tu0, hW⟩
      · intro B a' w' hB hW hF
        obtain ⟨_, h17, s17, rfl, z17⟩ := hF.val ⟨4, .data⟩ (by simp) rfl _ rfl
        refine wpOp_step rfl (fun K hK => ?_)
        go_simp
        exact hK _ _ ⟨_, rfl, Ex.refl _ _, ⟨_, rfl, z17⟩, hW⟩
    · intro a' w' hL hW
      obtain ⟨_, h4, s4, rfl, z4⟩ := hL.val 5 _ rfl
      have hd := hL.defers
      clear hL
      go_wp2
      refine bodyPost_ret (results_tmp rfl _ _ _) (hd.trans rfl) ?_
      rw [getD_of h4]
      exact DrawRet.mk ⟨_, rfl, by omega⟩ hW.1 (hE.trans hW.2)
  · go_upto_region 2 with (fail)
    refine wp_region_typed_text (fun i => (([sSl 5 [sStr _ 9], sIs _ (.pointer (some ⟨rb, 0, none⟩)), sInt _ (0) (4), sRef [sStr _ 9], sStr _ 9, sStr _ 9] : List (STy (· = rb))).getD i (sAny _)).T) (fun i => ([0, 0, 1, 0, 0, 0] : List Nat).getD i 0) (fun B w' => Rd w' rb (B0 + 1 + B) ∧ Ex (· = rb) w1 w') (Ex (· = rb)) 1 18 rfl (by kernel_rfl) (by decide) ⟨hR, Ex.refl _ _⟩ (fun i u u' v hx hv => STy.st _ _ _ _ hx hv) ?_ ?_
    · refine ⟨?_, ?_, ?_, ?_, ?_, ?_, trivial⟩
      · intro B a' w' hB hW hF
        refine wpOp_step rfl (fun K hK => ?_)
        go_simp
        exact hK _ _ ⟨_, rfl, (Ex.refl _ _).alloc _, sSl_new (cs := [[(Value.string { data := #[] })], [(Value.string { data := #[49, 97] })], [(Value.string { data := #[65] })], [(Value.string { data := #[97, 32, 98] })], [(Value.string { data := #[97, 98, 99, 100, 101, 102, 103, 104, 105] })]]) (by intro h; have h2 := hW.2.size; (try dsimp only at h); omega) rfl ⟨⟨⟨_, rfl, by decide⟩, trivial⟩, ⟨⟨_, rfl, by decide⟩, trivial⟩, ⟨⟨_, rfl, by decide⟩, trivial⟩, ⟨⟨_, rfl, by decide⟩, trivial⟩, ⟨⟨_, rfl, by decide⟩, trivial⟩, trivial⟩ (heap_alloc_new w' _), ⟨hW.1.below (below1 _ _), hW.2.alloc _⟩⟩
      · intro B a' w' hB hW hF
        have h0 : a'.tmps[0]? = some (.pointer (some ⟨rb, 0, none⟩)) := (hF.at 0 (by kernel_rfl)).trans rfl
        refine wpOp_step rfl (fun K hK => ?_)
        go_simp
        exact hK _ _ ⟨_, rfl, Ex.refl _ _, rfl, hW⟩
      · intro B a' w' hB hW hF
        obtain ⟨_, h9, rfl⟩ := hF.val ⟨1, .data⟩ (by simp) rfl _ rfl
        refine wpOp_step rfl (fun K hK => ?_)
        go_simp
        refine (pick_any rb _ _ _ hW.1 (by omega) (by omega)).mono ?_
        rintro e w'' ⟨k, rfl, hk, hR', hE'⟩
        exact hK _ _ ⟨_, rfl, hE', ⟨_, rfl, by omega, by omega⟩, ⟨hR', hW.2.trans hE'⟩⟩
      · intro B a' w' hB hW hF
        obtain ⟨_, h8, b8, rfl, c8⟩ := hF.val ⟨0, .data⟩ (by simp) rfl _ rfl
        obtain ⟨_, h10, k10, rfl, a10, b10⟩ := hF.val ⟨2, .data⟩ (by simp) rfl _ rfl
        have i1 : k10 < 5 := by omega
        refine wpOp_step rfl (fun K hK => ?_)
        go_simp
        exact hK _ _ ⟨_, rfl, Ex.refl _ _, ⟨_, _, rfl, by simpa using c8 k10.toNat (by omega)⟩, hW⟩
      · intro B a' w' hB hW hF
        obtain ⟨_, h11, b11, o11, rfl, x11, c11⟩ := hF.val ⟨3, .data⟩ (by simp) rfl _ rfl
        obtain ⟨u0, hu0, tu0⟩ := c11 0 _ rfl
        have hv0 : w'.cell? ⟨b11, o11, none⟩ = some u0 := by simpa using hu0
        refine wpOp_step rfl (fun K hK => ?_)
        go_simp
        exact hK _ _ ⟨_, rfl, Ex.refl _ _, tu0, hW⟩
      · intro B a' w' hB hW hF
        obtain ⟨_, h12, s12, rfl, z12⟩ := hF.val ⟨4, .data⟩ (by simp) rfl _ rfl
        refine wpOp_step rfl (fun K hK => ?_)
        go_simp
        exact hK _ _ ⟨_, rfl, Ex.refl _ _, ⟨_, rfl, z12⟩, hW⟩
    · intro a' w' hL hW
      obtain ⟨_, h4, s4, rfl, z4⟩ := hL.val 5 _ rfl
      have hd := hL.defers
      clear hL
      go_wp2
      refine bodyPost_ret (results_tmp rfl _ _ _) (hd.trans rfl) ?_
      rw [getD_of h4]
      exact DrawRet.mk ⟨_, rfl, by omega⟩ hW.1 (hE.trans hW.2)

end Go.Proofs.YtackffegdmohiaaDoor
