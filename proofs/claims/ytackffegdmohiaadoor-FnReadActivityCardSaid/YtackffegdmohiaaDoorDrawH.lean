/- The walks of the reference's drawing functions for handles. No condition. -/
import Derived.Test.YtackffegdmohiaaDoorDrawW
namespace Go.Proofs.YtackffegdmohiaaDoor
open Go.RowKit

set_option maxHeartbeats 1000000 in
theorem handle_any (rb B0 : Nat) (n : Int) (w : World) (hR0 : Rd w rb B0) (hB : B0 ≤ 998000) (n1 : 0 ≤ n) (n2 : n ≤ 1000000) :
    Calls Tryd.prog 45 #[.pointer (some ⟨rb, 0, none⟩), .int .i64 n] w (DrawRet (sAgg (X := (· = rb)) [sStr _ 9, sStr _ 9]).T rb (B0 + 6) w) := by
  have hrc : w.heap.size ≠ rb := fun e => by have := hR0.lt; omega
  have hword : ∀ (b : Nat) (w : World), Rd w rb b → b ≤ 999000 → Calls Tryd.prog 50 #[.pointer (some ⟨rb, 0, none⟩), .int .i64 n] w (DrawRet (sStr (· = rb) 9).T rb (b + 2) w) := fun b w h1 h2 => word_any rb b n w h1 h2 n1 n2
  go_enter Tryd.func45, Tryd.ntmps45
  go_upto_region 1 with (fail)
  obtain ⟨w1, hw1⟩ : ∃ w1, w1 = w.alloc (.cells #[.string ⟨#[]⟩, .string ⟨#[]⟩] 28) := ⟨_, rfl⟩
  rw [← hw1]
  have hR : Rd w1 rb B0 := by rw [hw1]; exact hR0.below (below1 _ _)
  have hE : Ex (· = rb) w w1 := by rw [hw1]; exact (Ex.refl _ _).alloc _
  have c0 : w1.cell? ⟨w.heap.size, 0, none⟩ = some (.string ⟨#[]⟩) := by rw [hw1]; simp
  have c1 : w1.cell? ⟨w.heap.size, 1, none⟩ = some (.string ⟨#[]⟩) := by rw [hw1]; simp
  have f0 : w1.frozen? ⟨w.heap.size, 0, none⟩ = false := by rw [hw1]; simp
  have f1 : w1.frozen? ⟨w.heap.size, 1, none⟩ = false := by rw [hw1]; simp
  have hlt : w.heap.size < w1.heap.size := by rw [hw1]; simp
  clear hw1
  have hrN := hR.lt
  refine wp_region_typed_last 17 (fun i => (([sIs _ (.pointer (some ⟨rb, 0, none⟩)), sIs _ (.int .i64 n), sStr _ 9, sSl 4 [sStr _ 9], sIs _ (.pointer (some ⟨rb, 0, none⟩)), sInt _ (0) (3), sRef [sStr _ 9], sStr _ 9, sIs _ (.pointer (some ⟨rb, 0, none⟩)), sIs _ (.int .i64 n), sStr _ 9, sSl 3 [sStr _ 9], sIs _ (.pointer (some ⟨rb, 0, none⟩)), sInt _ (0) (2), sRef [sStr _ 9], sStr _ 9, sAgg [sStr _ 9, sStr _ 9]] : List (STy (· = rb))).getD i (sAny _)).T) (fun i => ([0, 0, 2, 0, 0, 1, 0, 0, 0, 0, 2, 0, 0, 1, 0, 0, 0] : List Nat).getD i 0) (fun B w' => Rd w' rb (B0 + B) ∧ Ex (· = rb) w1 w') (Ex (· = rb)) 6 (by kernel_rfl) 22 rfl rfl (by kernel_rfl) (by kernel_rfl) (by kernel_rfl) (by decide) ⟨hR.drew, (Ex.refl _ _).drew⟩ (fun i u u' v hx hv => STy.st _ _ _ _ hx hv) ?_ ?_
  · refine ⟨?_, ?_, ?_, ?_, ?_, ?_, ?_, ?_, ?_, ?_, ?_, ?_, ?_, ?_, ?_, ?_, ?_, trivial⟩
    · intro B a' w' hB hW hF
      have h0 : a'.tmps[0]? = some (.pointer (some ⟨rb, 0, none⟩)) := (hF.at 0 (by kernel_rfl)).trans rfl
      refine wpOp_step rfl (fun K hK => ?_)
      go_simp
      exact hK _ _ ⟨_, rfl, Ex.refl _ _, rfl, hW⟩
    · intro B a' w' hB hW hF
      have h1 : a'.tmps[1]? = some (.int .i64 n) := (hF.at 1 (by kernel_rfl)).trans rfl
      refine wpOp_step rfl (fun K hK => ?_)
      go_simp
      exact hK _ _ ⟨_, rfl, Ex.refl _ _, rfl, hW⟩
    · intro B a' w' hB hW hF
      obtain ⟨_, h5, rfl⟩ := hF.val ⟨0, .data⟩ (by simp) rfl _ rfl
      obtain ⟨_, h6, rfl⟩ := hF.val ⟨1, .data⟩ (by simp) rfl _ rfl
      refine wpOp_step rfl (fun K hK => ?_)
      go_simp
      refine (hword _ _ hW.1 (by omega)).mono ?_
      rintro e w'' ⟨v, rfl, tv, hR', hE'⟩
      exact hK _ _ ⟨_, rfl, hE', tv, ⟨hR', hW.2.trans hE'⟩⟩
    · intro B a' w' hB hW hF
      obtain ⟨_, h7, s7, rfl, z7⟩ := hF.val ⟨2, .data⟩ (by simp) rfl _ rfl
      refine wpOp_step rfl (fun K hK => ?_)
      go_simp
      exact hK _ _ ⟨_, rfl, (Ex.refl _ _).alloc _, sSl_new (cs := [[(Value.string { data := #[97, 110, 110] })], [(Value.string { data := #[98, 111, 98] })], [(Value.string { data := #[101, 118, 101] })], [.string s7]]) (by intro h; have h2 := hW.2.size; (try dsimp only at h); omega) rfl ⟨⟨⟨_, rfl, by decide⟩, trivial⟩, ⟨⟨_, rfl, by decide⟩, trivial⟩, ⟨⟨_, rfl, by decide⟩, trivial⟩, ⟨⟨_, rfl, by omega⟩, trivial⟩, trivial⟩ (heap_alloc_new w' _), ⟨hW.1.below (below1 _ _), hW.2.alloc _⟩⟩
    · intro B a' w' hB hW hF
      have h0 : a'.tmps[0]? = some (.pointer (some ⟨rb, 0, none⟩)) := (hF.at 0 (by kernel_rfl)).trans rfl
      refine wpOp_step rfl (fun K hK => ?_)
      go_simp
      exact hK _ _ ⟨_, rfl, Ex.refl _ _, rfl, hW⟩
    · intro B a' w' hB hW hF
      obtain ⟨_, h9, rfl⟩ := hF.val ⟨4, .data⟩ (by simp) rfl _ rfl
      refine wpOp_step rfl (fun K hK => ?_)
      go_simp
      refine (pick_any rb _ _ _ hW.1 (by omega) (by omega)).mono ?_
      rintro e w'' ⟨k, rfl, hk, hR', hE'⟩
      exact hK _ _ ⟨_, rfl, hE', ⟨_, rfl, by omega, by omega⟩, ⟨hR', hW.2.trans hE'⟩⟩
    · intro B a' w' hB hW hF
      obtain ⟨_, h8, b8, rfl, c8⟩ := hF.val ⟨3, .data⟩ (by simp) rfl _ rfl
      obtain ⟨_, h10, k10, rfl, a10, b10⟩ := hF.val ⟨5, .data⟩ (by simp) rfl _ rfl
      have i1 : k10 < 4 := by omega
      refine wpOp_step rfl (fun K hK => ?_)
      go_simp
      exact hK _ _ ⟨_, rfl, Ex.refl _ _, ⟨_, _, rfl, by simpa using c8 k10.toNat (by omega)⟩, hW⟩
    · intro B a' w' hB hW hF
      obtain ⟨_, h11, b11, o11, rfl, x11, c11⟩ := hF.val ⟨6, .data⟩ (by simp) rfl _ rfl
      obtain ⟨u0, hu0, tu0⟩ := c11 0 _ rfl
      have hv0 : w'.cell? ⟨b11, o11, none⟩ = some u0 := by simpa using hu0
      refine wpOp_step rfl (fun K hK => ?_)
      go_simp
      exact hK _ _ ⟨_, rfl, Ex.refl _ _, tu0, hW⟩
    · intro B a' w' hB hW hF
      have h0 : a'.tmps[0]? = some (.pointer (some ⟨rb, 0, none⟩)) := (hF.at 0 (by kernel_rfl)).trans rfl
      refine wpOp_step rfl (fun K hK => ?_)
      go_simp
      exact hK _ _ ⟨_, rfl, Ex.refl _ _, rfl, hW⟩
    · intro B a' w' hB hW hF
      have h1 : a'.tmps[1]? = some (.int .i64 n) := (hF.at 1 (by kernel_rfl)).trans rfl
      refine wpOp_step rfl (fun K hK => ?_)
      go_simp
      exact hK _ _ ⟨_, rfl, Ex.refl _ _, rfl, hW⟩
    · intro B a' w' hB hW hF
      obtain ⟨_, h13, rfl⟩ := hF.val ⟨8, .data⟩ (by simp) rfl _ rfl
      obtain ⟨_, h14, rfl⟩ := hF.val ⟨9, .data⟩ (by simp) rfl _ rfl
      refine wpOp_step rfl (fun K hK => ?_)
      go_simp
      refine (hword _ _ hW.1 (by omega)).mono ?_
      rintro e w'' ⟨v, rfl, tv, hR', hE'⟩
      exact hK _ _ ⟨_, rfl, hE', tv, ⟨hR', hW.2.trans hE'⟩⟩
    · intro B a' w' hB hW hF
      obtain ⟨_, h15, s15, rfl, z15⟩ := hF.val ⟨10, .data⟩ (by simp) rfl _ rfl
      refine wpOp_step rfl (fun K hK => ?_)
      go_simp
      exact hK _ _ ⟨_, rfl, (Ex.refl _ _).alloc _, sSl_new (cs := [[(Value.string { data := #[114, 101, 100] })], [(Value.string { data := #[115, 101, 97] })], [.string s15]]) (by intro h; have h2 := hW.2.size; (try dsimp only at h); omega) rfl ⟨⟨⟨_, rfl, by decide⟩, trivial⟩, ⟨⟨_, rfl, by decide⟩, trivial⟩, ⟨⟨_, rfl, by omega⟩, trivial⟩, trivial⟩ (heap_alloc_new w' _), ⟨hW.1.below (below1 _ _), hW.2.alloc _⟩⟩
    · intro B a' w' hB hW hF
      have h0 : a'.tmps[0]? = some (.pointer (some ⟨rb, 0, none⟩)) := (hF.at 0 (by kernel_rfl)).trans rfl
      refine wpOp_step rfl (fun K hK => ?_)
      go_simp
      exact hK _ _ ⟨_, rfl, Ex.refl _ _, rfl, hW⟩
    · intro B a' w' hB hW hF
      obtain ⟨_, h17, rfl⟩ := hF.val ⟨12, .data⟩ (by simp) rfl _ rfl
      refine wpOp_step rfl (fun K hK => ?_)
      go_simp
      refine (pick_any rb _ _ _ hW.1 (by omega) (by omega)).mono ?_
      rintro e w'' ⟨k, rfl, hk, hR', hE'⟩
      exact hK _ _ ⟨_, rfl, hE', ⟨_, rfl, by omega, by omega⟩, ⟨hR', hW.2.trans hE'⟩⟩
    · intro B a' w' hB hW hF
      obtain ⟨_, h16, b16, rfl, c16⟩ := hF.val ⟨11, .data⟩ (by simp) rfl _ rfl
      obtain ⟨_, h18, k18, rfl, a18, b18⟩ := hF.val ⟨13, .data⟩ (by simp) rfl _ rfl
      have i1 : k18 < 3 := by omega
      refine wpOp_step rfl (fun K hK => ?_)
      go_simp
      exact hK _ _ ⟨_, rfl, Ex.refl _ _, ⟨_, _, rfl, by simpa using c16 k18.toNat (by omega)⟩, hW⟩
    · intro B a' w' hB hW hF
      obtain ⟨_, h19, b19, o19, rfl, x19, c19⟩ := hF.val ⟨14, .data⟩ (by simp) rfl _ rfl
      obtain ⟨u0, hu0, tu0⟩ := c19 0 _ rfl
      have hv0 : w'.cell? ⟨b19, o19, none⟩ = some u0 := by simpa using hu0
      refine wpOp_step rfl (fun K hK => ?_)
      go_simp
      exact hK _ _ ⟨_, rfl, Ex.refl _ _, tu0, hW⟩
    · intro B a' w' hB hW hF
      obtain ⟨_, h12, s12, rfl, z12⟩ := hF.val ⟨7, .data⟩ (by simp) rfl _ rfl
      obtain ⟨_, h20, s20, rfl, z20⟩ := hF.val ⟨15, .data⟩ (by simp) rfl _ rfl
      refine wpOp_step rfl (fun K hK => ?_)
      go_simp
      exact hK _ _ ⟨_, rfl, Ex.refl _ _, ⟨[.string s12, .string s20], rfl, ⟨_, rfl, z12⟩, ⟨_, rfl, z20⟩, trivial⟩, hW⟩
  · intro a' w' hL hW
    obtain ⟨_, h21, vs, rfl, A21⟩ := hL.val 16 _ rfl
    obtain ⟨u, v, ⟨s1, rfl, z1⟩, ⟨s2, rfl, z2⟩, rfl⟩ := AllT.get2 A21
    have h4 : a'.tmps[4]? = some (.pointer (some ⟨w.heap.size, 0, none⟩)) := (hL.at 4 (by kernel_rfl)).trans rfl
    have hd := hL.defers
    clear hL
    have d0 := hW.2.cell hrc c0
    have d1 := hW.2.cell hrc c1
    have e0 : w'.frozen? ⟨w.heap.size, 0, none⟩ = false := (World.frozen?_of_block (hW.2.block _ hlt hrc)).trans f0
    have e1 : w'.frozen? ⟨w.heap.size, 1, none⟩ = false := (World.frozen?_of_block (hW.2.block _ hlt hrc)).trans f1
    refine wpOp_step rfl (fun K hK => ?_)
    go_simp
    refine hK _ _ ?_
    go_wp2
    have hR6 : Rd w' rb (B0 + 6) := hW.1
    have d1' : (w'.setCell ⟨w.heap.size, 0, none⟩ (.string s1)).cell? ⟨w.heap.size, 1, none⟩ = some (.string ⟨#[]⟩) := by rw [World.cell?_setCell_other _ _ _ _ (by simp)]; exact d1
    have hR7 := (hR6.set_other (p := ⟨w.heap.size, 0, none⟩) hrc d0 (fun c h => by cases h) (.string s1)).set_other (p := ⟨w.heap.size, 1, none⟩) hrc d1' (fun c h => by cases h) (.string s2)
    have hE7 := (((hE.trans hW.2).setNew (p := ⟨w.heap.size, 0, none⟩) (Nat.le_refl _) (.string s1)).setNew (p := ⟨w.heap.size, 1, none⟩) (Nat.le_refl _) (.string s2))
    have g1 : ((w'.setCell ⟨w.heap.size, 0, none⟩ (.string s1)).setCell ⟨w.heap.size, 1, none⟩ (.string s2)).cell? ⟨w.heap.size, 1, none⟩ = some (.string s2) := World.cell?_setCell_same _ _ _ d1'
    have g0 : ((w'.setCell ⟨w.heap.size, 0, none⟩ (.string s1)).setCell ⟨w.heap.size, 1, none⟩ (.string s2)).cell? ⟨w.heap.size, 0, none⟩ = some (.string s1) := by rw [World.cell?_setCell_other _ _ _ _ (by simp)]; exact World.cell?_setCell_same _ _ _ d0
    exact bodyPost_ret (v := .agg #[.string s1, .string s2]) (by simp [results, Tryd.results45, go_sem, h4, g0, g1]) (hd.trans rfl) (DrawRet.mk ⟨_, rfl, ⟨_, rfl, z1⟩, ⟨_, rfl, z2⟩, trivial⟩ hR7 hE7)
end Go.Proofs.YtackffegdmohiaaDoor
