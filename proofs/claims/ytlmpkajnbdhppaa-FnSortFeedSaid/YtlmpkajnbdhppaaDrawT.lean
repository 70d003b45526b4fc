/- The walks of the reference's drawing functions for texts and days. No condition. -/
import Derived.Test.YtlmpkajnbdhppaaDrawO
import Derived.Test.YtlmpkajnbdhppaaTypes
import Derived.Deep.Cut
namespace Go.Proofs.Ytlmpkajnbdhppaa
open Go.RowKit

theorem Try.infoB : (Try.prog.info? 5).map (fun i => (i.zero, i.size, i.bytes)) = some (some (.int .u8 0), 1, 1) := by kernel_rfl
set_option maxHeartbeats 1000000 in
theorem text_any (rb B0 : Nat) (n : Int) (w : World) (hR : Rd w rb B0) (hB : B0 ≤ 999000) (n1 : 0 ≤ n) (n2 : n ≤ 1000000) :
    Calls Try.prog 58 #[.pointer (some ⟨rb, 0, none⟩), .int .i64 n] w (DrawRet (sStr (· = rb) 100).T rb (B0 + 2) w) := by
  go_enter Try.func58, Try.ntmps58
  go_wp2_with fail
  refine (odd_any rb B0 n w hR hB n2 (by omega)).mono ?_
  rintro e w1 ⟨_, rfl, ⟨b, rfl⟩, hR, hE⟩
  have hrN := hR.lt
  cases b
  · go_upto_region 3 with (fail)
    refine wp_region_typed_text (fun i => (([sSl 7 [sStr _ 100], sIs _ (.pointer (some ⟨rb, 0, none⟩)), sInt _ (0) (6), sRef [sStr _ 100], sStr _ 100, sStr _ 100] : List (STy (· = rb))).getD i (sAny _)).T) (fun i => ([0, 0, 1, 0, 0, 0] : List Nat).getD i 0) (fun B w' => Rd w' rb (B0 + 1 + B) ∧ Ex (· = rb) w1 w') (Ex (· = rb)) 1 20 rfl (by kernel_rfl) (by decide) ⟨hR, Ex.refl _ _⟩ (fun i u u' v hx hv => STy.st _ _ _ _ hx hv) ?_ ?_
    · refine ⟨?_, ?_, ?_, ?_, ?_, ?_, trivial⟩
      · intro B a' w' hB hW hF
        refine wpOp_step rfl (fun K hK => ?_)
        go_simp
        exact hK _ _ ⟨_, rfl, (Ex.refl _ _).alloc _, sSl_new (cs := [[(Value.string { data := #[] })], [(Value.string { data := #[104, 101, 108, 108, 111, 32, 119, 111, 114, 108, 100] })], [(Value.string { data := #[97, 60, 98, 62, 99, 60, 47, 98, 62, 32, 38, 32, 100] })], [(Value.string { data := #[79, 110, 101, 32, 116, 104, 105, 110, 103, 46, 32, 84, 119, 111, 33] })], [(Value.string { data := #[34, 120, 34] })], [(Value.string { data := #[115, 101, 101, 32, 64, 97, 110, 110, 64, 114, 101, 100, 32, 97, 110, 100, 32, 35, 110, 101, 119, 115, 46] })], [(Value.string { data := ([48, 49, 50, 51, 52, 53, 54, 55, 56, 57, 48, 49, 50, 51, 52, 53, 54, 55, 56, 57, 48, 49, 50, 51, 52, 53, 54, 55, 56, 57, 48, 49, 50, 51, 52, 53, 54, 55, 56, 57].append [48, 49, 50, 51, 52, 53, 54, 55, 56, 57, 48, 49, 50, 51, 52, 53, 54, 55, 56, 57, 48, 49, 50, 51, 52, 53, 54, 55, 56, 57, 48, 49, 50, 51, 52, 53, 54, 55, 56, 57]).toArray })]]) (by intro h; have h2 := hW.2.size; (try dsimp only at h); omega) rfl ⟨⟨⟨_, rfl, by decide⟩, trivial⟩, ⟨⟨_, rfl, by decide⟩, trivial⟩, ⟨⟨_, rfl, by decide⟩, trivial⟩, ⟨⟨_, rfl, by decide⟩, trivial⟩, ⟨⟨_, rfl, by decide⟩, trivial⟩, ⟨⟨_, rfl, by decide⟩, trivial⟩, ⟨⟨_, rfl, by decide⟩, trivial⟩, trivial⟩ (heap_alloc_new w' _), ⟨hW.1.below (below1 _ _), hW.2.alloc _⟩⟩
      · intro B a' w' hB hW hF
        have h0 : a'.tmps[0]? = some (.pointer (some ⟨rb, 0, none⟩)) := (hF.at 0 (by kernel_rfl)).trans rfl
        refine wpOp_step rfl (fun K hK => ?_)
        go_simp
        exact hK _ _ ⟨_, rfl, Ex.refl _ _, rfl, hW⟩
      · intro B a' w' hB hW hF
        obtain ⟨_, h16, rfl⟩ := hF.val ⟨1, .data⟩ (by simp) rfl _ rfl
        refine wpOp_step rfl (fun K hK => ?_)
        go_simp
        refine (pick_any rb _ _ _ hW.1 (by omega) (by omega)).mono ?_
        rintro e w'' ⟨k, rfl, hk, hR', hE'⟩
        exact hK _ _ ⟨_, rfl, hE', ⟨_, rfl, by omega, by omega⟩, ⟨hR', hW.2.trans hE'⟩⟩
      · intro B a' w' hB hW hF
        obtain ⟨_, h15, b15, rfl, c15⟩ := hF.val ⟨0, .data⟩ (by simp) rfl _ rfl
        obtain ⟨_, h17, k17, rfl, a17, b17⟩ := hF.val ⟨2, .data⟩ (by simp) rfl _ rfl
        have i1 : k17 < 7 := by omega
        refine wpOp_step rfl (fun K hK => ?_)
        go_simp
        exact hK _ _ ⟨_, rfl, Ex.refl _ _, ⟨_, _, rfl, by simpa using c15 k17.toNat (by omega)⟩, hW⟩
      · intro B a' w' hB hW hF
        obtain ⟨_, h18, b18, o18, rfl, x18, c18⟩ := hF.val ⟨3, .data⟩ (by simp) rfl _ rfl
        obtain ⟨u0, hu0, tu0⟩ := c18 0 _ rfl
        have hv0 : w'.cell? ⟨b18, o18, none⟩ = some u0 := by simpa using hu0
        refine wpOp_step rfl (fun K hK => ?_)
        go_simp
        exact hK _ _ ⟨_, rfl, Ex.refl _ _, tu0, hW⟩
      · intro B a' w' hB hW hF
        obtain ⟨_, h19, s19, rfl, z19⟩ := hF.val ⟨4, .data⟩ (by simp) rfl _ rfl
        refine wpOp_step rfl (fun K hK => ?_)
        go_simp
        exact hK _ _ ⟨_, rfl, Ex.refl _ _, ⟨_, rfl, z19⟩, hW⟩
    · intro a' w' hL hW
      obtain ⟨_, h4, s4, rfl, z4⟩ := hL.val 5 _ rfl
      have hd := hL.defers
      clear hL
      go_wp2
      refine bodyPost_ret (results_tmp rfl _ _ _) (hd.trans rfl) ?_
      rw [getD_of h4]
      exact DrawRet.mk ⟨_, rfl, by omega⟩ hW.1 (hE.trans hW.2)
  · go_upto_region 2 with (fail)
    refine wp_region_typed (fun i => (([sSl 81 [sIs _ (.int .u8 0)], sStr _ 81, sSl 3 [sStr _ 81], sIs _ (.pointer (some ⟨rb, 0, none⟩)), sInt _ (0) (2), sRef [sStr _ 81], sStr _ 81, sStr _ 81] : List (STy (· = rb))).getD i (sAny _)).T) (fun i => ([0, 0, 0, 0, 1, 0, 0, 0] : List Nat).getD i 0) (fun B w' => Rd w' rb (B0 + 1 + B) ∧ Ex (· = rb) w1 w') (Ex (· = rb)) 1 (by kernel_rfl) 20 rfl (by kernel_rfl) (by decide) ⟨hR.drew, (Ex.refl _ _).drew⟩ (fun i u u' v hx hv => STy.st _ _ _ _ hx hv) ?_ ?_
    · refine ⟨?_, ?_, ?_, ?_, ?_, ?_, ?_, ?_, trivial⟩
      · intro B a' w' hB hW hF
        obtain ⟨i0, hi, hz0, hz1, hz2⟩ := info_parts Try.infoB
        obtain ⟨w2, hrun, hown, hgrow⟩ := run_make_full (P := Try.prog) w' w'.heap.size 22 5 i0 (.int .u8 0) 1 Try.underlying22 hi hz0 hz1 .i64 .i64 81 (by rw [hz2]; decide) (by decide) (Nat.le_refl _)
        have hb2 : Below w'.heap.size w' w2 := (Below.refl _ _).grown hgrow (Nat.le_refl _) (fun k hk => by cases hk)
        have hx : ¬ (· = rb) w'.heap.size := by intro h; have h2 := hW.2.size; (try dsimp only at h); omega
        have hcell := zero_cells (X := (· = rb)) (g := w'.heap.size) (u := .int .u8 0) hx hown
        have hrun2 : (Instr.makeSlice 22 (.int .i64 81) (.int .i64 81)).run Try.prog w' = .ok (.slice (some ⟨w'.heap.size, 0, none⟩) 81 81) w2 := hrun
        refine wpOp_step rfl (fun K hK => ?_)
        go_simp
        exact hK _ _ ⟨_, rfl, Ex.of_below hb2, ⟨_, rfl, hcell⟩, ⟨hW.1.below hb2, hW.2.trans (Ex.of_below hb2)⟩⟩
      · intro B a' w' hB hW hF
        obtain ⟨_, h8, b8, rfl, c8⟩ := hF.val ⟨0, .data⟩ (by simp) rfl _ rfl
        obtain ⟨s, hrun, hsz⟩ := run_zero_string (P := Try.prog) w' 22 9 5 b8 81 Try.underlying22 Try.underlying5 Try.underlying9 (fun i hi => by obtain ⟨u, hu, rfl⟩ := (c8 i hi).2 0 _ rfl; simpa using hu)
        refine wpOp_step rfl (fun K hK => ?_)
        go_simp
        exact hK _ _ ⟨_, rfl, Ex.refl _ _, ⟨_, rfl, by omega⟩, hW⟩
      · intro B a' w' hB hW hF
        obtain ⟨_, h9, s9, rfl, z9⟩ := hF.val ⟨1, .data⟩ (by simp) rfl _ rfl
        refine wpOp_step rfl (fun K hK => ?_)
        go_simp
        exact hK _ _ ⟨_, rfl, (Ex.refl _ _).alloc _, sSl_new (cs := [[(Value.string { data := #[10] })], [.string s9], [(Value.string { data := #[97, 127] })]]) (by intro h; have h2 := hW.2.size; (try dsimp only at h); omega) rfl ⟨⟨⟨_, rfl, by decide⟩, trivial⟩, ⟨⟨_, rfl, by omega⟩, trivial⟩, ⟨⟨_, rfl, by decide⟩, trivial⟩, trivial⟩ (heap_alloc_new w' _), ⟨hW.1.below (below1 _ _), hW.2.alloc _⟩⟩
      · intro B a' w' hB hW hF
        have h0 : a'.tmps[0]? = some (.pointer (some ⟨rb, 0, none⟩)) := (hF.at 0 (by kernel_rfl)).trans rfl
        refine wpOp_step rfl (fun K hK => ?_)
        go_simp
        exact hK _ _ ⟨_, rfl, Ex.refl _ _, rfl, hW⟩
      · intro B a' w' hB hW hF
        obtain ⟨_, h11, rfl⟩ := hF.val ⟨3, .data⟩ (by simp) rfl _ rfl
        refine wpOp_step rfl (fun K hK => ?_)
        go_simp
        refine (pick_any rb _ _ _ hW.1 (by omega) (by omega)).mono ?_
        rintro e w'' ⟨k, rfl, hk, hR', hE'⟩
        exact hK _ _ ⟨_, rfl, hE', ⟨_, rfl, by omega, by omega⟩, ⟨hR', hW.2.trans hE'⟩⟩
      · intro B a' w' hB hW hF
        obtain ⟨_, h10, b10, rfl, c10⟩ := hF.val ⟨2, .data⟩ (by simp) rfl _ rfl
        obtain ⟨_, h12, k12, rfl, a12, b12⟩ := hF.val ⟨4, .data⟩ (by simp) rfl _ rfl
        have i1 : k12 < 3 := by omega
        refine wpOp_step rfl (fun K hK => ?_)
        go_simp
        exact hK _ _ ⟨_, rfl, Ex.refl _ _, ⟨_, _, rfl, by simpa using c10 k12.toNat (by omega)⟩, hW⟩
      · intro B a' w' hB hW hF
        obtain ⟨_, h13, b13, o13, rfl, x13, c13⟩ := hF.val ⟨5, .data⟩ (by simp) rfl _ rfl
        obtain ⟨u0, hu0, tu0⟩ := c13 0 _ rfl
        have hv0 : w'.cell? ⟨b13, o13, none⟩ = some u0 := by simpa using hu0
        refine wpOp_step rfl (fun K hK => ?_)
        go_simp
        exact hK _ _ ⟨_, rfl, Ex.refl _ _, tu0, hW⟩
      · intro B a' w' hB hW hF
        obtain ⟨_, h14, s14, rfl, z14⟩ := hF.val ⟨6, .data⟩ (by simp) rfl _ rfl
        refine wpOp_step rfl (fun K hK => ?_)
        go_simp
        exact hK _ _ ⟨_, rfl, Ex.refl _ _, ⟨_, rfl, z14⟩, hW⟩
    · intro a' w' hL hW
      obtain ⟨_, h4, s4, rfl, z4⟩ := hL.val 7 _ rfl
      have hd := hL.defers
      clear hL
      go_wp2
      refine bodyPost_ret (results_tmp rfl _ _ _) (hd.trans rfl) ?_
      rw [getD_of h4]
      exact DrawRet.mk ⟨_, rfl, by omega⟩ hW.1 (hE.trans hW.2)

set_option maxHeartbeats 1000000 in
theorem day_any (rb B0 : Nat) (w : World) (hR : Rd w rb B0) (hB : B0 ≤ 999000) :
    Calls Try.prog 59 #[.pointer (some ⟨rb, 0, none⟩)] w (DrawRet (sInt (· = rb) 0 1460970).T rb (B0 + 4) w) := by
  have hrN := hR.lt
  go_enter Try.func59, Try.ntmps59
  go_upto_region 1 with (fail)
  refine wp_region_typed_text (fun i => (([sIs _ (.pointer (some ⟨rb, 0, none⟩)), sInt _ (0) (255), sInt _ (0) (1785), sInt _ (738000) (739785), sIs _ (.pointer (some ⟨rb, 0, none⟩)), sInt _ (0) (255), sInt _ (0) (1275000), sIs _ (.pointer (some ⟨rb, 0, none⟩)), sInt _ (0) (2), sInt _ (1460967) (1460969), sSl 4 [sInt _ (0) (1460969)], sSl 6 [sInt _ (0) (3)], sIs _ (.pointer (some ⟨rb, 0, none⟩)), sInt _ (0) (5), sRef [sInt _ (0) (3)], sInt _ (0) (3), sRef [sInt _ (0) (1460969)], sInt _ (0) (1460969), sInt _ (0) (1460969)] : List (STy (· = rb))).getD i (sAny _)).T) (fun i => ([0, 1, 0, 0, 0, 1, 0, 0, 1, 0, 0, 0, 0, 1, 0, 0, 0, 0, 0] : List Nat).getD i 0) (fun B w' => Rd w' rb (B0 + B) ∧ Ex (· = rb) w w') (Ex (· = rb)) 4 21 rfl (by kernel_rfl) (by decide) ⟨hR, Ex.refl _ _⟩ (fun i u u' v hx hv => STy.st _ _ _ _ hx hv) ?_ ?_
  · refine ⟨?_, ?_, ?_, ?_, ?_, ?_, ?_, ?_, ?_, ?_, ?_, ?_, ?_, ?_, ?_, ?_, ?_, ?_, ?_, trivial⟩
    · intro B a' w' hB hW hF
      have h0 : a'.tmps[0]? = some (.pointer (some ⟨rb, 0, none⟩)) := (hF.at 0 (by kernel_rfl)).trans rfl
      refine wpOp_step rfl (fun K hK => ?_)
      go_simp
      exact hK _ _ ⟨_, rfl, Ex.refl _ _, rfl, hW⟩
    · intro B a' w' hB hW hF
      obtain ⟨_, h3, rfl⟩ := hF.val ⟨0, .data⟩ (by simp) rfl _ rfl
      refine wpOp_step rfl (fun K hK => ?_)
      go_simp
      refine (pick_any rb _ _ _ hW.1 (by omega) (by omega)).mono ?_
      rintro e w'' ⟨k, rfl, hk, hR', hE'⟩
      exact hK _ _ ⟨_, rfl, hE', ⟨_, rfl, by omega, by omega⟩, ⟨hR', hW.2.trans hE'⟩⟩
    · intro B a' w' hB hW hF
      obtain ⟨_, h4, k4, rfl, a4, b4⟩ := hF.val ⟨1, .data⟩ (by simp) rfl _ rfl
      have hw : IntKind.i64.wrap (k4 * 7) = k4 * 7 := IntWalk.i64_in _ (by omega)
      refine wpOp_step rfl (fun K hK => ?_)
      go_simp
      exact hK _ _ ⟨_, rfl, Ex.refl _ _, ⟨_, rfl, by omega, by omega⟩, hW⟩
    · intro B a' w' hB hW hF
      obtain ⟨_, h5, k5, rfl, a5, b5⟩ := hF.val ⟨2, .data⟩ (by simp) rfl _ rfl
      have hw : IntKind.i64.wrap (738000 + k5) = 738000 + k5 := IntWalk.i64_in _ (by omega)
      refine wpOp_step rfl (fun K hK => ?_)
      go_simp
      exact hK _ _ ⟨_, rfl, Ex.refl _ _, ⟨_, rfl, by omega, by omega⟩, hW⟩
    · intro B a' w' hB hW hF
      have h0 : a'.tmps[0]? = some (.pointer (some ⟨rb, 0, none⟩)) := (hF.at 0 (by kernel_rfl)).trans rfl
      refine wpOp_step rfl (fun K hK => ?_)
      go_simp
      exact hK _ _ ⟨_, rfl, Ex.refl _ _, rfl, hW⟩
    · intro B a' w' hB hW hF
      obtain ⟨_, h7, rfl⟩ := hF.val ⟨4, .data⟩ (by simp) rfl _ rfl
      refine wpOp_step rfl (fun K hK => ?_)
      go_simp
      refine (pick_any rb _ _ _ hW.1 (by omega) (by omega)).mono ?_
      rintro e w'' ⟨k, rfl, hk, hR', hE'⟩
      exact hK _ _ ⟨_, rfl, hE', ⟨_, rfl, by omega, by omega⟩, ⟨hR', hW.2.trans hE'⟩⟩
    · intro B a' w' hB hW hF
      obtain ⟨_, h8, k8, rfl, a8, b8⟩ := hF.val ⟨5, .data⟩ (by simp) rfl _ rfl
      have hw : IntKind.i64.wrap (k8 * 5000) = k8 * 5000 := IntWalk.i64_in _ (by omega)
      refine wpOp_step rfl (fun K hK => ?_)
      go_simp
      exact hK _ _ ⟨_, rfl, Ex.refl _ _, ⟨_, rfl, by omega, by omega⟩, hW⟩
    · intro B a' w' hB hW hF
      have h0 : a'.tmps[0]? = some (.pointer (some ⟨rb, 0, none⟩)) := (hF.at 0 (by kernel_rfl)).trans rfl
      refine wpOp_step rfl (fun K hK => ?_)
      go_simp
      exact hK _ _ ⟨_, rfl, Ex.refl _ _, rfl, hW⟩
    · intro B a' w' hB hW hF
      obtain ⟨_, h10, rfl⟩ := hF.val ⟨7, .data⟩ (by simp) rfl _ rfl
      refine wpOp_step rfl (fun K hK => ?_)
      go_simp
      refine (pick_any rb _ _ _ hW.1 (by omega) (by omega)).mono ?_
      rintro e w'' ⟨k, rfl, hk, hR', hE'⟩
      exact hK _ _ ⟨_, rfl, hE', ⟨_, rfl, by omega, by omega⟩, ⟨hR', hW.2.trans hE'⟩⟩
    · intro B a' w' hB hW hF
      obtain ⟨_, h11, k11, rfl, a11, b11⟩ := hF.val ⟨8, .data⟩ (by simp) rfl _ rfl
      have hw : IntKind.i64.wrap (1460969 - k11) = 1460969 - k11 := IntWalk.i64_in _ (by omega)
      refine wpOp_step rfl (fun K hK => ?_)
      go_simp
      exact hK _ _ ⟨_, rfl, Ex.refl _ _, ⟨_, rfl, by omega, by omega⟩, hW⟩
    · intro B a' w' hB hW hF
      obtain ⟨_, h6, k6, rfl, a6, b6⟩ := hF.val ⟨3, .data⟩ (by simp) rfl _ rfl
      obtain ⟨_, h9, k9, rfl, a9, b9⟩ := hF.val ⟨6, .data⟩ (by simp) rfl _ rfl
      obtain ⟨_, h12, k12, rfl, a12, b12⟩ := hF.val ⟨9, .data⟩ (by simp) rfl _ rfl
      refine wpOp_step rfl (fun K hK => ?_)
      go_simp
      exact hK _ _ ⟨_, rfl, (Ex.refl _ _).alloc _, sSl_new (cs := [[.int .i64 k6], [.int .i64 k9], [(Value.int IntKind.i64 0)], [.int .i64 k12]]) (by intro h; have h2 := hW.2.size; (try dsimp only at h); omega) rfl ⟨⟨⟨_, rfl, by omega, by omega⟩, trivial⟩, ⟨⟨_, rfl, by omega, by omega⟩, trivial⟩, ⟨⟨_, rfl, by omega, by omega⟩, trivial⟩, ⟨⟨_, rfl, by omega, by omega⟩, trivial⟩, trivial⟩ (heap_alloc_new w' _), ⟨hW.1.below (below1 _ _), hW.2.alloc _⟩⟩
    · intro B a' w' hB hW hF
      refine wpOp_step rfl (fun K hK => ?_)
      go_simp
      exact hK _ _ ⟨_, rfl, (Ex.refl _ _).alloc _, sSl_new (cs := [[(Value.int IntKind.i64 0)], [(Value.int IntKind.i64 0)], [(Value.int IntKind.i64 0)], [(Value.int IntKind.i64 1)], [(Value.int IntKind.i64 2)], [(Value.int IntKind.i64 3)]]) (by intro h; have h2 := hW.2.size; (try dsimp only at h); omega) rfl ⟨⟨⟨_, rfl, by omega, by omega⟩, trivial⟩, ⟨⟨_, rfl, by omega, by omega⟩, trivial⟩, ⟨⟨_, rfl, by omega, by omega⟩, trivial⟩, ⟨⟨_, rfl, by omega, by omega⟩, trivial⟩, ⟨⟨_, rfl, by omega, by omega⟩, trivial⟩, ⟨⟨_, rfl, by omega, by omega⟩, trivial⟩, trivial⟩ (heap_alloc_new w' _), ⟨hW.1.below (below1 _ _), hW.2.alloc _⟩⟩
    · intro B a' w' hB hW hF
      have h0 : a'.tmps[0]? = some (.pointer (some ⟨rb, 0, none⟩)) := (hF.at 0 (by kernel_rfl)).trans rfl
      refine wpOp_step rfl (fun K hK => ?_)
      go_simp
      exact hK _ _ ⟨_, rfl, Ex.refl _ _, rfl, hW⟩
    · intro B a' w' hB hW hF
      obtain ⟨_, h15, rfl⟩ := hF.val ⟨12, .data⟩ (by simp) rfl _ rfl
      refine wpOp_step rfl (fun K hK => ?_)
      go_simp
      refine (pick_any rb _ _ _ hW.1 (by omega) (by omega)).mono ?_
      rintro e w'' ⟨k, rfl, hk, hR', hE'⟩
      exact hK _ _ ⟨_, rfl, hE', ⟨_, rfl, by omega, by omega⟩, ⟨hR', hW.2.trans hE'⟩⟩
    · intro B a' w' hB hW hF
      obtain ⟨_, h14, b14, rfl, c14⟩ := hF.val ⟨11, .data⟩ (by simp) rfl _ rfl
      obtain ⟨_, h16, k16, rfl, a16, b16⟩ := hF.val ⟨13, .data⟩ (by simp) rfl _ rfl
      have i1 : k16 < 6 := by omega
      refine wpOp_step rfl (fun K hK => ?_)
      go_simp
      exact hK _ _ ⟨_, rfl, Ex.refl _ _, ⟨_, _, rfl, by simpa using c14 k16.toNat (by omega)⟩, hW⟩
    · intro B a' w' hB hW hF
      obtain ⟨_, h17, b17, o17, rfl, x17, c17⟩ := hF.val ⟨14, .data⟩ (by simp) rfl _ rfl
      obtain ⟨u0, hu0, tu0⟩ := c17 0 _ rfl
      have hv0 : w'.cell? ⟨b17, o17, none⟩ = some u0 := by simpa using hu0
      refine wpOp_step rfl (fun K hK => ?_)
      go_simp
      exact hK _ _ ⟨_, rfl, Ex.refl _ _, tu0, hW⟩
    · intro B a' w' hB hW hF
      obtain ⟨_, h13, b13, rfl, c13⟩ := hF.val ⟨10, .data⟩ (by simp) rfl _ rfl
      obtain ⟨_, h18, k18, rfl, a18, b18⟩ := hF.val ⟨15, .data⟩ (by simp) rfl _ rfl
      have i1 : k18 < 4 := by omega
      refine wpOp_step rfl (fun K hK => ?_)
      go_simp
      exact hK _ _ ⟨_, rfl, Ex.refl _ _, ⟨_, _, rfl, by simpa using c13 k18.toNat (by omega)⟩, hW⟩
    · intro B a' w' hB hW hF
      obtain ⟨_, h19, b19, o19, rfl, x19, c19⟩ := hF.val ⟨16, .data⟩ (by simp) rfl _ rfl
      obtain ⟨u0, hu0, tu0⟩ := c19 0 _ rfl
      have hv0 : w'.cell? ⟨b19, o19, none⟩ = some u0 := by simpa using hu0
      refine wpOp_step rfl (fun K hK => ?_)
      go_simp
      exact hK _ _ ⟨_, rfl, Ex.refl _ _, tu0, hW⟩
    · intro B a' w' hB hW hF
      obtain ⟨_, h20, k20, rfl, a20, b20⟩ := hF.val ⟨17, .data⟩ (by simp) rfl _ rfl
      refine wpOp_step rfl (fun K hK => ?_)
      go_simp
      exact hK _ _ ⟨_, rfl, Ex.refl _ _, ⟨_, rfl, a20, b20⟩, hW⟩
  · intro a' w' hL hW
    obtain ⟨_, h2, k2, rfl, a2, b2⟩ := hL.val 18 _ rfl
    have hd := hL.defers
    clear hL
    go_wp2
    refine bodyPost_ret (results_tmp rfl _ _ _) (hd.trans rfl) ?_
    rw [getD_of h2]
    exact DrawRet.mk ⟨_, rfl, by omega, by omega⟩ hW.1 hW.2
end Go.Proofs.Ytlmpkajnbdhppaa
