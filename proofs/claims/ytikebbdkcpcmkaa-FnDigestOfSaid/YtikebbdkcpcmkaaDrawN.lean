/- The walks of the reference's drawing functions for numbers. No condition. -/
import Derived.Test.YtikebbdkcpcmkaaDrawA
namespace Go.Proofs.Ytikebbdkcpcmkaa
open Go.RowKit

def DrawInts2 (w : World) (e : Ending) (w' : World) : Prop := ∃ a b : Int, e = .returned (.tuple #[.int .i64 a, .int .i64 b]) ∧ (-1 ≤ a ∧ a ≤ 1000000000 ∧ 0 ≤ b ∧ b ≤ 2000001) ∧ Below w.heap.size w w'
def DrawInts3 (w : World) (e : Ending) (w' : World) : Prop := ∃ a b m : Int, e = .returned (.tuple #[.int .i64 a, .int .i64 b, .int .i64 m]) ∧ (0 ≤ a ∧ a ≤ 2000001 ∧ -1 ≤ b ∧ b ≤ 1000000000 ∧ 0 ≤ m ∧ m ≤ 1000001) ∧ Below w.heap.size w w'
set_option maxHeartbeats 400000 in
theorem draw_MulMod (v : Value) (l : List UInt8) (w : World) (h : Sl byteS w v l) :
    Calls Try.prog 14 #[v] w (DrawInts3 w) := by
  go_enter Try.func14, Try.ntmps14
  go_wp2_with fail
  refine (open_any v l _ h).mono ?_
  rintro e w1 ⟨rfl, hR1, hB⟩
  go_wp2_with fail
  refine (modulus_any _ _ _ hR1 (by omega)).mono ?_
  rintro e w2 ⟨_, rfl, ⟨m, rfl, m1, m2⟩, hR2, hE2⟩
  go_wp2_with fail
  refine (below_any _ _ m _ hR2 (by omega) m1 m2).mono ?_
  rintro e w3 ⟨_, rfl, ⟨a, rfl, a1, a2⟩, hR3, hE3⟩
  go_wp2_with fail
  refine (below_any _ _ m _ hR3 (by omega) m1 m2).mono ?_
  rintro e w4 ⟨_, rfl, ⟨b, rfl, b1, b2⟩, hR4, hE4⟩
  go_wp2_with fail
  go_ret3
  exact ⟨a, b, m, rfl, ⟨by omega, by omega, by omega, by omega, by omega, by omega⟩, below_open hB ((hE2.trans hE3).trans hE4)⟩

set_option maxHeartbeats 400000 in
theorem draw_InverseMod (v : Value) (l : List UInt8) (w : World) (h : Sl byteS w v l) :
    Calls Try.prog 30 #[v] w (DrawInts2 w) := by
  go_enter Try.func30, Try.ntmps30
  go_wp2_with fail
  refine (open_any v l _ h).mono ?_
  rintro e w1 ⟨rfl, hR1, hB⟩
  go_wp2_with fail
  refine (modulus_any _ _ _ hR1 (by omega)).mono ?_
  rintro e w2 ⟨_, rfl, ⟨m, rfl, m1, m2⟩, hR2, hE2⟩
  go_wp2_with fail
  refine (below_any _ _ m _ hR2 (by omega) m1 m2).mono ?_
  rintro e w3 ⟨_, rfl, ⟨a, rfl, a1, a2⟩, hR3, hE3⟩
  go_wp2_with fail
  go_ret2
  exact ⟨a, m, rfl, ⟨by omega, by omega, by omega, by omega⟩, below_open hB (hE2.trans hE3)⟩

set_option maxHeartbeats 1000000 in
theorem draw_PowMod (v : Value) (l : List UInt8) (w : World) (h : Sl byteS w v l) :
    Calls Try.prog 24 #[v] w (DrawInts3 w) := by
  go_enter Try.func24, Try.ntmps24
  go_wp2_with fail
  refine (open_any v l _ h).mono ?_
  rintro e w1 ⟨rfl, hR1, hB⟩
  go_wp2_with fail
  refine (modulus_any _ _ _ hR1 (by omega)).mono ?_
  rintro e w2 ⟨_, rfl, ⟨m, rfl, m1, m2⟩, hR2, hE2⟩
  go_wp2_with fail
  refine (below_any _ _ m _ hR2 (by omega) m1 m2).mono ?_
  rintro e w3 ⟨_, rfl, ⟨a, rfl, a1, a2⟩, hR3, hE3⟩
  go_wp2_with fail
  have hE := hE2.trans hE3
  clear hR1 hR2 hE2 hE3
  obtain ⟨rb, hrb⟩ : ∃ rb, Hid (rb = w.heap.size) := ⟨_, rfl⟩
  rw [← hrb.out]
  rw [← hrb.out] at hR3 hE
  have hR : Rd w3 rb 4 := hR3
  have hrN := hR.lt
  refine wp_region_typed (fun i => (([sInt _ (0) (2000001), sIs _ (.pointer (some ⟨rb, 0, none⟩)), sInt _ (0) (19), sIs _ (.pointer (some ⟨rb, 0, none⟩)), sInt _ (0) (255), sInt _ (0) (765000), sSl 4 [sInt _ (-1) (1000000000)], sSl 7 [sInt _ (0) (3)], sIs _ (.pointer (some ⟨rb, 0, none⟩)), sInt _ (0) (6), sRef [sInt _ (0) (3)], sInt _ (0) (3), sRef [sInt _ (-1) (1000000000)], sInt _ (-1) (1000000000), sInt _ (0) (1000001), sInt _ (0) (2000001), sInt _ (-1) (1000000000), sInt _ (0) (1000001)] : List (STy (· = rb))).getD i (sAny _)).T) (fun i => ([0, 0, 1, 0, 1, 0, 0, 0, 0, 1, 0, 0, 0, 0, 0, 0, 0, 0] : List Nat).getD i 0) (fun B w' => Rd w' rb (4 + B) ∧ Ex (· = rb) w3 w') (Ex (· = rb)) 3 (by kernel_rfl) 30 rfl (by kernel_rfl) (by decide) ⟨hR.drew, (Ex.refl _ _).drew⟩ (fun i u u' v hx hv => STy.st _ _ _ _ hx hv) ?_ ?_
  · refine ⟨?_, ?_, ?_, ?_, ?_, ?_, ?_, ?_, ?_, ?_, ?_, ?_, ?_, ?_, ?_, ?_, ?_, ?_, trivial⟩
    · intro B a' w' hB hW hF
      have h7 : a'.tmps[7]? = some (.int .i64 a) := (hF.at 7 (by kernel_rfl)).trans rfl
      refine wpOp_step rfl (fun K hK => ?_)
      go_simp
      exact hK _ _ ⟨_, rfl, Ex.refl _ _, ⟨_, rfl, by omega, by omega⟩, hW⟩
    · intro B a' w' hB hW hF
      have h5 : a'.tmps[5]? = some (.pointer (some ⟨rb, 0, none⟩)) := (hF.at 5 (by kernel_rfl)).trans rfl
      refine wpOp_step rfl (fun K hK => ?_)
      go_simp
      exact hK _ _ ⟨_, rfl, Ex.refl _ _, rfl, hW⟩
    · intro B a' w' hB hW hF
      obtain ⟨_, h16, rfl⟩ := hF.val ⟨1, .data⟩ (by simp) rfl _ rfl
      refine wpOp_step rfl (fun K hK => ?_)
      go_simp
      refine (pick_any rb _ _ _ hW.1 (by omega) (by omega)).mono ?_
      rintro e w'' ⟨k, rfl, hk, hR', hE'⟩
      exact hK _ _ ⟨_, rfl, hE', ⟨_, rfl, by omega, by omega⟩, ⟨hR', hW.2.trans hE'⟩⟩
    · intro B a' w' hB hW hF
      have h5 : a'.tmps[5]? = some (.pointer (some ⟨rb, 0, none⟩)) := (hF.at 5 (by kernel_rfl)).trans rfl
      refine wpOp_step rfl (fun K hK => ?_)
      go_simp
      exact hK _ _ ⟨_, rfl, Ex.refl _ _, rfl, hW⟩
    · intro B a' w' hB hW hF
      obtain ⟨_, h18, rfl⟩ := hF.val ⟨3, .data⟩ (by simp) rfl _ rfl
      refine wpOp_step rfl (fun K hK => ?_)
      go_simp
      refine (pick_any rb _ _ _ hW.1 (by omega) (by omega)).mono ?_
      rintro e w'' ⟨k, rfl, hk, hR', hE'⟩
      exact hK _ _ ⟨_, rfl, hE', ⟨_, rfl, by omega, by omega⟩, ⟨hR', hW.2.trans hE'⟩⟩
    · intro B a' w' hB hW hF
      obtain ⟨_, h19, k19, rfl, a19, b19⟩ := hF.val ⟨4, .data⟩ (by simp) rfl _ rfl
      have hw : IntKind.i64.wrap (k19 * 3000) = k19 * 3000 := IntWalk.i64_in _ (by omega)
      refine wpOp_step rfl (fun K hK => ?_)
      go_simp
      exact hK _ _ ⟨_, rfl, Ex.refl _ _, ⟨_, rfl, by omega, by omega⟩, hW⟩
    · intro B a' w' hB hW hF
      obtain ⟨_, h17, k17, rfl, a17, b17⟩ := hF.val ⟨2, .data⟩ (by simp) rfl _ rfl
      obtain ⟨_, h20, k20, rfl, a20, b20⟩ := hF.val ⟨5, .data⟩ (by simp) rfl _ rfl
      refine wpOp_step rfl (fun K hK => ?_)
      go_simp
      exact hK _ _ ⟨_, rfl, (Ex.refl _ _).alloc _, sSl_new (cs := [[.int .i64 k17], [.int .i64 k20], [(Value.int IntKind.i64 1000000000)], [(Value.int IntKind.i64 (-1))]]) (by intro h; have h2 := hW.2.size; (try dsimp only at h); omega) rfl ⟨⟨⟨_, rfl, by omega, by omega⟩, trivial⟩, ⟨⟨_, rfl, by omega, by omega⟩, trivial⟩, ⟨⟨_, rfl, by omega, by omega⟩, trivial⟩, ⟨⟨_, rfl, by omega, by omega⟩, trivial⟩, trivial⟩ (heap_alloc_new w' _), ⟨hW.1.below (below1 _ _), hW.2.alloc _⟩⟩
    · intro B a' w' hB hW hF
      refine wpOp_step rfl (fun K hK => ?_)
      go_simp
      exact hK _ _ ⟨_, rfl, (Ex.refl _ _).alloc _, sSl_new (cs := [[(Value.int IntKind.i64 0)], [(Value.int IntKind.i64 0)], [(Value.int IntKind.i64 0)], [(Value.int IntKind.i64 1)], [(Value.int IntKind.i64 1)], [(Value.int IntKind.i64 2)], [(Value.int IntKind.i64 3)]]) (by intro h; have h2 := hW.2.size; (try dsimp only at h); omega) rfl ⟨⟨⟨_, rfl, by omega, by omega⟩, trivial⟩, ⟨⟨_, rfl, by omega, by omega⟩, trivial⟩, ⟨⟨_, rfl, by omega, by omega⟩, trivial⟩, ⟨⟨_, rfl, by omega, by omega⟩, trivial⟩, ⟨⟨_, rfl, by omega, by omega⟩, trivial⟩, ⟨⟨_, rfl, by omega, by omega⟩, trivial⟩, ⟨⟨_, rfl, by omega, by omega⟩, trivial⟩, trivial⟩ (heap_alloc_new w' _), ⟨hW.1.below (below1 _ _), hW.2.alloc _⟩⟩
    · intro B a' w' hB hW hF
      have h5 : a'.tmps[5]? = some (.pointer (some ⟨rb, 0, none⟩)) := (hF.at 5 (by kernel_rfl)).trans rfl
      refine wpOp_step rfl (fun K hK => ?_)
      go_simp
      exact hK _ _ ⟨_, rfl, Ex.refl _ _, rfl, hW⟩
    · intro B a' w' hB hW hF
      obtain ⟨_, h23, rfl⟩ := hF.val ⟨8, .data⟩ (by simp) rfl _ rfl
      refine wpOp_step rfl (fun K hK => ?_)
      go_simp
      refine (pick_any rb _ _ _ hW.1 (by omega) (by omega)).mono ?_
      rintro e w'' ⟨k, rfl, hk, hR', hE'⟩
      exact hK _ _ ⟨_, rfl, hE', ⟨_, rfl, by omega, by omega⟩, ⟨hR', hW.2.trans hE'⟩⟩
    · intro B a' w' hB hW hF
      obtain ⟨_, h22, b22, rfl, c22⟩ := hF.val ⟨7, .data⟩ (by simp) rfl _ rfl
      obtain ⟨_, h24, k24, rfl, a24, b24⟩ := hF.val ⟨9, .data⟩ (by simp) rfl _ rfl
      have i1 : k24 < 7 := by omega
      refine wpOp_step rfl (fun K hK => ?_)
      go_simp
      exact hK _ _ ⟨_, rfl, Ex.refl _ _, ⟨_, _, rfl, by simpa using c22 k24.toNat (by omega)⟩, hW⟩
    · intro B a' w' hB hW hF
      obtain ⟨_, h25, b25, o25, rfl, x25, c25⟩ := hF.val ⟨10, .data⟩ (by simp) rfl _ rfl
      obtain ⟨u0, hu0, tu0⟩ := c25 0 _ rfl
      have hv0 : w'.cell? ⟨b25, o25, none⟩ = some u0 := by simpa using hu0
      refine wpOp_step rfl (fun K hK => ?_)
      go_simp
      exact hK _ _ ⟨_, rfl, Ex.refl _ _, tu0, hW⟩
    · intro B a' w' hB hW hF
      obtain ⟨_, h21, b21, rfl, c21⟩ := hF.val ⟨6, .data⟩ (by simp) rfl _ rfl
      obtain ⟨_, h26, k26, rfl, a26, b26⟩ := hF.val ⟨11, .data⟩ (by simp) rfl _ rfl
      have i1 : k26 < 4 := by omega
      refine wpOp_step rfl (fun K hK => ?_)
      go_simp
      exact hK _ _ ⟨_, rfl, Ex.refl _ _, ⟨_, _, rfl, by simpa using c21 k26.toNat (by omega)⟩, hW⟩
    · intro B a' w' hB hW hF
      obtain ⟨_, h27, b27, o27, rfl, x27, c27⟩ := hF.val ⟨12, .data⟩ (by simp) rfl _ rfl
      obtain ⟨u0, hu0, tu0⟩ := c27 0 _ rfl
      have hv0 : w'.cell? ⟨b27, o27, none⟩ = some u0 := by simpa using hu0
      refine wpOp_step rfl (fun K hK => ?_)
      go_simp
      exact hK _ _ ⟨_, rfl, Ex.refl _ _, tu0, hW⟩
    · intro B a' w' hB hW hF
      have h6 : a'.tmps[6]? = some (.int .i64 m) := (hF.at 6 (by kernel_rfl)).trans rfl
      refine wpOp_step rfl (fun K hK => ?_)
      go_simp
      exact hK _ _ ⟨_, rfl, Ex.refl _ _, ⟨_, rfl, by omega, by omega⟩, hW⟩
    · intro B a' w' hB hW hF
      obtain ⟨_, h15, k15, rfl, a15, b15⟩ := hF.val ⟨0, .data⟩ (by simp) rfl _ rfl
      refine wpOp_step rfl (fun K hK => ?_)
      go_simp
      exact hK _ _ ⟨_, rfl, Ex.refl _ _, ⟨_, rfl, a15, b15⟩, hW⟩
    · intro B a' w' hB hW hF
      obtain ⟨_, h28, k28, rfl, a28, b28⟩ := hF.val ⟨13, .data⟩ (by simp) rfl _ rfl
      refine wpOp_step rfl (fun K hK => ?_)
      go_simp
      exact hK _ _ ⟨_, rfl, Ex.refl _ _, ⟨_, rfl, a28, b28⟩, hW⟩
    · intro B a' w' hB hW hF
      obtain ⟨_, h29, k29, rfl, a29, b29⟩ := hF.val ⟨14, .data⟩ (by simp) rfl _ rfl
      refine wpOp_step rfl (fun K hK => ?_)
      go_simp
      exact hK _ _ ⟨_, rfl, Ex.refl _ _, ⟨_, rfl, a29, b29⟩, hW⟩
  · intro a' w' hL hW
    obtain ⟨_, h2, k2, rfl, a2, b2⟩ := hL.val 15 _ rfl
    obtain ⟨_, h3, k3, rfl, a3, b3⟩ := hL.val 16 _ rfl
    obtain ⟨_, h4, k4, rfl, a4, b4⟩ := hL.val 17 _ rfl
    have hd := hL.defers
    clear hL
    go_wp2
    refine bodyPost_ret (results_tmp3 rfl _ _ _) (hd.trans rfl) ?_
    rw [getD_of h2, getD_of h3, getD_of h4]
    have hx := hE.trans hW.2
    rw [hrb.out] at hx
    exact ⟨_, _, _, rfl, ⟨by omega, by omega, by omega, by omega, by omega, by omega⟩, below_open hB hx⟩

set_option maxHeartbeats 1000000 in
theorem draw_DigestMore (v : Value) (l : List UInt8) (w : World) (h : Sl byteS w v l) :
    Calls Try.prog 10 #[v] w (DrawInts2 w) := by
  go_enter Try.func10, Try.ntmps10
  go_wp2_with fail
  refine (open_any v l _ h).mono ?_
  rintro e w1 ⟨rfl, hR, hB⟩
  go_wp2_with fail
  obtain ⟨rb, hrb⟩ : ∃ rb, Hid (rb = w.heap.size) := ⟨_, rfl⟩
  rw [← hrb.out]
  rw [← hrb.out] at hR
  have hrN := hR.lt
  refine wp_region_typed (fun i => (([sIs _ (.pointer (some ⟨rb, 0, none⟩)), sInt _ (0) (255), sInt _ (0) (994500), sSl 4 [sInt _ (-1) (999983)], sSl 7 [sInt _ (0) (3)], sIs _ (.pointer (some ⟨rb, 0, none⟩)), sInt _ (0) (6), sRef [sInt _ (0) (3)], sInt _ (0) (3), sRef [sInt _ (-1) (999983)], sInt _ (-1) (999983), sIs _ (.pointer (some ⟨rb, 0, none⟩)), sInt _ (0) (98), sInt _ (30) (128), sInt _ (-1) (999983), sInt _ (30) (128)] : List (STy (· = rb))).getD i (sAny _)).T) (fun i => ([0, 1, 0, 0, 0, 0, 1, 0, 0, 0, 0, 0, 1, 0, 0, 0] : List Nat).getD i 0) (fun B w' => Rd w' rb (0 + B) ∧ Ex (· = rb) w1 w') (Ex (· = rb)) 3 (by kernel_rfl) 21 rfl (by kernel_rfl) (by decide) ⟨hR.drew, (Ex.refl _ _).drew⟩ (fun i u u' v hx hv => STy.st _ _ _ _ hx hv) ?_ ?_
  · refine ⟨?_, ?_, ?_, ?_, ?_, ?_, ?_, ?_, ?_, ?_, ?_, ?_, ?_, ?_, ?_, ?_, trivial⟩
    · intro B a' w' hB hW hF
      have h4 : a'.tmps[4]? = some (.pointer (some ⟨rb, 0, none⟩)) := (hF.at 4 (by kernel_rfl)).trans rfl
      refine wpOp_step rfl (fun K hK => ?_)
      go_simp
      exact hK _ _ ⟨_, rfl, Ex.refl _ _, rfl, hW⟩
    · intro B a' w' hB hW hF
      obtain ⟨_, h7, rfl⟩ := hF.val ⟨0, .data⟩ (by simp) rfl _ rfl
      refine wpOp_step rfl (fun K hK => ?_)
      go_simp
      refine (pick_any rb _ _ _ hW.1 (by omega) (by omega)).mono ?_
      rintro e w'' ⟨k, rfl, hk, hR', hE'⟩
      exact hK _ _ ⟨_, rfl, hE', ⟨_, rfl, by omega, by omega⟩, ⟨hR', hW.2.trans hE'⟩⟩
    · intro B a' w' hB hW hF
      obtain ⟨_, h8, k8, rfl, a8, b8⟩ := hF.val ⟨1, .data⟩ (by simp) rfl _ rfl
      have hw : IntKind.i64.wrap (k8 * 3900) = k8 * 3900 := IntWalk.i64_in _ (by omega)
      refine wpOp_step rfl (fun K hK => ?_)
      go_simp
      exact hK _ _ ⟨_, rfl, Ex.refl _ _, ⟨_, rfl, by omega, by omega⟩, hW⟩
    · intro B a' w' hB hW hF
      obtain ⟨_, h9, k9, rfl, a9, b9⟩ := hF.val ⟨2, .data⟩ (by simp) rfl _ rfl
      refine wpOp_step rfl (fun K hK => ?_)
      go_simp
      exact hK _ _ ⟨_, rfl, (Ex.refl _ _).alloc _, sSl_new (cs := [[.int .i64 k9], [(Value.int IntKind.i64 999983)], [(Value.int IntKind.i64 (-1))], [(Value.int IntKind.i64 999982)]]) (by intro h; have h2 := hW.2.size; (try dsimp only at h); omega) rfl ⟨⟨⟨_, rfl, by omega, by omega⟩, trivial⟩, ⟨⟨_, rfl, by omega, by omega⟩, trivial⟩, ⟨⟨_, rfl, by omega, by omega⟩, trivial⟩, ⟨⟨_, rfl, by omega, by omega⟩, trivial⟩, trivial⟩ (heap_alloc_new w' _), ⟨hW.1.below (below1 _ _), hW.2.alloc _⟩⟩
    · intro B a' w' hB hW hF
      refine wpOp_step rfl (fun K hK => ?_)
      go_simp
      exact hK _ _ ⟨_, rfl, (Ex.refl _ _).alloc _, sSl_new (cs := [[(Value.int IntKind.i64 0)], [(Value.int IntKind.i64 0)], [(Value.int IntKind.i64 0)], [(Value.int IntKind.i64 0)], [(Value.int IntKind.i64 1)], [(Value.int IntKind.i64 2)], [(Value.int IntKind.i64 3)]]) (by intro h; have h2 := hW.2.size; (try dsimp only at h); omega) rfl ⟨⟨⟨_, rfl, by omega, by omega⟩, trivial⟩, ⟨⟨_, rfl, by omega, by omega⟩, trivial⟩, ⟨⟨_, rfl, by omega, by omega⟩, trivial⟩, ⟨⟨_, rfl, by omega, by omega⟩, trivial⟩, ⟨⟨_, rfl, by omega, by omega⟩, trivial⟩, ⟨⟨_, rfl, by omega, by omega⟩, trivial⟩, ⟨⟨_, rfl, by omega, by omega⟩, trivial⟩, trivial⟩ (heap_alloc_new w' _), ⟨hW.1.below (below1 _ _), hW.2.alloc _⟩⟩
    · intro B a' w' hB hW hF
      have h4 : a'.tmps[4]? = some (.pointer (some ⟨rb, 0, none⟩)) := (hF.at 4 (by kernel_rfl)).trans rfl
      refine wpOp_step rfl (fun K hK => ?_)
      go_simp
      exact hK _ _ ⟨_, rfl, Ex.refl _ _, rfl, hW⟩
    · intro B a' w' hB hW hF
      obtain ⟨_, h12, rfl⟩ := hF.val ⟨5, .data⟩ (by simp) rfl _ rfl
      refine wpOp_step rfl (fun K hK => ?_)
      go_simp
      refine (pick_any rb _ _ _ hW.1 (by omega) (by omega)).mono ?_
      rintro e w'' ⟨k, rfl, hk, hR', hE'⟩
      exact hK _ _ ⟨_, rfl, hE', ⟨_, rfl, by omega, by omega⟩, ⟨hR', hW.2.trans hE'⟩⟩
    · intro B a' w' hB hW hF
      obtain ⟨_, h11, b11, rfl, c11⟩ := hF.val ⟨4, .data⟩ (by simp) rfl _ rfl
      obtain ⟨_, h13, k13, rfl, a13, b13⟩ := hF.val ⟨6, .data⟩ (by simp) rfl _ rfl
      have i1 : k13 < 7 := by omega
      refine wpOp_step rfl (fun K hK => ?_)
      go_simp
      exact hK _ _ ⟨_, rfl, Ex.refl _ _, ⟨_, _, rfl, by simpa using c11 k13.toNat (by omega)⟩, hW⟩
    · intro B a' w' hB hW hF
      obtain ⟨_, h14, b14, o14, rfl, x14, c14⟩ := hF.val ⟨7, .data⟩ (by simp) rfl _ rfl
      obtain ⟨u0, hu0, tu0⟩ := c14 0 _ rfl
      have hv0 : w'.cell? ⟨b14, o14, none⟩ = some u0 := by simpa using hu0
      refine wpOp_step rfl (fun K hK => ?_)
      go_simp
      exact hK _ _ ⟨_, rfl, Ex.refl _ _, tu0, hW⟩
    · intro B a' w' hB hW hF
      obtain ⟨_, h10, b10, rfl, c10⟩ := hF.val ⟨3, .data⟩ (by simp) rfl _ rfl
      obtain ⟨_, h15, k15, rfl, a15, b15⟩ := hF.val ⟨8, .data⟩ (by simp) rfl _ rfl
      have i1 : k15 < 4 := by omega
      refine wpOp_step rfl (fun K hK => ?_)
      go_simp
      exact hK _ _ ⟨_, rfl, Ex.refl _ _, ⟨_, _, rfl, by simpa using c10 k15.toNat (by omega)⟩, hW⟩
    · intro B a' w' hB hW hF
      obtain ⟨_, h16, b16, o16, rfl, x16, c16⟩ := hF.val ⟨9, .data⟩ (by simp) rfl _ rfl
      obtain ⟨u0, hu0, tu0⟩ := c16 0 _ rfl
      have hv0 : w'.cell? ⟨b16, o16, none⟩ = some u0 := by simpa using hu0
      refine wpOp_step rfl (fun K hK => ?_)
      go_simp
      exact hK _ _ ⟨_, rfl, Ex.refl _ _, tu0, hW⟩
    · intro B a' w' hB hW hF
      have h4 : a'.tmps[4]? = some (.pointer (some ⟨rb, 0, none⟩)) := (hF.at 4 (by kernel_rfl)).trans rfl
      refine wpOp_step rfl (fun K hK => ?_)
      go_simp
      exact hK _ _ ⟨_, rfl, Ex.refl _ _, rfl, hW⟩
    · intro B a' w' hB hW hF
      obtain ⟨_, h18, rfl⟩ := hF.val ⟨11, .data⟩ (by simp) rfl _ rfl
      refine wpOp_step rfl (fun K hK => ?_)
      go_simp
      refine (pick_any rb _ _ _ hW.1 (by omega) (by omega)).mono ?_
      rintro e w'' ⟨k, rfl, hk, hR', hE'⟩
      exact hK _ _ ⟨_, rfl, hE', ⟨_, rfl, by omega, by omega⟩, ⟨hR', hW.2.trans hE'⟩⟩
    · intro B a' w' hB hW hF
      obtain ⟨_, h19, k19, rfl, a19, b19⟩ := hF.val ⟨12, .data⟩ (by simp) rfl _ rfl
      have hw : IntKind.i64.wrap (30 + k19) = 30 + k19 := IntWalk.i64_in _ (by omega)
      refine wpOp_step rfl (fun K hK => ?_)
      go_simp
      exact hK _ _ ⟨_, rfl, Ex.refl _ _, ⟨_, rfl, by omega, by omega⟩, hW⟩
    · intro B a' w' hB hW hF
      obtain ⟨_, h17, k17, rfl, a17, b17⟩ := hF.val ⟨10, .data⟩ (by simp) rfl _ rfl
      refine wpOp_step rfl (fun K hK => ?_)
      go_simp
      exact hK _ _ ⟨_, rfl, Ex.refl _ _, ⟨_, rfl, a17, b17⟩, hW⟩
    · intro B a' w' hB hW hF
      obtain ⟨_, h20, k20, rfl, a20, b20⟩ := hF.val ⟨13, .data⟩ (by simp) rfl _ rfl
      refine wpOp_step rfl (fun K hK => ?_)
      go_simp
      exact hK _ _ ⟨_, rfl, Ex.refl _ _, ⟨_, rfl, a20, b20⟩, hW⟩
  · intro a' w' hL hW
    obtain ⟨_, h2, k2, rfl, a2, b2⟩ := hL.val 14 _ rfl
    obtain ⟨_, h3, k3, rfl, a3, b3⟩ := hL.val 15 _ rfl
    have hd := hL.defers
    clear hL
    go_wp2
    refine bodyPost_ret (results_tmp2 rfl _ _ _) (hd.trans rfl) ?_
    rw [getD_of h2, getD_of h3]
    have hx := hW.2
    rw [hrb.out] at hx
    exact ⟨_, _, rfl, ⟨by omega, by omega, by omega, by omega⟩, below_open hB hx⟩

def DrawInt (w : World) (e : Ending) (w' : World) : Prop := ∃ a : Int, e = .returned (.int .i64 a) ∧ (-7 ≤ a ∧ a ≤ 1021) ∧ Below w.heap.size w w'
set_option maxHeartbeats 1000000 in
theorem draw_IsPrime (v : Value) (l : List UInt8) (w : World) (h : Sl byteS w v l) :
    Calls Try.prog 20 #[v] w (DrawInt w) := by
  go_enter Try.func20, Try.ntmps20
  go_wp2_with fail
  refine (open_any v l _ h).mono ?_
  rintro e w1 ⟨rfl, hR, hB⟩
  go_upto_region 2 with (fail)
  obtain ⟨rb, hrb⟩ : ∃ rb, Hid (rb = w.heap.size) := ⟨_, rfl⟩
  rw [← hrb.out]
  rw [← hrb.out] at hR
  have hrN := hR.lt
  refine wp_region_typed_text (fun i => (([sIs _ (.pointer (some ⟨rb, 0, none⟩)), sInt _ (0) (255), sIs _ (.pointer (some ⟨rb, 0, none⟩)), sInt _ (0) (255), sInt _ (0) (1020), sInt _ (1) (1021), sSl 6 [sInt _ (-7) (1021)], sSl 9 [sInt _ (0) (5)], sIs _ (.pointer (some ⟨rb, 0, none⟩)), sInt _ (0) (8), sRef [sInt _ (0) (5)], sInt _ (0) (5), sRef [sInt _ (-7) (1021)], sInt _ (-7) (1021), sInt _ (-7) (1021)] : List (STy (· = rb))).getD i (sAny _)).T) (fun i => ([0, 1, 0, 1, 0, 0, 0, 0, 0, 1, 0, 0, 0, 0, 0] : List Nat).getD i 0) (fun B w' => Rd w' rb (0 + B) ∧ Ex (· = rb) w1 w') (Ex (· = rb)) 3 20 rfl (by kernel_rfl) (by decide) ⟨hR, Ex.refl _ _⟩ (fun i u u' v hx hv => STy.st _ _ _ _ hx hv) ?_ ?_
  · refine ⟨?_, ?_, ?_, ?_, ?_, ?_, ?_, ?_, ?_, ?_, ?_, ?_, ?_, ?_, ?_, trivial⟩
    · intro B a' w' hB hW hF
      have h3 : a'.tmps[3]? = some (.pointer (some ⟨rb, 0, none⟩)) := (hF.at 3 (by kernel_rfl)).trans rfl
      refine wpOp_step rfl (fun K hK => ?_)
      go_simp
      exact hK _ _ ⟨_, rfl, Ex.refl _ _, rfl, hW⟩
    · intro B a' w' hB hW hF
      obtain ⟨_, h6, rfl⟩ := hF.val ⟨0, .data⟩ (by simp) rfl _ rfl
      refine wpOp_step rfl (fun K hK => ?_)
      go_simp
      refine (pick_any rb _ _ _ hW.1 (by omega) (by omega)).mono ?_
      rintro e w'' ⟨k, rfl, hk, hR', hE'⟩
      exact hK _ _ ⟨_, rfl, hE', ⟨_, rfl, by omega, by omega⟩, ⟨hR', hW.2.trans hE'⟩⟩
    · intro B a' w' hB hW hF
      have h3 : a'.tmps[3]? = some (.pointer (some ⟨rb, 0, none⟩)) := (hF.at 3 (by kernel_rfl)).trans rfl
      refine wpOp_step rfl (fun K hK => ?_)
      go_simp
      exact hK _ _ ⟨_, rfl, Ex.refl _ _, rfl, hW⟩
    · intro B a' w' hB hW hF
      obtain ⟨_, h8, rfl⟩ := hF.val ⟨2, .data⟩ (by simp) rfl _ rfl
      refine wpOp_step rfl (fun K hK => ?_)
      go_simp
      refine (pick_any rb _ _ _ hW.1 (by omega) (by omega)).mono ?_
      rintro e w'' ⟨k, rfl, hk, hR', hE'⟩
      exact hK _ _ ⟨_, rfl, hE', ⟨_, rfl, by omega, by omega⟩, ⟨hR', hW.2.trans hE'⟩⟩
    · intro B a' w' hB hW hF
      obtain ⟨_, h9, k9, rfl, a9, b9⟩ := hF.val ⟨3, .data⟩ (by simp) rfl _ rfl
      have hw : IntKind.i64.wrap (4 * k9) = 4 * k9 := IntWalk.i64_in _ (by omega)
      refine wpOp_step rfl (fun K hK => ?_)
      go_simp
      exact hK _ _ ⟨_, rfl, Ex.refl _ _, ⟨_, rfl, by omega, by omega⟩, hW⟩
    · intro B a' w' hB hW hF
      obtain ⟨_, h10, k10, rfl, a10, b10⟩ := hF.val ⟨4, .data⟩ (by simp) rfl _ rfl
      have hw : IntKind.i64.wrap (1 + k10) = 1 + k10 := IntWalk.i64_in _ (by omega)
      refine wpOp_step rfl (fun K hK => ?_)
      go_simp
      exact hK _ _ ⟨_, rfl, Ex.refl _ _, ⟨_, rfl, by omega, by omega⟩, hW⟩
    · intro B a' w' hB hW hF
      obtain ⟨_, h7, k7, rfl, a7, b7⟩ := hF.val ⟨1, .data⟩ (by simp) rfl _ rfl
      obtain ⟨_, h11, k11, rfl, a11, b11⟩ := hF.val ⟨5, .data⟩ (by simp) rfl _ rfl
      refine wpOp_step rfl (fun K hK => ?_)
      go_simp
      exact hK _ _ ⟨_, rfl, (Ex.refl _ _).alloc _, sSl_new (cs := [[.int .i64 k7], [.int .i64 k11], [(Value.int IntKind.i64 997)], [(Value.int IntKind.i64 1009)], [(Value.int IntKind.i64 1)], [(Value.int IntKind.i64 (-7))]]) (by intro h; have h2 := hW.2.size; (try dsimp only at h); omega) rfl ⟨⟨⟨_, rfl, by omega, by omega⟩, trivial⟩, ⟨⟨_, rfl, by omega, by omega⟩, trivial⟩, ⟨⟨_, rfl, by omega, by omega⟩, trivial⟩, ⟨⟨_, rfl, by omega, by omega⟩, trivial⟩, ⟨⟨_, rfl, by omega, by omega⟩, trivial⟩, ⟨⟨_, rfl, by omega, by omega⟩, trivial⟩, trivial⟩ (heap_alloc_new w' _), ⟨hW.1.below (below1 _ _), hW.2.alloc _⟩⟩
    · intro B a' w' hB hW hF
      refine wpOp_step rfl (fun K hK => ?_)
      go_simp
      exact hK _ _ ⟨_, rfl, (Ex.refl _ _).alloc _, sSl_new (cs := [[(Value.int IntKind.i64 0)], [(Value.int IntKind.i64 0)], [(Value.int IntKind.i64 0)], [(Value.int IntKind.i64 1)], [(Value.int IntKind.i64 1)], [(Value.int IntKind.i64 2)], [(Value.int IntKind.i64 3)], [(Value.int IntKind.i64 4)], [(Value.int IntKind.i64 5)]]) (by intro h; have h2 := hW.2.size; (try dsimp only at h); omega) rfl ⟨⟨⟨_, rfl, by omega, by omega⟩, trivial⟩, ⟨⟨_, rfl, by omega, by omega⟩, trivial⟩, ⟨⟨_, rfl, by omega, by omega⟩, trivial⟩, ⟨⟨_, rfl, by omega, by omega⟩, trivial⟩, ⟨⟨_, rfl, by omega, by omega⟩, trivial⟩, ⟨⟨_, rfl, by omega, by omega⟩, trivial⟩, ⟨⟨_, rfl, by omega, by omega⟩, trivial⟩, ⟨⟨_, rfl, by omega, by omega⟩, trivial⟩, ⟨⟨_, rfl, by omega, by omega⟩, trivial⟩, trivial⟩ (heap_alloc_new w' _), ⟨hW.1.below (below1 _ _), hW.2.alloc _⟩⟩
    · intro B a' w' hB hW hF
      have h3 : a'.tmps[3]? = some (.pointer (some ⟨rb, 0, none⟩)) := (hF.at 3 (by kernel_rfl)).trans rfl
      refine wpOp_step rfl (fun K hK => ?_)
      go_simp
      exact hK _ _ ⟨_, rfl, Ex.refl _ _, rfl, hW⟩
    · intro B a' w' hB hW hF
      obtain ⟨_, h14, rfl⟩ := hF.val ⟨8, .data⟩ (by simp) rfl _ rfl
      refine wpOp_step rfl (fun K hK => ?_)
      go_simp
      refine (pick_any rb _ _ _ hW.1 (by omega) (by omega)).mono ?_
      rintro e w'' ⟨k, rfl, hk, hR', hE'⟩
      exact hK _ _ ⟨_, rfl, hE', ⟨_, rfl, by omega, by omega⟩, ⟨hR', hW.2.trans hE'⟩⟩
    · intro B a' w' hB hW hF
      obtain ⟨_, h13, b13, rfl, c13⟩ := hF.val ⟨7, .data⟩ (by simp) rfl _ rfl
      obtain ⟨_, h15, k15, rfl, a15, b15⟩ := hF.val ⟨9, .data⟩ (by simp) rfl _ rfl
      have i1 : k15 < 9 := by omega
      refine wpOp_step rfl (fun K hK => ?_)
      go_simp
      exact hK _ _ ⟨_, rfl, Ex.refl _ _, ⟨_, _, rfl, by simpa using c13 k15.toNat (by omega)⟩, hW⟩
    · intro B a' w' hB hW hF
      obtain ⟨_, h16, b16, o16, rfl, x16, c16⟩ := hF.val ⟨10, .data⟩ (by simp) rfl _ rfl
      obtain ⟨u0, hu0, tu0⟩ := c16 0 _ rfl
      have hv0 : w'.cell? ⟨b16, o16, none⟩ = some u0 := by simpa using hu0
      refine wpOp_step rfl (fun K hK => ?_)
      go_simp
      exact hK _ _ ⟨_, rfl, Ex.refl _ _, tu0, hW⟩
    · intro B a' w' hB hW hF
      obtain ⟨_, h12, b12, rfl, c12⟩ := hF.val ⟨6, .data⟩ (by simp) rfl _ rfl
      obtain ⟨_, h17, k17, rfl, a17, b17⟩ := hF.val ⟨11, .data⟩ (by simp) rfl _ rfl
      have i1 : k17 < 6 := by omega
      refine wpOp_step rfl (fun K hK => ?_)
      go_simp
      exact hK _ _ ⟨_, rfl, Ex.refl _ _, ⟨_, _, rfl, by simpa using c12 k17.toNat (by omega)⟩, hW⟩
    · intro B a' w' hB hW hF
      obtain ⟨_, h18, b18, o18, rfl, x18, c18⟩ := hF.val ⟨12, .data⟩ (by simp) rfl _ rfl
      obtain ⟨u0, hu0, tu0⟩ := c18 0 _ rfl
      have hv0 : w'.cell? ⟨b18, o18, none⟩ = some u0 := by simpa using hu0
      refine wpOp_step rfl (fun K hK => ?_)
      go_simp
      exact hK _ _ ⟨_, rfl, Ex.refl _ _, tu0, hW⟩
    · intro B a' w' hB hW hF
      obtain ⟨_, h19, k19, rfl, a19, b19⟩ := hF.val ⟨13, .data⟩ (by simp) rfl _ rfl
      refine wpOp_step rfl (fun K hK => ?_)
      go_simp
      exact hK _ _ ⟨_, rfl, Ex.refl _ _, ⟨_, rfl, a19, b19⟩, hW⟩
  · intro a' w' hL hW
    obtain ⟨_, h2, k2, rfl, a2, b2⟩ := hL.val 14 _ rfl
    have hd := hL.defers
    clear hL
    go_wp2
    refine bodyPost_ret (results_tmp rfl _ _ _) (hd.trans rfl) ?_
    rw [getD_of h2]
    have hx := hW.2
    rw [hrb.out] at hx
    exact ⟨_, rfl, ⟨by omega, by omega⟩, below_open hB hx⟩

def DrawStr (n : Nat) (w : World) (e : Ending) (w' : World) : Prop := ∃ s : ByteArray, e = .returned (.string s) ∧ s.size ≤ n ∧ Below w.heap.size w w'
set_option maxHeartbeats 400000 in
theorem draw_DigestOf (v : Value) (l : List UInt8) (w : World) (h : Sl byteS w v l) :
    Calls Try.prog 27 #[v] w (DrawStr 100 w) := by
  go_enter Try.func27, Try.ntmps27
  go_wp2_with fail
  refine (open_any v l _ h).mono ?_
  rintro e w1 ⟨rfl, hR, hB⟩
  go_wp2_with fail
  refine (text_any _ _ _ _ hR (by omega) (by omega) (by omega)).mono ?_
  rintro e w2 ⟨_, rfl, ⟨s, rfl, hs⟩, hR2, hE2⟩
  go_wp2_with fail
  go_ret
  exact ⟨s, rfl, hs, below_open hB hE2⟩
end Go.Proofs.Ytikebbdkcpcmkaa
