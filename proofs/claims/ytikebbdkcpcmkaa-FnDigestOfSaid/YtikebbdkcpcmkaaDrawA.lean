/- The walks of the reference's drawing functions: the reader, numbers below a modulus, texts. No condition. -/
import Derived.Test.YtikebbdkcpcmkaaTy
import Derived.Test.YtikebbdkcpcmkaaTypes
import Derived.Deep.Cut
namespace Go.Proofs.Ytikebbdkcpcmkaa
open Go.RowKit

/-- What l20Open leaves: a reader in a new block. -/
def OpenRet (w : World) (e : Ending) (w' : World) : Prop := e = .returned (.pointer (some ⟨w.heap.size, 0, none⟩)) ∧ Rd w' w.heap.size 0 ∧ Below w.heap.size w w'
set_option maxHeartbeats 400000 in
theorem open_any (v : Value) (l : List UInt8) (w : World) (h : Sl byteS w v l) :
    Calls Try.prog 32 #[v] w (OpenRet w) := by
  obtain ⟨a, cap, rfl, h1, h2, h3⟩ := h
  have code : ∀ (n c : Nat), n ≤ 2000 → n ≤ l.length → n ≤ c → c ≤ maxLen → CodeAt (w.alloc (.cells #[.slice a n c, .int .i64 0] 47)) w.heap.size (.slice a n c) n := by
    intro n c hn hl hc hm
    refine ⟨hn, a, c, rfl, hc, hm, ?_⟩
    rcases h3 with rfl | ⟨b, off, rfl, hlt, hcell⟩
    · left; simpa using hl
    · right
      refine ⟨b, off, rfl, by omega, by simp; omega, fun j hj => ⟨(l[j]'(by omega)).toNat, by have := (l[j]'(by omega)).toNat_lt; omega, ?_⟩⟩
      have e := byteS.cells_at l j (by omega) 0 (by decide)
      have e2 : (byteS.cells l)[j]? = some (.int .u8 ((l[j]'(by omega)).toNat : Int)) := by simpa [byteS] using e
      exact keep_cell (below1 _ _) (hcell j _ e2)
  by_cases hl : l.length ≤ 2000
  · go_enter Try.func32, Try.ntmps32
    go_wp2
    go_ret
    exact ⟨rfl, ⟨_, l.length, 0, Nat.le_refl _, heap_alloc_new w _, code _ _ hl (Nat.le_refl _) h1 h2⟩, below1 _ _⟩
  · go_enter Try.func32, Try.ntmps32
    go_wp2
    go_ret
    exact ⟨rfl, ⟨_, 2000, 0, Nat.le_refl _, heap_alloc_new w _, code _ _ (Nat.le_refl _) (by omega) (by omega) h2⟩, below1 _ _⟩

set_option maxHeartbeats 400000 in
theorem odd_any (rb B0 : Nat) (n : Int) (w : World) (hR : Rd w rb B0) (hB : B0 ≤ 999000) (hn : n ≤ 1000000) (hn0 : -1000000 ≤ n) :
    Calls Try.prog 39 #[.pointer (some ⟨rb, 0, none⟩), .int .i64 n] w (DrawRet (sBool (· = rb)).T rb (B0 + 1) w) := by
  by_cases h0 : 0 < n
  · go_enter Try.func39, Try.ntmps39
    go_wp2_with fail
    refine (pick_any rb B0 n _ hR (by omega) hn).mono ?_
    rintro e w1 ⟨k, rfl, hk, hR1, hE1⟩
    go_wp2_with fail
    go_ret
    exact DrawRet.mk ⟨_, rfl⟩ hR1 hE1
  · go_enter Try.func39, Try.ntmps39
    go_wp2_with fail
    go_ret
    exact DrawRet.mk ⟨_, rfl⟩ (hR.mono (by omega)) (Ex.refl _ _)

set_option maxHeartbeats 1000000 in
theorem modulus_any (rb B0 : Nat) (w : World) (hR : Rd w rb B0) (hB : B0 ≤ 999000) :
    Calls Try.prog 37 #[.pointer (some ⟨rb, 0, none⟩)] w (DrawRet (sInt (· = rb) 0 1000001).T rb (B0 + 2) w) := by
  have hrN := hR.lt
  go_enter Try.func37, Try.ntmps37
  go_upto_region 1 with (fail)
  refine wp_region_typed_text (fun i => (([sIs _ (.pointer (some ⟨rb, 0, none⟩)), sInt _ (0) (59), sInt _ (2) (61), sSl 7 [sInt _ (0) (1000001)], sSl 10 [sInt _ (0) (6)], sIs _ (.pointer (some ⟨rb, 0, none⟩)), sInt _ (0) (9), sRef [sInt _ (0) (6)], sInt _ (0) (6), sRef [sInt _ (0) (1000001)], sInt _ (0) (1000001), sInt _ (0) (1000001)] : List (STy (· = rb))).getD i (sAny _)).T) (fun i => ([0, 1, 0, 0, 0, 0, 1, 0, 0, 0, 0, 0] : List Nat).getD i 0) (fun B w' => Rd w' rb (B0 + B) ∧ Ex (· = rb) w w') (Ex (· = rb)) 2 14 rfl (by kernel_rfl) (by decide) ⟨hR, Ex.refl _ _⟩ (fun i u u' v hx hv => STy.st _ _ _ _ hx hv) ?_ ?_
  · refine ⟨?_, ?_, ?_, ?_, ?_, ?_, ?_, ?_, ?_, ?_, ?_, ?_, trivial⟩
    · intro B a' w' hB hW hF
      have h0 : a'.tmps[0]? = some (.pointer (some ⟨rb, 0, none⟩)) := (hF.at 0 (by kernel_rfl)).trans rfl
      refine wpOp_step rfl (fun K hK => ?_)
      go_simp
      exact hK _ _ ⟨_, rfl, Ex.refl _ _, rfl, hW⟩
    · intro B a' w' hB hW hF
      obtain ⟨_, h3, rfl⟩ := hF.val ⟨0, .data⟩ (by simp) rfl _ rfl
      refine wpOp_step rfl (fun K hK => ?_)
      go_simp
      refine (pick_any rb _ _ _ hW.1 (by omega) (by omega)).mono ?_
      rintro e w'' ⟨k, rfl, hk, hR', hE'⟩
      exact hK _ _ ⟨_, rfl, hE', ⟨_, rfl, by omega, by omega⟩, ⟨hR', hW.2.trans hE'⟩⟩
    · intro B a' w' hB hW hF
      obtain ⟨_, h4, k4, rfl, a4, b4⟩ := hF.val ⟨1, .data⟩ (by simp) rfl _ rfl
      have hw : IntKind.i64.wrap (2 + k4) = 2 + k4 := IntWalk.i64_in _ (by omega)
      refine wpOp_step rfl (fun K hK => ?_)
      go_simp
      exact hK _ _ ⟨_, rfl, Ex.refl _ _, ⟨_, rfl, by omega, by omega⟩, hW⟩
    · intro B a' w' hB hW hF
      obtain ⟨_, h5, k5, rfl, a5, b5⟩ := hF.val ⟨2, .data⟩ (by simp) rfl _ rfl
      refine wpOp_step rfl (fun K hK => ?_)
      go_simp
      exact hK _ _ ⟨_, rfl, (Ex.refl _ _).alloc _, sSl_new (cs := [[.int .i64 k5], [(Value.int IntKind.i64 1000000)], [(Value.int IntKind.i64 97)], [(Value.int IntKind.i64 3233)], [(Value.int IntKind.i64 1)], [(Value.int IntKind.i64 0)], [(Value.int IntKind.i64 1000001)]]) (by intro h; have h2 := hW.2.size; (try dsimp only at h); omega) rfl ⟨⟨⟨_, rfl, by omega, by omega⟩, trivial⟩, ⟨⟨_, rfl, by omega, by omega⟩, trivial⟩, ⟨⟨_, rfl, by omega, by omega⟩, trivial⟩, ⟨⟨_, rfl, by omega, by omega⟩, trivial⟩, ⟨⟨_, rfl, by omega, by omega⟩, trivial⟩, ⟨⟨_, rfl, by omega, by omega⟩, trivial⟩, ⟨⟨_, rfl, by omega, by omega⟩, trivial⟩, trivial⟩ (heap_alloc_new w' _), ⟨hW.1.below (below1 _ _), hW.2.alloc _⟩⟩
    · intro B a' w' hB hW hF
      refine wpOp_step rfl (fun K hK => ?_)
      go_simp
      exact hK _ _ ⟨_, rfl, (Ex.refl _ _).alloc _, sSl_new (cs := [[(Value.int IntKind.i64 0)], [(Value.int IntKind.i64 0)], [(Value.int IntKind.i64 0)], [(Value.int IntKind.i64 0)], [(Value.int IntKind.i64 1)], [(Value.int IntKind.i64 2)], [(Value.int IntKind.i64 3)], [(Value.int IntKind.i64 4)], [(Value.int IntKind.i64 5)], [(Value.int IntKind.i64 6)]]) (by intro h; have h2 := hW.2.size; (try dsimp only at h); omega) rfl ⟨⟨⟨_, rfl, by omega, by omega⟩, trivial⟩, ⟨⟨_, rfl, by omega, by omega⟩, trivial⟩, ⟨⟨_, rfl, by omega, by omega⟩, trivial⟩, ⟨⟨_, rfl, by omega, by omega⟩, trivial⟩, ⟨⟨_, rfl, by omega, by omega⟩, trivial⟩, ⟨⟨_, rfl, by omega, by omega⟩, trivial⟩, ⟨⟨_, rfl, by omega, by omega⟩, trivial⟩, ⟨⟨_, rfl, by omega, by omega⟩, trivial⟩, ⟨⟨_, rfl, by omega, by omega⟩, trivial⟩, ⟨⟨_, rfl, by omega, by omega⟩, trivial⟩, trivial⟩ (heap_alloc_new w' _), ⟨hW.1.below (below1 _ _), hW.2.alloc _⟩⟩
    · intro B a' w' hB hW hF
      have h0 : a'.tmps[0]? = some (.pointer (some ⟨rb, 0, none⟩)) := (hF.at 0 (by kernel_rfl)).trans rfl
      refine wpOp_step rfl (fun K hK => ?_)
      go_simp
      exact hK _ _ ⟨_, rfl, Ex.refl _ _, rfl, hW⟩
    · intro B a' w' hB hW hF
      obtain ⟨_, h8, rfl⟩ := hF.val ⟨5, .data⟩ (by simp) rfl _ rfl
      refine wpOp_step rfl (fun K hK => ?_)
      go_simp
      refine (pick_any rb _ _ _ hW.1 (by omega) (by omega)).mono ?_
      rintro e w'' ⟨k, rfl, hk, hR', hE'⟩
      exact hK _ _ ⟨_, rfl, hE', ⟨_, rfl, by omega, by omega⟩, ⟨hR', hW.2.trans hE'⟩⟩
    · intro B a' w' hB hW hF
      obtain ⟨_, h7, b7, rfl, c7⟩ := hF.val ⟨4, .data⟩ (by simp) rfl _ rfl
      obtain ⟨_, h9, k9, rfl, a9, b9⟩ := hF.val ⟨6, .data⟩ (by simp) rfl _ rfl
      have i1 : k9 < 10 := by omega
      refine wpOp_step rfl (fun K hK => ?_)
      go_simp
      exact hK _ _ ⟨_, rfl, Ex.refl _ _, ⟨_, _, rfl, by simpa using c7 k9.toNat (by omega)⟩, hW⟩
    · intro B a' w' hB hW hF
      obtain ⟨_, h10, b10, o10, rfl, x10, c10⟩ := hF.val ⟨7, .data⟩ (by simp) rfl _ rfl
      obtain ⟨u0, hu0, tu0⟩ := c10 0 _ rfl
      have hv0 : w'.cell? ⟨b10, o10, none⟩ = some u0 := by simpa using hu0
      refine wpOp_step rfl (fun K hK => ?_)
      go_simp
      exact hK _ _ ⟨_, rfl, Ex.refl _ _, tu0, hW⟩
    · intro B a' w' hB hW hF
      obtain ⟨_, h6, b6, rfl, c6⟩ := hF.val ⟨3, .data⟩ (by simp) rfl _ rfl
      obtain ⟨_, h11, k11, rfl, a11, b11⟩ := hF.val ⟨8, .data⟩ (by simp) rfl _ rfl
      have i1 : k11 < 7 := by omega
      refine wpOp_step rfl (fun K hK => ?_)
      go_simp
      exact hK _ _ ⟨_, rfl, Ex.refl _ _, ⟨_, _, rfl, by simpa using c6 k11.toNat (by omega)⟩, hW⟩
    · intro B a' w' hB hW hF
      obtain ⟨_, h12, b12, o12, rfl, x12, c12⟩ := hF.val ⟨9, .data⟩ (by simp) rfl _ rfl
      obtain ⟨u0, hu0, tu0⟩ := c12 0 _ rfl
      have hv0 : w'.cell? ⟨b12, o12, none⟩ = some u0 := by simpa using hu0
      refine wpOp_step rfl (fun K hK => ?_)
      go_simp
      exact hK _ _ ⟨_, rfl, Ex.refl _ _, tu0, hW⟩
    · intro B a' w' hB hW hF
      obtain ⟨_, h13, k13, rfl, a13, b13⟩ := hF.val ⟨10, .data⟩ (by simp) rfl _ rfl
      refine wpOp_step rfl (fun K hK => ?_)
      go_simp
      exact hK _ _ ⟨_, rfl, Ex.refl _ _, ⟨_, rfl, a13, b13⟩, hW⟩
  · intro a' w' hL hW
    obtain ⟨_, h2, k2, rfl, a2, b2⟩ := hL.val 11 _ rfl
    have hd := hL.defers
    clear hL
    go_wp2
    refine bodyPost_ret (results_tmp rfl _ _ _) (hd.trans rfl) ?_
    rw [getD_of h2]
    exact DrawRet.mk ⟨_, rfl, by omega, by omega⟩ hW.1 hW.2

set_option maxHeartbeats 1000000 in
theorem below_any (rb B0 : Nat) (m : Int) (w : World) (hR : Rd w rb B0) (hB : B0 ≤ 999000) (m1 : 0 ≤ m) (m2 : m ≤ 1000001) :
    Calls Try.prog 38 #[.pointer (some ⟨rb, 0, none⟩), .int .i64 m] w (DrawRet (sInt (· = rb) 0 2000001).T rb (B0 + 2) w) := by
  have hrN := hR.lt
  go_enter Try.func38, Try.ntmps38
  go_upto_region 1 with (fail)
  refine wp_region_typed (fun i => (([sIs _ (.pointer (some ⟨rb, 0, none⟩)), sInt _ (0) (255), sInt _ (0) (996285), sInt _ (0) (1000001), sInt _ (1) (1000001), sInt _ (0) (1000000), sIs _ (.pointer (some ⟨rb, 0, none⟩)), sInt _ (0) (13), sInt _ (0) (1), sInt _ (0) (1000001), sInt _ (0) (1000001), sInt _ (0) (2000001), sInt _ (0) (2000001)] : List (STy (· = rb))).getD i (sAny _)).T) (fun i => ([0, 1, 0, 0, 0, 0, 0, 1, 0, 0, 0, 0, 0] : List Nat).getD i 0) (fun B w' => Rd w' rb (B0 + B) ∧ Ex (· = rb) w w') (Ex (· = rb)) 2 (by kernel_rfl) 17 rfl (by kernel_rfl) (by decide) ⟨hR.drew, (Ex.refl _ _).drew⟩ (fun i u u' v hx hv => STy.st _ _ _ _ hx hv) ?_ ?_
  · refine ⟨?_, ?_, ?_, ?_, ?_, ?_, ?_, ?_, ?_, ?_, ?_, ?_, ?_, trivial⟩
    · intro B a' w' hB hW hF
      have h0 : a'.tmps[0]? = some (.pointer (some ⟨rb, 0, none⟩)) := (hF.at 0 (by kernel_rfl)).trans rfl
      refine wpOp_step rfl (fun K hK => ?_)
      go_simp
      exact hK _ _ ⟨_, rfl, Ex.refl _ _, rfl, hW⟩
    · intro B a' w' hB hW hF
      obtain ⟨_, h5, rfl⟩ := hF.val ⟨0, .data⟩ (by simp) rfl _ rfl
      refine wpOp_step rfl (fun K hK => ?_)
      go_simp
      refine (pick_any rb _ _ _ hW.1 (by omega) (by omega)).mono ?_
      rintro e w'' ⟨k, rfl, hk, hR', hE'⟩
      exact hK _ _ ⟨_, rfl, hE', ⟨_, rfl, by omega, by omega⟩, ⟨hR', hW.2.trans hE'⟩⟩
    · intro B a' w' hB hW hF
      obtain ⟨_, h6, k6, rfl, a6, b6⟩ := hF.val ⟨1, .data⟩ (by simp) rfl _ rfl
      have hw : IntKind.i64.wrap (k6 * 3907) = k6 * 3907 := IntWalk.i64_in _ (by omega)
      refine wpOp_step rfl (fun K hK => ?_)
      go_simp
      exact hK _ _ ⟨_, rfl, Ex.refl _ _, ⟨_, rfl, by omega, by omega⟩, hW⟩
    · intro B a' w' hB hW hF
      have h1 : a'.tmps[1]? = some (.int .i64 m) := (hF.at 1 (by kernel_rfl)).trans rfl
      refine wpOp_step rfl (fun K hK => ?_)
      go_simp
      exact hK _ _ ⟨_, rfl, Ex.refl _ _, ⟨_, rfl, by omega, by omega⟩, hW⟩
    · intro B a' w' hB hW hF
      obtain ⟨_, h8, k8, rfl, a8, b8⟩ := hF.val ⟨3, .data⟩ (by simp) rfl _ rfl
      refine wpOp_step rfl (fun K hK => ?_)
      go_simp
      exact hK _ _ ⟨_, rfl, Ex.refl _ _, ⟨_, rfl, by omega, by omega⟩, hW⟩
    · intro B a' w' hB hW hF
      obtain ⟨_, h7, k7, rfl, a7, b7⟩ := hF.val ⟨2, .data⟩ (by simp) rfl _ rfl
      obtain ⟨_, h9, k9, rfl, a9, b9⟩ := hF.val ⟨4, .data⟩ (by simp) rfl _ rfl
      have n0 : ¬ k9 = 0 := by omega
      have r0 : 0 ≤ k7 % k9 := Int.emod_nonneg _ (by omega)
      have r1 : k7 % k9 < k9 := Int.emod_lt_of_pos _ (by omega)
      have hr : (k7).tmod k9 = k7 % k9 := Int.tmod_eq_emod_of_nonneg (by omega)
      have hw : IntKind.i64.wrap (k7 % k9) = k7 % k9 := IntWalk.i64_in _ (by omega)
      refine wpOp_step rfl (fun K hK => ?_)
      go_simp
      exact hK _ _ ⟨_, rfl, Ex.refl _ _, ⟨_, rfl, by omega, by omega⟩, hW⟩
    · intro B a' w' hB hW hF
      have h0 : a'.tmps[0]? = some (.pointer (some ⟨rb, 0, none⟩)) := (hF.at 0 (by kernel_rfl)).trans rfl
      refine wpOp_step rfl (fun K hK => ?_)
      go_simp
      exact hK _ _ ⟨_, rfl, Ex.refl _ _, rfl, hW⟩
    · intro B a' w' hB hW hF
      obtain ⟨_, h11, rfl⟩ := hF.val ⟨6, .data⟩ (by simp) rfl _ rfl
      refine wpOp_step rfl (fun K hK => ?_)
      go_simp
      refine (pick_any rb _ _ _ hW.1 (by omega) (by omega)).mono ?_
      rintro e w'' ⟨k, rfl, hk, hR', hE'⟩
      exact hK _ _ ⟨_, rfl, hE', ⟨_, rfl, by omega, by omega⟩, ⟨hR', hW.2.trans hE'⟩⟩
    · intro B a' w' hB hW hF
      obtain ⟨_, h12, k12, rfl, a12, b12⟩ := hF.val ⟨7, .data⟩ (by simp) rfl _ rfl
      have hr : (k12).tdiv 13 = k12 / 13 := Int.tdiv_eq_ediv_of_nonneg (by omega)
      have hw : IntKind.i64.wrap (k12 / 13) = k12 / 13 := IntWalk.i64_in _ (by omega)
      refine wpOp_step rfl (fun K hK => ?_)
      go_simp
      exact hK _ _ ⟨_, rfl, Ex.refl _ _, ⟨_, rfl, by omega, by omega⟩, hW⟩
    · intro B a' w' hB hW hF
      have h1 : a'.tmps[1]? = some (.int .i64 m) := (hF.at 1 (by kernel_rfl)).trans rfl
      refine wpOp_step rfl (fun K hK => ?_)
      go_simp
      exact hK _ _ ⟨_, rfl, Ex.refl _ _, ⟨_, rfl, by omega, by omega⟩, hW⟩
    · intro B a' w' hB hW hF
      obtain ⟨_, h13, k13, rfl, a13, b13⟩ := hF.val ⟨8, .data⟩ (by simp) rfl _ rfl
      obtain ⟨_, h14, k14, rfl, a14, b14⟩ := hF.val ⟨9, .data⟩ (by simp) rfl _ rfl
      have m0 : 0 ≤ k13 * k14 := Int.mul_nonneg (by omega) (by omega)
      have m1 : k13 * k14 ≤ 1 * 1000001 := Int.mul_le_mul (by omega) (by omega) (by omega) (by omega)
      have hw : IntKind.i64.wrap (k13 * k14) = k13 * k14 := IntWalk.i64_in _ (by omega)
      refine wpOp_step rfl (fun K hK => ?_)
      go_simp
      exact hK _ _ ⟨_, rfl, Ex.refl _ _, ⟨_, rfl, by omega, by omega⟩, hW⟩
    · intro B a' w' hB hW hF
      obtain ⟨_, h10, k10, rfl, a10, b10⟩ := hF.val ⟨5, .data⟩ (by simp) rfl _ rfl
      obtain ⟨_, h15, k15, rfl, a15, b15⟩ := hF.val ⟨10, .data⟩ (by simp) rfl _ rfl
      have hw : IntKind.i64.wrap (k10 + k15) = k10 + k15 := IntWalk.i64_in _ (by omega)
      refine wpOp_step rfl (fun K hK => ?_)
      go_simp
      exact hK _ _ ⟨_, rfl, Ex.refl _ _, ⟨_, rfl, by omega, by omega⟩, hW⟩
    · intro B a' w' hB hW hF
      obtain ⟨_, h16, k16, rfl, a16, b16⟩ := hF.val ⟨11, .data⟩ (by simp) rfl _ rfl
      refine wpOp_step rfl (fun K hK => ?_)
      go_simp
      exact hK _ _ ⟨_, rfl, Ex.refl _ _, ⟨_, rfl, a16, b16⟩, hW⟩
  · intro a' w' hL hW
    obtain ⟨_, h4, k4, rfl, a4, b4⟩ := hL.val 12 _ rfl
    have hd := hL.defers
    clear hL
    go_wp2
    refine bodyPost_ret (results_tmp rfl _ _ _) (hd.trans rfl) ?_
    rw [getD_of h4]
    exact DrawRet.mk ⟨_, rfl, by omega, by omega⟩ hW.1 hW.2

theorem Try.infoB : (Try.prog.info? 5).map (fun i => (i.zero, i.size, i.bytes)) = some (some (.int .u8 0), 1, 1) := by kernel_rfl
set_option maxHeartbeats 1000000 in
theorem text_any (rb B0 : Nat) (n : Int) (w : World) (hR : Rd w rb B0) (hB : B0 ≤ 999000) (n1 : 0 ≤ n) (n2 : n ≤ 1000000) :
    Calls Try.prog 40 #[.pointer (some ⟨rb, 0, none⟩), .int .i64 n] w (DrawRet (sStr (· = rb) 100).T rb (B0 + 2) w) := by
  go_enter Try.func40, Try.ntmps40
  go_wp2_with fail
  refine (odd_any rb B0 n w hR hB n2 (by omega)).mono ?_
  rintro e w1 ⟨_, rfl, ⟨b, rfl⟩, hR, hE⟩
  have hrN := hR.lt
  cases b
  · go_upto_region 3 with (fail)
    refine wp_region_typed_text (fun i => (([sSl 7 [sStr _ 100], sIs _ (.pointer (some ⟨rb, 0, none⟩)), sInt _ (0) (6), sRef [sStr _ 100], sStr _ 100, sStr _ 100] : List (STy (· = rb))).getD i (sAny _)).T) (fun i => ([0, 0, 1, 0, 0, 0] : List Nat).getD i 0) (fun B w' => Rd w' rb (B0 + 1 + B) ∧ Ex (· = rb) w1 w') (Ex (· = rb)) 1 20 rfl (by kernel_rfl) (by decide) ⟨hR, Ex.refl _ _⟩ (fun i u u' v hx hv => STy.st _ _ _ _ hx hv) ?_ ?_
    · refine ⟨?_, ?_, ?_, ?_, ?_, ?_, trivial⟩
      · intro B a' w' hB hW hF
        refine wpOp_step rfl (fun K hK => ?_)
        go_simp
        exact hK _ _ ⟨_, rfl, (Ex.refl _ _).alloc _, sSl_new (cs := [[(Value.string { data := #[] })], [(Value.string { data := #[104, 101, 108, 108, 111, 32, 119, 111, 114, 108, 100] })], [(Value.string { data := #[97, 60, 98, 62, 99, 60, 47, 98, 62, 32, 38, 32, 100] })], [(Value.string { data := #[79, 110, 101, 32, 116, 104, 105, 110, 103, 46, 32, 84, 119, 111, 33] })], [(Value.string { data := #[34, 120, 34] })], [(Value.string { data := #[115, 101, 101, 32, 64, 97, 110, 110, 64, 114, 101, 100, 32, 97, 110, 100, 32, 35, 110, 101, 119, 115, 46] })], [(Value.string { data := ([48, 49, 50, 51, 52, 53, 54, 55, 56, 57, 48, 49, 50, 51, 52, 53, 54, 55, 56, 57, 48, 49, 50, 51, 52, 53, 54, 55, 56, 57, 48, 49, 50, 51, 52, 53, 54, 55, 56, 57].append [48, 49, 50, 51, 52, 53, 54, 55, 56, 57, 48, 49, 50, 51, 52, 53, 54, 55, 56, 57, 48, 49, 50, 51, 52, 53, 54, 55, 56, 57, 48, 49, 50, 51, 52, 53, 54, 55, 56, 57]).toArray })]]) (by intro h; have h2 := hW.2.size; (try dsimp only at h); omega) rfl ⟨⟨⟨_, rfl, by decide⟩, trivial⟩, ⟨⟨_, rfl, by decide⟩, trivial⟩, ⟨⟨_, rfl, by decide⟩, trivial⟩, ⟨⟨_, rfl, by decide⟩, trivial⟩, ⟨⟨_, rfl, by decide⟩, trivial⟩, ⟨⟨_, rfl, by decide⟩, trivial⟩, ⟨⟨_, rfl, by decide⟩, trivial⟩, trivial⟩ (heap_alloc_new w' _), ⟨hW.1.below (below1 _ _), hW.2.alloc _⟩⟩
      · intro B a' w' hB hW hF
        have h0 : a'.tmps[0]? = some (.pointer (some ⟨rb, 0, none⟩)) := (hF.at 0 (by kernel_rfl)).trans rfl
        refine wpOp_step rfl (fun K hK => ?_)
        go_simp
        exact hK _ _ ⟨_, rfl, Ex.refl _ _, rfl, hW⟩
      · intro B a' w' hB hW hF
        obtain ⟨_, h16, rfl⟩ := hF.val ⟨1, .data⟩ (by simp) rfl _ rfl
        refine wpOp_step rfl (fun K hK => ?_)
        go_simp
        refine (pick_any rb _ _ _ hW.1 (by omega) (by omega)).mono ?_
        rintro e w'' ⟨k, rfl, hk, hR', hE'⟩
        exact hK _ _ ⟨_, rfl, hE', ⟨_, rfl, by omega, by omega⟩, ⟨hR', hW.2.trans hE'⟩⟩
      · intro B a' w' hB hW hF
        obtain ⟨_, h15, b15, rfl, c15⟩ := hF.val ⟨0, .data⟩ (by simp) rfl _ rfl
        obtain ⟨_, h17, k17, rfl, a17, b17⟩ := hF.val ⟨2, .data⟩ (by simp) rfl _ rfl
        have i1 : k17 < 7 := by omega
        refine wpOp_step rfl (fun K hK => ?_)
        go_simp
        exact hK _ _ ⟨_, rfl, Ex.refl _ _, ⟨_, _, rfl, by simpa using c15 k17.toNat (by omega)⟩, hW⟩
      · intro B a' w' hB hW hF
        obtain ⟨_, h18, b18, o18, rfl, x18, c18⟩ := hF.val ⟨3, .data⟩ (by simp) rfl _ rfl
        obtain ⟨u0, hu0, tu0⟩ := c18 0 _ rfl
        have hv0 : w'.cell? ⟨b18, o18, none⟩ = some u0 := by simpa using hu0
        refine wpOp_step rfl (fun K hK => ?_)
        go_simp
        exact hK _ _ ⟨_, rfl, Ex.refl _ _, tu0, hW⟩
      · intro B a' w' hB hW hF
        obtain ⟨_, h19, s19, rfl, z19⟩ := hF.val ⟨4, .data⟩ (by simp) rfl _ rfl
        refine wpOp_step rfl (fun K hK => ?_)
        go_simp
        exact hK _ _ ⟨_, rfl, Ex.refl _ _, ⟨_, rfl, z19⟩, hW⟩
    · intro a' w' hL hW
      obtain ⟨_, h4, s4, rfl, z4⟩ := hL.val 5 _ rfl
      have hd := hL.defers
      clear hL
      go_wp2
      refine bodyPost_ret (results_tmp rfl _ _ _) (hd.trans rfl) ?_
      rw [getD_of h4]
      exact DrawRet.mk ⟨_, rfl, by omega⟩ hW.1 (hE.trans hW.2)
  · go_upto_region 2 with (fail)
    refine wp_region_typed (fun i => (([sSl 81 [sIs _ (.int .u8 0)], sStr _ 81, sSl 3 [sStr _ 81], sIs _ (.pointer (some ⟨rb, 0, none⟩)), sInt _ (0) (2), sRef [sStr _ 81], sStr _ 81, sStr _ 81] : List (STy (· = rb))).getD i (sAny _)).T) (fun i => ([0, 0, 0, 0, 1, 0, 0, 0] : List Nat).getD i 0) (fun B w' => Rd w' rb (B0 + 1 + B) ∧ Ex (· = rb) w1 w') (Ex (· = rb)) 1 (by kernel_rfl) 20 rfl (by kernel_rfl) (by decide) ⟨hR.drew, (Ex.refl _ _).drew⟩ (fun i u u' v hx hv => STy.st _ _ _ _ hx hv) ?_ ?_
    · refine ⟨?_, ?_, ?_, ?_, ?_, ?_, ?_, ?_, trivial⟩
      · intro B a' w' hB hW hF
        obtain ⟨i0, hi, hz0, hz1, hz2⟩ := info_parts Try.infoB
        obtain ⟨w2, hrun, hown, hgrow⟩ := run_make_full (P := Try.prog) w' w'.heap.size 22 5 i0 (.int .u8 0) 1 Try.underlying22 hi hz0 hz1 .i64 .i64 81 (by rw [hz2]; decide) (by decide) (Nat.le_refl _)
        have hb2 : Below w'.heap.size w' w2 := (Below.refl _ _).grown hgrow (Nat.le_refl _) (fun k hk => by cases hk)
        have hx : ¬ (· = rb) w'.heap.size := by intro h; have h2 := hW.2.size; (try dsimp only at h); omega
        have hcell := zero_cells (X := (· = rb)) (g := w'.heap.size) (u := .int .u8 0) hx hown
        have hrun2 : (Instr.makeSlice 22 (.int .i64 81) (.int .i64 81)).run Try.prog w' = .ok (.slice (some ⟨w'.heap.size, 0, none⟩) 81 81) w2 := hrun
        refine wpOp_step rfl (fun K hK => ?_)
        go_simp
        exact hK _ _ ⟨_, rfl, Ex.of_below hb2, ⟨_, rfl, hcell⟩, ⟨hW.1.below hb2, hW.2.trans (Ex.of_below hb2)⟩⟩
      · intro B a' w' hB hW hF
        obtain ⟨_, h8, b8, rfl, c8⟩ := hF.val ⟨0, .data⟩ (by simp) rfl _ rfl
        obtain ⟨s, hrun, hsz⟩ := run_zero_string (P := Try.prog) w' 22 9 5 b8 81 Try.underlying22 Try.underlying5 Try.underlying9 (fun i hi => by obtain ⟨u, hu, rfl⟩ := (c8 i hi).2 0 _ rfl; simpa using hu)
        refine wpOp_step rfl (fun K hK => ?_)
        go_simp
        exact hK _ _ ⟨_, rfl, Ex.refl _ _, ⟨_, rfl, by omega⟩, hW⟩
      · intro B a' w' hB hW hF
        obtain ⟨_, h9, s9, rfl, z9⟩ := hF.val ⟨1, .data⟩ (by simp) rfl _ rfl
        refine wpOp_step rfl (fun K hK => ?_)
        go_simp
        exact hK _ _ ⟨_, rfl, (Ex.refl _ _).alloc _, sSl_new (cs := [[(Value.string { data := #[10] })], [.string s9], [(Value.string { data := #[97, 127] })]]) (by intro h; have h2 := hW.2.size; (try dsimp only at h); omega) rfl ⟨⟨⟨_, rfl, by decide⟩, trivial⟩, ⟨⟨_, rfl, by omega⟩, trivial⟩, ⟨⟨_, rfl, by decide⟩, trivial⟩, trivial⟩ (heap_alloc_new w' _), ⟨hW.1.below (below1 _ _), hW.2.alloc _⟩⟩
      · intro B a' w' hB hW hF
        have h0 : a'.tmps[0]? = some (.pointer (some ⟨rb, 0, none⟩)) := (hF.at 0 (by kernel_rfl)).trans rfl
        refine wpOp_step rfl (fun K hK => ?_)
        go_simp
        exact hK _ _ ⟨_, rfl, Ex.refl _ _, rfl, hW⟩
      · intro B a' w' hB hW hF
        obtain ⟨_, h11, rfl⟩ := hF.val ⟨3, .data⟩ (by simp) rfl _ rfl
        refine wpOp_step rfl (fun K hK => ?_)
        go_simp
        refine (pick_any rb _ _ _ hW.1 (by omega) (by omega)).mono ?_
        rintro e w'' ⟨k, rfl, hk, hR', hE'⟩
        exact hK _ _ ⟨_, rfl, hE', ⟨_, rfl, by omega, by omega⟩, ⟨hR', hW.2.trans hE'⟩⟩
      · intro B a' w' hB hW hF
        obtain ⟨_, h10, b10, rfl, c10⟩ := hF.val ⟨2, .data⟩ (by simp) rfl _ rfl
        obtain ⟨_, h12, k12, rfl, a12, b12⟩ := hF.val ⟨4, .data⟩ (by simp) rfl _ rfl
        have i1 : k12 < 3 := by omega
        refine wpOp_step rfl (fun K hK => ?_)
        go_simp
        exact hK _ _ ⟨_, rfl, Ex.refl _ _, ⟨_, _, rfl, by simpa using c10 k12.toNat (by omega)⟩, hW⟩
      · intro B a' w' hB hW hF
        obtain ⟨_, h13, b13, o13, rfl, x13, c13⟩ := hF.val ⟨5, .data⟩ (by simp) rfl _ rfl
        obtain ⟨u0, hu0, tu0⟩ := c13 0 _ rfl
        have hv0 : w'.cell? ⟨b13, o13, none⟩ = some u0 := by simpa using hu0
        refine wpOp_step rfl (fun K hK => ?_)
        go_simp
        exact hK _ _ ⟨_, rfl, Ex.refl _ _, tu0, hW⟩
      · intro B a' w' hB hW hF
        obtain ⟨_, h14, s14, rfl, z14⟩ := hF.val ⟨6, .data⟩ (by simp) rfl _ rfl
        refine wpOp_step rfl (fun K hK => ?_)
        go_simp
        exact hK _ _ ⟨_, rfl, Ex.refl _ _, ⟨_, rfl, z14⟩, hW⟩
    · intro a' w' hL hW
      obtain ⟨_, h4, s4, rfl, z4⟩ := hL.val 7 _ rfl
      have hd := hL.defers
      clear hL
      go_wp2
      refine bodyPost_ret (results_tmp rfl _ _ _) (hd.trans rfl) ?_
      rw [getD_of h4]
      exact DrawRet.mk ⟨_, rfl, by omega⟩ hW.1 (hE.trans hW.2)

/-- Behind l20Open: what only the reader's block has turned is below. -/
theorem below_open {w w1 w2 : World} (hB : Below w.heap.size w w1) (hx : Ex (· = w.heap.size) w1 w2) : Below w.heap.size w w2 :=
  hB.trans (hx.below hB.size (fun _ hk => Nat.le_of_eq hk.symm))
end Go.Proofs.Ytikebbdkcpcmkaa
