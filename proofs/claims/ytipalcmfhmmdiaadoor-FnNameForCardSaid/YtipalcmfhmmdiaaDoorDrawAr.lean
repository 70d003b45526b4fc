/- The walks of the reference's drawing functions for actors. No condition. -/
import Derived.Test.YtipalcmfhmmdiaaDoorRegS
import Derived.Test.YtipalcmfhmmdiaaDoorDrawOwn
import Derived.Test.YtipalcmfhmmdiaaDoorActrAdS
namespace Go.Proofs.YtipalcmfhmmdiaaDoor
open Go.RowKit

theorem resActr {fn : Func} {slot b : Nat} (hr : fn.results = #[.cell slot 40]) (tmps : Array Value) (W : World) (ht : tmps[slot]? = some (.pointer (some ⟨b, 0, none⟩))) {a0 a1 a2 : Value}
    (h0 : W.cell? ⟨b, 0, none⟩ = some a0) (h1 : W.cell? ⟨b, 1, none⟩ = some a1) (h2 : W.cell? ⟨b, 2, none⟩ = some a2) :
    (results fn tmps).run Tryd.prog W = .ok (.agg #[a0, a1, a2]) W := by
  simp [results, hr, go_sem, ht, h0, h1, h2]
theorem AllT.get3 {X : Nat → Prop} {w : World} {a b c : STy X} {vs : List Value} (h : AllT w [a, b, c] vs) : ∃ u v x, a.T w u ∧ b.T w v ∧ c.T w x ∧ vs = [u, v, x] := by
  match vs, h with
  | [u, v, x], ⟨h1, h2, h3, _⟩ => exact ⟨u, v, x, h1, h2, h3, rfl⟩
/-- What a drawn actor is. -/
def DrActr (y : Actr) : Prop := y.name.size ≤ 9 ∧ y.feed.size ≤ 9 ∧ -1 ≤ y.sign ∧ y.sign ≤ 8
theorem dr_sizes {l : List Actr} (h : ∀ y ∈ l, DrActr y) : FeedSizes l := fun y hy => by have := h y hy; exact ⟨by have := this.1; omega, by have := this.2.1; omega⟩
def ActrRet (rb B : Nat) (w : World) (e : Ending) (w' : World) : Prop := ∃ y : Actr, e = .returned (.agg #[.string y.name, .string y.feed, .int .i64 y.sign]) ∧ DrActr y ∧ Rd w' rb B ∧ Ex (· = rb) w w'
set_option maxHeartbeats 1000000 in
theorem actor_any (rb B0 : Nat) (n : Int) (w : World) (hR0 : Rd w rb B0) (hB : B0 ≤ 998000) (n1 : 0 ≤ n) (n2 : n ≤ 1000000) :
    Calls Tryd.prog 31 #[.pointer (some ⟨rb, 0, none⟩), .int .i64 n] w (ActrRet rb (B0 + 5) w) := by
  have hrc : w.heap.size ≠ rb := fun e => by have := hR0.lt; omega
  have hword : ∀ (b : Nat) (w : World), Rd w rb b → b ≤ 999000 → Calls Tryd.prog 25 #[.pointer (some ⟨rb, 0, none⟩), .int .i64 0] w (DrawRet (sStr (· = rb) 9).T rb (b + 2) w) := fun b w h1 h2 => word_any rb b 0 w h1 h2 (by omega) (by omega)
  go_enter Tryd.func31, Tryd.ntmps31
  go_wp2_with fail
  refine (odd_any rb B0 n _ (hR0.below (below1 _ _)) (by omega) n2 (by omega)).mono ?_
  rintro e w1 ⟨_, rfl, ⟨b, rfl⟩, hR, hE1⟩
  have hE : Ex (· = rb) w w1 := ((Ex.refl _ _).alloc _).trans hE1
  have hlt : w.heap.size < w1.heap.size := by have := hE1.size; simp at this; omega
  have hcel : Cel w1 w.heap.size 3 := by
    refine Cel.ex ?_ hrc hE1
    intro i hi
    match i, hi with
    | 0, _ => exact ⟨by simp, .string ⟨#[]⟩, by simp, fun c h => by cases h⟩
    | 1, _ => exact ⟨by simp, .string ⟨#[]⟩, by simp, fun c h => by cases h⟩
    | 2, _ => exact ⟨by simp, .int .i64 0, by simp, fun c h => by cases h⟩
  clear hE1
  have hrN := hR.lt
  cases b
  · go_upto_region 3 with (fail)
    refine wp_region_typed_last 10 (fun i => (([sIs _ (.pointer (some ⟨rb, 0, none⟩)), sStr _ 9, sSl 5 [sStr _ 2], sIs _ (.pointer (some ⟨rb, 0, none⟩)), sInt _ (0) (4), sRef [sStr _ 2], sStr _ 2, sIs _ (.pointer (some ⟨rb, 0, none⟩)), sInt _ (0) (8), sAgg [sStr _ 9, sStr _ 2, sInt _ (0) (8)]] : List (STy (· = rb))).getD i (sAny _)).T) (fun i => ([0, 2, 0, 0, 1, 0, 0, 0, 1, 0] : List Nat).getD i 0) (fun B w' => Rd w' rb (B0 + 1 + B) ∧ Ex (· = rb) w1 w') (Ex (· = rb)) 4 (by kernel_rfl) 27 rfl rfl (by kernel_rfl) (by kernel_rfl) (by kernel_rfl) (by decide) ⟨hR.drew, (Ex.refl _ _).drew⟩ (fun i u u' v hx hv => STy.st _ _ _ _ hx hv) ?_ ?_
    · refine ⟨?_, ?_, ?_, ?_, ?_, ?_, ?_, ?_, ?_, ?_, trivial⟩
      · intro B a' w' hB hW hF
        have h0 : a'.tmps[0]? = some (.pointer (some ⟨rb, 0, none⟩)) := (hF.at 0 (by kernel_rfl)).trans rfl
        refine wpOp_step rfl (fun K hK => ?_)
        go_simp
        exact hK _ _ ⟨_, rfl, Ex.refl _ _, rfl, hW⟩
      · intro B a' w' hB hW hF
        obtain ⟨_, h17, rfl⟩ := hF.val ⟨0, .data⟩ (by simp) rfl _ rfl
        refine wpOp_step rfl (fun K hK => ?_)
        go_simp
        refine (hword _ _ hW.1 (by omega)).mono ?_
        rintro e w'' ⟨v, rfl, tv, hR', hE'⟩
        exact hK _ _ ⟨_, rfl, hE', tv, ⟨hR', hW.2.trans hE'⟩⟩
      · intro B a' w' hB hW hF
        refine wpOp_step rfl (fun K hK => ?_)
        go_simp
        exact hK _ _ ⟨_, rfl, (Ex.refl _ _).alloc _, sSl_new (cs := [[(Value.string { data := #[102, 49] })], [(Value.string { data := #[102, 50] })], [(Value.string { data := #[102, 51] })], [(Value.string { data := #[102, 52] })], [(Value.string { data := #[102, 53] })]]) (by intro h; have h2 := hW.2.size; (try dsimp only at h); omega) rfl ⟨⟨⟨_, rfl, by decide⟩, trivial⟩, ⟨⟨_, rfl, by decide⟩, trivial⟩, ⟨⟨_, rfl, by decide⟩, trivial⟩, ⟨⟨_, rfl, by decide⟩, trivial⟩, ⟨⟨_, rfl, by decide⟩, trivial⟩, trivial⟩ (heap_alloc_new w' _), ⟨hW.1.below (below1 _ _), hW.2.alloc _⟩⟩
      · intro B a' w' hB hW hF
        have h0 : a'.tmps[0]? = some (.pointer (some ⟨rb, 0, none⟩)) := (hF.at 0 (by kernel_rfl)).trans rfl
        refine wpOp_step rfl (fun K hK => ?_)
        go_simp
        exact hK _ _ ⟨_, rfl, Ex.refl _ _, rfl, hW⟩
      · intro B a' w' hB hW hF
        obtain ⟨_, h20, rfl⟩ := hF.val ⟨3, .data⟩ (by simp) rfl _ rfl
        refine wpOp_step rfl (fun K hK => ?_)
        go_simp
        refine (pick_any rb _ _ _ hW.1 (by omega) (by omega)).mono ?_
        rintro e w'' ⟨k, rfl, hk, hR', hE'⟩
        exact hK _ _ ⟨_, rfl, hE', ⟨_, rfl, by omega, by omega⟩, ⟨hR', hW.2.trans hE'⟩⟩
      · intro B a' w' hB hW hF
        obtain ⟨_, h19, b19, rfl, c19⟩ := hF.val ⟨2, .data⟩ (by simp) rfl _ rfl
        obtain ⟨_, h21, k21, rfl, a21, b21⟩ := hF.val ⟨4, .data⟩ (by simp) rfl _ rfl
        have i1 : k21 < 5 := by omega
        refine wpOp_step rfl (fun K hK => ?_)
        go_simp
        exact hK _ _ ⟨_, rfl, Ex.refl _ _, ⟨_, _, rfl, by simpa using c19 k21.toNat (by omega)⟩, hW⟩
      · intro B a' w' hB hW hF
        obtain ⟨_, h22, b22, o22, rfl, x22, c22⟩ := hF.val ⟨5, .data⟩ (by simp) rfl _ rfl
        obtain ⟨u0, hu0, tu0⟩ := c22 0 _ rfl
        have hv0 : w'.cell? ⟨b22, o22, none⟩ = some u0 := by simpa using hu0
        refine wpOp_step rfl (fun K hK => ?_)
        go_simp
        exact hK _ _ ⟨_, rfl, Ex.refl _ _, tu0, hW⟩
      · intro B a' w' hB hW hF
        have h0 : a'.tmps[0]? = some (.pointer (some ⟨rb, 0, none⟩)) := (hF.at 0 (by kernel_rfl)).trans rfl
        refine wpOp_step rfl (fun K hK => ?_)
        go_simp
        exact hK _ _ ⟨_, rfl, Ex.refl _ _, rfl, hW⟩
      · intro B a' w' hB hW hF
        obtain ⟨_, h24, rfl⟩ := hF.val ⟨7, .data⟩ (by simp) rfl _ rfl
        refine wpOp_step rfl (fun K hK => ?_)
        go_simp
        refine (pick_any rb _ _ _ hW.1 (by omega) (by omega)).mono ?_
        rintro e w'' ⟨k, rfl, hk, hR', hE'⟩
        exact hK _ _ ⟨_, rfl, hE', ⟨_, rfl, by omega, by omega⟩, ⟨hR', hW.2.trans hE'⟩⟩
      · intro B a' w' hB hW hF
        obtain ⟨_, h18, s18, rfl, z18⟩ := hF.val ⟨1, .data⟩ (by simp) rfl _ rfl
        obtain ⟨_, h23, s23, rfl, z23⟩ := hF.val ⟨6, .data⟩ (by simp) rfl _ rfl
        obtain ⟨_, h25, k25, rfl, a25, b25⟩ := hF.val ⟨8, .data⟩ (by simp) rfl _ rfl
        refine wpOp_step rfl (fun K hK => ?_)
        go_simp
        exact hK _ _ ⟨_, rfl, Ex.refl _ _, ⟨[.string s18, .string s23, .int .i64 k25], rfl, ⟨_, rfl, z18⟩, ⟨_, rfl, z23⟩, ⟨_, rfl, a25, b25⟩, trivial⟩, hW⟩
    · intro a' w' hL hW
      obtain ⟨_, h26, vs, rfl, A21⟩ := hL.val 9 _ rfl
      obtain ⟨_, _, _, ⟨s1, rfl, z1⟩, ⟨s2, rfl, z2⟩, ⟨m, rfl, y3, y4⟩, rfl⟩ := AllT.get3 A21
      have h4 : a'.tmps[4]? = some (.pointer (some ⟨w.heap.size, 0, none⟩)) := (hL.at 4 (by kernel_rfl)).trans rfl
      have hd := hL.defers
      clear hL
      have hR6 : Rd w' rb (B0 + 5) := Rd.mono (B := B0 + 1 + 4) hW.1 (by omega)
      have S0 : ExS rb w.heap.size 3 w1 w1 := ExS.start hrc hcel
      have S1 := S0.trans hW.2
      have G := S1.cel (by decide)
      obtain ⟨g0, _, y0, _⟩ := G 0 (by decide)
      obtain ⟨g1, _, y1, _⟩ := G 1 (by decide)
      obtain ⟨g2, _, y2, _⟩ := G 2 (by decide)
      have S := setL_ok hR6 S1 (by decide) [.string s1, .string s2, .int .i64 m] rfl (by simp)
      have HS := Lib.hid S
      clear S S0 G
      refine wpOp_step rfl (fun K hK => ?_)
      go_simp
      refine hK _ _ ?_
      go_wp2
      have r1 : s1.size ≤ 9 := by omega
      have r2 : s2.size ≤ 9 := by omega
      have r3 : -1 ≤ m ∧ m ≤ 8 := by omega
      have hX : Ex (· = rb) w (setL w' w.heap.size 0 [.string s1, .string s2, .int .i64 m]) := ex_new ((hE.weaken (fun _ => two_of)).trans HS.out.2.2.2.ex) (Nat.le_refl _)
      exact bodyPost_ret (resActr Tryd.results31 _ _ h4 (HS.out.2.1 0 _ rfl) (HS.out.2.1 1 _ rfl) (HS.out.2.1 2 _ rfl)) (hd.trans rfl) ⟨⟨s1, s2, m⟩, rfl, ⟨r1, r2, r3.1, r3.2⟩, HS.out.2.2.1, hX⟩
  · go_upto_region 2 with (fail)
    refine wp_region_typed_pre 9 (fun i => (([sAgg [sStr _ 0, sStr _ 0, sInt _ (0) (0)], sAgg [sStr _ 1, sStr _ 1, sInt _ (0) (0)], sAgg [sStr _ 1, sStr _ 1, sInt _ (0) (0)], sAgg [sStr _ 1, sStr _ 1, sInt _ (-1) (-1)], sSl 4 [sStr _ 1, sStr _ 1, sInt _ (-1) (0)], sIs _ (.pointer (some ⟨rb, 0, none⟩)), sInt _ (0) (3), sRef [sStr _ 1, sStr _ 1, sInt _ (-1) (0)], sAgg [sStr _ 1, sStr _ 1, sInt _ (-1) (0)]] : List (STy (· = rb))).getD i (sAny _)).T) (fun i => ([0, 0, 0, 0, 0, 0, 1, 0, 0] : List Nat).getD i 0) (fun B w' => Rd w' rb (B0 + 1 + B) ∧ Ex (· = rb) w1 w') (Ex (· = rb)) 1 27 rfl (by decide) (by kernel_rfl) (by kernel_rfl) (by decide) ⟨hR, Ex.refl _ _⟩ (fun i u u' v hx hv => STy.st _ _ _ _ hx hv) ?_ ?_
    · refine ⟨?_, ?_, ?_, ?_, ?_, ?_, ?_, ?_, ?_, trivial⟩
      · intro B a' w' hB hW hF
        refine wpOp_step rfl (fun K hK => ?_)
        go_simp
        exact hK _ _ ⟨_, rfl, Ex.refl _ _, ⟨[Value.string { data := #[] }, Value.string { data := #[] }, Value.int IntKind.i64 0], rfl, ⟨_, rfl, by decide⟩, ⟨_, rfl, by decide⟩, ⟨_, rfl, by omega, by omega⟩, trivial⟩, hW⟩
      · intro B a' w' hB hW hF
        refine wpOp_step rfl (fun K hK => ?_)
        go_simp
        exact hK _ _ ⟨_, rfl, Ex.refl _ _, ⟨[(Value.string { data := #[65] }), (Value.string { data := #[102] }), Value.int IntKind.i64 0], rfl, ⟨_, rfl, by decide⟩, ⟨_, rfl, by decide⟩, ⟨_, rfl, by omega, by omega⟩, trivial⟩, hW⟩
      · intro B a' w' hB hW hF
        refine wpOp_step rfl (fun K hK => ?_)
        go_simp
        exact hK _ _ ⟨_, rfl, Ex.refl _ _, ⟨[(Value.string { data := #[122] }), (Value.string { data := #[70] }), Value.int IntKind.i64 0], rfl, ⟨_, rfl, by decide⟩, ⟨_, rfl, by decide⟩, ⟨_, rfl, by omega, by omega⟩, trivial⟩, hW⟩
      · intro B a' w' hB hW hF
        refine wpOp_step rfl (fun K hK => ?_)
        go_simp
        exact hK _ _ ⟨_, rfl, Ex.refl _ _, ⟨[(Value.string { data := #[122] }), (Value.string { data := #[102] }), (Value.int IntKind.i64 (-1))], rfl, ⟨_, rfl, by decide⟩, ⟨_, rfl, by decide⟩, ⟨_, rfl, by omega, by omega⟩, trivial⟩, hW⟩
      · intro B a' w' hB hW hF
        obtain ⟨_, h8, vs8, rfl, A8⟩ := hF.val ⟨0, .data⟩ (by simp) rfl _ rfl
        obtain ⟨u8_0, u8_1, u8_2, tu8_0, tu8_1, tu8_2, rfl⟩ := AllT.get3 A8
        obtain ⟨s8_0, rfl, z8_0⟩ := tu8_0
        obtain ⟨s8_1, rfl, z8_1⟩ := tu8_1
        obtain ⟨k8_2, rfl, a8_2, b8_2⟩ := tu8_2
        obtain ⟨_, h9, vs9, rfl, A9⟩ := hF.val ⟨1, .data⟩ (by simp) rfl _ rfl
        obtain ⟨u9_0, u9_1, u9_2, tu9_0, tu9_1, tu9_2, rfl⟩ := AllT.get3 A9
        obtain ⟨s9_0, rfl, z9_0⟩ := tu9_0
        obtain ⟨s9_1, rfl, z9_1⟩ := tu9_1
        obtain ⟨k9_2, rfl, a9_2, b9_2⟩ := tu9_2
        obtain ⟨_, h10, vs10, rfl, A10⟩ := hF.val ⟨2, .data⟩ (by simp) rfl _ rfl
        obtain ⟨u10_0, u10_1, u10_2, tu10_0, tu10_1, tu10_2, rfl⟩ := AllT.get3 A10
        obtain ⟨s10_0, rfl, z10_0⟩ := tu10_0
        obtain ⟨s10_1, rfl, z10_1⟩ := tu10_1
        obtain ⟨k10_2, rfl, a10_2, b10_2⟩ := tu10_2
        obtain ⟨_, h11, vs11, rfl, A11⟩ := hF.val ⟨3, .data⟩ (by simp) rfl _ rfl
        obtain ⟨u11_0, u11_1, u11_2, tu11_0, tu11_1, tu11_2, rfl⟩ := AllT.get3 A11
        obtain ⟨s11_0, rfl, z11_0⟩ := tu11_0
        obtain ⟨s11_1, rfl, z11_1⟩ := tu11_1
        obtain ⟨k11_2, rfl, a11_2, b11_2⟩ := tu11_2
        refine wpOp_step rfl (fun K hK => ?_)
        go_simp
        exact hK _ _ ⟨_, rfl, (Ex.refl _ _).alloc _, sSl_new (cs := [[.string s8_0, .string s8_1, .int .i64 k8_2], [.string s9_0, .string s9_1, .int .i64 k9_2], [.string s10_0, .string s10_1, .int .i64 k10_2], [.string s11_0, .string s11_1, .int .i64 k11_2]]) (by intro h; have h2 := hW.2.size; (try dsimp only at h); omega) rfl ⟨⟨⟨_, rfl, by omega⟩, ⟨_, rfl, by omega⟩, ⟨_, rfl, by omega, by omega⟩, trivial⟩, ⟨⟨_, rfl, by omega⟩, ⟨_, rfl, by omega⟩, ⟨_, rfl, by omega, by omega⟩, trivial⟩, ⟨⟨_, rfl, by omega⟩, ⟨_, rfl, by omega⟩, ⟨_, rfl, by omega, by omega⟩, trivial⟩, ⟨⟨_, rfl, by omega⟩, ⟨_, rfl, by omega⟩, ⟨_, rfl, by omega, by omega⟩, trivial⟩, trivial⟩ (heap_alloc_new w' _), ⟨hW.1.below (below1 _ _), hW.2.alloc _⟩⟩
      · intro B a' w' hB hW hF
        have h0 : a'.tmps[0]? = some (.pointer (some ⟨rb, 0, none⟩)) := (hF.at 0 (by kernel_rfl)).trans rfl
        refine wpOp_step rfl (fun K hK => ?_)
        go_simp
        exact hK _ _ ⟨_, rfl, Ex.refl _ _, rfl, hW⟩
      · intro B a' w' hB hW hF
        obtain ⟨_, h13, rfl⟩ := hF.val ⟨5, .data⟩ (by simp) rfl _ rfl
        refine wpOp_step rfl (fun K hK => ?_)
        go_simp
        refine (pick_any rb _ _ _ hW.1 (by omega) (by omega)).mono ?_
        rintro e w'' ⟨k, rfl, hk, hR', hE'⟩
        exact hK _ _ ⟨_, rfl, hE', ⟨_, rfl, by omega, by omega⟩, ⟨hR', hW.2.trans hE'⟩⟩
      · intro B a' w' hB hW hF
        obtain ⟨_, h12, b12, rfl, c12⟩ := hF.val ⟨4, .data⟩ (by simp) rfl _ rfl
        obtain ⟨_, h14, k14, rfl, a14, b14⟩ := hF.val ⟨6, .data⟩ (by simp) rfl _ rfl
        have i1 : k14 < 4 := by omega
        refine wpOp_step rfl (fun K hK => ?_)
        go_simp
        exact hK _ _ ⟨_, rfl, Ex.refl _ _, ⟨_, _, rfl, c12 k14.toNat (by omega)⟩, hW⟩
      · intro B a' w' hB hW hF
        obtain ⟨_, h15, b15, o15, rfl, x15, c15⟩ := hF.val ⟨7, .data⟩ (by simp) rfl _ rfl
        obtain ⟨u0, hu0, tu0⟩ := c15 0 _ rfl
        have hv0 : w'.cell? ⟨b15, o15, none⟩ = some u0 := by simpa using hu0
        obtain ⟨u1, hu1, tu1⟩ := c15 1 _ rfl
        obtain ⟨u2, hu2, tu2⟩ := c15 2 _ rfl
        refine wpOp_step rfl (fun K hK => ?_)
        go_simp
        exact hK _ _ ⟨_, rfl, Ex.refl _ _, ⟨_, rfl, tu0, tu1, tu2, trivial⟩, hW⟩
    · intro a' w' hL hW
      obtain ⟨_, h16, vs, rfl, A21⟩ := hL.val 8 _ rfl
      obtain ⟨_, _, _, ⟨s1, rfl, z1⟩, ⟨s2, rfl, z2⟩, ⟨m, rfl, y3, y4⟩, rfl⟩ := AllT.get3 A21
      have h4 : a'.tmps[4]? = some (.pointer (some ⟨w.heap.size, 0, none⟩)) := (hL.at 4 (by kernel_rfl)).trans rfl
      have hd := hL.defers
      clear hL
      have hR6 : Rd w' rb (B0 + 5) := Rd.mono (B := B0 + 1 + 1) hW.1 (by omega)
      have S0 : ExS rb w.heap.size 3 w1 w1 := ExS.start hrc hcel
      have S1 := S0.trans hW.2
      have G := S1.cel (by decide)
      obtain ⟨g0, _, y0, _⟩ := G 0 (by decide)
      obtain ⟨g1, _, y1, _⟩ := G 1 (by decide)
      obtain ⟨g2, _, y2, _⟩ := G 2 (by decide)
      have S := setL_ok hR6 S1 (by decide) [.string s1, .string s2, .int .i64 m] rfl (by simp)
      have HS := Lib.hid S
      clear S S0 G
      show wpList _ _ _ (_ :: []) _ _
      go_wp2
      have r1 : s1.size ≤ 9 := by omega
      have r2 : s2.size ≤ 9 := by omega
      have r3 : -1 ≤ m ∧ m ≤ 8 := by omega
      have hX : Ex (· = rb) w (setL w' w.heap.size 0 [.string s1, .string s2, .int .i64 m]) := ex_new ((hE.weaken (fun _ => two_of)).trans HS.out.2.2.2.ex) (Nat.le_refl _)
      exact bodyPost_ret (resActr Tryd.results31 _ _ h4 (HS.out.2.1 0 _ rfl) (HS.out.2.1 1 _ rfl) (HS.out.2.1 2 _ rfl)) (hd.trans rfl) ⟨⟨s1, s2, m⟩, rfl, ⟨r1, r2, r3.1, r3.2⟩, HS.out.2.2.1, hX⟩
/-- What the drawing of actors leaves. -/
def ActrsRet (rb B : Nat) (w : World) (e : Ending) (w' : World) : Prop :=
  ∃ v o, e = .returned v ∧ o.length ≤ 6 ∧ (∀ y ∈ o, DrActr y) ∧ w'.ownsRow w.heap.size 40 actrS.sz v o.length (actrS.cells o) ∧ Rd w' rb B ∧ Ex (· = rb) w w'
theorem ActrsRet.mk {rb B : Nat} {w w' : World} {v : Value} {o : List Actr} (h1 : o.length ≤ 6) (h2 : ∀ y ∈ o, DrActr y) (h3 : w'.ownsRow w.heap.size 40 actrS.sz v o.length (actrS.cells o)) (h4 : Rd w' rb B) (h5 : Ex (· = rb) w w') : ActrsRet rb B w (.returned v) w' := ⟨v, o, rfl, h1, h2, h3, h4, h5⟩
theorem dr_add {l out : List Actr} {x : Actr} {ok : Bool} (h : ∀ y ∈ l, DrActr y) (hx : DrActr x) (hr : AddRel l x out ok) : ∀ y ∈ out, DrActr y := by
  rcases hr with ⟨_, rfl, _⟩ | ⟨_, n, _, ⟨_, rfl, _⟩ | ⟨_, rfl, _⟩⟩
  · intro y hy; cases hy
  · intro y hy
    unfold insAt at hy
    rcases List.mem_append.1 hy with hy | hy
    · exact h y (List.mem_of_mem_take hy)
    · rcases List.mem_cons.1 hy with rfl | hy
      · exact hx
      · exact h y (List.mem_of_mem_drop hy)
  · exact h
set_option maxHeartbeats 1600000 in
theorem actors_any (rb B0 : Nat) (n : Int) (w : World) (hR0 : Rd w rb B0) (hB : B0 ≤ 900000) (n1 : 0 ≤ n) (n2 : n ≤ 1000000) :
    Calls Tryd.prog 23 #[.pointer (some ⟨rb, 0, none⟩), .int .i64 n] w (ActrsRet rb (B0 + 40) w) := by
  obtain ⟨i0, hi, hz0, hz1, hz2⟩ := info_parts Tryd.infoActr
  have hrb : rb < w.heap.size := hR0.lt
  go_enter Tryd.func23, Tryd.ntmps23
  go_wp2_with fail
  refine (pick_any rb B0 6 _ (hR0.below (below1 _ _)) (by omega) (by omega)).mono ?_
  rintro e w1 ⟨k0, rfl, hk0, hR1, hE1⟩
  obtain ⟨k1, rfl⟩ := Int.eq_ofNat_of_zero_le hk0.1
  have hk5 : k1 ≤ 5 := by have := hk0.2.1 (by decide); omega
  have hE : Ex (· = rb) w w1 := ((Ex.refl _ _).alloc _).trans hE1
  have hown : w1.ownsRow w.heap.size 40 actrS.sz (.slice (some ⟨w.heap.size, 0, none⟩) 0 0) 0 (actrS.cells []) := own_ex (World.ownsRow_lit _ _ _ (Nat.le_refl _) (by simp [maxLen]) (by simp)) hrb hE1
  clear hE1 hk0
  go_wp2_with fail
  go_loopw [5, 6] (fun V K wr => ∃ (k : Nat) (o : List Actr), K = .int .i64 (k : Int) ∧ k ≤ 5 ∧ o.length + k ≤ 5 ∧ (∀ y ∈ o, DrActr y) ∧ wr.ownsRow w.heap.size 40 actrS.sz V o.length (actrS.cells o) ∧ Rd wr rb (B0 + 1 + 5 * (5 - k)) ∧ Ex (· = rb) w wr) (fun _ K _ => (intOf K).toNat)
  case atStart => exact ⟨k1, [], rfl, hk5, by simp; omega, fun y hy => (by cases hy), hown, hR1.mono (by omega), hE⟩
  case round =>
    clear hown hR1 hE hk5
    obtain ⟨k, o, rfl, hk, hlen, hdr, hown, hR, hE⟩ := hrel
    by_cases hk0 : k = 0
    · subst hk0
      go_wp2_with fail
      refine (odd_any rb _ n _ hR (by omega) n2 (by omega)).mono ?_
      rintro e w2 ⟨_, rfl, ⟨b, rfl⟩, hR2, hE2⟩
      have hown2 := own_ex hown hrb hE2
      cases b
      · go_wp2_with fail
        go_ret
        exact ActrsRet.mk (by omega) hdr hown2 (hR2.mono (by omega)) (hE.trans hE2)
      · go_wp2_with fail
        refine (actor_any rb _ 1 _ hR2 (by omega) (by omega) (by omega)).mono ?_
        rintro e w3 ⟨y, rfl, hy, hR3, hE3⟩
        have hown3 := own_ex hown2 hrb hE3
        have hE4 := (hE.trans hE2).trans hE3
        go_wp2_with (at_builtin; refine wpList_app_sl (S := actrS) rfl _ _ 25 rfl w.heap.size 40 i0 (.agg #[.string ⟨#[]⟩, .string ⟨#[]⟩, .int .i64 0]) 40 Tryd.underlying25 hi hz0 hz1 hz2 rfl _ _ _ rfl (hown3.alloc _) [y] (one_sl (S := actrS) (x := y) (heap_alloc_new _ _)) (by simp [maxLen]; omega) (by simp; omega) (by have := hE4.size; simp; omega) ?_; intro v3 w4 hown4 hgrow4 hat4; clear hat4)
        have hrow := fun g hg => (hown3.lt g hg).1
        have hE5 := ex_grown (hE4.alloc _) hgrow4 hrow
        have hR5 := (hR3.below (below1 _ _)).grown hgrow4 (fun g hg => Nat.lt_of_lt_of_le hrb (hrow g hg))
        go_ret
        refine ActrsRet.mk (o := o ++ [y]) (by simp; omega) ?_ (by rw [List.length_append, actrS.cells_append]; exact hown4) (hR5.mono (by omega)) hE5
        intro z hz
        rcases List.mem_append.1 hz with hz | hz
        · exact hdr z hz
        · rw [List.mem_singleton.1 hz]; exact hy
    · have q0 : (0 : Int) < (k : Int) := by omega
      have q1 : decide ((0 : Int) < (k : Int)) = true := by simp; omega
      have q2 : IntKind.i64.wrap ((k : Int) - 1) = (k : Int) - 1 := IntWalk.i64_in _ (by omega)
      have q3 : decide (0 < k) = true := by simp; omega
      go_wp2_with fail
      refine (actor_any rb _ 0 _ hR (by omega) (by omega) (by omega)).mono ?_
      rintro e w3 ⟨y, rfl, hy, hR3, hE3⟩
      have hown3 := own_ex hown hrb hE3
      go_wp2_with fail
      refine (s_AddActor _ o y _ (Sl.of_owns hown3) (dr_sizes hdr) (by omega) (by have := hy.1; omega) (by have := hy.2.1; omega)).mono ?_
      rintro e w4 ⟨v', out', ok', rfl, hrel, hown4, hb4⟩
      have hl := hrel.len
      have hE5 := (hE.trans hE3).trans (Ex.of_below hb4)
      have hown5 := owns_base hown4 (hE.trans hE3).size
      have hR5 := hR3.below hb4
      have hdr5 := dr_add hdr hy hrel
      clear hown hown3 hown4 hrel hR hR3 hE hE3 hb4
      go_wp2_with fail
      go_roundw
      case rel => exact ⟨k - 1, out', by go_num, by omega, by omega, hdr5, hown5, hR5.mono (by omega), hE5⟩
      case measure => simp [intOf]; omega
end Go.Proofs.YtipalcmfhmmdiaaDoor
