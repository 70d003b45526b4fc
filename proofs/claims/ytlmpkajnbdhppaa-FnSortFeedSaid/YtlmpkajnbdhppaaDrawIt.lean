/- The walk of the reference's drawing function for items. No condition. -/
import Derived.Test.YtlmpkajnbdhppaaBx
import Derived.Test.YtlmpkajnbdhppaaDrawT
import Derived.Test.YtlmpkajnbdhppaaRegL
import Derived.Test.YtlmpkajnbdhppaaWith
namespace Go.Proofs.Ytlmpkajnbdhppaa
open Go.RowKit

/-- What a drawn item is. -/
def DrItm (y : Itm) : Prop := y.key.size ≤ 9 ∧ y.title.size ≤ 100 ∧ y.body.size ≤ 100 ∧ -1 ≤ y.day ∧ y.day ≤ 1460970
theorem dr_szl {l : List Itm} (h : ∀ y ∈ l, DrItm y) : SzL l := fun y hy => by obtain ⟨h1, h2, h3, _⟩ := h y hy; exact ⟨by omega, by omega, by omega⟩
def ItmRet (rb B : Nat) (w : World) (e : Ending) (w' : World) : Prop := ∃ y : Itm, e = .returned (.agg #[.string y.key, .string y.title, .string y.body, .int .i64 y.day]) ∧ DrItm y ∧ Rd w' rb B ∧ Ex (· = rb) w w'
theorem AllT.get4 {X : Nat → Prop} {w : World} {a b c d : STy X} {vs : List Value} (h : AllT w [a, b, c, d] vs) : ∃ u v x y, a.T w u ∧ b.T w v ∧ c.T w x ∧ d.T w y ∧ vs = [u, v, x, y] := by
  match vs, h with
  | [u, v, x, y], ⟨h1, h2, h3, h4, _⟩ => exact ⟨u, v, x, y, h1, h2, h3, h4, rfl⟩
theorem nob4 {s1 s2 s3 : ByteArray} {m : Int} : NoB [.string s1, .string s2, .string s3, .int .i64 m] := by
  intro v hv c
  simp only [List.mem_cons, List.not_mem_nil, or_false] at hv
  rcases hv with rfl | rfl | rfl | rfl <;> (intro h; cases h)

set_option maxHeartbeats 3200000 in
theorem item_any (rb B0 : Nat) (n : Int) (w : World) (hR0 : Rd w rb B0) (hB : B0 ≤ 990000) (n1 : 0 ≤ n) (n2 : n ≤ 1000000) :
    Calls Try.prog 48 #[.pointer (some ⟨rb, 0, none⟩), .int .i64 n] w (ItmRet rb (B0 + 20) w) := by
  have hrc : w.heap.size ≠ rb := fun e => by have := hR0.lt; omega
  have htext : ∀ (b : Nat) (w : World), Rd w rb b → b ≤ 999000 → Calls Try.prog 58 #[.pointer (some ⟨rb, 0, none⟩), .int .i64 0] w (DrawRet (sStr (· = rb) 100).T rb (b + 2) w) := fun b w h1 h2 => text_any rb b 0 w h1 h2 (by omega) (by omega)
  have hday : ∀ (b : Nat) (w : World), Rd w rb b → b ≤ 999000 → Calls Try.prog 59 #[.pointer (some ⟨rb, 0, none⟩)] w (DrawRet (sInt (· = rb) 0 1460970).T rb (b + 4) w) := fun b w h1 h2 => day_any rb b w h1 h2
  go_enter Try.func48, Try.ntmps48
  go_upto_region 1 with (fail)
  obtain ⟨w1, hw1⟩ : ∃ w1, w1 = w.alloc (.cells #[.string ⟨#[]⟩, .string ⟨#[]⟩, .string ⟨#[]⟩, .int .i64 0] 30) := ⟨_, rfl⟩
  have hR : Rd w1 rb B0 := by rw [hw1]; exact hR0.below (below1 _ _)
  have hE : Ex (· = rb) w w1 := by rw [hw1]; exact (Ex.refl _ _).alloc _
  have G0 : Bx rb B0 w.heap.size w w1 [.string ⟨#[]⟩, .string ⟨#[]⟩, .string ⟨#[]⟩, .int .i64 0] := Bx.of_block (t := 30) hR hE (Nat.le_refl _) hrc (by rw [hw1]; exact heap_alloc_new _ _) nob4
  have hs1 : w.heap.size < w1.heap.size := by rw [hw1, World.size_alloc]; omega
  rw [← hw1]
  have hrN := hR.lt
  refine wp_region_typed_last 16 (fun i => (([sSl 5 [sStr _ 2], sIs _ (.pointer (some ⟨rb, 0, none⟩)), sInt _ (0) (4), sRef [sStr _ 2], sStr _ 2, sSl 3 [sStr _ 5], sIs _ (.pointer (some ⟨rb, 0, none⟩)), sInt _ (0) (2), sRef [sStr _ 5], sStr _ 5, sIs _ (.pointer (some ⟨rb, 0, none⟩)), sStr _ 100, sIs _ (.pointer (some ⟨rb, 0, none⟩)), sInt _ (0) (1460970), sAgg [sStr _ 2, sStr _ 5, sStr _ 100, sInt _ (0) (1460970)], sBlk _ w1.heap.size (.cells #[Value.string { data := #[] }, Value.string { data := #[] }, Value.string { data := #[] }, Value.int IntKind.i64 0] 30)] : List (STy (· = rb))).getD i (sAny _)).T) (fun i => ([0, 0, 1, 0, 0, 0, 0, 1, 0, 0, 0, 2, 0, 4, 0, 0] : List Nat).getD i 0) (fun B w' => Rd w' rb (B0 + B) ∧ Ex (· = rb) w1 w') (Ex (· = rb)) 8 (by kernel_rfl) 51 rfl rfl (by kernel_rfl) (by kernel_rfl) (by kernel_rfl) (by decide) ⟨hR.drew, (Ex.refl _ _).drew⟩ (fun i u u' v hx hv => STy.st _ _ _ _ hx hv) ?_ ?_
  · refine ⟨?_, ?_, ?_, ?_, ?_, ?_, ?_, ?_, ?_, ?_, ?_, ?_, ?_, ?_, ?_, ?_, trivial⟩
    · intro B a' w' hB hW hF
      refine wpOp_step rfl (fun K hK => ?_)
      go_simp
      exact hK _ _ ⟨_, rfl, (Ex.refl _ _).alloc _, sSl_new (cs := [[(Value.string { data := #[107, 49] })], [(Value.string { data := #[107, 50] })], [(Value.string { data := #[107, 51] })], [(Value.string { data := #[107, 52] })], [(Value.string { data := #[107, 53] })]]) (by intro h; have h2 := hW.2.size; (try dsimp only at h); omega) rfl ⟨⟨⟨_, rfl, by decide⟩, trivial⟩, ⟨⟨_, rfl, by decide⟩, trivial⟩, ⟨⟨_, rfl, by decide⟩, trivial⟩, ⟨⟨_, rfl, by decide⟩, trivial⟩, ⟨⟨_, rfl, by decide⟩, trivial⟩, trivial⟩ (heap_alloc_new w' _), ⟨hW.1.below (below1 _ _), hW.2.alloc _⟩⟩
    · intro B a' w' hB hW hF
      have h0 : a'.tmps[0]? = some (.pointer (some ⟨rb, 0, none⟩)) := (hF.at 0 (by kernel_rfl)).trans rfl
      refine wpOp_step rfl (fun K hK => ?_)
      go_simp
      exact hK _ _ ⟨_, rfl, Ex.refl _ _, rfl, hW⟩
    · intro B a' w' hB hW hF
      obtain ⟨_, h7, rfl⟩ := hF.val ⟨1, .data⟩ (by simp) rfl _ rfl
      refine wpOp_step rfl (fun K hK => ?_)
      go_simp
      refine (pick_any rb _ _ _ hW.1 (by omega) (by omega)).mono ?_
      rintro e w'' ⟨k, rfl, hk, hR', hE'⟩
      exact hK _ _ ⟨_, rfl, hE', ⟨_, rfl, by omega, by omega⟩, ⟨hR', hW.2.trans hE'⟩⟩
    · intro B a' w' hB hW hF
      obtain ⟨_, h6, b6, rfl, c6⟩ := hF.val ⟨0, .data⟩ (by simp) rfl _ rfl
      obtain ⟨_, h8, k8, rfl, a8, b8⟩ := hF.val ⟨2, .data⟩ (by simp) rfl _ rfl
      have i1 : k8 < 5 := by omega
      refine wpOp_step rfl (fun K hK => ?_)
      go_simp
      exact hK _ _ ⟨_, rfl, Ex.refl _ _, ⟨_, _, rfl, by simpa using c6 k8.toNat (by omega)⟩, hW⟩
    · intro B a' w' hB hW hF
      obtain ⟨_, h9, b9, o9, rfl, x9, c9⟩ := hF.val ⟨3, .data⟩ (by simp) rfl _ rfl
      obtain ⟨u0, hu0, tu0⟩ := c9 0 _ rfl
      have hv0 : w'.cell? ⟨b9, o9, none⟩ = some u0 := by simpa using hu0
      refine wpOp_step rfl (fun K hK => ?_)
      go_simp
      exact hK _ _ ⟨_, rfl, Ex.refl _ _, tu0, hW⟩
    · intro B a' w' hB hW hF
      refine wpOp_step rfl (fun K hK => ?_)
      go_simp
      exact hK _ _ ⟨_, rfl, (Ex.refl _ _).alloc _, sSl_new (cs := [[(Value.string { data := #[78, 101, 119, 115] })], [(Value.string { data := #[65, 32, 38, 32, 66] })], [(Value.string { data := #[116] })]]) (by intro h; have h2 := hW.2.size; (try dsimp only at h); omega) rfl ⟨⟨⟨_, rfl, by decide⟩, trivial⟩, ⟨⟨_, rfl, by decide⟩, trivial⟩, ⟨⟨_, rfl, by decide⟩, trivial⟩, trivial⟩ (heap_alloc_new w' _), ⟨hW.1.below (below1 _ _), hW.2.alloc _⟩⟩
    · intro B a' w' hB hW hF
      have h0 : a'.tmps[0]? = some (.pointer (some ⟨rb, 0, none⟩)) := (hF.at 0 (by kernel_rfl)).trans rfl
      refine wpOp_step rfl (fun K hK => ?_)
      go_simp
      exact hK _ _ ⟨_, rfl, Ex.refl _ _, rfl, hW⟩
    · intro B a' w' hB hW hF
      obtain ⟨_, h12, rfl⟩ := hF.val ⟨6, .data⟩ (by simp) rfl _ rfl
      refine wpOp_step rfl (fun K hK => ?_)
      go_simp
      refine (pick_any rb _ _ _ hW.1 (by omega) (by omega)).mono ?_
      rintro e w'' ⟨k, rfl, hk, hR', hE'⟩
      exact hK _ _ ⟨_, rfl, hE', ⟨_, rfl, by omega, by omega⟩, ⟨hR', hW.2.trans hE'⟩⟩
    · intro B a' w' hB hW hF
      obtain ⟨_, h11, b11, rfl, c11⟩ := hF.val ⟨5, .data⟩ (by simp) rfl _ rfl
      obtain ⟨_, h13, k13, rfl, a13, b13⟩ := hF.val ⟨7, .data⟩ (by simp) rfl _ rfl
      have i1 : k13 < 3 := by omega
      refine wpOp_step rfl (fun K hK => ?_)
      go_simp
      exact hK _ _ ⟨_, rfl, Ex.refl _ _, ⟨_, _, rfl, by simpa using c11 k13.toNat (by omega)⟩, hW⟩
    · intro B a' w' hB hW hF
      obtain ⟨_, h14, b14, o14, rfl, x14, c14⟩ := hF.val ⟨8, .data⟩ (by simp) rfl _ rfl
      obtain ⟨u0, hu0, tu0⟩ := c14 0 _ rfl
      have hv0 : w'.cell? ⟨b14, o14, none⟩ = some u0 := by simpa using hu0
      refine wpOp_step rfl (fun K hK => ?_)
      go_simp
      exact hK _ _ ⟨_, rfl, Ex.refl _ _, tu0, hW⟩
    · intro B a' w' hB hW hF
      have h0 : a'.tmps[0]? = some (.pointer (some ⟨rb, 0, none⟩)) := (hF.at 0 (by kernel_rfl)).trans rfl
      refine wpOp_step rfl (fun K hK => ?_)
      go_simp
      exact hK _ _ ⟨_, rfl, Ex.refl _ _, rfl, hW⟩
    · intro B a' w' hB hW hF
      obtain ⟨_, h16, rfl⟩ := hF.val ⟨10, .data⟩ (by simp) rfl _ rfl
      refine wpOp_step rfl (fun K hK => ?_)
      go_simp
      refine (htext _ _ hW.1 (by omega)).mono ?_
      rintro e w'' ⟨v, rfl, tv, hR', hE'⟩
      exact hK _ _ ⟨_, rfl, hE', tv, ⟨hR', hW.2.trans hE'⟩⟩
    · intro B a' w' hB hW hF
      have h0 : a'.tmps[0]? = some (.pointer (some ⟨rb, 0, none⟩)) := (hF.at 0 (by kernel_rfl)).trans rfl
      refine wpOp_step rfl (fun K hK => ?_)
      go_simp
      exact hK _ _ ⟨_, rfl, Ex.refl _ _, rfl, hW⟩
    · intro B a' w' hB hW hF
      obtain ⟨_, h18, rfl⟩ := hF.val ⟨12, .data⟩ (by simp) rfl _ rfl
      refine wpOp_step rfl (fun K hK => ?_)
      go_simp
      refine (hday _ _ hW.1 (by omega)).mono ?_
      rintro e w'' ⟨v, rfl, tv, hR', hE'⟩
      exact hK _ _ ⟨_, rfl, hE', tv, ⟨hR', hW.2.trans hE'⟩⟩
    · intro B a' w' hB hW hF
      obtain ⟨_, h10, s10, rfl, z10⟩ := hF.val ⟨4, .data⟩ (by simp) rfl _ rfl
      obtain ⟨_, h15, s15, rfl, z15⟩ := hF.val ⟨9, .data⟩ (by simp) rfl _ rfl
      obtain ⟨_, h17, s17, rfl, z17⟩ := hF.val ⟨11, .data⟩ (by simp) rfl _ rfl
      obtain ⟨_, h19, k19, rfl, a19, b19⟩ := hF.val ⟨13, .data⟩ (by simp) rfl _ rfl
      refine wpOp_step rfl (fun K hK => ?_)
      go_simp
      exact hK _ _ ⟨_, rfl, Ex.refl _ _, ⟨[.string s10, .string s15, .string s17, .int .i64 k19], rfl, ⟨_, rfl, z10⟩, ⟨_, rfl, z15⟩, ⟨_, rfl, z17⟩, ⟨_, rfl, a19, b19⟩, trivial⟩, hW⟩
    · intro B a' w' hB hW hF
      refine wpOp_step rfl (fun K hK => ?_)
      go_simp
      exact hK _ _ ⟨_, rfl, (Ex.refl _ _).alloc _, ⟨_, rfl, hW.2.size, (by intro h; have h2 := hW.2.size; (try dsimp only at h); omega), heap_alloc_new w' _⟩, ⟨hW.1.below (below1 _ _), hW.2.alloc _⟩⟩
  · intro a' w' hL hW
    have hd := hL.defers
    have hs := hL.size
    obtain ⟨x6, h6, _⟩ := hL.val 0 _ rfl
    obtain ⟨x7, h7, _⟩ := hL.val 1 _ rfl
    obtain ⟨x8, h8, _⟩ := hL.val 2 _ rfl
    obtain ⟨x9, h9, _⟩ := hL.val 3 _ rfl
    obtain ⟨x10, h10, _⟩ := hL.val 4 _ rfl
    obtain ⟨x11, h11, _⟩ := hL.val 5 _ rfl
    obtain ⟨x12, h12, _⟩ := hL.val 6 _ rfl
    obtain ⟨x13, h13, _⟩ := hL.val 7 _ rfl
    obtain ⟨x14, h14, _⟩ := hL.val 8 _ rfl
    obtain ⟨x15, h15, _⟩ := hL.val 9 _ rfl
    obtain ⟨x16, h16, _⟩ := hL.val 10 _ rfl
    obtain ⟨x17, h17, _⟩ := hL.val 11 _ rfl
    obtain ⟨x18, h18, _⟩ := hL.val 12 _ rfl
    obtain ⟨x19, h19, _⟩ := hL.val 13 _ rfl
    obtain ⟨_, h20, vs, rfl, A20⟩ := hL.val 14 _ rfl
    obtain ⟨_, h5, g, rfl, hg1, hg2, hg3⟩ := hL.val 15 _ rfl
    have hlit := act_lit (l := [_, _, _, _, _, _, _, _, _, _, _, _, _, _, _, _, _, _, _, _, _, _, _, _, _, _, _, _, _, _, _, _, _, _, _, _, _, _, _, _, _, _, _, _, _, _, _, _, _, _, _]) (hd.trans rfl) (by rw [hs]; rfl) (AllAt.cons ((hL.at 0 (by kernel_rfl)).trans rfl) (AllAt.cons ((hL.at 1 (by kernel_rfl)).trans rfl) (AllAt.cons ((hL.at 2 (by kernel_rfl)).trans rfl) (AllAt.cons ((hL.at 3 (by kernel_rfl)).trans rfl) (AllAt.cons ((hL.at 4 (by kernel_rfl)).trans rfl) (AllAt.cons h5 (AllAt.cons h6 (AllAt.cons h7 (AllAt.cons h8 (AllAt.cons h9 (AllAt.cons h10 (AllAt.cons h11 (AllAt.cons h12 (AllAt.cons h13 (AllAt.cons h14 (AllAt.cons h15 (AllAt.cons h16 (AllAt.cons h17 (AllAt.cons h18 (AllAt.cons h19 (AllAt.cons h20 (AllAt.cons ((hL.at 21 (by kernel_rfl)).trans rfl) (AllAt.cons ((hL.at 22 (by kernel_rfl)).trans rfl) (AllAt.cons ((hL.at 23 (by kernel_rfl)).trans rfl) (AllAt.cons ((hL.at 24 (by kernel_rfl)).trans rfl) (AllAt.cons ((hL.at 25 (by kernel_rfl)).trans rfl) (AllAt.cons ((hL.at 26 (by kernel_rfl)).trans rfl) (AllAt.cons ((hL.at 27 (by kernel_rfl)).trans rfl) (AllAt.cons ((hL.at 28 (by kernel_rfl)).trans rfl) (AllAt.cons ((hL.at 29 (by kernel_rfl)).trans rfl) (AllAt.cons ((hL.at 30 (by kernel_rfl)).trans rfl) (AllAt.cons ((hL.at 31 (by kernel_rfl)).trans rfl) (AllAt.cons ((hL.at 32 (by kernel_rfl)).trans rfl) (AllAt.cons ((hL.at 33 (by kernel_rfl)).trans rfl) (AllAt.cons ((hL.at 34 (by kernel_rfl)).trans rfl) (AllAt.cons ((hL.at 35 (by kernel_rfl)).trans rfl) (AllAt.cons ((hL.at 36 (by kernel_rfl)).trans rfl) (AllAt.cons ((hL.at 37 (by kernel_rfl)).trans rfl) (AllAt.cons ((hL.at 38 (by kernel_rfl)).trans rfl) (AllAt.cons ((hL.at 39 (by kernel_rfl)).trans rfl) (AllAt.cons ((hL.at 40 (by kernel_rfl)).trans rfl) (AllAt.cons ((hL.at 41 (by kernel_rfl)).trans rfl) (AllAt.cons ((hL.at 42 (by kernel_rfl)).trans rfl) (AllAt.cons ((hL.at 43 (by kernel_rfl)).trans rfl) (AllAt.cons ((hL.at 44 (by kernel_rfl)).trans rfl) (AllAt.cons ((hL.at 45 (by kernel_rfl)).trans rfl) (AllAt.cons ((hL.at 46 (by kernel_rfl)).trans rfl) (AllAt.cons ((hL.at 47 (by kernel_rfl)).trans rfl) (AllAt.cons ((hL.at 48 (by kernel_rfl)).trans rfl) (AllAt.cons ((hL.at 49 (by kernel_rfl)).trans rfl) (AllAt.cons ((hL.at 50 (by kernel_rfl)).trans rfl) AllAt.nil)))))))))))))))))))))))))))))))))))))))))))))))))))
    clear hL hd hs h5 h6 h7 h8 h9 h10 h11 h12 h13 h14 h15 h16 h17 h18 h19 h20
    subst hlit
    obtain ⟨_, _, _, _, ⟨s1, rfl, z1⟩, ⟨s2, rfl, z2⟩, ⟨s3, rfl, z3⟩, ⟨m, rfl, m1, m2⟩, rfl⟩ := AllT.get4 A20
    have hR6 : Rd w' rb (B0 + 8) := Rd.mono (B := B0 + 8) hW.1 (Nat.le_refl _)
    have G := G0.step hR6 hW.2
    have q3 : -1 ≤ m := by omega
    have hne : w.heap.size ≠ g := by omega
    have K := (Bx.of_block (W := w) (t := 30) G.rd G.ex (by omega) hg2 hg3 nob4)
    have q1 : s1.size ≤ 9 := by omega
    have q2 : s2.size ≤ 100 := by omega
    clear G0 hR6 hW hg3 A20 z1 z2 hR hE hrN hR0
    obtain ⟨⟨r0, r1, r2, r3⟩, ⟨f0, f1, f2, f3⟩⟩ := K.four
    have K1 := K.set 0 (by decide) (.string s1) (by intro c h; cases h)
    have K2 := K1.set 1 (by simp) (.string s2) (by intro c h; cases h)
    have K3 := K2.set 2 (by simp) (.string s3) (by intro c h; cases h)
    have K4 := K3.set 3 (by simp) (.int .i64 m) (by intro c h; cases h)
    have G4 := (((G.other K hne 0 (.string s1) K1.rd).other K1 hne 1 (.string s2) K2.rd).other K2 hne 2 (.string s3) K3.rd).other K3 hne 3 (.int .i64 m) K4.rd
    clear K1 K2 K3 K G
    dsimp only [List.set] at K4
    refine wpOp_step rfl (fun K hK => ?_)
    go_simp
    refine hK _ _ ?_
    clear hK K r0 r1 r2 r3 f0 f1 f2 f3
    obtain ⟨w2, hw2⟩ : ∃ w2, w2 = (((w'.setCell ⟨g, 0, none⟩ (.string s1)).setCell ⟨g, 1, none⟩ (.string s2)).setCell ⟨g, 2, none⟩ (.string s3)).setCell ⟨g, 3, none⟩ (.int .i64 m) := ⟨_, rfl⟩
    rw [← hw2] at K4 G4 ⊢
    clear hw2
    go_wp2_with fail
    refine (odd_any rb _ n _ K4.rd (by omega) n2 (by omega)).mono ?_
    rintro e w3 ⟨_, rfl, ⟨b, rfl⟩, hR3, hE3⟩
    have K := K4.step hR3 hE3
    have G := G4.step hR3 hE3
    clear K4 G4 hR3 hE3
    cases b
    · obtain ⟨⟨r0, r1, r2, r3⟩, -⟩ := K.four
      obtain ⟨⟨t0, t1, t2, t3⟩, ⟨f0, f1, f2, f3⟩⟩ := G.four
      have GE := (((G.set 0 (by decide) (.string s1) (by intro c h; cases h)).set 1 (by simp) (.string s2) (by intro c h; cases h)).set 2 (by simp) (.string s3) (by intro c h; cases h)).set 3 (by simp) (.int .i64 m) (by intro c h; cases h)
      have HG := Lib.hid GE
      clear GE K G
      go_wp2
      clear r0 r1 r2 r3 t0 t1 t2 t3 f0 f1 f2 f3
      obtain ⟨⟨P0, P1, P2, P3⟩, -⟩ := HG.out.four
      exact bodyPost_ret (resItm Try.results48 _ _ rfl P0 P1 P2 P3) rfl ⟨⟨s1, s2, s3, m⟩, rfl, ⟨q1, q2, z3, q3, m2⟩, HG.out.rd.mono (by omega), HG.out.ex⟩
    · go_wp2_with fail
      refine (pick_any rb _ 4 _ K.rd (by omega) (by omega)).mono ?_
      rintro e w4 ⟨x, rfl, hx, hR4, hE4⟩
      replace K := K.step hR4 hE4
      replace G := G.step hR4 hE4
      have hx0 := hx.1
      have hx1 := hx.2.1 (by decide)
      clear hR4 hE4 hx
      have hx4 : x = 0 ∨ x = 1 ∨ x = 2 ∨ x = 3 := by omega
      clear hx0 hx1
      rcases hx4 with rfl | rfl | rfl | rfl
      · go_wp2_with fail
        refine (word_any rb _ 1 _ K.rd (by omega) (by omega) (by omega)).mono ?_
        rintro e w5 ⟨_, rfl, ⟨s5, rfl, z5⟩, hR5, hE5⟩
        replace K := K.step hR5 hE5
        replace G := G.step hR5 hE5
        clear hR5 hE5
        have K2 := K.set 0 (by simp) (.string s5) (by intro c h; cases h)
        have G2 := G.other K hne 0 (.string s5) K2.rd
        dsimp only [List.set] at K2
        obtain ⟨⟨r0, r1, r2, r3⟩, ⟨f0, f1, f2, f3⟩⟩ := K.four
        obtain ⟨⟨c0, c1, c2, c3⟩, -⟩ := K2.four
        obtain ⟨⟨t0, t1, t2, t3⟩, ⟨e0, e1, e2, e3⟩⟩ := G2.four
        have GE := (((G2.set 0 (by decide) (.string s5) (by intro c h; cases h)).set 1 (by simp) (.string s2) (by intro c h; cases h)).set 2 (by simp) (.string s3) (by intro c h; cases h)).set 3 (by simp) (.int .i64 m) (by intro c h; cases h)
        have HG := Lib.hid GE
        clear GE K G K2 G2
        go_wp2
        clear r0 r1 r2 r3 t0 t1 t2 t3 f0 f1 f2 f3 c0 c1 c2 c3 e0 e1 e2 e3
        obtain ⟨⟨P0, P1, P2, P3⟩, -⟩ := HG.out.four
        exact bodyPost_ret (resItm Try.results48 _ _ rfl P0 P1 P2 P3) rfl ⟨⟨s5, s2, s3, m⟩, rfl, ⟨z5, q2, z3, q3, m2⟩, HG.out.rd.mono (by omega), HG.out.ex⟩
      · have K' := K.below (below1 w4 (.cells #[.string ⟨#[]⟩, .string ⟨#[10]⟩] 9))
        have G' := G.below (below1 w4 (.cells #[.string ⟨#[]⟩, .string ⟨#[10]⟩] 9))
        have hne4 : w4.heap.size ≠ rb := by have := K.rd.lt; omega
        clear K G
        go_wp2_with fail
        refine (pick_any rb _ 2 _ K'.rd (by omega) (by omega)).mono ?_
        rintro e w5 ⟨x, rfl, hx, hR5, hE5⟩
        have d0 : w5.cell? ⟨w4.heap.size, 0, none⟩ = some (.string ⟨#[]⟩) := hE5.cell (p := ⟨w4.heap.size, 0, none⟩) hne4 (by simp [go_sem])
        have d1 : w5.cell? ⟨w4.heap.size, 1, none⟩ = some (.string ⟨#[10]⟩) := hE5.cell (p := ⟨w4.heap.size, 1, none⟩) hne4 (by simp [go_sem])
        have K := K'.step hR5 hE5
        have G := G'.step hR5 hE5
        have hx0 := hx.1
        have hx1 := hx.2.1 (by decide)
        have hx4 : x = 0 ∨ x = 1 := by omega
        clear K' G' hR5 hE5 hx hx0 hx1
        rcases hx4 with rfl | rfl
        · have K2 := K.set 1 (by simp) (.string ⟨#[]⟩) (by intro c h; cases h)
          have G2 := G.other K hne 1 (.string ⟨#[]⟩) K2.rd
          dsimp only [List.set] at K2
          obtain ⟨⟨r0, r1, r2, r3⟩, ⟨f0, f1, f2, f3⟩⟩ := K.four
          obtain ⟨⟨c0, c1, c2, c3⟩, -⟩ := K2.four
          obtain ⟨⟨t0, t1, t2, t3⟩, ⟨e0, e1, e2, e3⟩⟩ := G2.four
          have GE := (((G2.set 0 (by decide) (.string s1) (by intro c h; cases h)).set 1 (by simp) (.string ⟨#[]⟩) (by intro c h; cases h)).set 2 (by simp) (.string s3) (by intro c h; cases h)).set 3 (by simp) (.int .i64 m) (by intro c h; cases h)
          have HG := Lib.hid GE
          clear GE K G K2 G2
          go_wp2
          clear r0 r1 r2 r3 t0 t1 t2 t3 f0 f1 f2 f3 c0 c1 c2 c3 e0 e1 e2 e3
          obtain ⟨⟨P0, P1, P2, P3⟩, -⟩ := HG.out.four
          exact bodyPost_ret (resItm Try.results48 _ _ rfl P0 P1 P2 P3) rfl ⟨⟨s1, ⟨#[]⟩, s3, m⟩, rfl, ⟨q1, by show 0 ≤ 100; omega, z3, q3, m2⟩, HG.out.rd.mono (by omega), HG.out.ex⟩
        · have K2 := K.set 1 (by simp) (.string ⟨#[10]⟩) (by intro c h; cases h)
          have G2 := G.other K hne 1 (.string ⟨#[10]⟩) K2.rd
          dsimp only [List.set] at K2
          obtain ⟨⟨r0, r1, r2, r3⟩, ⟨f0, f1, f2, f3⟩⟩ := K.four
          obtain ⟨⟨c0, c1, c2, c3⟩, -⟩ := K2.four
          obtain ⟨⟨t0, t1, t2, t3⟩, ⟨e0, e1, e2, e3⟩⟩ := G2.four
          have GE := (((G2.set 0 (by decide) (.string s1) (by intro c h; cases h)).set 1 (by simp) (.string ⟨#[10]⟩) (by intro c h; cases h)).set 2 (by simp) (.string s3) (by intro c h; cases h)).set 3 (by simp) (.int .i64 m) (by intro c h; cases h)
          have HG := Lib.hid GE
          clear GE K G K2 G2
          go_wp2
          clear r0 r1 r2 r3 t0 t1 t2 t3 f0 f1 f2 f3 c0 c1 c2 c3 e0 e1 e2 e3
          obtain ⟨⟨P0, P1, P2, P3⟩, -⟩ := HG.out.four
          exact bodyPost_ret (resItm Try.results48 _ _ rfl P0 P1 P2 P3) rfl ⟨⟨s1, ⟨#[10]⟩, s3, m⟩, rfl, ⟨q1, by show 1 ≤ 100; omega, z3, q3, m2⟩, HG.out.rd.mono (by omega), HG.out.ex⟩
      · go_wp2_with fail
        refine (text_any rb _ 1 _ K.rd (by omega) (by omega) (by omega)).mono ?_
        rintro e w5 ⟨_, rfl, ⟨s5, rfl, z5⟩, hR5, hE5⟩
        replace K := K.step hR5 hE5
        replace G := G.step hR5 hE5
        clear hR5 hE5
        have K2 := K.set 2 (by simp) (.string s5) (by intro c h; cases h)
        have G2 := G.other K hne 2 (.string s5) K2.rd
        dsimp only [List.set] at K2
        obtain ⟨⟨r0, r1, r2, r3⟩, ⟨f0, f1, f2, f3⟩⟩ := K.four
        obtain ⟨⟨c0, c1, c2, c3⟩, -⟩ := K2.four
        obtain ⟨⟨t0, t1, t2, t3⟩, ⟨e0, e1, e2, e3⟩⟩ := G2.four
        have GE := (((G2.set 0 (by decide) (.string s1) (by intro c h; cases h)).set 1 (by simp) (.string s2) (by intro c h; cases h)).set 2 (by simp) (.string s5) (by intro c h; cases h)).set 3 (by simp) (.int .i64 m) (by intro c h; cases h)
        have HG := Lib.hid GE
        clear GE K G K2 G2
        go_wp2
        clear r0 r1 r2 r3 t0 t1 t2 t3 f0 f1 f2 f3 c0 c1 c2 c3 e0 e1 e2 e3
        obtain ⟨⟨P0, P1, P2, P3⟩, -⟩ := HG.out.four
        exact bodyPost_ret (resItm Try.results48 _ _ rfl P0 P1 P2 P3) rfl ⟨⟨s1, s2, s5, m⟩, rfl, ⟨q1, q2, z5, q3, m2⟩, HG.out.rd.mono (by omega), HG.out.ex⟩
      · have K' := K.below (below1 w4 (.cells #[.int .i64 (-1), .int .i64 1460970] 3))
        have G' := G.below (below1 w4 (.cells #[.int .i64 (-1), .int .i64 1460970] 3))
        have hne4 : w4.heap.size ≠ rb := by have := K.rd.lt; omega
        clear K G
        go_wp2_with fail
        refine (pick_any rb _ 2 _ K'.rd (by omega) (by omega)).mono ?_
        rintro e w5 ⟨x, rfl, hx, hR5, hE5⟩
        have d0 : w5.cell? ⟨w4.heap.size, 0, none⟩ = some (.int .i64 (-1)) := hE5.cell (p := ⟨w4.heap.size, 0, none⟩) hne4 (by simp [go_sem])
        have d1 : w5.cell? ⟨w4.heap.size, 1, none⟩ = some (.int .i64 1460970) := hE5.cell (p := ⟨w4.heap.size, 1, none⟩) hne4 (by simp [go_sem])
        have K := K'.step hR5 hE5
        have G := G'.step hR5 hE5
        have hx0 := hx.1
        have hx1 := hx.2.1 (by decide)
        have hx4 : x = 0 ∨ x = 1 := by omega
        clear K' G' hR5 hE5 hx hx0 hx1
        rcases hx4 with rfl | rfl
        · have K2 := K.set 3 (by simp) (.int .i64 (-1)) (by intro c h; cases h)
          have G2 := G.other K hne 3 (.int .i64 (-1)) K2.rd
          dsimp only [List.set] at K2
          obtain ⟨⟨r0, r1, r2, r3⟩, ⟨f0, f1, f2, f3⟩⟩ := K.four
          obtain ⟨⟨c0, c1, c2, c3⟩, -⟩ := K2.four
          obtain ⟨⟨t0, t1, t2, t3⟩, ⟨e0, e1, e2, e3⟩⟩ := G2.four
          have GE := (((G2.set 0 (by decide) (.string s1) (by intro c h; cases h)).set 1 (by simp) (.string s2) (by intro c h; cases h)).set 2 (by simp) (.string s3) (by intro c h; cases h)).set 3 (by simp) (.int .i64 (-1)) (by intro c h; cases h)
          have HG := Lib.hid GE
          clear GE K G K2 G2
          go_wp2
          clear r0 r1 r2 r3 t0 t1 t2 t3 f0 f1 f2 f3 c0 c1 c2 c3 e0 e1 e2 e3
          obtain ⟨⟨P0, P1, P2, P3⟩, -⟩ := HG.out.four
          exact bodyPost_ret (resItm Try.results48 _ _ rfl P0 P1 P2 P3) rfl ⟨⟨s1, s2, s3, -1⟩, rfl, ⟨q1, q2, z3, by dsimp only; decide, by dsimp only; decide⟩, HG.out.rd.mono (by omega), HG.out.ex⟩
        · have K2 := K.set 3 (by simp) (.int .i64 1460970) (by intro c h; cases h)
          have G2 := G.other K hne 3 (.int .i64 1460970) K2.rd
          dsimp only [List.set] at K2
          obtain ⟨⟨r0, r1, r2, r3⟩, ⟨f0, f1, f2, f3⟩⟩ := K.four
          obtain ⟨⟨c0, c1, c2, c3⟩, -⟩ := K2.four
          obtain ⟨⟨t0, t1, t2, t3⟩, ⟨e0, e1, e2, e3⟩⟩ := G2.four
          have GE := (((G2.set 0 (by decide) (.string s1) (by intro c h; cases h)).set 1 (by simp) (.string s2) (by intro c h; cases h)).set 2 (by simp) (.string s3) (by intro c h; cases h)).set 3 (by simp) (.int .i64 1460970) (by intro c h; cases h)
          have HG := Lib.hid GE
          clear GE K G K2 G2
          go_wp2
          clear r0 r1 r2 r3 t0 t1 t2 t3 f0 f1 f2 f3 c0 c1 c2 c3 e0 e1 e2 e3
          obtain ⟨⟨P0, P1, P2, P3⟩, -⟩ := HG.out.four
          exact bodyPost_ret (resItm Try.results48 _ _ rfl P0 P1 P2 P3) rfl ⟨⟨s1, s2, s3, 1460970⟩, rfl, ⟨q1, q2, z3, by dsimp only; decide, by dsimp only; decide⟩, HG.out.rd.mono (by omega), HG.out.ex⟩
end Go.Proofs.Ytlmpkajnbdhppaa
