/- The walk of the reference's drawing function for the law of UndoOf. No condition. -/
import Derived.Test.YtackffegdmohiaaDrawAd
import Derived.Test.YtackffegdmohiaaRegS
namespace Go.Proofs.Ytackffegdmohiaa
open Go.RowKit

theorem resActI {fn : Func} {slot bs b : Nat} (hr : fn.results = #[.cell slot 30, .tmp bs]) (tmps : Array Value) (W : World) (ht : tmps[slot]? = some (.pointer (some ⟨b, 0, none⟩))) {a0 a1 a2 a3 a4 : Value}
    (h0 : W.cell? ⟨b, 0, none⟩ = some a0) (h1 : W.cell? ⟨b, 1, none⟩ = some a1) (h2 : W.cell? ⟨b, 2, none⟩ = some a2) (h3 : W.cell? ⟨b, 3, none⟩ = some a3) (h4 : W.cell? ⟨b, 4, none⟩ = some a4) {u : Value} (hu : tmps[bs]? = some u) :
    (results fn tmps).run Try.prog W = .ok (.tuple #[.agg #[a0, a1, a2, a3, a4], u]) W := by
  rw [resActB hr tmps W ht h0 h1 h2 h3 h4, getD_of hu]
set_option maxHeartbeats 1000000 in
theorem draw_UndoOf (v : Value) (l : List UInt8) (w : World) (h : Sl byteS w v l) :
    Calls Try.prog 13 #[v] w (DrawUndo w) := by
  have h1 : Sl byteS (w.alloc (.cells #[.int .i64 0, .int .i64 0, .string ⟨#[]⟩, .string ⟨#[]⟩, .string ⟨#[]⟩] 30)) v l := h.mono (below1 _ _)
  go_enter Try.func13, Try.ntmps13
  go_wp2_with fail
  refine (open_any v l _ h1).mono ?_
  rintro e w1 ⟨rfl, hR, hB⟩
  have hsz : (w.alloc (.cells #[.int .i64 0, .int .i64 0, .string ⟨#[]⟩, .string ⟨#[]⟩, .string ⟨#[]⟩] 30)).heap.size = w.heap.size + 1 := by simp
  rw [hsz] at hR hB
  rw [hsz]
  go_wp2_with fail
  refine (activity_five _ _ _ _ hR (by omega) (by omega) (by omega)).mono ?_
  rintro e w2 ⟨k, m, n, h, t, rfl, ok, hR2, hE2⟩
  rw [← hsz] at hB hE2
  have hb := below_open hB hE2
  have hR3 : Rd w2 (w.heap.size + 1) 10 := hR2
  rw [hsz] at hE2
  clear hsz hR hR2
  have c0 : w2.cell? ⟨w.heap.size, 0, none⟩ = some (.int .i64 0) := keep_cell hb (by simp)
  have c1 : w2.cell? ⟨w.heap.size, 1, none⟩ = some (.int .i64 0) := keep_cell hb (by simp)
  have c2 : w2.cell? ⟨w.heap.size, 2, none⟩ = some (.string ⟨#[]⟩) := keep_cell hb (by simp)
  have c3 : w2.cell? ⟨w.heap.size, 3, none⟩ = some (.string ⟨#[]⟩) := keep_cell hb (by simp)
  have c4 : w2.cell? ⟨w.heap.size, 4, none⟩ = some (.string ⟨#[]⟩) := keep_cell hb (by simp)
  have f0 : w2.frozen? ⟨w.heap.size, 0, none⟩ = false := (hb.frozen (by simp)).trans (by simp)
  have f1 : w2.frozen? ⟨w.heap.size, 1, none⟩ = false := (hb.frozen (by simp)).trans (by simp)
  have f2 : w2.frozen? ⟨w.heap.size, 2, none⟩ = false := (hb.frozen (by simp)).trans (by simp)
  have f3 : w2.frozen? ⟨w.heap.size, 3, none⟩ = false := (hb.frozen (by simp)).trans (by simp)
  have f4 : w2.frozen? ⟨w.heap.size, 4, none⟩ = false := (hb.frozen (by simp)).trans (by simp)
  have bz : Below w.heap.size w w2 := below_trans (below1 _ _) hb
  have hlt : w.heap.size + 1 < w2.heap.size := hR3.lt
  go_upto_region 3 with (fail)
  obtain ⟨w3, hw3⟩ : ∃ w3, w3 = w2.alloc (.cells #[.int .i64 k, .int .i64 m, .string n, .string h, .string t] 30) := ⟨_, rfl⟩
  rw [← hw3]
  obtain ⟨rb, hrb⟩ : ∃ rb, Hid (rb = w.heap.size + 1) := ⟨_, rfl⟩
  rw [← hrb.out] at hR3
  rw [← hrb.out]
  have hrlt := hR3.lt
  have hR : Rd w3 rb 10 := by rw [hw3]; exact hR3.below (below1 _ _)
  have b3 : Below w2.heap.size w2 w3 := by rw [hw3]; exact below1 _ _
  have k0 : w3.cell? ⟨w2.heap.size, 0, none⟩ = some (.int .i64 k) := by rw [hw3]; simp
  have k1 : w3.cell? ⟨w2.heap.size, 1, none⟩ = some (.int .i64 m) := by rw [hw3]; simp
  have k2 : w3.cell? ⟨w2.heap.size, 2, none⟩ = some (.string n) := by rw [hw3]; simp
  have k3 : w3.cell? ⟨w2.heap.size, 3, none⟩ = some (.string h) := by rw [hw3]; simp
  have k4 : w3.cell? ⟨w2.heap.size, 4, none⟩ = some (.string t) := by rw [hw3]; simp
  replace c0 := keep_cell b3 c0
  replace c1 := keep_cell b3 c1
  replace c2 := keep_cell b3 c2
  replace c3 := keep_cell b3 c3
  replace c4 := keep_cell b3 c4
  replace f0 := (b3.frozen (p := ⟨w.heap.size, 0, none⟩) (by simp only; omega)).trans f0
  replace f1 := (b3.frozen (p := ⟨w.heap.size, 1, none⟩) (by simp only; omega)).trans f1
  replace f2 := (b3.frozen (p := ⟨w.heap.size, 2, none⟩) (by simp only; omega)).trans f2
  replace f3 := (b3.frozen (p := ⟨w.heap.size, 3, none⟩) (by simp only; omega)).trans f3
  replace f4 := (b3.frozen (p := ⟨w.heap.size, 4, none⟩) (by simp only; omega)).trans f4
  have hlt3 : w2.heap.size < w3.heap.size := by rw [hw3]; simp
  replace bz : Below w.heap.size w w3 := below_trans bz b3
  clear hw3 b3
  obtain ⟨rs, hrs⟩ : ∃ rs, Hid (rs = w.heap.size) := ⟨_, rfl⟩
  have hne : rs ≠ rb := by have := hrb.out; have := hrs.out; omega
  have hn2 : ¬ two rb rs w2.heap.size := by have := hrs.out; rintro (h | h) <;> omega
  have hrlt3 : rs < w3.heap.size := by have := hrs.out; omega
  have hcel : Cel w3 rs 5 := by
    rw [hrs.out]
    intro i hi
    match i, hi with
    | 0, _ => exact ⟨f0, _, c0, fun c h => by cases h⟩
    | 1, _ => exact ⟨f1, _, c1, fun c h => by cases h⟩
    | 2, _ => exact ⟨f2, _, c2, fun c h => by cases h⟩
    | 3, _ => exact ⟨f3, _, c3, fun c h => by cases h⟩
    | 4, _ => exact ⟨f4, _, c4, fun c h => by cases h⟩
  rw [← hrs.out]
  refine wp_region_typed (tyS 11 rs [.int .i64 k, .int .i64 m, .string n, .string h, .string t] ([sIs _ (.agg #[.int .i64 k, .int .i64 m, .string n, .string h, .string t]), sIs _ (.pointer (some ⟨rb, 0, none⟩)), sInt _ (0) (98), sSl 3 [sInt _ (-1) (1000000001)], sSl 6 [sInt _ (0) (2)], sIs _ (.pointer (some ⟨rb, 0, none⟩)), sInt _ (0) (5), sRef [sInt _ (0) (2)], sInt _ (0) (2), sRef [sInt _ (-1) (1000000001)], sInt _ (-1) (1000000001), sAny _, sInt _ (-1) (1000000001)] : List (STy (two rb rs)))) (fun i => ([0, 0, 1, 0, 0, 0, 1, 0, 0, 0, 0, 0, 0] : List Nat).getD i 0) (fun B w' => Rd w' rb (10 + B) ∧ ExS rb rs 5 w3 w') (RS rb rs [.int .i64 k, .int .i64 m, .string n, .string h, .string t]) 2 (by kernel_rfl) 21 rfl (by kernel_rfl) (by decide) ⟨hR.drew, (ExS.start hne hcel).drew⟩ tyS_st ?_ ?_
  · refine ⟨?_, ?_, ?_, ?_, ?_, ?_, ?_, ?_, ?_, ?_, ?_, ?_, ?_, trivial⟩
    · intro B a' w' hB hW hF
      have h5 : a'.tmps[5]? = some (.pointer (some ⟨w2.heap.size, 0, none⟩)) := (hF.at 5 (by kernel_rfl)).trans rfl
      have l0 := hW.2.cell hn2 k0
      have l1 := hW.2.cell hn2 k1
      have l2 := hW.2.cell hn2 k2
      have l3 := hW.2.cell hn2 k3
      have l4 := hW.2.cell hn2 k4
      refine wpOp_step rfl (fun K hK => ?_)
      go_simp
      exact hK _ _ ⟨_, rfl, rsOf hW.2.ne (Ex.refl _ _), rfl, hW⟩
    · intro B a' w' hB hW hF
      have h4 : a'.tmps[4]? = some (.pointer (some ⟨rb, 0, none⟩)) := (hF.at 4 (by kernel_rfl)).trans rfl
      refine wpOp_step rfl (fun K hK => ?_)
      go_simp
      exact hK _ _ ⟨_, rfl, rsOf hW.2.ne (Ex.refl _ _), rfl, hW⟩
    · intro B a' w' hB hW hF
      obtain ⟨_, h11, rfl⟩ := hF.val ⟨1, .data⟩ (by simp) rfl _ rfl
      refine wpOp_step rfl (fun K hK => ?_)
      go_simp
      refine (pick_any rb _ _ _ hW.1 (by omega) (by omega)).mono ?_
      rintro e w'' ⟨k, rfl, hk, hR', hE'⟩
      exact hK _ _ ⟨_, rfl, rsOf hW.2.ne (hE'), ⟨_, rfl, by omega, by omega⟩, ⟨hR', hW.2.trans hE'⟩⟩
    · intro B a' w' hB hW hF
      obtain ⟨_, h12, k12, rfl, a12, b12⟩ := hF.val ⟨2, .data⟩ (by simp) rfl _ rfl
      refine wpOp_step rfl (fun K hK => ?_)
      go_simp
      exact hK _ _ ⟨_, rfl, rsOf hW.2.ne ((Ex.refl _ _).alloc _), sSl_new (cs := [[.int .i64 k12], [(Value.int IntKind.i64 1000000001)], [(Value.int IntKind.i64 (-1))]]) (by rintro (h | h) <;> (have h2 := hW.2.size; (try dsimp only at h); omega)) rfl ⟨⟨⟨_, rfl, by omega, by omega⟩, trivial⟩, ⟨⟨_, rfl, by omega, by omega⟩, trivial⟩, ⟨⟨_, rfl, by omega, by omega⟩, trivial⟩, trivial⟩ (heap_alloc_new w' _), ⟨hW.1.below (below1 _ _), hW.2.alloc _⟩⟩
    · intro B a' w' hB hW hF
      refine wpOp_step rfl (fun K hK => ?_)
      go_simp
      exact hK _ _ ⟨_, rfl, rsOf hW.2.ne ((Ex.refl _ _).alloc _), sSl_new (cs := [[(Value.int IntKind.i64 0)], [(Value.int IntKind.i64 0)], [(Value.int IntKind.i64 0)], [(Value.int IntKind.i64 0)], [(Value.int IntKind.i64 1)], [(Value.int IntKind.i64 2)]]) (by rintro (h | h) <;> (have h2 := hW.2.size; (try dsimp only at h); omega)) rfl ⟨⟨⟨_, rfl, by omega, by omega⟩, trivial⟩, ⟨⟨_, rfl, by omega, by omega⟩, trivial⟩, ⟨⟨_, rfl, by omega, by omega⟩, trivial⟩, ⟨⟨_, rfl, by omega, by omega⟩, trivial⟩, ⟨⟨_, rfl, by omega, by omega⟩, trivial⟩, ⟨⟨_, rfl, by omega, by omega⟩, trivial⟩, trivial⟩ (heap_alloc_new w' _), ⟨hW.1.below (below1 _ _), hW.2.alloc _⟩⟩
    · intro B a' w' hB hW hF
      have h4 : a'.tmps[4]? = some (.pointer (some ⟨rb, 0, none⟩)) := (hF.at 4 (by kernel_rfl)).trans rfl
      refine wpOp_step rfl (fun K hK => ?_)
      go_simp
      exact hK _ _ ⟨_, rfl, rsOf hW.2.ne (Ex.refl _ _), rfl, hW⟩
    · intro B a' w' hB hW hF
      obtain ⟨_, h15, rfl⟩ := hF.val ⟨5, .data⟩ (by simp) rfl _ rfl
      refine wpOp_step rfl (fun K hK => ?_)
      go_simp
      refine (pick_any rb _ _ _ hW.1 (by omega) (by omega)).mono ?_
      rintro e w'' ⟨k, rfl, hk, hR', hE'⟩
      exact hK _ _ ⟨_, rfl, rsOf hW.2.ne (hE'), ⟨_, rfl, by omega, by omega⟩, ⟨hR', hW.2.trans hE'⟩⟩
    · intro B a' w' hB hW hF
      obtain ⟨_, h14, b14, rfl, c14⟩ := hF.val ⟨4, .data⟩ (by simp) rfl _ rfl
      obtain ⟨_, h16, k16, rfl, a16, b16⟩ := hF.val ⟨6, .data⟩ (by simp) rfl _ rfl
      have i1 : k16 < 6 := by omega
      refine wpOp_step rfl (fun K hK => ?_)
      go_simp
      exact hK _ _ ⟨_, rfl, rsOf hW.2.ne (Ex.refl _ _), ⟨_, _, rfl, by simpa using c14 k16.toNat (by omega)⟩, hW⟩
    · intro B a' w' hB hW hF
      obtain ⟨_, h17, b17, o17, rfl, x17, c17⟩ := hF.val ⟨7, .data⟩ (by simp) rfl _ rfl
      obtain ⟨u0, hu0, tu0⟩ := c17 0 _ rfl
      have hv0 : w'.cell? ⟨b17, o17, none⟩ = some u0 := by simpa using hu0
      refine wpOp_step rfl (fun K hK => ?_)
      go_simp
      exact hK _ _ ⟨_, rfl, rsOf hW.2.ne (Ex.refl _ _), tu0, hW⟩
    · intro B a' w' hB hW hF
      obtain ⟨_, h13, b13, rfl, c13⟩ := hF.val ⟨3, .data⟩ (by simp) rfl _ rfl
      obtain ⟨_, h18, k18, rfl, a18, b18⟩ := hF.val ⟨8, .data⟩ (by simp) rfl _ rfl
      have i1 : k18 < 3 := by omega
      refine wpOp_step rfl (fun K hK => ?_)
      go_simp
      exact hK _ _ ⟨_, rfl, rsOf hW.2.ne (Ex.refl _ _), ⟨_, _, rfl, by simpa using c13 k18.toNat (by omega)⟩, hW⟩
    · intro B a' w' hB hW hF
      obtain ⟨_, h19, b19, o19, rfl, x19, c19⟩ := hF.val ⟨9, .data⟩ (by simp) rfl _ rfl
      obtain ⟨u0, hu0, tu0⟩ := c19 0 _ rfl
      have hv0 : w'.cell? ⟨b19, o19, none⟩ = some u0 := by simpa using hu0
      refine wpOp_step rfl (fun K hK => ?_)
      go_simp
      exact hK _ _ ⟨_, rfl, rsOf hW.2.ne (Ex.refl _ _), tu0, hW⟩
    · intro B a' w' hB hW hF
      have h2 : a'.tmps[2]? = some (.pointer (some ⟨rs, 0, none⟩)) := (hF.at 2 (by kernel_rfl)).trans rfl
      obtain ⟨_, h10, rfl⟩ := hF.val ⟨0, .data⟩ (by simp) rfl _ rfl
      obtain ⟨g0, _, y0, _⟩ := hW.2.cel (by decide) 0 (by decide)
      obtain ⟨g1, _, y1, _⟩ := hW.2.cel (by decide) 1 (by decide)
      obtain ⟨g2, _, y2, _⟩ := hW.2.cel (by decide) 2 (by decide)
      obtain ⟨g3, _, y3, _⟩ := hW.2.cel (by decide) 3 (by decide)
      obtain ⟨g4, _, y4, _⟩ := hW.2.cel (by decide) 4 (by decide)
      have S := setL_ok hW.1 hW.2 (by decide) [.int .i64 k, .int .i64 m, .string n, .string h, .string t] rfl (by simp)
      have hbs : rs < w'.heap.size := by have h2 := hW.2.size; omega
      have HS := Lib.hid S
      clear S
      refine wpOp_step rfl (fun K hK => ?_)
      go_simp
      exact hK _ _ ⟨undef, rfl, HS.out.1, ⟨Nat.lt_of_lt_of_le hbs HS.out.1.1.size, HS.out.2.1⟩, HS.out.2.2⟩
    · intro B a' w' hB hW hF
      obtain ⟨_, h20, k20, rfl, a20, b20⟩ := hF.val ⟨10, .data⟩ (by simp) rfl _ rfl
      refine wpOp_step rfl (fun K hK => ?_)
      go_simp
      exact hK _ _ ⟨_, rfl, rsOf hW.2.ne (Ex.refl _ _), ⟨_, rfl, a20, b20⟩, hW⟩
  · intro a' w' hL hW
    obtain ⟨_, hat⟩ := hL.val 11 _ rfl
    obtain ⟨_, h20, q, rfl, q1, q2⟩ := hL.val 12 _ rfl
    have h2 : a'.tmps[2]? = some (.pointer (some ⟨rs, 0, none⟩)) := (hL.at 2 (by kernel_rfl)).trans rfl
    have hd := hL.defers
    clear hL
    have bw : Below w.heap.size w w' := bz.trans (hW.2.ex.below (B := w.heap.size) bz.size (fun k hk => by have := hrb.out; have := hrs.out; rcases hk with hk | hk <;> omega))
    go_wp2
    exact bodyPost_ret (resActI Try.results13 _ _ h2 (hat 0 _ rfl) (hat 1 _ rfl) (hat 2 _ rfl) (hat 3 _ rfl) (hat 4 _ rfl) h20) (hd.trans rfl) ⟨k, m, n, h, t, q, rfl, ok, ⟨by omega, by omega⟩, bw⟩
end Go.Proofs.Ytackffegdmohiaa
