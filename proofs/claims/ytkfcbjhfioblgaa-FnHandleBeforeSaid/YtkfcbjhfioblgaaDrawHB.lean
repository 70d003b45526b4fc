/- The walk of the reference's drawing function for HandleBefore's law. No condition. -/
import Derived.Test.YtkfcbjhfioblgaaDrawHL
import Derived.Test.YtkfcbjhfioblgaaRegT
namespace Go.Proofs.Ytkfcbjhfioblgaa
open Go.RowKit

def DrawHnd2 (w : World) (e : Ending) (w' : World) : Prop := ∃ n h n2 h2 : ByteArray, e = .returned (.tuple #[.agg #[.string n, .string h], .agg #[.string n2, .string h2]]) ∧ Below w.heap.size w w'
theorem set_two {w : World} {b : Nat} {u0 u1 v0 v1 : Value} (h0 : w.cell? ⟨b, 0, none⟩ = some u0) (h1 : w.cell? ⟨b, 1, none⟩ = some u1) :
    ((w.setCell ⟨b, 0, none⟩ v0).setCell ⟨b, 1, none⟩ v1).cell? ⟨b, 0, none⟩ = some v0 ∧ ((w.setCell ⟨b, 0, none⟩ v0).setCell ⟨b, 1, none⟩ v1).cell? ⟨b, 1, none⟩ = some v1 := by
  have h1' : (w.setCell ⟨b, 0, none⟩ v0).cell? ⟨b, 1, none⟩ = some u1 := by rw [World.cell?_setCell_other _ _ _ _ (by simp)]; exact h1
  exact ⟨by rw [World.cell?_setCell_other _ _ _ _ (by simp)]; exact World.cell?_setCell_same _ _ _ h0, World.cell?_setCell_same _ _ _ h1'⟩
theorem set_two_other {w : World} {b c i : Nat} {v0 v1 u : Value} (hbc : b ≠ c) (h : w.cell? ⟨c, i, none⟩ = some u) : ((w.setCell ⟨b, 0, none⟩ v0).setCell ⟨b, 1, none⟩ v1).cell? ⟨c, i, none⟩ = some u := by
  rw [World.cell?_setCell_other _ _ _ _ (by simp [hbc]), World.cell?_setCell_other _ _ _ _ (by simp [hbc])]; exact h
set_option maxHeartbeats 1000000 in
theorem draw_HandleBefore (v : Value) (l : List UInt8) (w : World) (h : Sl byteS w v l) :
    Calls Try.prog 19 #[v] w (DrawHnd2 w) := by
  have h1 : Sl byteS ((w.alloc (.cells #[.string ⟨#[]⟩, .string ⟨#[]⟩] 26)).alloc (.cells #[.string ⟨#[]⟩, .string ⟨#[]⟩] 26)) v l := (h.mono (below1 _ _)).mono (below1 _ _)
  go_enter Try.func19, Try.ntmps19
  go_wp2_with fail
  refine (open_any v l _ h1).mono ?_
  rintro e w1 ⟨rfl, hR, hB⟩
  have hsz : ((w.alloc (.cells #[.string ⟨#[]⟩, .string ⟨#[]⟩] 26)).alloc (.cells #[.string ⟨#[]⟩, .string ⟨#[]⟩] 26)).heap.size = w.heap.size + 2 := by simp
  rw [hsz] at hR hB
  rw [hsz]
  go_wp2_with fail
  refine (handle_two _ _ _ _ hR (by omega) (by omega) (by omega)).mono ?_
  rintro e w2 ⟨s1, s2, rfl, z1, z2, hR2, hE2⟩
  rw [← hsz] at hB hE2
  have hb := below_open hB hE2
  have hR3 : Rd w2 (w.heap.size + 2) 6 := hR2
  rw [hsz] at hE2
  clear hsz hR hR2
  have c0 : w2.cell? ⟨w.heap.size, 0, none⟩ = some (.string ⟨#[]⟩) := keep_cell hb (by simp)
  have c1 : w2.cell? ⟨w.heap.size, 1, none⟩ = some (.string ⟨#[]⟩) := keep_cell hb (by simp)
  have d0 : w2.cell? ⟨w.heap.size + 1, 0, none⟩ = some (.string ⟨#[]⟩) := keep_cell hb (by simp)
  have d1 : w2.cell? ⟨w.heap.size + 1, 1, none⟩ = some (.string ⟨#[]⟩) := keep_cell hb (by simp)
  have f0 : w2.frozen? ⟨w.heap.size, 0, none⟩ = false := (hb.frozen (by simp; omega)).trans (by simp)
  have f1 : w2.frozen? ⟨w.heap.size, 1, none⟩ = false := (hb.frozen (by simp; omega)).trans (by simp)
  have g0 : w2.frozen? ⟨w.heap.size + 1, 0, none⟩ = false := (hb.frozen (by simp)).trans (by simp)
  have g1 : w2.frozen? ⟨w.heap.size + 1, 1, none⟩ = false := (hb.frozen (by simp)).trans (by simp)
  have hlt : w.heap.size + 2 ≤ w2.heap.size := by have := hR3.lt; omega
  have bz : Below w.heap.size w w2 := below_trans (below1 _ _) (below_trans (below1 _ _) hb)
  go_upto_region 3 with (fail)
  obtain ⟨w3, hw3⟩ : ∃ w3, w3 = w2.alloc (.cells #[.string s1, .string s2] 26) := ⟨_, rfl⟩
  rw [← hw3]
  obtain ⟨rb, hrb⟩ : ∃ rb, Hid (rb = w.heap.size + 2) := ⟨_, rfl⟩
  rw [← hrb.out] at hR3
  rw [← hrb.out]
  have hrlt := hR3.lt
  have hR : Rd w3 rb 6 := by rw [hw3]; exact hR3.below (below1 _ _)
  have k0 : w3.cell? ⟨w2.heap.size, 0, none⟩ = some (.string s1) := by rw [hw3]; simp
  have k1 : w3.cell? ⟨w2.heap.size, 1, none⟩ = some (.string s2) := by rw [hw3]; simp
  replace c0 : w3.cell? ⟨w.heap.size, 0, none⟩ = some (.string ⟨#[]⟩) := by rw [hw3]; exact keep_cell (below1 _ _) c0
  replace c1 : w3.cell? ⟨w.heap.size, 1, none⟩ = some (.string ⟨#[]⟩) := by rw [hw3]; exact keep_cell (below1 _ _) c1
  replace d0 : w3.cell? ⟨w.heap.size + 1, 0, none⟩ = some (.string ⟨#[]⟩) := by rw [hw3]; exact keep_cell (below1 _ _) d0
  replace d1 : w3.cell? ⟨w.heap.size + 1, 1, none⟩ = some (.string ⟨#[]⟩) := by rw [hw3]; exact keep_cell (below1 _ _) d1
  replace f0 : w3.frozen? ⟨w.heap.size, 0, none⟩ = false := by rw [hw3]; exact ((below1 _ _).frozen (by simp only; omega)).trans f0
  replace f1 : w3.frozen? ⟨w.heap.size, 1, none⟩ = false := by rw [hw3]; exact ((below1 _ _).frozen (by simp only; omega)).trans f1
  replace g0 : w3.frozen? ⟨w.heap.size + 1, 0, none⟩ = false := by rw [hw3]; exact ((below1 _ _).frozen (by simp only; omega)).trans g0
  replace g1 : w3.frozen? ⟨w.heap.size + 1, 1, none⟩ = false := by rw [hw3]; exact ((below1 _ _).frozen (by simp only; omega)).trans g1
  have hlt3 : w2.heap.size < w3.heap.size := by rw [hw3]; simp
  replace bz : Below w.heap.size w w3 := by rw [hw3]; exact below_trans bz (below1 _ _)
  clear hw3
  refine wp_region_typed_tail 3 (fun i => (([sIs _ (.agg #[.string s1, .string s2]), sIs _ (.pointer (some ⟨rb, 0, none⟩)), sAgg [sStr _ 9, sStr _ 9]] : List (STy (· = rb))).getD i (sAny _)).T) (fun i => ([0, 0, 6] : List Nat).getD i 0) (fun B w' => Rd w' rb (6 + B) ∧ Ex (· = rb) w3 w') (Ex (· = rb)) 6 (by kernel_rfl) 13 rfl (by decide) (by kernel_rfl) (by kernel_rfl) (by kernel_rfl) (by decide) ⟨hR.drew, (Ex.refl _ _).drew⟩ (fun i u u' v hx hv => STy.st _ _ _ _ hx hv) ?_ ?_
  · refine ⟨?_, ?_, ?_, trivial⟩
    · intro B a' w' hB hW hF
      have h5 : a'.tmps[5]? = some (.pointer (some ⟨w2.heap.size, 0, none⟩)) := (hF.at 5 (by kernel_rfl)).trans rfl
      have x0 := hW.2.cell (p := ⟨w2.heap.size, 0, none⟩) (by have := hrb.out; simp only; omega) k0
      have x1 := hW.2.cell (p := ⟨w2.heap.size, 1, none⟩) (by have := hrb.out; simp only; omega) k1
      refine wpOp_step rfl (fun K hK => ?_)
      go_simp
      exact hK _ _ ⟨_, rfl, Ex.refl _ _, rfl, hW⟩
    · intro B a' w' hB hW hF
      have h4 : a'.tmps[4]? = some (.pointer (some ⟨rb, 0, none⟩)) := (hF.at 4 (by kernel_rfl)).trans rfl
      refine wpOp_step rfl (fun K hK => ?_)
      go_simp
      exact hK _ _ ⟨_, rfl, Ex.refl _ _, rfl, hW⟩
    · intro B a' w' hB hW hF
      obtain ⟨_, h11, rfl⟩ := hF.val ⟨1, .data⟩ (by simp) rfl _ rfl
      refine wpOp_step rfl (fun K hK => ?_)
      go_simp
      refine (handle_any _ _ _ _ hW.1 (by omega) (by omega) (by omega)).mono ?_
      rintro e w'' ⟨v, rfl, tv, hR', hE'⟩
      exact hK _ _ ⟨_, rfl, hE', tv, ⟨hR', hW.2.trans hE'⟩⟩
  · intro a' w' hL hW
    obtain ⟨_, h10, rfl⟩ := hL.val 0 _ rfl
    obtain ⟨_, h12, vs, rfl, A12⟩ := hL.val 2 _ rfl
    obtain ⟨u, v, ⟨s3, rfl, z3⟩, ⟨s4, rfl, z4⟩, rfl⟩ := AllT.get2 A12
    have h2 : a'.tmps[2]? = some (.pointer (some ⟨w.heap.size, 0, none⟩)) := (hL.at 2 (by kernel_rfl)).trans rfl
    have h3 : a'.tmps[3]? = some (.pointer (some ⟨w.heap.size + 1, 0, none⟩)) := (hL.at 3 (by kernel_rfl)).trans rfl
    have hd := hL.defers
    clear hL
    have hrb2 := hrb.out
    have x0 := hW.2.cell (p := ⟨w.heap.size, 0, none⟩) (by simp only; omega) c0
    have x1 := hW.2.cell (p := ⟨w.heap.size, 1, none⟩) (by simp only; omega) c1
    have y0 := hW.2.cell (p := ⟨w.heap.size + 1, 0, none⟩) (by simp only; omega) d0
    have y1 := hW.2.cell (p := ⟨w.heap.size + 1, 1, none⟩) (by simp only; omega) d1
    have e0 : w'.frozen? ⟨w.heap.size, 0, none⟩ = false := (World.frozen?_of_block (hW.2.block _ (by simp only; omega) (by simp only; omega))).trans f0
    have e1 : w'.frozen? ⟨w.heap.size, 1, none⟩ = false := (World.frozen?_of_block (hW.2.block _ (by simp only; omega) (by simp only; omega))).trans f1
    have e2 : w'.frozen? ⟨w.heap.size + 1, 0, none⟩ = false := (World.frozen?_of_block (hW.2.block _ (by simp only; omega) (by simp only; omega))).trans g0
    have e3 : w'.frozen? ⟨w.heap.size + 1, 1, none⟩ = false := (World.frozen?_of_block (hW.2.block _ (by simp only; omega) (by simp only; omega))).trans g1
    have bw : Below w.heap.size w w' := bz.trans (hW.2.below (B := w.heap.size) bz.size (fun k hk => by omega))
    clear hrb2 c0 c1 d0 d1 f0 f1 g0 g1 k0 k1
    show wpOps _ _ _ [3, 4] _ _
    rw [wpOps_cons]
    refine wpOp_step rfl (fun K hK => ?_)
    go_simp
    refine hK _ _ ?_
    rw [wpOps_cons]
    refine wpOp_step rfl (fun K hK => ?_)
    go_simp
    refine hK _ _ ?_
    simp only [wpOps]
    go_wp2
    have p1 := set_two (v0 := .string s1) (v1 := .string s2) x0 x1
    have p2 := set_two (v0 := .string s3) (v1 := .string s4) (set_two_other (v0 := .string s1) (v1 := .string s2) (b := w.heap.size) (by omega) y0) (set_two_other (v0 := .string s1) (v1 := .string s2) (b := w.heap.size) (by omega) y1)
    have p3 := set_two_other (v0 := .string s3) (v1 := .string s4) (b := w.heap.size + 1) (by omega) p1.1
    have p4 := set_two_other (v0 := .string s3) (v1 := .string s4) (b := w.heap.size + 1) (by omega) p1.2
    exact bodyPost_ret (v := .tuple #[.agg #[.string s1, .string s2], .agg #[.string s3, .string s4]]) (by simp [results, Try.results19, go_sem, h2, h3, p2.1, p2.2, p3, p4]) (hd.trans rfl)
      ⟨s1, s2, s3, s4, rfl, (((bw.setCell (by simp) _).setCell (by simp) _).setCell (by simp) _).setCell (by simp) _⟩
end Go.Proofs.Ytkfcbjhfioblgaa
