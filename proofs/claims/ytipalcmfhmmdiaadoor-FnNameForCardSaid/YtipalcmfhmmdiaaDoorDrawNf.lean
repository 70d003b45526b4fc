/- The walk of the reference's drawing function for the law of NameFor. No condition. -/
import Derived.Test.YtipalcmfhmmdiaaDoorDrawAs
namespace Go.Proofs.YtipalcmfhmmdiaaDoor
open Go.RowKit

def nfL : List Actr := [⟨⟨#[97, 98, 99, 100, 101, 102, 103, 50]⟩, ⟨#[102, 49]⟩, 0⟩, ⟨⟨#[97, 98, 99, 100, 101, 102, 103, 51]⟩, ⟨#[102, 50]⟩, 0⟩, ⟨⟨#[97, 98, 99, 100, 101, 102, 103, 104]⟩, ⟨#[102, 51]⟩, 0⟩]
theorem nfL_dr : ∀ y ∈ nfL, DrActr y := by
  intro y hy
  simp only [nfL, List.mem_cons, List.not_mem_nil, or_false] at hy
  rcases hy with rfl | rfl | rfl <;> exact ⟨by decide, by decide, by decide, by decide⟩
theorem nf_new (w : World) : Sl actrS (w.alloc (.cells (actrS.cells nfL).toArray 40)) (.slice (some ⟨w.heap.size, 0, none⟩) 3 3) nfL := by
  refine ⟨_, 3, rfl, Nat.le_refl _, by simp [maxLen], .inr ⟨w.heap.size, 0, rfl, by simp, fun j u hu => ?_⟩⟩
  rw [Nat.zero_add, World.cell?_alloc_new]
  simpa using hu
set_option maxHeartbeats 1600000 in
theorem draw_NameFor (v : Value) (l : List UInt8) (w : World) (h : Sl byteS w v l) :
    Calls Tryd.prog 10 #[v] w (DrawNamed w) := by
  go_enter Tryd.func10, Tryd.ntmps10
  go_wp2_with fail
  refine (open_any v l _ h).mono ?_
  rintro e w1 ⟨rfl, hR, hB⟩
  go_wp2_with fail
  refine (actors_any _ _ _ _ hR (by omega) (by omega) (by omega)).mono ?_
  rintro e w2 ⟨u, o, rfl, h1, h2, hown, hR2, hE2⟩
  go_wp2_with fail
  refine (pick_any _ _ _ _ hR2 (by omega) (by omega)).mono ?_
  rintro e w3 ⟨k, rfl, hk, hR3, hE3⟩
  have hrb : w.heap.size < w1.heap.size := hR.lt
  by_cases hk0 : k = 0
  · have dk : ((k : Int) == 0) = true := by simp [hk0]
    clear hk hk0 hown
    go_wp2_with fail
    have hsl : Sl actrS (w3.alloc (.cells #[.string ⟨#[97, 98, 99, 100, 101, 102, 103, 50]⟩, .string ⟨#[102, 49]⟩, .int .i64 0, .string ⟨#[97, 98, 99, 100, 101, 102, 103, 51]⟩, .string ⟨#[102, 50]⟩, .int .i64 0, .string ⟨#[97, 98, 99, 100, 101, 102, 103, 104]⟩, .string ⟨#[102, 51]⟩, .int .i64 0] 40)) (.slice (some ⟨w3.heap.size, 0, none⟩) 3 3) nfL := nf_new w3
    have hR4 : Rd (w3.alloc (.cells #[.string ⟨#[97, 98, 99, 100, 101, 102, 103, 50]⟩, .string ⟨#[102, 49]⟩, .int .i64 0, .string ⟨#[97, 98, 99, 100, 101, 102, 103, 51]⟩, .string ⟨#[102, 50]⟩, .int .i64 0, .string ⟨#[97, 98, 99, 100, 101, 102, 103, 104]⟩, .string ⟨#[102, 51]⟩, .int .i64 0] 40)) w.heap.size _ := hR3.below (below1 _ _)
    have hE4 : Ex (· = w.heap.size) w1 (w3.alloc (.cells #[.string ⟨#[97, 98, 99, 100, 101, 102, 103, 50]⟩, .string ⟨#[102, 49]⟩, .int .i64 0, .string ⟨#[97, 98, 99, 100, 101, 102, 103, 51]⟩, .string ⟨#[102, 50]⟩, .int .i64 0, .string ⟨#[97, 98, 99, 100, 101, 102, 103, 104]⟩, .string ⟨#[102, 51]⟩, .int .i64 0] 40)) := (hE2.trans hE3).alloc _
    have hg : w.heap.size < w3.heap.size := Nat.lt_of_lt_of_le hrb (hE2.trans hE3).size
    generalize (w3.alloc (.cells #[.string ⟨#[97, 98, 99, 100, 101, 102, 103, 50]⟩, .string ⟨#[102, 49]⟩, .int .i64 0, .string ⟨#[97, 98, 99, 100, 101, 102, 103, 51]⟩, .string ⟨#[102, 50]⟩, .int .i64 0, .string ⟨#[97, 98, 99, 100, 101, 102, 103, 104]⟩, .string ⟨#[102, 51]⟩, .int .i64 0] 40)) = w4 at hsl hR4 hE4 ⊢
    generalize w3.heap.size = g at hsl hg ⊢
    obtain ⟨rb, hrb⟩ : ∃ rb, Hid (rb = w.heap.size) := ⟨_, rfl⟩
    rw [← hrb.out] at hR4 hE4 hg ⊢
    clear hR hR2 hR3 hE2 hE3 dk
    obtain ⟨p, hp, hR⟩ : ∃ p, p ≤ 990000 ∧ Rd w4 rb p := ⟨_, by omega, hR4⟩
    have hrN := hR.lt
    clear hR4
    refine wp_region_typed (fun i => (([sIs _ (.slice (some ⟨g, 0, none⟩) 3 3), sSl 3 [sStr _ 8], sIs _ (.pointer (some ⟨rb, 0, none⟩)), sInt _ (0) (2), sRef [sStr _ 8], sStr _ 8, sIs _ (.slice (some ⟨g, 0, none⟩) 3 3), sStr _ 8] : List (STy (· = rb))).getD i (sAny _)).T) (fun i => ([0, 0, 0, 1, 0, 0, 0, 0] : List Nat).getD i 0) (fun B w' => Rd w' rb (p + B) ∧ Ex (· = rb) w4 w') (Ex (· = rb)) 1 (by kernel_rfl) 26 rfl (by kernel_rfl) (by decide) ⟨hR.drew, (Ex.refl _ _).drew⟩ (fun i u u' v hx hv => STy.st _ _ _ _ hx hv) ?_ ?_
    · refine ⟨?_, ?_, ?_, ?_, ?_, ?_, ?_, ?_, trivial⟩
      · intro B a' w' hB hW hF
        have h5 : a'.tmps[5]? = some (.slice (some ⟨g, 0, none⟩) 3 3) := (hF.at 5 (by kernel_rfl)).trans rfl
        refine wpOp_step rfl (fun K hK => ?_)
        go_simp
        exact hK _ _ ⟨_, rfl, Ex.refl _ _, rfl, hW⟩
      · intro B a' w' hB hW hF
        refine wpOp_step rfl (fun K hK => ?_)
        go_simp
        exact hK _ _ ⟨_, rfl, (Ex.refl _ _).alloc _, sSl_new (cs := [[(Value.string { data := #[97, 98, 99, 100, 101, 102, 103, 104] })], [(Value.string { data := #[97, 98, 99, 100, 101, 102, 103, 120] })], [(Value.string { data := #[97, 98, 99, 100, 101, 102, 103, 50] })]]) (by intro h; have h2 := hW.2.size; (try dsimp only at h); omega) rfl ⟨⟨⟨_, rfl, by decide⟩, trivial⟩, ⟨⟨_, rfl, by decide⟩, trivial⟩, ⟨⟨_, rfl, by decide⟩, trivial⟩, trivial⟩ (heap_alloc_new w' _), ⟨hW.1.below (below1 _ _), hW.2.alloc _⟩⟩
      · intro B a' w' hB hW hF
        have h4 : a'.tmps[4]? = some (.pointer (some ⟨rb, 0, none⟩)) := (hF.at 4 (by kernel_rfl)).trans rfl
        refine wpOp_step rfl (fun K hK => ?_)
        go_simp
        exact hK _ _ ⟨_, rfl, Ex.refl _ _, rfl, hW⟩
      · intro B a' w' hB hW hF
        obtain ⟨_, h19, rfl⟩ := hF.val ⟨2, .data⟩ (by simp) rfl _ rfl
        refine wpOp_step rfl (fun K hK => ?_)
        go_simp
        refine (pick_any rb _ _ _ hW.1 (by omega) (by omega)).mono ?_
        rintro e w'' ⟨k, rfl, hk, hR', hE'⟩
        exact hK _ _ ⟨_, rfl, hE', ⟨_, rfl, by omega, by omega⟩, ⟨hR', hW.2.trans hE'⟩⟩
      · intro B a' w' hB hW hF
        obtain ⟨_, h18, b18, rfl, c18⟩ := hF.val ⟨1, .data⟩ (by simp) rfl _ rfl
        obtain ⟨_, h20, k20, rfl, a20, b20⟩ := hF.val ⟨3, .data⟩ (by simp) rfl _ rfl
        have i1 : k20 < 3 := by omega
        refine wpOp_step rfl (fun K hK => ?_)
        go_simp
        exact hK _ _ ⟨_, rfl, Ex.refl _ _, ⟨_, _, rfl, by simpa using c18 k20.toNat (by omega)⟩, hW⟩
      · intro B a' w' hB hW hF
        obtain ⟨_, h21, b21, o21, rfl, x21, c21⟩ := hF.val ⟨4, .data⟩ (by simp) rfl _ rfl
        obtain ⟨u0, hu0, tu0⟩ := c21 0 _ rfl
        have hv0 : w'.cell? ⟨b21, o21, none⟩ = some u0 := by simpa using hu0
        refine wpOp_step rfl (fun K hK => ?_)
        go_simp
        exact hK _ _ ⟨_, rfl, Ex.refl _ _, tu0, hW⟩
      · intro B a' w' hB hW hF
        obtain ⟨_, h17, rfl⟩ := hF.val ⟨0, .data⟩ (by simp) rfl _ rfl
        refine wpOp_step rfl (fun K hK => ?_)
        go_simp
        exact hK _ _ ⟨_, rfl, Ex.refl _ _, rfl, hW⟩
      · intro B a' w' hB hW hF
        obtain ⟨_, h22, s22, rfl, z22⟩ := hF.val ⟨5, .data⟩ (by simp) rfl _ rfl
        refine wpOp_step rfl (fun K hK => ?_)
        go_simp
        exact hK _ _ ⟨_, rfl, Ex.refl _ _, ⟨_, rfl, z22⟩, hW⟩
    · intro a' w' hL hW
      obtain ⟨_, h2', rfl⟩ := hL.val 6 _ rfl
      obtain ⟨_, h3', s3, rfl, z3⟩ := hL.val 7 _ rfl
      have hd := hL.defers
      have hsl5 : Sl actrS w' (.slice (some ⟨g, 0, none⟩) 3 3) nfL := by
        obtain ⟨a, cap, hv, q1, q2, q3⟩ := hsl
        injection hv with v1 v2 v3
        subst v1; subst v3
        refine ⟨_, 3, rfl, q1, q2, ?_⟩
        rcases q3 with q3 | ⟨b, off, hb, hlt, hc⟩
        · exact .inl q3
        · cases hb
          exact .inr ⟨g, 0, rfl, Nat.lt_of_lt_of_le hlt hW.2.size, fun j u hu => hW.2.cell (fun e => by have e2 : g = rb := e; omega) (hc j u hu)⟩
      clear hL
      go_wp2
      refine bodyPost_ret (results_tmp2 rfl _ _ _) (hd.trans rfl) ?_
      rw [getD_of h2', getD_of h3']
      have hE5 := hE4.trans hW.2
      rw [hrb.out] at hE5
      exact ⟨_, nfL, s3, rfl, by omega, by decide, nfL_dr, hsl5, below_open hB hE5⟩
  · have dk : ((k : Int) == 0) = false := by simp; omega
    clear hk
    go_wp2_with fail
    refine (word_any _ _ _ _ hR3 (by omega) (by omega) (by omega)).mono ?_
    rintro e w4 ⟨_, rfl, ⟨s, rfl, hs⟩, hR4, hE4⟩
    have hE := hE3.trans hE4
    have hown3 := own_ex hown hR.lt hE
    go_wp2_with fail
    exact bodyPost_ret (v := .tuple #[u, .string s]) (by simp [results, Tryd.results10, go_sem]) rfl ⟨u, o, s, rfl, hs, h1, h2, Sl.of_owns hown3, below_open hB (hE2.trans hE)⟩
end Go.Proofs.YtipalcmfhmmdiaaDoor
