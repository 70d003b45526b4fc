/- The walk of the reference's drawing function for ReadActivity's law. No condition. -/
import Derived.Test.YtackffegdmohiaaDoorDrawAd
import Derived.Test.YtackffegdmohiaaDoorRdA
namespace Go.Proofs.YtackffegdmohiaaDoor
open Go.RowKit

def DrawTxt (w : World) (e : Ending) (w' : World) : Prop := ∃ s : ByteArray, e = .returned (.string s) ∧ s.size ≤ 43 ∧ Below w.heap.size w w'
set_option maxHeartbeats 1600000 in
theorem draw_ReadActivity (v : Value) (l : List UInt8) (w : World) (h : Sl byteS w v l) :
    Calls Tryd.prog 18 #[v] w (DrawTxt w) := by
  go_enter Tryd.func18, Tryd.ntmps18
  go_wp2_with fail
  refine (open_any v l _ h).mono ?_
  rintro e w1 ⟨rfl, hR, hB⟩
  go_wp2_with fail
  refine (activity_five _ _ _ _ hR (by omega) (by omega) (by omega)).mono ?_
  rintro e w2 ⟨k, m, n, g, t0, rfl, ⟨_, _, z1, z2, z3⟩, hR2, hE2⟩
  have hz := actT_size (k := k) (m := m) (n := n) (h := g) (t := t0)
  go_wp2_with fail
  refine (s_ActivityText k m n g t0 _ (by omega) (by omega) (by omega)).mono ?_
  rintro e w3 ⟨rfl, hb3⟩
  have hR3 := hR2.below hb3
  have hE3 := hE2.trans (Ex.of_below hb3)
  generalize actT k m n g t0 = t at *
  clear hR hR2 hE2 hb3 z1 z2 z3
  go_wp2_with fail
  refine (odd_any _ _ _ _ hR3 (by omega) (by omega) (by omega)).mono ?_
  rintro e w4 ⟨_, rfl, ⟨b, rfl⟩, hR4, hE4⟩
  have hE := hE3.trans hE4
  clear hR3 hE3 hE4
  cases b
  · go_wp2
    go_ret
    exact ⟨t, rfl, by omega, below_open hB hE⟩
  · obtain ⟨rb, hrb⟩ : ∃ rb, Hid (rb = w.heap.size) := ⟨_, rfl⟩
    rw [← hrb.out] at hR4 hE ⊢
    obtain ⟨p, hp, hR⟩ : ∃ p, p ≤ 990000 ∧ Rd w4 rb p := ⟨_, by omega, hR4⟩
    have hrN := hR.lt
    clear hR4
    go_upto_region 4 with (fail)
    refine wp_region_typed_text (fun i => (([sStr _ 41, sStr _ 43, sStr _ 41, sStr _ 42, sSl 10 [sStr _ 43], sIs _ (.pointer (some ⟨rb, 0, none⟩)), sInt _ (0) (9), sRef [sStr _ 43], sStr _ 43, sStr _ 43] : List (STy (· = rb))).getD i (sAny _)).T) (fun i => ([0, 0, 0, 0, 0, 0, 1, 0, 0, 0] : List Nat).getD i 0) (fun B w' => Rd w' rb (p + B) ∧ Ex (· = rb) w4 w') (Ex (· = rb)) 1 22 rfl (by kernel_rfl) (by decide) ⟨hR, Ex.refl _ _⟩ (fun i u u' v hx hv => STy.st _ _ _ _ hx hv) ?_ ?_
    · refine ⟨?_, ?_, ?_, ?_, ?_, ?_, ?_, ?_, ?_, ?_, trivial⟩
      · intro B a' w' hB hW hF
        have h4 : a'.tmps[4]? = some (.string t) := (hF.at 4 (by kernel_rfl)).trans rfl
        refine wpOp_step rfl (fun K hK => ?_)
        go_simp
        exact hK _ _ ⟨_, rfl, Ex.refl _ _, ⟨_, rfl, hz⟩, hW⟩
      · intro B a' w' hB hW hF
        obtain ⟨_, h12, s12, rfl, z12⟩ := hF.val ⟨0, .data⟩ (by simp) rfl _ rfl
        have nb : ¬ 9223372036854775807 < s12.size + 2 := by omega
        refine wpOp_step rfl (fun K hK => ?_)
        go_simp
        exact hK _ _ ⟨_, rfl, Ex.refl _ _, ⟨_, rfl, by rw [ByteArray.size_append, show ({ data := #[32, 120] } : ByteArray).size = 2 from rfl]; omega⟩, hW⟩
      · intro B a' w' hB hW hF
        have h4 : a'.tmps[4]? = some (.string t) := (hF.at 4 (by kernel_rfl)).trans rfl
        refine wpOp_step rfl (fun K hK => ?_)
        go_simp
        exact hK _ _ ⟨_, rfl, Ex.refl _ _, ⟨_, rfl, hz⟩, hW⟩
      · intro B a' w' hB hW hF
        obtain ⟨_, h14, s14, rfl, z14⟩ := hF.val ⟨2, .data⟩ (by simp) rfl _ rfl
        have nb : ¬ 9223372036854775807 < s14.size + 1 := by omega
        refine wpOp_step rfl (fun K hK => ?_)
        go_simp
        exact hK _ _ ⟨_, rfl, Ex.refl _ _, ⟨_, rfl, by rw [ByteArray.size_append, show ({ data := #[32] } : ByteArray).size = 1 from rfl]; omega⟩, hW⟩
      · intro B a' w' hB hW hF
        obtain ⟨_, h13, s13, rfl, z13⟩ := hF.val ⟨1, .data⟩ (by simp) rfl _ rfl
        obtain ⟨_, h15, s15, rfl, z15⟩ := hF.val ⟨3, .data⟩ (by simp) rfl _ rfl
        refine wpOp_step rfl (fun K hK => ?_)
        go_simp
        exact hK _ _ ⟨_, rfl, (Ex.refl _ _).alloc _, sSl_new (cs := [[(Value.string { data := #[] })], [(Value.string { data := #[102, 111, 108, 108, 111, 119] })], [(Value.string { data := #[102, 111, 108, 108, 111, 119, 32, 49, 48, 32, 64, 97, 110, 110, 64, 114, 101, 100] })], [(Value.string { data := #[100, 97, 110, 99, 101, 32, 49, 48, 32, 64, 97, 110, 110, 64, 114, 101, 100, 32, 110, 101, 119, 115] })], [(Value.string { data := #[102, 111, 108, 108, 111, 119, 32, 48, 49, 48, 32, 64, 97, 110, 110, 64, 114, 101, 100, 32, 110, 101, 119, 115] })], [(Value.string { data := #[102, 111, 108, 108, 111, 119, 32, 49, 48, 32, 97, 110, 110, 64, 114, 101, 100, 32, 110, 101, 119, 115] })], [(Value.string { data := #[102, 111, 108, 108, 111, 119, 32, 49, 48, 32, 64, 97, 110, 110, 64, 114, 101, 100, 32, 78, 101, 119, 115] })], [(Value.string { data := #[102, 111, 108, 108, 111, 119, 32, 32, 49, 48, 32, 64, 97, 110, 110, 64, 114, 101, 100, 32, 110, 101, 119, 115] })], [.string s13], [.string s15]]) (by intro h; have h2 := hW.2.size; (try dsimp only at h); omega) rfl ⟨⟨⟨_, rfl, by first | decide | omega⟩, trivial⟩, ⟨⟨_, rfl, by first | decide | omega⟩, trivial⟩, ⟨⟨_, rfl, by first | decide | omega⟩, trivial⟩, ⟨⟨_, rfl, by first | decide | omega⟩, trivial⟩, ⟨⟨_, rfl, by first | decide | omega⟩, trivial⟩, ⟨⟨_, rfl, by first | decide | omega⟩, trivial⟩, ⟨⟨_, rfl, by first | decide | omega⟩, trivial⟩, ⟨⟨_, rfl, by first | decide | omega⟩, trivial⟩, ⟨⟨_, rfl, by omega⟩, trivial⟩, ⟨⟨_, rfl, by omega⟩, trivial⟩, trivial⟩ (heap_alloc_new w' _), ⟨hW.1.below (below1 _ _), hW.2.alloc _⟩⟩
      · intro B a' w' hB hW hF
        have h3 : a'.tmps[3]? = some (.pointer (some ⟨rb, 0, none⟩)) := (hF.at 3 (by kernel_rfl)).trans rfl
        refine wpOp_step rfl (fun K hK => ?_)
        go_simp
        exact hK _ _ ⟨_, rfl, Ex.refl _ _, rfl, hW⟩
      · intro B a' w' hB hW hF
        obtain ⟨_, h17, rfl⟩ := hF.val ⟨5, .data⟩ (by simp) rfl _ rfl
        refine wpOp_step rfl (fun K hK => ?_)
        go_simp
        refine (pick_any rb _ _ _ hW.1 (by omega) (by omega)).mono ?_
        rintro e w'' ⟨k, rfl, hk, hR', hE'⟩
        exact hK _ _ ⟨_, rfl, hE', ⟨_, rfl, by omega, by omega⟩, ⟨hR', hW.2.trans hE'⟩⟩
      · intro B a' w' hB hW hF
        obtain ⟨_, h16, b16, rfl, c16⟩ := hF.val ⟨4, .data⟩ (by simp) rfl _ rfl
        obtain ⟨_, h18, k18, rfl, a18, b18⟩ := hF.val ⟨6, .data⟩ (by simp) rfl _ rfl
        have i1 : k18 < 10 := by omega
        refine wpOp_step rfl (fun K hK => ?_)
        go_simp
        exact hK _ _ ⟨_, rfl, Ex.refl _ _, ⟨_, _, rfl, by simpa using c16 k18.toNat (by omega)⟩, hW⟩
      · intro B a' w' hB hW hF
        obtain ⟨_, h19, b19, o19, rfl, x19, c19⟩ := hF.val ⟨7, .data⟩ (by simp) rfl _ rfl
        obtain ⟨u0, hu0, tu0⟩ := c19 0 _ rfl
        have hv0 : w'.cell? ⟨b19, o19, none⟩ = some u0 := by simpa using hu0
        refine wpOp_step rfl (fun K hK => ?_)
        go_simp
        exact hK _ _ ⟨_, rfl, Ex.refl _ _, tu0, hW⟩
      · intro B a' w' hB hW hF
        obtain ⟨_, h20, s20, rfl, z20⟩ := hF.val ⟨8, .data⟩ (by simp) rfl _ rfl
        refine wpOp_step rfl (fun K hK => ?_)
        go_simp
        exact hK _ _ ⟨_, rfl, Ex.refl _ _, ⟨_, rfl, z20⟩, hW⟩
    · intro a' w' hL hW
      obtain ⟨_, h2, s2, rfl, z2⟩ := hL.val 9 _ rfl
      have hd := hL.defers
      clear hL
      go_wp2
      refine bodyPost_ret (results_tmp rfl _ _ _) (hd.trans rfl) ?_
      rw [getD_of h2]
      have hx := hE.trans hW.2
      rw [hrb.out] at hx
      exact ⟨_, rfl, z2, below_open hB hx⟩
end Go.Proofs.YtackffegdmohiaaDoor
