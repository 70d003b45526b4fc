/- The walk of the reference's drawing function for the law of ReadFields. No condition. -/
import Derived.Test.YtemjonibpachbaaDoorDrawFl
import Derived.Test.YtemjonibpachbaaDoorFldT
namespace Go.Proofs.YtemjonibpachbaaDoor
open Go.RowKit

def DrawTxt (w : World) (e : Ending) (w' : World) : Prop := ∃ s : ByteArray, e = .returned (.string s) ∧ s.size ≤ 97 ∧ Below w.heap.size w w'
theorem text_small {o x : List Fld} (h : SortRel o x) : (fieldsT x).size ≤ 96 := by
  obtain ⟨h6, h8⟩ := h.small
  have := fieldsL_len h8 x.length (Nat.le_refl _)
  rw [List.take_length] at this
  show (fieldsL x).toArray.size ≤ 96
  rw [List.size_toArray]; omega
set_option maxHeartbeats 1600000 in
theorem draw_ReadFields (v : Value) (l : List UInt8) (w : World) (h : Sl byteS w v l) :
    Calls Tryd.prog 14 #[v] w (DrawTxt w) := by
  go_enter Tryd.func14, Tryd.ntmps14
  go_wp2_with fail
  refine (open_any v l _ h).mono ?_
  rintro e w1 ⟨rfl, hR, hB⟩
  go_wp2_with fail
  refine (fields_any _ _ _ _ hR (by omega) (by omega) (by omega)).mono ?_
  rintro e w2 ⟨u, o, rfl, h1, h2, hown, hR2, hE2⟩
  go_wp2_with fail
  refine (s_FieldsText _ o _ (Sl.of_owns hown) (dr_sizes h2)).mono ?_
  rintro e w3 ⟨x, hx, rfl, hb3⟩
  have hs := text_small hx
  generalize fieldsT x = S at hs ⊢
  have hR3 := hR2.below hb3
  have hE3 := hE2.trans (Ex.of_below hb3)
  clear hx hown hR2 hE2 hb3
  go_wp2_with fail
  refine (odd_any _ _ _ _ hR3 (by omega) (by omega) (by omega)).mono ?_
  rintro e w4 ⟨_, rfl, ⟨b, rfl⟩, hR4, hE4⟩
  have hE := hE3.trans hE4
  cases b
  · go_wp2_with fail
    go_ret
    exact ⟨S, rfl, by omega, below_open hB hE⟩
  · obtain ⟨rb, hrb⟩ : ∃ rb, Hid (rb = w.heap.size) := ⟨_, rfl⟩
    rw [← hrb.out] at hR4 hE ⊢
    clear hR3 hE3 hE4
    obtain ⟨p, hp, hR⟩ : ∃ p, p ≤ 990000 ∧ Rd w4 rb p := ⟨_, by omega, hR4⟩
    have hrN := hR.lt
    clear hR4
    go_upto_region 4 with (fail)
    refine wp_region_typed_text (fun i => (([sStr _ 96, sStr _ 97, sSl 9 [sStr _ 97], sIs _ (.pointer (some ⟨rb, 0, none⟩)), sInt _ (0) (8), sRef [sStr _ 97], sStr _ 97, sStr _ 97] : List (STy (· = rb))).getD i (sAny _)).T) (fun i => ([0, 0, 0, 0, 1, 0, 0, 0] : List Nat).getD i 0) (fun B w' => Rd w' rb (p + B) ∧ Ex (· = rb) w4 w') (Ex (· = rb)) 1 20 rfl (by kernel_rfl) (by decide) ⟨hR, Ex.refl _ _⟩ (fun i u u' v hx hv => STy.st _ _ _ _ hx hv) ?_ ?_
    · refine ⟨?_, ?_, ?_, ?_, ?_, ?_, ?_, ?_, trivial⟩
      · intro B a' w' hB hW hF
        have h4 : a'.tmps[4]? = some (.string S) := (hF.at 4 (by kernel_rfl)).trans rfl
        refine wpOp_step rfl (fun K hK => ?_)
        go_simp
        exact hK _ _ ⟨_, rfl, Ex.refl _ _, ⟨_, rfl, by first | decide | omega⟩, hW⟩
      · intro B a' w' hB hW hF
        obtain ⟨_, h12, s12, rfl, z12⟩ := hF.val ⟨0, .data⟩ (by simp) rfl _ rfl
        have nb : ¬ 9223372036854775807 < s12.size + 1 := by omega
        refine wpOp_step rfl (fun K hK => ?_)
        go_simp
        exact hK _ _ ⟨_, rfl, Ex.refl _ _, ⟨_, rfl, by rw [ByteArray.size_append, show ({ data := #[59] } : ByteArray).size = 1 from rfl]; omega⟩, hW⟩
      · intro B a' w' hB hW hF
        obtain ⟨_, h13, s13, rfl, z13⟩ := hF.val ⟨1, .data⟩ (by simp) rfl _ rfl
        refine wpOp_step rfl (fun K hK => ?_)
        go_simp
        exact hK _ _ ⟨_, rfl, (Ex.refl _ _).alloc _, sSl_new (cs := [[(Value.string { data := #[97] })], [(Value.string { data := #[61, 55] })], [(Value.string { data := #[98, 61, 49, 59, 97, 61, 50] })], [(Value.string { data := #[97, 61, 49, 59, 97, 61, 50] })], [(Value.string { data := #[97, 61, 49, 59] })], [(Value.string { data := #[97, 61, 48, 49] })], [(Value.string { data := #[65, 61, 49] })], [(Value.string { data := #[97, 61] })], [.string s13]]) (by intro h; have h2 := hW.2.size; (try dsimp only at h); omega) rfl ⟨⟨⟨_, rfl, by first | decide | omega⟩, trivial⟩, ⟨⟨_, rfl, by first | decide | omega⟩, trivial⟩, ⟨⟨_, rfl, by first | decide | omega⟩, trivial⟩, ⟨⟨_, rfl, by first | decide | omega⟩, trivial⟩, ⟨⟨_, rfl, by first | decide | omega⟩, trivial⟩, ⟨⟨_, rfl, by first | decide | omega⟩, trivial⟩, ⟨⟨_, rfl, by first | decide | omega⟩, trivial⟩, ⟨⟨_, rfl, by first | decide | omega⟩, trivial⟩, ⟨⟨_, rfl, by omega⟩, trivial⟩, trivial⟩ (heap_alloc_new w' _), ⟨hW.1.below (below1 _ _), hW.2.alloc _⟩⟩
      · intro B a' w' hB hW hF
        have h3 : a'.tmps[3]? = some (.pointer (some ⟨rb, 0, none⟩)) := (hF.at 3 (by kernel_rfl)).trans rfl
        refine wpOp_step rfl (fun K hK => ?_)
        go_simp
        exact hK _ _ ⟨_, rfl, Ex.refl _ _, rfl, hW⟩
      · intro B a' w' hB hW hF
        obtain ⟨_, h15, rfl⟩ := hF.val ⟨3, .data⟩ (by simp) rfl _ rfl
        refine wpOp_step rfl (fun K hK => ?_)
        go_simp
        refine (pick_any rb _ _ _ hW.1 (by omega) (by omega)).mono ?_
        rintro e w'' ⟨k, rfl, hk, hR', hE'⟩
        exact hK _ _ ⟨_, rfl, hE', ⟨_, rfl, by omega, by omega⟩, ⟨hR', hW.2.trans hE'⟩⟩
      · intro B a' w' hB hW hF
        obtain ⟨_, h14, b14, rfl, c14⟩ := hF.val ⟨2, .data⟩ (by simp) rfl _ rfl
        obtain ⟨_, h16, k16, rfl, a16, b16⟩ := hF.val ⟨4, .data⟩ (by simp) rfl _ rfl
        have i1 : k16 < 9 := by omega
        refine wpOp_step rfl (fun K hK => ?_)
        go_simp
        exact hK _ _ ⟨_, rfl, Ex.refl _ _, ⟨_, _, rfl, by simpa using c14 k16.toNat (by omega)⟩, hW⟩
      · intro B a' w' hB hW hF
        obtain ⟨_, h17, b17, o17, rfl, x17, c17⟩ := hF.val ⟨5, .data⟩ (by simp) rfl _ rfl
        obtain ⟨u0, hu0, tu0⟩ := c17 0 _ rfl
        have hv0 : w'.cell? ⟨b17, o17, none⟩ = some u0 := by simpa using hu0
        refine wpOp_step rfl (fun K hK => ?_)
        go_simp
        exact hK _ _ ⟨_, rfl, Ex.refl _ _, tu0, hW⟩
      · intro B a' w' hB hW hF
        obtain ⟨_, h18, s18, rfl, z18⟩ := hF.val ⟨6, .data⟩ (by simp) rfl _ rfl
        refine wpOp_step rfl (fun K hK => ?_)
        go_simp
        exact hK _ _ ⟨_, rfl, Ex.refl _ _, ⟨_, rfl, z18⟩, hW⟩
    · intro a' w' hL hW
      obtain ⟨_, h2', s2, rfl, z2⟩ := hL.val 7 _ rfl
      have hd := hL.defers
      clear hL
      go_wp2
      refine bodyPost_ret (results_tmp rfl _ _ _) (hd.trans rfl) ?_
      rw [getD_of h2']
      have hE5 := hE.trans hW.2
      rw [hrb.out] at hE5
      exact ⟨s2, rfl, by omega, below_open hB hE5⟩
end Go.Proofs.YtemjonibpachbaaDoor
