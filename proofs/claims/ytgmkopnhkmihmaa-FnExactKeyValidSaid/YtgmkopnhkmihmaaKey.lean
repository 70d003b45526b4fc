/- The walks of KeyValid and KeyModulus, of the program and of the reference. No condition. -/
import Derived.Test.YtgmkopnhkmihmaaNum
import Derived.Test.YtgmkopnhkmihmaaMem
import Derived.Test.YtgmkopnhkmihmaaTypes
import Derived.WalkSpells
import Derived.Deep.RegionHeld3
namespace Go.Proofs.Ytgmkopnhkmihmaa
open Go.RowKit

/-- What a key's parts must be, but for the inverse. -/
def KeyOk (o t e : Int) : Prop := 11 ≤ o ∧ o ≤ 997 ∧ 11 ≤ t ∧ t ≤ 997 ∧ isPrimeM o = true ∧ isPrimeM t = true ∧ o ≠ t ∧ 3 ≤ e ∧ e ≤ 1000
/-- What KeyValid says. -/
def KeyRel (o t e : Int) (b : Bool) : Prop := b = true ↔ KeyOk o t e ∧ ∃ v, 0 ≤ v ∧ IsInv (e % ((o - 1) * (t - 1))) ((o - 1) * (t - 1)) v
theorem KeyRel.unique {o t e : Int} {a b : Bool} (h : KeyRel o t e a) (k : KeyRel o t e b) : a = b := by
  exact Bool.eq_iff_iff.2 (Iff.trans h (Iff.symm k))
theorem KeyRel.no {o t e : Int} (h : ¬ KeyOk o t e) : KeyRel o t e false := by simp [KeyRel, h]
theorem KeyRel.of {o t e v : Int} (h : KeyOk o t e) (hv : IsInv (e % ((o - 1) * (t - 1))) ((o - 1) * (t - 1)) v) : KeyRel o t e (decide (0 ≤ v)) := by
  unfold KeyRel
  rw [decide_eq_true_eq]
  exact ⟨fun h0 => ⟨h, v, h0, hv⟩, fun ⟨_, u, h0, hu⟩ => by rw [hv.unique hu]; exact h0⟩
theorem round_bd {o t : Int} (h1 : 11 ≤ o) (h2 : o ≤ 997) (h3 : 11 ≤ t) (h4 : t ≤ 997) : 100 ≤ (o - 1) * (t - 1) ∧ (o - 1) * (t - 1) ≤ 992016 := by
  have a := Int.mul_le_mul (show 10 ≤ o - 1 by omega) (show 10 ≤ t - 1 by omega) (by omega) (by omega)
  have b := Int.mul_le_mul (show o - 1 ≤ 996 by omega) (show t - 1 ≤ 996 by omega) (by omega) (by omega)
  omega
theorem prod_bd {o t : Int} (h1 : 11 ≤ o) (h2 : o ≤ 997) (h3 : 11 ≤ t) (h4 : t ≤ 997) : 121 ≤ o * t ∧ o * t ≤ 994009 := by
  have a := Int.mul_le_mul (show 11 ≤ o by omega) (show 11 ≤ t by omega) (by omega) (by omega)
  have b := Int.mul_le_mul (show o ≤ 997 by omega) (show t ≤ 997 by omega) (by omega) (by omega)
  omega

theorem s_l14Round (o t e : Int) (w : World) (h1 : 11 ≤ o) (h2 : o ≤ 997) (h3 : 11 ≤ t) (h4 : t ≤ 997) :
    Calls Try.prog 40 #[.agg #[.int .i64 o, .int .i64 t, .int .i64 e]] w fun x w' => x = .returned (.int .i64 ((o - 1) * (t - 1))) ∧ Below w.heap.size w w' := by
  obtain ⟨b1, b2⟩ := round_bd h1 h2 h3 h4
  go_enter Try.func40, Try.ntmps40
  go_wp2
  go_ret
  exact ⟨rfl, (Below.refl _ _).alloc (Nat.le_refl _) _⟩

theorem i_inverseExponent (o t e : Int) (w : World) (h1 : 11 ≤ o) (h2 : o ≤ 997) (h3 : 11 ≤ t) (h4 : t ≤ 997) (h5 : 3 ≤ e) (h6 : e ≤ 1000) :
    Calls Try.prog 41 #[.agg #[.int .i64 o, .int .i64 t, .int .i64 e]] w fun x w' => ∃ v, x = .returned (.int .i64 v) ∧ IsInv (e % ((o - 1) * (t - 1))) ((o - 1) * (t - 1)) v ∧ Below w.heap.size w w' := by
  obtain ⟨b1, b2⟩ := round_bd h1 h2 h3 h4
  go_enter Try.func41, Try.ntmps41
  go_wp2_with (first | (go_at_call 22; refine (i_InverseMod _ _ _).mono ?_; rintro x w' ⟨v, rfl, hv, rfl⟩))
  go_ret
  exact ⟨v, rfl, hv, (Below.refl _ _).alloc (Nat.le_refl _) _⟩

set_option maxHeartbeats 1000000 in
theorem s_KeyValid (o t e : Int) (w : World) :
    Calls Try.prog 31 #[.agg #[.int .i64 o, .int .i64 t, .int .i64 e]] w (RetBool (KeyRel o t e) w) := by
  by_cases hk : KeyOk o t e
  · have HK : Hid (KeyOk o t e) := hk
    obtain ⟨h1, h2, h3, h4, h5, h6, h7, h8, h9⟩ := hk
    have H5 : Hid (isPrimeM o = true) := h5
    have H6 : Hid (isPrimeM t = true) := h6
    have he : (o == t) = false := by simpa using h7
    obtain ⟨b1, b2⟩ := round_bd h1 h2 h3 h4
    have hz : ¬ (o - 1) * (t - 1) = 0 := by omega
    clear h5 h6 h7
    go_enter Try.func31, Try.ntmps31
    go_wp2_with (first
      | (go_at_call 17; refine (s_IsPrime _ _).mono ?_; rintro x w' ⟨rfl, rfl⟩; first | rw [H5.out] | rw [H6.out])
      | (go_at_call 36; go_in))
    go_region_held3 (fun w' => Below w.heap.size w w' ∧ w'.cell? ⟨w.heap.size, 0, none⟩ = some (.int .i64 o) ∧ w'.cell? ⟨w.heap.size, 1, none⟩ = some (.int .i64 t) ∧ w'.cell? ⟨w.heap.size, 2, none⟩ = some (.int .i64 e))
      (first | assumption | (refine ⟨((Below.refl _ _).alloc (Nat.le_refl _) _).drew, ?_⟩; go_keep) | (go_split_ands; refine ⟨below_trans (by assumption) hb, ?_, ?_, ?_⟩ <;> (exact keep_cell hb (by assumption))))
      (first
       | (go_at_call 40; refine (s_l14Round o t e _ h1 h2 h3 h4).mono ?_; rintro x w' ⟨rfl, hb⟩)
       | (go_at_call 21; refine (s_InverseMod _ _ _).mono ?_; rintro x w' ⟨v, rfl, hv, rfl⟩))
    all_goals go_wp2
    all_goals go_ret
    all_goals (rw [Int.tmod_eq_emod_of_nonneg (by omega)] at hv)
    all_goals exact RetBool.mk (KeyRel.of HK.out hv) (by go_split_ands; assumption)
  · have HN : Hid (KeyRel o t e false) := KeyRel.no hk
    have HK : Hid (¬ KeyOk o t e) := hk
    clear hk
    go_enter Try.func31, Try.ntmps31
    go_wp2_with (first
      | (go_at_call 17; refine (s_IsPrime _ _).mono ?_; rintro x w' ⟨rfl, rfl⟩)
      | (go_at_call 36; go_in))
    all_goals first
      | (go_ret; first | exact RetBool.mk HN.out (below1 _ _))
      | (exfalso; refine HK.out ⟨by omega, by omega, by omega, by omega, by assumption, by assumption, by assumption, by omega, ?_⟩; simp at *; omega)

def GoodP (p : Int) : Prop := 11 ≤ p ∧ p ≤ 997 ∧ isPrimeM p = true

set_option maxHeartbeats 1000000 in
theorem i_KeyValid (o t e : Int) (w : World) :
    Calls Try.prog 33 #[.agg #[.int .i64 o, .int .i64 t, .int .i64 e]] w (RetBool (KeyRel o t e) w) := by
  have i0 : ∀ w, (Instr.index 41 (.agg #[.int .i64 o, .int .i64 t]) (.int .i64 0)).run Try.prog w = .ok (.int .i64 o) w := fun _ => by kernel_rfl
  have i1 : ∀ w, (Instr.index 41 (.agg #[.int .i64 o, .int .i64 t]) (.int .i64 1)).run Try.prog w = .ok (.int .i64 t) w := fun _ => by kernel_rfl
  go_enter Try.func33, Try.ntmps33
  go_wp2_with fail
  go_loop [4, 10] (fun _ i => ∃ k : Nat, k ≤ 2 ∧ i = .int .i64 k ∧ Hid (1 ≤ k → GoodP o) ∧ Hid (2 ≤ k → GoodP t)) (fun _ i => 2 - (intOf i).toNat)
  case atStart => exact ⟨0, by omega, rfl, fun h => by omega, fun h => by omega⟩
  case round =>
    obtain ⟨k, hk, rfl, hg1, hg2⟩ := hrel
    by_cases hlt : k < 2
    · obtain ⟨p, hp, hix⟩ : ∃ p, Hid ((k = 0 ∧ p = o) ∨ (k = 1 ∧ p = t)) ∧ ∀ w, (Instr.index 41 (.agg #[.int .i64 o, .int .i64 t]) (.int .i64 k)).run Try.prog w = .ok (.int .i64 p) w := by
        rcases (show k = 0 ∨ k = 1 by omega) with rfl | rfl
        · exact ⟨o, .inl ⟨rfl, rfl⟩, i0⟩
        · exact ⟨t, .inr ⟨rfl, rfl⟩, i1⟩
      clear i0 i1
      by_cases hgp : GoodP p
      · have G1 : Hid (1 ≤ k + 1 → GoodP o) := fun _ => by
          rcases hp.out with ⟨rfl, rfl⟩ | ⟨rfl, rfl⟩
          · exact hgp
          · exact hg1.out (by omega)
        have G2 : Hid (2 ≤ k + 1 → GoodP t) := fun h => by
          rcases hp.out with ⟨rfl, rfl⟩ | ⟨rfl, rfl⟩
          · omega
          · exact hgp
        obtain ⟨b1, b2, b3⟩ := hgp
        have B3 : Hid (isPrimeM p = true) := b3
        clear b3 hg1 hg2
        go_wp2_with (first
          | (go_at_call 18; refine (i_IsPrime _ _).mono ?_; rintro x w' ⟨rfl, rfl⟩; rw [B3.out])
          | (go_at_call 37; go_in))
        go_round
        case rel => exact ⟨k + 1, by omega, by go_num, G1, G2⟩
        case measure => simp [intOf]; omega
      · have HN : Hid (KeyRel o t e false) := KeyRel.no fun ⟨h1, h2, h3, h4, h5, h6, _⟩ => hgp (by
          rcases hp.out with ⟨rfl, rfl⟩ | ⟨rfl, rfl⟩
          · exact ⟨h1, h2, h5⟩
          · exact ⟨h3, h4, h6⟩)
        have HG : Hid (¬ GoodP p) := hgp
        clear hgp hg1 hg2
        go_wp2_with (first
          | (go_at_call 18; refine (i_IsPrime _ _).mono ?_; rintro x w' ⟨rfl, rfl⟩)
          | (go_at_call 37; go_in))
        all_goals first
          | (go_ret; first | exact RetBool.mk HN.out (below1 _ _))
          | (exfalso; refine HG.out ⟨?_, ?_, ?_⟩ <;> first | omega | (simp at *; first | assumption | omega))
    · obtain rfl : k = 2 := by omega
      obtain ⟨h1, h2, h5⟩ := hg1.out (by omega)
      obtain ⟨h3, h4, h6⟩ := hg2.out (by omega)
      clear i0 i1 hg1 hg2
      by_cases hr : o ≠ t ∧ 3 ≤ e ∧ e ≤ 1000
      · obtain ⟨h7, h8, h9⟩ := hr
        have HK : Hid (KeyOk o t e) := ⟨h1, h2, h3, h4, h5, h6, h7, h8, h9⟩
        have he : (o != t) = true := by simpa using h7
        clear h5 h6 h7
        go_wp2_with (first
          | (go_at_call 41; refine (i_inverseExponent o t e _ h1 h2 h3 h4 h8 h9).mono ?_; rintro x w' ⟨v, rfl, hv, hb⟩)
          | (go_at_call 37; go_in))
        go_ret
        exact RetBool.mk (KeyRel.of HK.out hv) (below_trans (below1 _ _) hb)
      · have HN : Hid (KeyRel o t e false) := KeyRel.no fun ⟨_, _, _, _, _, _, h⟩ => hr h
        by_cases h7 : o = t
        · have he : (o != t) = false := by simpa using h7
          clear h5 h6 h7 hr
          go_wp2_with fail
          go_ret
          exact RetBool.mk HN.out (below1 _ _)
        · have he : (o != t) = true := by simpa using h7
          have HR : Hid (¬ (3 ≤ e ∧ e ≤ 1000)) := fun h => hr ⟨h7, h⟩
          clear h5 h6 h7 hr
          go_wp2_with (first
            | (go_at_call 37; go_in))
          all_goals first
            | (go_ret; first | exact RetBool.mk HN.out (below1 _ _))
            | (exfalso; refine HR.out ⟨?_, ?_⟩ <;> first | omega | (simp at *; first | assumption | omega))
            | go_ways

theorem to_SignKey (o t e : Int) (w : World) :
    Calls Try.prog 32 #[.agg #[.int .i64 o, .int .i64 t, .int .i64 e]] w fun x w' => x = .returned (.agg #[.int .i64 o, .int .i64 t, .int .i64 e]) ∧ Below w.heap.size w w' := by
  go_enter Try.func32, Try.ntmps32
  go_wp2
  exact bodyPost_ret (v := .agg #[.int .i64 o, .int .i64 t, .int .i64 e]) (by simp [results, Try.results32, go_sem]) rfl ⟨rfl, (by repeat (first | exact Below.refl _ _ | refine Below.alloc ?_ (by first | (simp; done) | (simp; omega)) _ | refine Below.drew ?_))⟩

/-- What KeyModulus says. -/
def KeyMod (o t e v : Int) : Prop := (KeyRel o t e true ∧ v = wrap64 (o * t)) ∨ (KeyRel o t e false ∧ v = -1)
theorem KeyMod.unique {o t e u v : Int} (h : KeyMod o t e u) (k : KeyMod o t e v) : u = v := by
  rcases h with ⟨h1, h2⟩ | ⟨h1, h2⟩ <;> rcases k with ⟨k1, k2⟩ | ⟨k1, k2⟩
  · rw [h2, k2]
  · exact absurd (h1.unique k1) (by simp)
  · exact absurd (h1.unique k1) (by simp)
  · rw [h2, k2]
set_option maxHeartbeats 400000 in
theorem i_KeyModulus (o t e : Int) (w : World) :
    Calls Try.prog 35 #[.agg #[.int .i64 o, .int .i64 t, .int .i64 e]] w (RetInt (KeyMod o t e) w) := by
  go_enter Try.func35, Try.ntmps35
  go_wp2_with fail
  refine (i_KeyValid o t e _).mono ?_
  rintro x w1 ⟨b, rfl, hb, hbel⟩
  have c0 : w1.cell? ⟨w.heap.size, 0, none⟩ = some (.int .i64 o) := keep_cell hbel (by simp)
  have c1 : w1.cell? ⟨w.heap.size, 1, none⟩ = some (.int .i64 t) := keep_cell hbel (by simp)
  cases b
  · have HB : Hid (KeyRel o t e false) := hb
    clear hb
    go_wp2_with fail
    go_ret
    exact RetInt.mk (.inr ⟨HB.out, rfl⟩) (below_trans (below1 _ _) hbel)
  · have HB : Hid (KeyRel o t e true) := hb
    clear hb
    go_wp2_with fail
    go_ret
    exact RetInt.mk (.inl ⟨HB.out, rfl⟩) (below_trans (below1 _ _) hbel)

set_option maxHeartbeats 400000 in
theorem s_KeyModulus (o t e : Int) (w : World) :
    Calls Try.prog 34 #[.agg #[.int .i64 o, .int .i64 t, .int .i64 e]] w (RetInt (KeyMod o t e) w) := by
  go_enter Try.func34, Try.ntmps34
  go_wp2_with fail
  refine (s_KeyValid o t e _).mono ?_
  rintro x w1 ⟨b, rfl, hb, hbel⟩
  have c0 : w1.cell? ⟨w.heap.size, 0, none⟩ = some (.int .i64 o) := keep_cell hbel (by simp)
  have c1 : w1.cell? ⟨w.heap.size, 1, none⟩ = some (.int .i64 t) := keep_cell hbel (by simp)
  cases b
  · have HB : Hid (KeyRel o t e false) := hb
    clear hb
    go_wp2_with fail
    go_ret
    exact RetInt.mk (.inr ⟨HB.out, rfl⟩) (below_trans (below1 _ _) hbel)
  · have HB : Hid (KeyRel o t e true) := hb
    clear hb
    go_wp2_with fail
    go_ret
    exact RetInt.mk (.inl ⟨HB.out, rfl⟩) (below_trans (below1 _ _) hbel)

end Go.Proofs.Ytgmkopnhkmihmaa
