/- The walks of the functions on numbers: DigestMore, MulMod, IsPrime, PowMod, InverseMod, of the program and of the reference: each returns what the plain function says. No condition. -/
import Derived.Test.YtikebbdkcpcmkaaRows
import Derived.Test.YtikebbdkcpcmkaaMath
import Derived.Test.YtikebbdkcpcmkaaRet
import Derived.WalkKit
namespace Go.Proofs.Ytikebbdkcpcmkaa
open Go.RowKit


theorem i_DigestMore (d b : Int) (w : World) :
    Calls Try.prog 11 #[.int .i64 d, .int .i64 b] w fun e w' => e = .returned (.int .i64 (digestMoreM d b)) ∧ w = w' := by
  by_cases h1 : 0 ≤ d ∧ d ≤ 999982 ∧ 32 ≤ b ∧ b ≤ 126
  · obtain ⟨h1, h2, h3, h4⟩ := h1
    go_enter Try.func11, Try.ntmps11
    go_wp2
    go_ret
    exact ⟨ret_int (by unfold digestMoreM; rw [if_pos (by omega)]), rfl⟩
  · rw [show digestMoreM d b = -1 from by unfold digestMoreM; rw [if_neg h1]]
    go_enter Try.func11, Try.ntmps11
    go_wp2
    all_goals (try simp only [Bool.not_eq_eq_eq_not, Bool.not_true, Bool.not_false, decide_eq_true_eq, decide_eq_false_iff_not] at *)
    all_goals (try omega)
    all_goals (go_ret; exact ⟨rfl, rfl⟩)

theorem i_MulMod (a b m : Int) (w : World) :
    Calls Try.prog 15 #[.int .i64 a, .int .i64 b, .int .i64 m] w fun e w' => e = .returned (.int .i64 (mulModM a b m)) ∧ w = w' := by
  by_cases h1 : 1 ≤ m ∧ m ≤ 1000000 ∧ 0 ≤ a ∧ a ≤ m - 1 ∧ 0 ≤ b ∧ b ≤ m - 1
  · obtain ⟨h1, h2, h3, h4, h5, h6⟩ := h1
    obtain ⟨g1, g2⟩ := mul_bd (m := m) h3 (by omega) h5 (by omega) h2
    go_enter Try.func15, Try.ntmps15
    go_wp2
    go_ret
    exact ⟨ret_int (by unfold mulModM; rw [if_pos (by omega)]), rfl⟩
  · rw [show mulModM a b m = -1 from by unfold mulModM; rw [if_neg h1]]
    go_enter Try.func15, Try.ntmps15
    go_wp2
    all_goals (try simp only [Bool.not_eq_eq_eq_not, Bool.not_true, Bool.not_false, decide_eq_true_eq, decide_eq_false_iff_not] at *)
    all_goals (try omega)
    all_goals (go_ret; exact ⟨rfl, rfl⟩)

theorem s_DigestMore (d b : Int) (w : World) :
    Calls Try.prog 12 #[.int .i64 d, .int .i64 b] w fun e w' => e = .returned (.int .i64 (digestMoreM d b)) ∧ w = w' := by
  by_cases h1 : 0 ≤ d ∧ d ≤ 999982 ∧ 32 ≤ b ∧ b ≤ 126
  · obtain ⟨h1, h2, h3, h4⟩ := h1
    go_enter Try.func12, Try.ntmps12
    go_wp2
    go_ret
    exact ⟨ret_int (by unfold digestMoreM; rw [if_pos (by omega)]), rfl⟩
  · rw [show digestMoreM d b = -1 from by unfold digestMoreM; rw [if_neg h1]]
    go_enter Try.func12, Try.ntmps12
    go_wp2
    all_goals (try simp only [Bool.not_eq_eq_eq_not, Bool.not_true, Bool.not_false, decide_eq_true_eq, decide_eq_false_iff_not] at *)
    all_goals (try omega)
    all_goals (go_ret; exact ⟨rfl, rfl⟩)

theorem s_MulMod (a b m : Int) (w : World) :
    Calls Try.prog 16 #[.int .i64 a, .int .i64 b, .int .i64 m] w fun e w' => e = .returned (.int .i64 (mulModM a b m)) ∧ w = w' := by
  by_cases h1 : 1 ≤ m ∧ m ≤ 1000000 ∧ 0 ≤ a ∧ a ≤ m - 1 ∧ 0 ≤ b ∧ b ≤ m - 1
  · obtain ⟨h1, h2, h3, h4, h5, h6⟩ := h1
    obtain ⟨g1, g2⟩ := mul_bd (m := m) h3 (by omega) h5 (by omega) h2
    go_enter Try.func16, Try.ntmps16
    go_wp2
    go_ret
    exact ⟨ret_int (by unfold mulModM; rw [if_pos (by omega)]), rfl⟩
  · rw [show mulModM a b m = -1 from by unfold mulModM; rw [if_neg h1]]
    go_enter Try.func16, Try.ntmps16
    go_wp2
    all_goals (try simp only [Bool.not_eq_eq_eq_not, Bool.not_true, Bool.not_false, decide_eq_true_eq, decide_eq_false_iff_not] at *)
    all_goals (try omega)
    all_goals (go_ret; exact ⟨rfl, rfl⟩)


theorem i_IsPrime (n : Int) (w : World) :
    Calls Try.prog 21 #[.int .i64 n] w fun e w' => e = .returned (.bool (isPrimeM n)) ∧ w = w' := by
  by_cases h1 : 2 ≤ n ∧ n ≤ 1000
  · obtain ⟨h1, h2⟩ := h1
    go_enter Try.func21, Try.ntmps21
    go_wp2
    go_loop [3] (fun d => ∃ k : Nat, 2 ≤ k ∧ k ≤ 32 ∧ NoDiv n k ∧ d = .int .i64 k) (fun d => 40 - (intOf d).toNat)
    case atStart => exact ⟨2, by omega, by omega, NoDiv.two n, rfl⟩
    case round =>
      obtain ⟨k, hk, hk2, hd, rfl⟩ := hrel
      have hb := sq_bd hk2
      by_cases ht : (k : Int) * k ≤ n
      · have hl := sq_lt ht h2
        by_cases hm : n % (k : Int) = 0
        · have H : Hid (isPrimeM n = false) := isPrimeM_no hk ht h2 hm
          clear hd
          go_wp2
          go_ret
          exact ⟨ret_bool H.out.symm, rfl⟩
        · have HD := hd.succ hm
          clear hd
          go_wp2
          go_round
          case rel => exact ⟨k + 1, by omega, by omega, HD, by go_num⟩
          case measure => simp [intOf]; omega
      · have H : Hid (isPrimeM n = true) := isPrimeM_yes h1 h2 hd (by omega)
        clear hd
        go_wp2
        go_ret
        exact ⟨ret_bool H.out.symm, rfl⟩
  · rw [isPrimeM_out h1]
    go_enter Try.func21, Try.ntmps21
    go_wp2
    all_goals (try simp only [Bool.not_eq_eq_eq_not, Bool.not_true, Bool.not_false, decide_eq_true_eq, decide_eq_false_iff_not] at *)
    all_goals (try omega)
    all_goals (go_ret; exact ⟨rfl, rfl⟩)

theorem s_IsPrime (n : Int) (w : World) :
    Calls Try.prog 22 #[.int .i64 n] w fun e w' => e = .returned (.bool (isPrimeM n)) ∧ w = w' := by
  by_cases h1 : 2 ≤ n ∧ n ≤ 1000
  · obtain ⟨h1, h2⟩ := h1
    go_enter Try.func22, Try.ntmps22
    go_wp2
    go_loop [3] (fun d => ∃ k : Nat, 2 ≤ k ∧ k ≤ 32 ∧ NoDiv n k ∧ d = .int .i64 k) (fun d => 40 - (intOf d).toNat)
    case atStart => exact ⟨2, by omega, by omega, NoDiv.two n, rfl⟩
    case round =>
      obtain ⟨k, hk, hk2, hd, rfl⟩ := hrel
      have hb := sq_bd hk2
      by_cases ht : (k : Int) * k ≤ n
      · have hl := sq_lt ht h2
        by_cases hm : n % (k : Int) = 0
        · have H : Hid (isPrimeM n = false) := isPrimeM_no hk ht h2 hm
          clear hd
          go_wp2
          go_ret
          exact ⟨ret_bool H.out.symm, rfl⟩
        · have HD := hd.succ hm
          clear hd
          go_wp2
          go_round
          case rel => exact ⟨k + 1, by omega, by omega, HD, by go_num⟩
          case measure => simp [intOf]; omega
      · have H : Hid (isPrimeM n = true) := isPrimeM_yes h1 h2 hd (by omega)
        clear hd
        go_wp2
        go_ret
        exact ⟨ret_bool H.out.symm, rfl⟩
  · rw [isPrimeM_out h1]
    go_enter Try.func22, Try.ntmps22
    go_wp2
    go_loop [3] (fun d => d = .int .i64 2) (fun _ => 0)
    case atStart => rfl
    case round =>
      obtain rfl := hrel
      go_wp2
      all_goals (try simp only [Bool.not_eq_eq_eq_not, Bool.not_true, Bool.not_false, decide_eq_true_eq, decide_eq_false_iff_not] at *)
      all_goals (try omega)
      all_goals (go_ret; first | exact ⟨rfl, rfl⟩ | exact ⟨ret_bool (decide_eq_false (by omega)), rfl⟩)

set_option maxHeartbeats 400000 in
theorem i_PowMod (a x m : Int) (w : World) :
    Calls Try.prog 25 #[.int .i64 a, .int .i64 x, .int .i64 m] w fun e w' => e = .returned (.int .i64 (powModM a x m)) ∧ w = w' := by
  by_cases h1 : 1 ≤ m ∧ m ≤ 1000000 ∧ 0 ≤ a ∧ a ≤ m - 1 ∧ 0 ≤ x ∧ x ≤ 1000000000
  · rw [show powModM a x m = a ^ x.toNat % m from by unfold powModM; rw [if_pos h1]]
    obtain ⟨h1, h2, h3, h4, h5, h6⟩ := h1
    have A : Hid (1 % m * a ^ x.toNat % m = a ^ x.toNat % m) := by show _ = _; rw [Int.mul_emod, Int.emod_emod_of_dvd _ (Int.dvd_refl m), ← Int.mul_emod, Int.one_mul]
    have b0 : 0 ≤ 1 % m := Int.emod_nonneg _ (by omega)
    have b1 : 1 % m ≤ m - 1 := by have := Int.emod_lt_of_pos 1 (show 0 < m by omega); omega
    go_enter Try.func25, Try.ntmps25
    go_wp2
    go_loop [1, 7, 8] (fun Y P S => ∃ p s y : Int, 0 ≤ p ∧ p ≤ m - 1 ∧ 0 ≤ s ∧ s ≤ m - 1 ∧ 0 ≤ y ∧ y ≤ 1000000000 ∧ Hid (p * s ^ y.toNat % m = a ^ x.toNat % m) ∧ P = .int .i64 p ∧ S = .int .i64 s ∧ Y = .int .i64 y) (fun Y P S => (intOf Y).toNat)
    case atStart => exact ⟨1 % m, a, x, b0, b1, h3, h4, h5, h6, A, rfl, rfl, rfl⟩
    case round =>
      obtain ⟨p, s, y, hp0, hp1, hs0, hs1, hy0, hy1, hinv, rfl, rfl, rfl⟩ := hrel
      have c1 := mul_bd (m := m) hp0 (by omega) hs0 (by omega) h2
      have c2 := mul_bd (m := m) hs0 (by omega) hs0 (by omega) h2
      have e1 : 0 ≤ p * s % m := Int.emod_nonneg _ (by omega)
      have e2 : p * s % m ≤ m - 1 := by have := Int.emod_lt_of_pos (p * s) (show 0 < m by omega); omega
      have e3 : 0 ≤ s * s % m := Int.emod_nonneg _ (by omega)
      have e4 : s * s % m ≤ m - 1 := by have := Int.emod_lt_of_pos (s * s) (show 0 < m by omega); omega
      by_cases hy : 0 < y
      · by_cases ho : y % 2 = 1
        · have I : Hid _ := pow_odd hy0 ho hinv.out
          clear hinv
          go_wp2
          go_round
          case rel => exact ⟨_, _, _, e1, e2, e3, e4, by omega, by omega, I, by go_num, by go_num, by go_num⟩
          case measure => simp [intOf]; omega
        · have I : Hid _ := pow_even hy0 ho hinv.out
          clear hinv
          go_wp2
          go_round
          case rel => exact ⟨_, _, _, hp0, hp1, e3, e4, by omega, by omega, I, by go_num, by go_num, by go_num⟩
          case measure => simp [intOf]; omega
      · obtain rfl : y = 0 := by omega
        have R : Hid (p = a ^ x.toNat % m) := by have := hinv.out; rw [show (0 : Int).toNat = 0 from rfl, Int.pow_zero, Int.mul_one, Int.emod_eq_of_lt hp0 (by omega)] at this; exact this
        clear hinv
        go_wp2
        go_ret
        exact ⟨ret_int R.out, rfl⟩
  · rw [show powModM a x m = -1 from by unfold powModM; rw [if_neg h1]]
    go_enter Try.func25, Try.ntmps25
    go_wp2
    all_goals (try simp only [Bool.not_eq_eq_eq_not, Bool.not_true, Bool.not_false, decide_eq_true_eq, decide_eq_false_iff_not] at *)
    all_goals (try omega)
    all_goals (go_ret; exact ⟨rfl, rfl⟩)

set_option maxHeartbeats 400000 in
theorem s_PowMod (a x m : Int) (w : World) :
    Calls Try.prog 26 #[.int .i64 a, .int .i64 x, .int .i64 m] w fun e w' => e = .returned (.int .i64 (powModM a x m)) ∧ w = w' := by
  by_cases h1 : 1 ≤ m ∧ m ≤ 1000000 ∧ 0 ≤ a ∧ a ≤ m - 1 ∧ 0 ≤ x ∧ x ≤ 1000000000
  · rw [show powModM a x m = a ^ x.toNat % m from by unfold powModM; rw [if_pos h1]]
    obtain ⟨h1, h2, h3, h4, h5, h6⟩ := h1
    have A : Hid (1 % m * a ^ x.toNat % m = a ^ x.toNat % m) := by show _ = _; rw [Int.mul_emod, Int.emod_emod_of_dvd _ (Int.dvd_refl m), ← Int.mul_emod, Int.one_mul]
    have b0 : 0 ≤ 1 % m := Int.emod_nonneg _ (by omega)
    have b1 : 1 % m ≤ m - 1 := by have := Int.emod_lt_of_pos 1 (show 0 < m by omega); omega
    go_enter Try.func26, Try.ntmps26
    go_wp2
    go_loop [0, 1, 7] (fun S Y P => ∃ p s y : Int, 0 ≤ p ∧ p ≤ m - 1 ∧ 0 ≤ s ∧ s ≤ m - 1 ∧ 0 ≤ y ∧ y ≤ 1000000000 ∧ Hid (p * s ^ y.toNat % m = a ^ x.toNat % m) ∧ P = .int .i64 p ∧ S = .int .i64 s ∧ Y = .int .i64 y) (fun S Y P => (intOf Y).toNat)
    case atStart => exact ⟨1 % m, a, x, b0, b1, h3, h4, h5, h6, A, rfl, rfl, rfl⟩
    case round =>
      obtain ⟨p, s, y, hp0, hp1, hs0, hs1, hy0, hy1, hinv, rfl, rfl, rfl⟩ := hrel
      have c1 := mul_bd (m := m) hp0 (by omega) hs0 (by omega) h2
      have c2 := mul_bd (m := m) hs0 (by omega) hs0 (by omega) h2
      have e1 : 0 ≤ p * s % m := Int.emod_nonneg _ (by omega)
      have e2 : p * s % m ≤ m - 1 := by have := Int.emod_lt_of_pos (p * s) (show 0 < m by omega); omega
      have e3 : 0 ≤ s * s % m := Int.emod_nonneg _ (by omega)
      have e4 : s * s % m ≤ m - 1 := by have := Int.emod_lt_of_pos (s * s) (show 0 < m by omega); omega
      by_cases hy : 0 < y
      · by_cases ho : y % 2 = 1
        · have I : Hid _ := pow_odd hy0 ho hinv.out
          clear hinv
          go_wp2
          go_round
          case rel => exact ⟨_, _, _, e1, e2, e3, e4, by omega, by omega, I, by go_num, by go_num, by go_num⟩
          case measure => simp [intOf]; omega
        · have I : Hid _ := pow_even hy0 ho hinv.out
          clear hinv
          go_wp2
          go_round
          case rel => exact ⟨_, _, _, hp0, hp1, e3, e4, by omega, by omega, I, by go_num, by go_num, by go_num⟩
          case measure => simp [intOf]; omega
      · obtain rfl : y = 0 := by omega
        have R : Hid (p = a ^ x.toNat % m) := by have := hinv.out; rw [show (0 : Int).toNat = 0 from rfl, Int.pow_zero, Int.mul_one, Int.emod_eq_of_lt hp0 (by omega)] at this; exact this
        clear hinv
        go_wp2
        go_ret
        exact ⟨ret_int R.out, rfl⟩
  · rw [show powModM a x m = -1 from by unfold powModM; rw [if_neg h1]]
    go_enter Try.func26, Try.ntmps26
    go_wp2
    all_goals (try simp only [Bool.not_eq_eq_eq_not, Bool.not_true, Bool.not_false, decide_eq_true_eq, decide_eq_false_iff_not] at *)
    all_goals (try omega)
    all_goals (go_ret; exact ⟨rfl, rfl⟩)


set_option maxHeartbeats 400000 in
theorem i_InverseMod (a m : Int) (w : World) :
    Calls Try.prog 23 #[.int .i64 a, .int .i64 m] w fun e w' => ∃ v, e = .returned (.int .i64 v) ∧ IsInv a m v ∧ w = w' := by
  by_cases h1 : 2 ≤ m ∧ m ≤ 1000000 ∧ 0 ≤ a ∧ a ≤ m - 1
  · obtain ⟨h1, h2, h3, h4⟩ := h1
    go_enter Try.func23, Try.ntmps23
    go_wp2
    go_loop [5, 6, 7, 8] (fun R N T U => ∃ r n t u : Int, Euc m a r n t u ∧ R = .int .i64 r ∧ N = .int .i64 n ∧ T = .int .i64 t ∧ U = .int .i64 u) (fun _ N _ _ => (intOf N).toNat)
    case atStart => exact ⟨_, _, _, _, Euc.ofI h1 h3 h4, rfl, rfl, rfl, rfl⟩
    case round =>
      obtain ⟨r, n, t, u, hE, rfl, rfl, rfl, rfl⟩ := hrel
      have c0 := hE.n0; have c1 := hE.nm; have c2 := hE.r0; have c3 := hE.rm; have c4 := hE.tm; have c5 := hE.um
      by_cases hn : n = 0
      · subst hn
        by_cases hr : r = 1
        · subst hr
          have R : IsInv a m (t.tmod m % m) := by simpa using hE.yes h1 h2 h3 h4
          have tb := tmod_bd (t := t) h1
          clear hE
          go_wp2
          go_ret
          exact ⟨_, rfl, R, rfl⟩
        · have R := hE.no hr
          clear hE
          go_wp2
          go_ret
          exact ⟨_, rfl, R, rfl⟩
      · obtain ⟨g1, g2, g3, g4, hE'⟩ := hE.step hn
        have e1 := hE'.um
        clear hE
        go_wp2
        go_round
        case rel => exact ⟨_, _, _, _, hE', rfl, rfl, rfl, rfl⟩
        case measure => simp [intOf]; omega
  · go_enter Try.func23, Try.ntmps23
    go_wp2
    all_goals (try simp only [Bool.not_eq_eq_eq_not, Bool.not_true, Bool.not_false, decide_eq_true_eq, decide_eq_false_iff_not] at *)
    all_goals (try omega)
    all_goals (go_ret; exact ⟨-1, rfl, IsInv.out h1, rfl⟩)

set_option maxHeartbeats 400000 in
theorem s_InverseMod (a m : Int) (w : World) :
    Calls Try.prog 31 #[.int .i64 a, .int .i64 m] w fun e w' => ∃ v, e = .returned (.int .i64 v) ∧ IsInv a m v ∧ w = w' := by
  by_cases h1 : 2 ≤ m ∧ m ≤ 1000000 ∧ 0 ≤ a ∧ a ≤ m - 1
  · obtain ⟨h1, h2, h3, h4⟩ := h1
    go_enter Try.func31, Try.ntmps31
    go_wp2
    go_loop [5, 6, 7, 8] (fun T U R N => ∃ r n t u : Int, Euc m a r n t u ∧ R = .int .i64 r ∧ N = .int .i64 n ∧ T = .int .i64 t ∧ U = .int .i64 u) (fun _ _ _ N => (intOf N).toNat)
    case atStart => exact ⟨_, _, _, _, Euc.ofS h1 h3 h4, rfl, rfl, rfl, rfl⟩
    case round =>
      obtain ⟨r, n, t, u, hE, rfl, rfl, rfl, rfl⟩ := hrel
      have c0 := hE.n0; have c1 := hE.nm; have c2 := hE.r0; have c3 := hE.rm; have c4 := hE.tm; have c5 := hE.um
      by_cases hn : n = 0
      · subst hn
        by_cases hr : r = 1
        · subst hr
          have R : IsInv a m (t.tmod m % m) := by simpa using hE.yes h1 h2 h3 h4
          have tb := tmod_bd (t := t) h1
          clear hE
          go_wp2
          go_ret
          exact ⟨_, rfl, R, rfl⟩
        · have R := hE.no hr
          clear hE
          go_wp2
          go_ret
          exact ⟨_, rfl, R, rfl⟩
      · obtain ⟨g1, g2, g3, g4, hE'⟩ := hE.step hn
        have e1 := hE'.um
        clear hE
        go_wp2
        go_round
        case rel => exact ⟨_, _, _, _, hE', rfl, rfl, rfl, rfl⟩
        case measure => simp [intOf]; omega
  · go_enter Try.func31, Try.ntmps31
    go_wp2
    all_goals (try simp only [Bool.not_eq_eq_eq_not, Bool.not_true, Bool.not_false, decide_eq_true_eq, decide_eq_false_iff_not] at *)
    all_goals (try omega)
    all_goals (go_ret; exact ⟨-1, rfl, IsInv.out h1, rfl⟩)


end Go.Proofs.Ytikebbdkcpcmkaa
