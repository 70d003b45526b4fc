/- Plain facts on numbers and remainders: products, powers and inverses modulo a number. No condition. -/
import Derived.Below
namespace Go.Proofs.YtackffegdmohiaaDoor

/-- The product modulo m; -1 outside. -/
def mulModM (a b m : Int) : Int := if 1 ≤ m ∧ m ≤ 1000000 ∧ 0 ≤ a ∧ a ≤ m - 1 ∧ 0 ≤ b ∧ b ≤ m - 1 then a * b % m else -1
/-- The power modulo m; -1 outside. -/
def powModM (a x m : Int) : Int := if 1 ≤ m ∧ m ≤ 1000000 ∧ 0 ≤ a ∧ a ≤ m - 1 ∧ 0 ≤ x ∧ x ≤ 1000000000 then a ^ x.toNat % m else -1
/-- The digest with one byte more; -1 outside. -/
def digestMoreM (d b : Int) : Int := if 0 ≤ d ∧ d ≤ 999982 ∧ 32 ≤ b ∧ b ≤ 126 then (257 * d + b) % 999983 else -1
/-- An inverse modulo m: what InverseMod returns. -/
def IsInv (a m v : Int) : Prop := (v = -1 ∧ (¬ (2 ≤ m ∧ m ≤ 1000000 ∧ 0 ≤ a ∧ a ≤ m - 1) ∨ ∃ g, 0 ≤ g ∧ g ≠ 1 ∧ g ∣ m ∧ g ∣ a)) ∨ (2 ≤ m ∧ m ≤ 1000000 ∧ 0 ≤ a ∧ a ≤ m - 1 ∧ 0 ≤ v ∧ v < m ∧ a * v % m = 1)

/-- What has a divisor in common with m has no inverse. -/
theorem no_inv {a m g u : Int} (g0 : 0 ≤ g) (g1 : g ≠ 1) (gm : g ∣ m) (ga : g ∣ a) (h : a * u % m = 1) : False := by
  obtain ⟨p, hp⟩ := gm
  obtain ⟨q, hq⟩ := ga
  have e := Int.mul_ediv_add_emod (a * u) m
  rw [h] at e
  have d : g ∣ 1 := by
    have : (1 : Int) = a * u - m * (a * u / m) := by omega
    rw [this]
    exact Int.dvd_sub (Int.dvd_mul_of_dvd_left ⟨q, hq⟩) (Int.dvd_mul_of_dvd_left ⟨p, hp⟩)
  obtain ⟨c, hc⟩ := d
  exact g1 (Int.eq_one_of_mul_eq_one_right g0 hc.symm)
theorem IsInv.unique {a m v u : Int} (h : IsInv a m v) (k : IsInv a m u) : v = u := by
  rcases h with ⟨rfl, h⟩ | ⟨h1, h2, h3, h4, h5, h6, h7⟩
  · rcases k with ⟨rfl, _⟩ | ⟨k1, k2, k3, k4, k5, k6, k7⟩
    · rfl
    · rcases h with h | ⟨g, g0, g1, g2, g3⟩
      · exact absurd ⟨k1, k2, k3, k4⟩ h
      · exact (no_inv g0 g1 g2 g3 k7).elim
  · rcases k with ⟨rfl, k⟩ | ⟨k1, k2, k3, k4, k5, k6, k7⟩
    · rcases k with k | ⟨g, g0, g1, g2, g3⟩
      · exact absurd ⟨h1, h2, h3, h4⟩ k
      · exact (no_inv g0 g1 g2 g3 h7).elim
    · have e1 : (v * (a * u)) % m = v := by
        rw [Int.mul_emod, k7, Int.mul_one, Int.emod_emod_of_dvd _ (Int.dvd_refl m), Int.emod_eq_of_lt h5 h6]
      have e2 : (v * (a * u)) % m = u := by
        have : v * (a * u) = (a * v) * u := by rw [← Int.mul_assoc, Int.mul_comm v a]
        rw [this, Int.mul_emod, h7, Int.one_mul, Int.emod_emod_of_dvd _ (Int.dvd_refl m), Int.emod_eq_of_lt k5 k6]
      rw [← e1, e2]

theorem mul_bd {a b m : Int} (h0 : 0 ≤ a) (h1 : a ≤ m) (h2 : 0 ≤ b) (h3 : b ≤ m) (hm : m ≤ 1000000) : 0 ≤ a * b ∧ a * b ≤ 1000000000000 := by
  constructor
  · exact Int.mul_nonneg h0 h2
  · have h4 : a * b ≤ 1000000 * b := Int.mul_le_mul_of_nonneg_right (by omega) h2
    omega

/-- A prime from 2 to 1000. -/
def isPrimeM (n : Int) : Bool := decide (2 ≤ n ∧ n ≤ 1000 ∧ ∀ d : Nat, d < 1000 → 2 ≤ d → (d : Int) * d ≤ n → n % (d : Int) ≠ 0)
/-- No number from 2 on below k divides n. -/
def NoDiv (n : Int) (k : Nat) : Prop := ∀ d : Nat, 2 ≤ d → d < k → n % (d : Int) ≠ 0
theorem NoDiv.two (n : Int) : NoDiv n 2 := fun d h1 h2 => by omega
theorem NoDiv.succ {n : Int} {k : Nat} (h : NoDiv n k) (hk : n % (k : Int) ≠ 0) : NoDiv n (k + 1) := fun d h1 h2 => by
  by_cases e : d = k
  · subst e; exact hk
  · exact h d h1 (by omega)
theorem sq_bd {k : Nat} (h : k ≤ 32) : 0 ≤ (k : Int) * k ∧ (k : Int) * k ≤ 1024 := by
  have h1 : k * k ≤ 32 * 32 := Nat.mul_le_mul h h
  rw [← Int.natCast_mul]
  omega
theorem sq_lt {k : Nat} {n : Int} (h : (k : Int) * k ≤ n) (hn : n ≤ 1000) : k ≤ 31 := by
  by_cases h2 : k ≤ 31
  · exact h2
  · have h1 : 32 * 32 ≤ k * k := Nat.mul_le_mul (by omega) (by omega)
    rw [← Int.natCast_mul] at h
    omega
theorem isPrimeM_out {n : Int} (h : ¬ (2 ≤ n ∧ n ≤ 1000)) : isPrimeM n = false := by
  unfold isPrimeM
  exact decide_eq_false fun ⟨h1, h2, _⟩ => h ⟨h1, h2⟩
theorem isPrimeM_no {n : Int} {k : Nat} (h : 2 ≤ k) (h0 : (k : Int) * k ≤ n) (hn : n ≤ 1000) (hk : n % (k : Int) = 0) : isPrimeM n = false := by
  unfold isPrimeM
  exact decide_eq_false fun ⟨_, _, h3⟩ => h3 k (by have := sq_lt h0 hn; omega) h h0 hk
theorem isPrimeM_yes {n : Int} {k : Nat} (h1 : 2 ≤ n) (h2 : n ≤ 1000) (hd : NoDiv n k) (hk : n < (k : Int) * k) : isPrimeM n = true := by
  unfold isPrimeM
  refine decide_eq_true ⟨h1, h2, fun d _ hd2 hdd => hd d hd2 ?_⟩
  by_cases e : d < k
  · exact e
  · have h3 : k * k ≤ d * d := Nat.mul_le_mul (by omega) (by omega)
    rw [← Int.natCast_mul] at hk hdd
    omega

theorem pow_emod (b m : Int) (k : Nat) : (b % m) ^ k % m = b ^ k % m := by
  induction k with
  | zero => simp
  | succ k ih => rw [Int.pow_succ, Int.pow_succ, Int.mul_emod, ih, Int.emod_emod_of_dvd _ (Int.dvd_refl m), ← Int.mul_emod]
theorem mul_pow_emod (p b m : Int) (k : Nat) : (p % m * (b % m) ^ k) % m = (p * b ^ k) % m := by
  rw [Int.mul_emod, pow_emod, Int.emod_emod_of_dvd _ (Int.dvd_refl m), ← Int.mul_emod]
theorem sq_pow (s : Int) (k : Nat) : (s * s) ^ k = s ^ (2 * k) := by rw [Int.mul_pow, Nat.two_mul, Int.pow_add]
theorem pow_even {p s m c : Int} {x : Int} (hx : 0 ≤ x) (h : x % 2 ≠ 1) (hi : p * s ^ x.toNat % m = c) : p * (s * s % m) ^ (x / 2).toNat % m = c := by
  have e : x.toNat = 2 * (x / 2).toNat := by omega
  rw [← hi, Int.mul_emod, pow_emod, sq_pow, ← e, ← Int.mul_emod]
theorem pow_odd {p s m c : Int} {x : Int} (hx : 0 ≤ x) (h : x % 2 = 1) (hi : p * s ^ x.toNat % m = c) : (p * s % m) * (s * s % m) ^ (x / 2).toNat % m = c := by
  have e : x.toNat = 2 * (x / 2).toNat + 1 := by omega
  rw [← hi, mul_pow_emod, sq_pow]
  conv => rhs; rw [e, Int.pow_succ]
  rw [Int.mul_assoc, Int.mul_comm s]

/-- What holds at each round's head of the extended algorithm of Euclid. -/
structure Euc (m a r n t u : Int) : Prop where
  r0 : 0 ≤ r
  rm : r ≤ m
  n0 : 0 ≤ n
  nm : n ≤ m
  tm : -m ≤ t ∧ t ≤ m
  um : -m ≤ u ∧ u ≤ m
  d1 : m ∣ t * a - r
  d2 : m ∣ u * a - n
  back : ∀ g, g ∣ r → g ∣ n → g ∣ m ∧ g ∣ a
  big : ∃ T U : Int, 0 ≤ T ∧ 0 ≤ U ∧ r * U + n * T = m ∧ ((t = T ∧ u = -U) ∨ (t = -T ∧ u = U))
theorem Euc.ofI {m a : Int} (hm : 2 ≤ m) (h0 : 0 ≤ a) (h1 : a ≤ m - 1) : Euc m a m a 0 1 :=
  ⟨by omega, by omega, h0, by omega, by omega, by omega, by rw [Int.zero_mul, Int.zero_sub]; exact Int.dvd_neg.2 (Int.dvd_refl m), by rw [Int.one_mul, Int.sub_self]; exact Int.dvd_zero m,
   fun g h k => ⟨h, k⟩, 0, 1, by omega, by omega, by omega, .inr ⟨by omega, rfl⟩⟩
theorem Euc.ofS {m a : Int} (hm : 2 ≤ m) (h0 : 0 ≤ a) (h1 : a ≤ m - 1) : Euc m a a m 1 0 :=
  ⟨h0, by omega, by omega, by omega, by omega, by omega, by rw [Int.one_mul, Int.sub_self]; exact Int.dvd_zero m, by rw [Int.zero_mul, Int.zero_sub]; exact Int.dvd_neg.2 (Int.dvd_refl m),
   fun g h k => ⟨k, h⟩, 1, 0, by omega, by omega, by omega, .inl ⟨rfl, by omega⟩⟩
theorem Euc.step {m a r n t u : Int} (h : Euc m a r n t u) (hn : n ≠ 0) :
    (0 ≤ r / n ∧ r / n ≤ m) ∧ (0 ≤ r / n * n ∧ r / n * n ≤ m) ∧ (-m ≤ r / n * u ∧ r / n * u ≤ m) ∧ (0 ≤ r - r / n * n ∧ r - r / n * n < n) ∧ Euc m a n (r - r / n * n) u (t - r / n * u) := by
  have n1 : 1 ≤ n := by have := h.n0; omega
  have q0 : 0 ≤ r / n := Int.ediv_nonneg h.r0 h.n0
  have e : n * (r / n) + r % n = r := Int.mul_ediv_add_emod r n
  rw [Int.mul_comm] at e
  have e0 : 0 ≤ r % n := Int.emod_nonneg _ hn
  have e1 : r % n < n := Int.emod_lt_of_pos _ (by omega)
  have q1 : r / n ≤ r / n * n := by
    have := Int.mul_le_mul_of_nonneg_left n1 q0
    omega
  have p0 : 0 ≤ r / n * n := by omega
  have rm := h.rm
  obtain ⟨T, U, hT, hU, hb, hs⟩ := h.big
  have s0 : 0 ≤ r / n * U := Int.mul_nonneg q0 hU
  have big' : n * (T + r / n * U) + (r - r / n * n) * U = m := by
    rw [← hb, Int.mul_add, Int.sub_mul, Int.mul_comm (r / n) U, ← Int.mul_assoc, Int.mul_comm (n * U), Int.mul_comm n U, Int.mul_assoc (r / n) n U, Int.mul_comm n U, Int.mul_comm n T]
    omega
  have z0 : 0 ≤ (r - r / n * n) * U := Int.mul_nonneg (by omega) hU
  have v0 : 0 ≤ T + r / n * U := by omega
  have v1 : T + r / n * U ≤ n * (T + r / n * U) := by
    have := Int.mul_le_mul_of_nonneg_right n1 v0
    omega
  have v2 : T + r / n * U ≤ m := by omega
  have su : r / n * u = - (r / n * U) ∨ r / n * u = r / n * U := by
    rcases hs with ⟨_, hu⟩ | ⟨_, hu⟩
    · left; rw [hu, Int.mul_neg]
    · right; rw [hu]
  refine ⟨⟨q0, by omega⟩, ⟨p0, by omega⟩, by omega, by omega, ⟨by omega, h.nm, by omega, by omega, h.um, ?_, h.d2, ?_, ?_, U, T + r / n * U, hU, v0, big', ?_⟩⟩
  · rcases hs with ⟨ht, hu⟩ | ⟨ht, hu⟩
    · rw [ht, hu, Int.mul_neg]; omega
    · rw [ht, hu]; omega
  · have : (t - r / n * u) * a - (r - r / n * n) = (t * a - r) - (r / n) * (u * a - n) := by
      rw [Int.sub_mul, Int.mul_sub, Int.mul_assoc]; omega
    rw [this]
    exact Int.dvd_sub h.d1 (Int.dvd_mul_of_dvd_right h.d2)
  · intro g h1 h2
    refine h.back g ?_ h1
    have : r = r / n * n + (r - r / n * n) := by omega
    rw [this]
    exact Int.dvd_add (Int.dvd_mul_of_dvd_right h1) h2
  · rcases hs with ⟨ht, hu⟩ | ⟨ht, hu⟩
    · exact .inr ⟨hu, by rw [ht, hu, Int.mul_neg]; omega⟩
    · exact .inl ⟨hu, by rw [ht, hu]; omega⟩
theorem Euc.no {m a r t u : Int} (h : Euc m a r 0 t u) (hr : r ≠ 1) : IsInv a m (-1) := by
  obtain ⟨p, q⟩ := h.back r (Int.dvd_refl r) (Int.dvd_zero r)
  exact .inl ⟨rfl, .inr ⟨r, h.r0, hr, p, q⟩⟩
theorem tmod_bd {t m : Int} (hm : 2 ≤ m) : -m < t.tmod m ∧ t.tmod m < m := by
  have h1 := Int.tmod_lt_of_pos t (show 0 < m by omega)
  have h2 := Int.lt_tmod_of_pos t (show 0 < m by omega)
  omega
theorem Euc.yes {m a t u : Int} (h : Euc m a 1 0 t u) (hm : 2 ≤ m) (hm2 : m ≤ 1000000) (h0 : 0 ≤ a) (h1 : a ≤ m - 1) : IsInv a m ((t.tmod m + m) % m) := by
  refine .inr ⟨hm, hm2, h0, h1, Int.emod_nonneg _ (by omega), Int.emod_lt_of_pos _ (by omega), ?_⟩
  obtain ⟨c, hc⟩ := h.d1
  have e := Int.mul_tdiv_add_tmod t m
  have e2 := Int.mul_ediv_add_emod (t.tmod m + m) m
  have e3 : a * ((t.tmod m + m) % m) = 1 + m * (c - a * t.tdiv m + a - a * ((t.tmod m + m) / m)) := by
    have s1 : (t.tmod m + m) % m = t - m * t.tdiv m + m - m * ((t.tmod m + m) / m) := by omega
    rw [s1, Int.mul_sub, Int.mul_add, Int.mul_sub, Int.mul_sub, Int.mul_add, Int.mul_sub, Int.mul_comm a t, show t * a = 1 + m * c by omega, Int.mul_left_comm, Int.mul_comm a m, Int.mul_left_comm a m]
    omega
  rw [e3, Int.add_mul_emod_self_left]
  exact Int.emod_eq_of_lt (by omega) (by omega)
theorem IsInv.out {a m : Int} (h : ¬ (2 ≤ m ∧ m ≤ 1000000 ∧ 0 ≤ a ∧ a ≤ m - 1)) : IsInv a m (-1) := .inl ⟨rfl, .inl h⟩

/-- Every number below a prime, but 0, has an inverse. -/
theorem prime_inv {n a v : Int} (hp : isPrimeM n = true) (h1 : 1 ≤ a) (h2 : a < n) (h : IsInv a n v) : 0 ≤ v := by
  unfold isPrimeM at hp
  obtain ⟨n2, n3, hd⟩ := of_decide_eq_true hp
  rcases h with ⟨rfl, h⟩ | ⟨_, _, _, _, h5, _⟩
  · exfalso
    rcases h with h | ⟨g, g0, g1, ⟨q, hq⟩, ⟨c, hc⟩⟩
    · exact h ⟨by omega, by omega, by omega, by omega⟩
    · have gp : 0 < g := by
        rcases Int.lt_or_eq_of_le g0 with h | h
        · exact h
        · rw [← h, Int.zero_mul] at hq; omega
      have qp : 0 < q := by
        rcases Int.lt_or_le 0 q with h | h
        · exact h
        · have h2 : g * q ≤ 0 := Int.mul_nonpos_of_nonneg_of_nonpos g0 h
          omega
      have cp : 0 < c := by
        rcases Int.lt_or_le 0 c with h | h
        · exact h
        · have h2 : g * c ≤ 0 := Int.mul_nonpos_of_nonneg_of_nonpos g0 h
          omega
      have ga : g ≤ a := by
        have := Int.mul_le_mul_of_nonneg_left (show 1 ≤ c by omega) g0
        omega
      have q2 : 2 ≤ q := by
        rcases Int.lt_or_le q 2 with h | h
        · obtain rfl : q = 1 := by omega
          omega
        · exact h
      rcases Int.le_total g q with hgq | hgq
      · have hgg : g * g ≤ n := by rw [hq]; exact Int.mul_le_mul_of_nonneg_left hgq g0
        refine hd g.toNat (by omega) (by omega) ?_ ?_
        · rw [Int.toNat_of_nonneg g0]; exact hgg
        · rw [Int.toNat_of_nonneg g0, hq]; exact Int.mul_emod_right g q
      · have hqq : q * q ≤ n := by rw [hq]; exact Int.mul_le_mul_of_nonneg_right hgq (by omega)
        have qn : q ≤ n := by
          have := Int.mul_le_mul_of_nonneg_right (show 1 ≤ g by omega) (show 0 ≤ q by omega)
          omega
        have q9 : q < 1000 := by
          have := Int.mul_le_mul_of_nonneg_left q2 (show 0 ≤ q by omega)
          omega
        refine hd q.toNat (by omega) (by omega) ?_ ?_
        · rw [Int.toNat_of_nonneg (by omega)]; exact hqq
        · rw [Int.toNat_of_nonneg (by omega), hq]; exact Int.mul_emod_left g q
  · exact h5
theorem mulModM_comm (a b m : Int) : mulModM b a m = mulModM a b m := by
  unfold mulModM
  by_cases h : 1 ≤ m ∧ m ≤ 1000000 ∧ 0 ≤ a ∧ a ≤ m - 1 ∧ 0 ≤ b ∧ b ≤ m - 1
  · rw [if_pos h, if_pos (by omega), Int.mul_comm]
  · rw [if_neg h, if_neg (by omega)]

end Go.Proofs.YtackffegdmohiaaDoor
