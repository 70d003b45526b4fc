/- Plain facts on marks: the digits of a number in the base 36, and the number of a text. No condition. -/
import Derived.Test.YtackffegdmohiaaDoorStr
namespace Go.Proofs.YtackffegdmohiaaDoor

def dig36 (d : Nat) : UInt8 := UInt8.ofNat (if d < 10 then 48 + d else 87 + d)
def markF : Nat → Nat → List UInt8
  | 0, n => [dig36 (n % 36)]
  | f + 1, n => (if n < 36 then [] else markF f (n / 36)) ++ [dig36 (n % 36)]
/-- The digits of a number. -/
def markN (n : Nat) : List UInt8 := markF n n
theorem markF_fuel : ∀ (f g n : Nat), n ≤ f → n ≤ g → markF f n = markF g n
  | 0, 0, _, _, _ => rfl
  | 0, g + 1, n, h, _ => by
    obtain rfl : n = 0 := by omega
    simp [markF]
  | f + 1, 0, n, _, h => by
    obtain rfl : n = 0 := by omega
    simp [markF]
  | f + 1, g + 1, n, h1, h2 => by
    simp only [markF]
    by_cases e : n < 36
    · rw [if_pos e, if_pos e]
    · rw [if_neg e, if_neg e, markF_fuel f g (n / 36) (by omega) (by omega)]
/-- The digits ahead of the last one. -/
def preN (n : Nat) : List UInt8 := if n < 36 then [] else markN (n / 36)
theorem markN_pre (n : Nat) : markN n = preN n ++ [dig36 (n % 36)] := by
  unfold preN markN
  cases n with
  | zero => simp [markF]
  | succ n =>
    simp only [markF]
    by_cases e : n + 1 < 36
    · rw [if_pos e, if_pos e]
    · rw [if_neg e, if_neg e, markF_fuel n ((n + 1) / 36) _ (by omega) (Nat.le_refl _)]
theorem preN_step {n : Nat} (h : 36 ≤ n) : preN n = preN (n / 36) ++ [dig36 (n / 36 % 36)] := by
  conv => lhs; unfold preN
  rw [if_neg (by omega), markN_pre]
theorem preN_small {n : Nat} (h : n < 36) : preN n = [] := by unfold preN; rw [if_pos h]
theorem dig_val : ∀ d : Nat, d < 36 → digV (dig36 d) = d ∧ alnB (dig36 d) = true := by decide
theorem val_dig (c : UInt8) (h : alnB c = true) : dig36 (digV c).toNat = c ∧ 0 ≤ digV c ∧ digV c < 36 := by
  have key : ∀ k : Fin 256, alnB (UInt8.ofNat k.val) = true → dig36 (digV (UInt8.ofNat k.val)).toNat = UInt8.ofNat k.val ∧ 0 ≤ digV (UInt8.ofNat k.val) ∧ digV (UInt8.ofNat k.val) < 36 := by decide +kernel
  have := key ⟨c.toNat, c.toNat_lt⟩
  simp only [UInt8.ofNat_toNat] at this
  exact this h
theorem dig_zero {d : Nat} (h : d < 36) (h0 : dig36 d = 48) : d = 0 := by
  have := (dig_val d h).1
  rw [h0] at this
  have e : digV 48 = 0 := by decide
  omega
/-- The number of a text of digits. -/
def valL (l : List UInt8) : Int := l.foldl (fun n c => n * 36 + digV c) 0
theorem valL_snoc (l : List UInt8) (c : UInt8) : valL (l ++ [c]) = valL l * 36 + digV c := by simp [valL]
theorem val_mark (n : Nat) : valL (markN n) = n := by
  induction n using Nat.strongRecOn with
  | ind n ih =>
    rw [markN_pre, valL_snoc, (dig_val (n % 36) (by omega)).1]
    by_cases h : n < 36
    · rw [preN_small h]; simp [valL]; omega
    · rw [show preN n = markN (n / 36) by unfold preN; rw [if_neg h], ih (n / 36) (by omega)]; omega
theorem mark_inj {n m : Nat} (h : markN n = markN m) : n = m := by
  have h1 := val_mark n
  rw [h, val_mark] at h1
  omega
theorem mark_aln (n : Nat) : ∀ c ∈ markN n, alnB c = true := by
  induction n using Nat.strongRecOn with
  | ind n ih =>
    intro c hc
    rw [markN_pre] at hc
    rcases List.mem_append.1 hc with hc | hc
    · by_cases h : n < 36
      · rw [preN_small h] at hc; cases hc
      · rw [show preN n = markN (n / 36) by unfold preN; rw [if_neg h]] at hc
        exact ih (n / 36) (by omega) c hc
    · rw [List.mem_singleton.1 hc]; exact (dig_val (n % 36) (by omega)).2
theorem mark_pos (n : Nat) : 1 ≤ (markN n).length := by rw [markN_pre]; simp
theorem mark_len : ∀ (k n : Nat), n < 36 ^ (k + 1) → (markN n).length ≤ k + 1
  | 0, n, h => by rw [markN_pre, preN_small (by simpa using h)]; simp
  | k + 1, n, h => by
    rw [markN_pre]
    by_cases e : n < 36
    · rw [preN_small e]; simp
    · rw [show preN n = markN (n / 36) by unfold preN; rw [if_neg e]]
      have := mark_len k (n / 36) (by rw [Nat.pow_succ] at h; omega)
      simp; omega
theorem mark_six {n : Nat} (h : n ≤ 1000000000) : (markN n).length ≤ 6 := mark_len 5 n (by omega)
/-- No text of more than one digit begins with 0. -/
theorem mark_head (n : Nat) : 1 < (markN n).length → (markN n).getD 0 0 ≠ 48 := by
  induction n using Nat.strongRecOn with
  | ind n ih =>
    intro h
    rw [markN_pre] at h ⊢
    by_cases e : n < 36
    · rw [preN_small e] at h; simp at h
    · have ep : preN n = markN (n / 36) := by unfold preN; rw [if_neg e]
      rw [ep]
      have hp := mark_pos (n / 36)
      rw [List.getD_eq_getElem?_getD, List.getElem?_append_left (by omega), ← List.getD_eq_getElem?_getD]
      by_cases h1 : 1 < (markN (n / 36)).length
      · exact ih (n / 36) (by omega) h1
      · have h36 : n / 36 < 36 := by
          refine Nat.lt_of_not_le fun hge => h1 ?_
          rw [markN_pre, show preN (n / 36) = markN (n / 36 / 36) by unfold preN; rw [if_neg (by omega)]]
          have := mark_pos (n / 36 / 36)
          simp; omega
        rw [markN_pre, preN_small h36]
        intro h0
        have h2 : dig36 (n / 36 % 36) = 48 := by simpa using h0
        have := dig_zero (by omega) h2
        omega
/-- Digits, without a 0 ahead of others. -/
def Canon (l : List UInt8) : Prop := 1 ≤ l.length ∧ (∀ c ∈ l, alnB c = true) ∧ (1 < l.length → l.getD 0 0 ≠ 48)
theorem mark_canon (n : Nat) : Canon (markN n) := ⟨mark_pos n, mark_aln n, mark_head n⟩
theorem val_bd : ∀ (l : List UInt8) (_ : ∀ c ∈ l, alnB c = true) (a : Int), 0 ≤ a → a ≤ l.foldl (fun n c => n * 36 + digV c) a
  | [], _, a, _ => Int.le_refl a
  | c :: l, h, a, ha => by
    have hd := (val_dig c (h c (List.mem_cons_self))).2
    rw [List.foldl_cons]
    have := val_bd l (fun c hc => h c (List.mem_cons_of_mem _ hc)) (a * 36 + digV c) (by omega)
    omega
theorem val_nonneg {l : List UInt8} (h : ∀ c ∈ l, alnB c = true) : 0 ≤ valL l := val_bd l h 0 (Int.le_refl _)
theorem val_pos {l : List UInt8} (h : ∀ c ∈ l, alnB c = true) (h1 : 1 ≤ l.length) (h0 : l.getD 0 0 ≠ 48) : 1 ≤ valL l := by
  cases l with
  | nil => simp at h1
  | cons c l =>
    have hc := h c List.mem_cons_self
    have hd := val_dig c hc
    have hn : 1 ≤ digV c := by
      rcases Int.lt_or_le (digV c) 1 with e | e
      · have e0 : digV c = 0 := by omega
        have := hd.1
        rw [e0] at this
        exact absurd this.symm h0
      · exact e
    have := val_bd l (fun c hc => h c (List.mem_cons_of_mem _ hc)) (0 * 36 + digV c) (by omega)
    unfold valL
    rw [List.foldl_cons]; omega
theorem canon_pre {l : List UInt8} {c : UInt8} (h : Canon (l ++ [c])) (h0 : l ≠ []) : Canon l ∧ l.getD 0 0 ≠ 48 := by
  obtain ⟨h1, h2, h3⟩ := h
  have hl : 1 ≤ l.length := by cases l with
    | nil => exact absurd rfl h0
    | cons a l => simp
  have h4 := h3 (by simp; omega)
  rw [List.getD_eq_getElem?_getD, List.getElem?_append_left (by omega), ← List.getD_eq_getElem?_getD] at h4
  exact ⟨⟨hl, fun c hc => h2 c (List.mem_append_left _ hc), fun _ => h4⟩, h4⟩
theorem mark_val : ∀ (k : Nat) (l : List UInt8), l.length = k → Canon l → markN (valL l).toNat = l
  | 0, l, hk, h => by have := h.1; omega
  | k + 1, l, hk, h => by
    obtain ⟨l', c, rfl⟩ : ∃ l' c, l = l' ++ [c] := ⟨l.dropLast, l.getLast (by intro e; rw [e] at hk; simp at hk), (List.dropLast_concat_getLast _).symm⟩
    have hc := val_dig c (h.2.1 c (by simp))
    rw [valL_snoc, markN_pre]
    by_cases h0 : l' = []
    · subst h0
      have e : (valL [] * 36 + digV c).toNat = (digV c).toNat := by simp [valL]
      rw [e, preN_small (by omega), Nat.mod_eq_of_lt (by omega), hc.1]
    · obtain ⟨hl, hh⟩ := canon_pre h h0
      have hp := val_pos hl.2.1 hl.1 hh
      have ih := mark_val k l' (by simp at hk; exact hk) hl
      have e1 : (valL l' * 36 + digV c).toNat / 36 = (valL l').toNat := by omega
      have e2 : (valL l' * 36 + digV c).toNat % 36 = (digV c).toNat := by omega
      rw [e2, hc.1, show preN (valL l' * 36 + digV c).toNat = markN ((valL l' * 36 + digV c).toNat / 36) by unfold preN; rw [if_neg (by omega)], e1, ih]
/-- What is read off a text: its number, or -1. -/
def MarkIs (l : List UInt8) (v : Int) : Prop := (∃ n : Nat, v = n ∧ n ≤ 1000000000 ∧ markN n = l) ∨ (v = -1 ∧ ∀ n : Nat, n ≤ 1000000000 → markN n ≠ l)
theorem MarkIs.eq {l : List UInt8} {v u : Int} (h : MarkIs l v) (k : MarkIs l u) : v = u := by
  rcases h with ⟨n, rfl, h1, h2⟩ | ⟨rfl, h1⟩ <;> rcases k with ⟨m, rfl, k1, k2⟩ | ⟨rfl, k1⟩
  · rw [mark_inj (h2.trans k2.symm)]
  · exact absurd h2 (k1 n h1)
  · exact absurd k2 (h1 m k1)
  · rfl
theorem MarkIs.bd {l : List UInt8} {v : Int} (h : MarkIs l v) : -1 ≤ v ∧ v ≤ 1000000000 := by
  rcases h with ⟨n, rfl, h1, _⟩ | ⟨rfl, _⟩ <;> omega
theorem MarkIs.long {l : List UInt8} (h : l.length < 1 ∨ 6 < l.length) : MarkIs l (-1) := .inr ⟨rfl, fun n hn e => by
  have h1 := mark_pos n
  have h2 := mark_six hn
  rw [e] at h1 h2; omega⟩
theorem MarkIs.zero {l : List UInt8} (h : 1 < l.length) (h0 : l.getD 0 0 = 48) : MarkIs l (-1) := .inr ⟨rfl, fun n hn e => by
  have := mark_head n
  rw [e] at this
  exact this h h0⟩
theorem MarkIs.bad {l : List UInt8} {k : Nat} (hk : k < l.length) (h0 : alnB (l.getD k 0) = false) : MarkIs l (-1) := .inr ⟨rfl, fun n hn e => by
  have := mark_aln n (l.getD k 0) (by rw [e, getD_lt hk]; exact List.getElem_mem _)
  rw [h0] at this; cases this⟩
theorem MarkIs.great {l : List UInt8} (h : 1000000000 < valL l) : MarkIs l (-1) := .inr ⟨rfl, fun n hn e => by
  have := val_mark n
  rw [e] at this; omega⟩
theorem MarkIs.yes {l : List UInt8} (hc : Canon l) (h : valL l ≤ 1000000000) : MarkIs l (valL l) := by
  have h0 := val_nonneg hc.2.1
  exact .inl ⟨(valL l).toNat, by omega, by omega, mark_val _ l rfl hc⟩
/-- The text of a number from 0 to Great; empty for others. -/
def markS (n : Int) : ByteArray := if 0 ≤ n ∧ n ≤ 1000000000 then ⟨(markN n.toNat).toArray⟩ else ⟨#[]⟩
theorem markS_list {n : Int} (h0 : 0 ≤ n) (h1 : n ≤ 1000000000) : (markS n).data.toList = markN n.toNat := by unfold markS; rw [if_pos ⟨h0, h1⟩]
theorem markS_out {n : Int} (h : n < 0 ∨ 1000000000 < n) : markS n = ⟨#[]⟩ := by unfold markS; rw [if_neg (by omega)]
theorem markS_size (n : Int) : (markS n).size ≤ 6 := by
  unfold markS
  split
  · show (markN n.toNat).toArray.size ≤ 6
    rw [List.size_toArray]; exact mark_six (by omega)
  · show 0 ≤ 6; omega
end Go.Proofs.YtackffegdmohiaaDoor
