/- Plain facts on texts: words, texts, digits. Texts are lists of bytes. No condition. -/
import Derived.Test.YtackffegdmohiaaDoorMath
namespace Go.Proofs.YtackffegdmohiaaDoor

def lowB (c : UInt8) : Bool := decide (97 ≤ c.toNat) && decide (c.toNat ≤ 122)
def digB (c : UInt8) : Bool := decide (48 ≤ c.toNat) && decide (c.toNat ≤ 57)
def alnB (c : UInt8) : Bool := lowB c || digB c
/-- A word: 1 to 8 small letters and digits, no digit first. -/
def wordB (l : List UInt8) : Bool := decide (1 ≤ l.length ∧ l.length ≤ 8) && (lowB (l.getD 0 0) && (l.drop 1).all alnB)
/-- A text: at most 80 bytes from 32 to 126. -/
def textB (l : List UInt8) : Bool := decide (l.length ≤ 80) && l.all (fun c => decide (32 ≤ c.toNat) && decide (c.toNat ≤ 126))
/-- The value of a digit in base 36; -1 for other bytes. -/
def digV (c : UInt8) : Int := if digB c then (c.toNat : Int) - 48 else if lowB c then (c.toNat : Int) - 97 + 10 else -1

theorem getD_lt {l : List UInt8} {i : Nat} (h : i < l.length) : l.getD i 0 = l[i] := by simp [List.getD, h]
/-- All of the bytes from a on below b meet f. -/
def AllIn (f : UInt8 → Bool) (l : List UInt8) (a b : Nat) : Prop := ∀ j, a ≤ j → j < b → f (l.getD j 0) = true
theorem AllIn.nil (f : UInt8 → Bool) (l : List UInt8) (a : Nat) : AllIn f l a a := fun j h1 h2 => by omega
theorem AllIn.succ {f : UInt8 → Bool} {l : List UInt8} {a b : Nat} (h : AllIn f l a b) (hb : f (l.getD b 0) = true) : AllIn f l a (b + 1) := fun j h1 h2 => by
  by_cases e : j = b
  · subst e; exact hb
  · exact h j h1 (by omega)
theorem all_of_AllIn {f : UInt8 → Bool} {l : List UInt8} (a : Nat) (h : AllIn f l a l.length) : (l.drop a).all f = true := by
  rw [List.all_eq_true]
  intro x hx
  obtain ⟨i, hi, rfl⟩ := List.getElem_of_mem hx
  rw [List.length_drop] at hi
  have := h (a + i) (by omega) (by omega)
  rw [getD_lt (by omega)] at this
  simpa using this
theorem all_false {f : UInt8 → Bool} {l : List UInt8} {a b : Nat} (h : a ≤ b) (hb : b < l.length) (hf : f (l.getD b 0) = false) : (l.drop a).all f = false := by
  rw [List.all_eq_false]
  refine ⟨l[b], ?_, by rw [getD_lt hb] at hf; simp [hf]⟩
  refine List.mem_iff_getElem.2 ⟨b - a, by rw [List.length_drop]; omega, ?_⟩
  simp [show a + (b - a) = b by omega]

theorem wordB_long {l : List UInt8} (h : ¬ (1 ≤ l.length ∧ l.length ≤ 8)) : wordB l = false := by simp [wordB, h]
theorem wordB_head {l : List UInt8} (h : lowB (l.getD 0 0) = false) : wordB l = false := by unfold wordB; rw [h]; simp
theorem wordB_at {l : List UInt8} {k : Nat} (h1 : 1 ≤ k) (hk : k < l.length) (h : alnB (l.getD k 0) = false) : wordB l = false := by unfold wordB; rw [all_false h1 hk h]; simp
theorem wordB_yes {l : List UInt8} (h : 1 ≤ l.length ∧ l.length ≤ 8) (h0 : lowB (l.getD 0 0) = true) (ha : AllIn alnB l 1 l.length) : wordB l = true := by
  unfold wordB; rw [all_of_AllIn 1 ha, h0]; simp [h]
def prB (c : UInt8) : Bool := decide (32 ≤ c.toNat) && decide (c.toNat ≤ 126)
theorem textB_long {l : List UInt8} (h : ¬ l.length ≤ 80) : textB l = false := by simp [textB, h]
theorem textB_at {l : List UInt8} {k : Nat} (hk : k < l.length) (h : prB (l.getD k 0) = false) : textB l = false := by
  have := all_false (f := prB) (a := 0) (Nat.zero_le k) hk h
  unfold textB
  rw [show (l.all fun c => decide (32 ≤ c.toNat) && decide (c.toNat ≤ 126)) = false from this]; simp
theorem textB_yes {l : List UInt8} (h : l.length ≤ 80) (ha : AllIn prB l 0 l.length) : textB l = true := by
  have := all_of_AllIn 0 ha
  unfold textB
  rw [show (l.all fun c => decide (32 ≤ c.toNat) && decide (c.toNat ≤ 126)) = true from this]; simp [h]

theorem size_len (s : ByteArray) : s.data.toList.length = s.size := by cases s; rfl
theorem sget {s : ByteArray} {k : Nat} (h : k < s.size) : s.data.toList.getD k 0 = s[k] := by
  rw [getD_lt (by rw [size_len]; exact h)]; rfl
theorem byte_lt (c : UInt8) : c.toNat < 256 := c.toNat_lt

theorem textB_bd {l : List UInt8} (h : textB l = true) : l.length ≤ 80 ∧ ∀ k, k < l.length → 32 ≤ (l.getD k 0).toNat ∧ (l.getD k 0).toNat ≤ 126 := by
  simp only [textB, Bool.and_eq_true, decide_eq_true_eq, List.all_eq_true] at h
  exact ⟨h.1, fun k hk => by rw [getD_lt hk]; exact h.2 _ (List.getElem_mem hk)⟩
/-- The digest of the first k bytes. -/
def digestTo (l : List UInt8) (k : Nat) : Int := (l.take k).foldl (fun d c => (257 * d + (c.toNat : Int)) % 999983) 1
/-- The digest of a text; -1 for other texts. -/
def digestM (l : List UInt8) : Int := if textB l = true then digestTo l l.length else -1
theorem digestTo_step (l : List UInt8) (k : Nat) (h : k < l.length) : digestTo l (k + 1) = (257 * digestTo l k + ((l.getD k 0).toNat : Int)) % 999983 := by
  unfold digestTo
  rw [List.take_succ_eq_append_getElem h, List.foldl_append, getD_lt h]
  rfl
theorem digestTo_bd (l : List UInt8) (k : Nat) : 0 ≤ digestTo l k ∧ digestTo l k ≤ 999982 := by
  induction k with
  | zero => simp [digestTo]
  | succ k ih =>
    by_cases h : k < l.length
    · rw [digestTo_step l k h]; omega
    · have : digestTo l (k + 1) = digestTo l k := by unfold digestTo; rw [List.take_of_length_le (by omega), List.take_of_length_le (by omega)]
      rw [this]; exact ih
theorem digestTo_succ {l : List UInt8} {k : Nat} (h : k < l.length) (h1 : 32 ≤ (l.getD k 0).toNat) (h2 : (l.getD k 0).toNat ≤ 126) : digestTo l (k + 1) = digestMoreM (digestTo l k) ((l.getD k 0).toNat : Int) := by
  have := digestTo_bd l k
  rw [digestTo_step l k h]; unfold digestMoreM; rw [if_pos (by omega)]

end Go.Proofs.YtackffegdmohiaaDoor
