/- Plain facts on lists whose elements are each good and bear different keys. No condition. -/
import Derived.Test.YtemjonibpachbaaDoorTypes
import Derived.Test.YtemjonibpachbaaDoorStr
namespace Go.Proofs.YtemjonibpachbaaDoor

variable {α : Type}
/-- The element number k is good, and none before it bears its key. -/
def goodAt (okAt : Nat → Bool) (key : α → List UInt8) (l : List α) (k : Nat) : Bool := okAt k && match l[k]? with
  | none => true
  | some f => (l.take k).all fun y => !(key y == key f)
/-- At most m elements, each good, with different keys. -/
def goodB (m : Nat) (okAt : Nat → Bool) (key : α → List UInt8) (l : List α) : Bool := decide (l.length ≤ m) && (List.range l.length).all (goodAt okAt key l)
def GoodTo (okAt : Nat → Bool) (key : α → List UInt8) (l : List α) (k : Nat) : Prop := ∀ j, j < k → goodAt okAt key l j = true
/-- None of the first j elements bears the key of element k. -/
def FreeOf (key : α → List UInt8) (l : List α) (k : Nat) (hk : k < l.length) (j : Nat) : Prop := ∀ i (hi : i < l.length), i < j → (key l[i] == key l[k]) = false

theorem GoodTo.zero (okAt : Nat → Bool) (key : α → List UInt8) (l : List α) : GoodTo okAt key l 0 := fun j h => by omega
section
variable {okAt : Nat → Bool} {key : α → List UInt8} {l : List α} {k m : Nat}
theorem GoodTo.succ (h : GoodTo okAt key l k) (hk : goodAt okAt key l k = true) : GoodTo okAt key l (k + 1) := fun j hj => by
  by_cases e : j = k
  · subst e; exact hk
  · exact h j (by omega)
theorem FreeOf.zero (key : α → List UInt8) (l : List α) (k : Nat) (hk : k < l.length) : FreeOf key l k hk 0 := fun i _ h => by omega
theorem FreeOf.succ {hk : k < l.length} {j : Nat} (h : FreeOf key l k hk j) (hj : j < l.length) (he : (key l[j] == key l[k]) = false) : FreeOf key l k hk (j + 1) := fun i hi hij => by
  by_cases e : i = j
  · subst e; exact he
  · exact h i hi (by omega)
theorem goodB_long (h : m < l.length) : goodB m okAt key l = false := by unfold goodB; rw [decide_eq_false (by omega)]; rfl
theorem goodB_at (hk : k < l.length) (h : goodAt okAt key l k = false) : goodB m okAt key l = false := by
  unfold goodB
  rw [Bool.and_eq_false_iff, List.all_eq_false]
  exact .inr ⟨k, List.mem_range.2 hk, by rw [h]; simp⟩
theorem goodB_yes (h : l.length ≤ m) (ho : GoodTo okAt key l l.length) : goodB m okAt key l = true := by
  unfold goodB
  rw [decide_eq_true h, Bool.true_and, List.all_eq_true]
  exact fun k hk => ho k (List.mem_range.1 hk)
theorem goodAt_bad (h : okAt k = false) : goodAt okAt key l k = false := by unfold goodAt; rw [h]; rfl
theorem goodAt_twice (hk : k < l.length) {j : Nat} (hj : j < k) (h : (key (l[j]'(by omega)) == key l[k]) = true) : goodAt okAt key l k = false := by
  unfold goodAt
  rw [List.getElem?_eq_getElem hk, Bool.and_eq_false_iff, List.all_eq_false]
  refine .inr ⟨l[j]'(by omega), List.mem_take_iff_getElem.2 ⟨j, by omega, rfl⟩, by rw [h]; simp⟩
theorem goodAt_yes (hk : k < l.length) (h : okAt k = true) (hf : FreeOf key l k hk k) : goodAt okAt key l k = true := by
  unfold goodAt
  rw [List.getElem?_eq_getElem hk, h, Bool.true_and, List.all_eq_true]
  intro y hy
  obtain ⟨j, hj, rfl⟩ := List.mem_take_iff_getElem.1 hy
  rw [hf j (by omega) (by omega)]; rfl
/-- What a good list is. -/
theorem goodB_iff : goodB m okAt key l = true ↔ l.length ≤ m ∧ (∀ k, k < l.length → okAt k = true) ∧ ∀ j k (_ : j < k) (hk : k < l.length), key (l[j]'(by omega)) ≠ key l[k] := by
  constructor
  · intro h
    unfold goodB at h
    rw [Bool.and_eq_true, List.all_eq_true, decide_eq_true_eq] at h
    refine ⟨h.1, fun k hk => ?_, fun j k hj hk e => ?_⟩
    · have := h.2 k (List.mem_range.2 hk)
      unfold goodAt at this
      rw [Bool.and_eq_true] at this
      exact this.1
    · have := h.2 k (List.mem_range.2 hk)
      rw [goodAt_twice hk hj (by simp [e])] at this
      cases this
  · rintro ⟨h1, h2, h3⟩
    exact goodB_yes h1 fun k hk => goodAt_yes hk (h2 k hk) fun i hi hik => by simpa using h3 i k hik hk
end
/-- A test of each element by itself. -/
def okBy (ok : α → Bool) (l : List α) (k : Nat) : Bool := match l[k]? with
  | none => true
  | some f => ok f
theorem okBy_eq {ok : α → Bool} {l : List α} {k : Nat} (hk : k < l.length) : okBy ok l k = ok l[k] := by unfold okBy; rw [List.getElem?_eq_getElem hk]

/-- A field: a word and a number from 0 to Great. -/
def fldOk (f : Fld) : Bool := wordB f.name.data.toList && (decide (0 ≤ f.val) && decide (f.val ≤ 1000000000))
/-- At most six fields with different names. -/
def fieldsB (l : List Fld) : Bool := goodB 6 (okBy fldOk l) (fun f => f.name.toList) l
end Go.Proofs.YtemjonibpachbaaDoor
