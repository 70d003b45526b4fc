/- Plain facts on one actor more in its place; the walk of withAt. Condition: the slice reads as the list. -/
import Derived.Test.YtipalcmfhmmdiaaDoorActrN
import Derived.Test.YtipalcmfhmmdiaaDoorApp
namespace Go.Proofs.YtipalcmfhmmdiaaDoor
open Go.RowKit

/-- x at place n. -/
def insAt (l : List Actr) (x : Actr) (n : Nat) : List Actr := l.take n ++ x :: l.drop n
theorem insAt_len (l : List Actr) (x : Actr) (n : Nat) : (insAt l x n).length = l.length + 1 := by
  unfold insAt
  rw [List.length_append, List.length_cons, List.length_take, List.length_drop]; omega
/-- The first n names stand before nm. -/
def LessTo (l : List Actr) (nm : ByteArray) (n : Nat) : Prop := ∀ i (h : i < l.length), i < n → Op.bytesLess l[i].name.toList nm.toList = true
def AtRel (l : List Actr) (nm : ByteArray) (n : Nat) : Prop := n ≤ l.length ∧ LessTo l nm n ∧ ∀ h : n < l.length, Op.bytesLess l[n].name.toList nm.toList = false
theorem LessTo.zero (l : List Actr) (nm : ByteArray) : LessTo l nm 0 := fun i _ h => by omega
theorem LessTo.succ {l : List Actr} {nm : ByteArray} {n : Nat} (h : LessTo l nm n) (hn : n < l.length) (he : Op.bytesLess l[n].name.toList nm.toList = true) : LessTo l nm (n + 1) := fun i hi h2 => by
  by_cases e : i = n
  · subst e; exact he
  · exact h i hi (by omega)
theorem AtRel.eq {l : List Actr} {nm : ByteArray} {n m : Nat} (h1 : AtRel l nm n) (h2 : AtRel l nm m) : n = m := by
  rcases Nat.lt_trichotomy n m with h | h | h
  · have a := h1.2.2 (by have := h2.1; omega)
    have b := h2.2.1 n (by have := h2.1; omega) h
    rw [a] at b; cases b
  · exact h
  · have a := h2.2.2 (by have := h1.1; omega)
    have b := h1.2.1 m (by have := h1.1; omega) h
    rw [a] at b; cases b
/-- What AddActor answers. -/
def AddRel (l : List Actr) (x : Actr) (out : List Actr) (ok : Bool) : Prop :=
  (actorsB l = false ∧ out = [] ∧ ok = false) ∨ (actorsB l = true ∧ ∃ n, AtRel l x.name n ∧ ((actorsB (insAt l x n) = true ∧ out = insAt l x n ∧ ok = true) ∨ (actorsB (insAt l x n) = false ∧ out = l ∧ ok = false)))
theorem AddRel.eq {l : List Actr} {x : Actr} {a b : List Actr} {p q : Bool} (h1 : AddRel l x a p) (h2 : AddRel l x b q) : a = b ∧ p = q := by
  rcases h1 with ⟨h1, rfl, rfl⟩ | ⟨h1, n, hn, h3⟩ <;> rcases h2 with ⟨h2, rfl, rfl⟩ | ⟨h2, m, hm, h4⟩
  · exact ⟨rfl, rfl⟩
  · rw [h1] at h2; cases h2
  · rw [h1] at h2; cases h2
  · obtain rfl := hn.eq hm
    rcases h3 with ⟨h3, rfl, rfl⟩ | ⟨h3, rfl, rfl⟩ <;> rcases h4 with ⟨h4, rfl, rfl⟩ | ⟨h4, rfl, rfl⟩
    · exact ⟨rfl, rfl⟩
    · rw [h3] at h4; cases h4
    · rw [h3] at h4; cases h4
    · exact ⟨rfl, rfl⟩
theorem AddRel.len {l : List Actr} {x : Actr} {a : List Actr} {p : Bool} (h : AddRel l x a p) : a.length ≤ l.length + 1 := by
  rcases h with ⟨_, rfl, _⟩ | ⟨_, n, _, ⟨_, rfl, _⟩ | ⟨_, rfl, _⟩⟩
  · simp
  · rw [insAt_len]; exact Nat.le_refl _
  · omega
theorem insAt_sizes {l : List Actr} {x : Actr} {n : Nat} (h : FeedSizes l) (h1 : x.name.size ≤ 140737488355328) (h2 : x.feed.size ≤ 140737488355328) : FeedSizes (insAt l x n) := fun y hy => by
  unfold insAt at hy
  rcases List.mem_append.1 hy with hy | hy
  · exact h y (List.mem_of_mem_take hy)
  · rcases List.mem_cons.1 hy with rfl | hy
    · exact ⟨h1, h2⟩
    · exact h y (List.mem_of_mem_drop hy)

end Go.Proofs.YtipalcmfhmmdiaaDoor
