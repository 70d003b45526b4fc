/- Plain facts on the parts of a text between single bytes. No condition. -/
import Derived.Test.YtackffegdmohiaaDoorStr
import Derived.Lib.SplitLaws
import Derived.Lib.Split
import Derived.Lib.CountLaws
import Derived.Lib.Join
import Derived.Lib.IndexBytes
namespace Go.Proofs.YtackffegdmohiaaDoor

/-- What lies between the bytes c. -/
def parts (c : UInt8) : List UInt8 → List (List UInt8)
  | [] => [[]]
  | a :: l => if a = c then [] :: parts c l else match parts c l with
    | p :: r => (a :: p) :: r
    | [] => [[a]]
theorem parts_ne (c : UInt8) (l : List UInt8) : parts c l ≠ [] := by
  cases l with
  | nil => simp [parts]
  | cons a l =>
    unfold parts
    split
    · simp
    · split <;> simp
theorem parts_none {c : UInt8} : ∀ {l : List UInt8}, c ∉ l → parts c l = [l]
  | [], _ => rfl
  | a :: l, h => by
    have h1 : a ≠ c := fun e => h (by simp [e])
    have ih := parts_none (c := c) (l := l) (fun hc => h (List.mem_cons_of_mem _ hc))
    unfold parts
    rw [if_neg h1, ih]
theorem parts_cut {c : UInt8} : ∀ {p : List UInt8} (r : List UInt8), c ∉ p → parts c (p ++ c :: r) = p :: parts c r
  | [], r, _ => by simp [parts]
  | a :: p, r, h => by
    have h1 : a ≠ c := fun e => h (by simp [e])
    have ih := parts_cut (c := c) (p := p) r (fun hc => h (List.mem_cons_of_mem _ hc))
    rw [List.cons_append]
    conv => lhs; unfold parts
    rw [if_neg h1, ih]
/-- The parts of what was joined. -/
theorem parts_join {c : UInt8} : ∀ {xs : List (List UInt8)}, xs ≠ [] → (∀ x ∈ xs, c ∉ x) → parts c (Lib.join xs [c]) = xs
  | [x], _, h => by rw [Lib.join_one]; exact parts_none (h x (by simp))
  | x :: y :: r, _, h => by
    have ih := parts_join (c := c) (xs := y :: r) (by simp) (fun z hz => h z (List.mem_cons_of_mem _ hz))
    have e : Lib.join (x :: y :: r) [c] = x ++ c :: Lib.join (y :: r) [c] := by
      rw [Lib.join_cons, Lib.join_cons]; simp [Lib.joinTail]
    rw [e, parts_cut _ (h x (by simp)), ih]
theorem join_two (x y : List UInt8) (r : List (List UInt8)) (s : List UInt8) : Lib.join (x :: y :: r) s = x ++ (s ++ Lib.join (y :: r) s) := by
  rw [Lib.join_cons, Lib.join_cons]; simp [Lib.joinTail]
/-- The parts, joined. -/
theorem join_parts (c : UInt8) : ∀ l : List UInt8, Lib.join (parts c l) [c] = l
  | [] => by simp [parts, Lib.join_one]
  | a :: l => by
    have ih := join_parts c l
    have hn := parts_ne c l
    unfold parts
    split
    · rename_i e
      cases hp : parts c l with
      | nil => exact absurd hp hn
      | cons p r => rw [join_two, ← hp, ih, e]; rfl
    · split
      · rename_i p r hp
        rw [hp] at ih
        cases r with
        | nil => rw [Lib.join_one] at ih ⊢; rw [ih]
        | cons q r => rw [join_two] at ih ⊢; rw [← ih]; rfl
      · rename_i hp; exact absurd hp hn
theorem parts_free (c : UInt8) : ∀ l : List UInt8, ∀ p ∈ parts c l, c ∉ p
  | [], p, hp => by simp [parts] at hp; simp [hp]
  | a :: l, p, hp => by
    have ih := parts_free c l
    unfold parts at hp
    split at hp
    · rcases List.mem_cons.1 hp with rfl | hp
      · simp
      · exact ih p hp
    · rename_i hne
      split at hp
      · rename_i q r hq
        rcases List.mem_cons.1 hp with rfl | hp
        · intro hc
          rcases List.mem_cons.1 hc with e | hc
          · exact hne e.symm
          · exact ih q (by rw [hq]; simp) hc
        · exact ih p (by rw [hq]; exact List.mem_cons_of_mem _ hp)
      · rename_i hq; exact absurd hq (parts_ne c l)
theorem mem_take_first {l : List UInt8} {c : UInt8} {i : Nat} (h : ∀ j, j < i → l.getD j 0 ≠ c) : c ∉ l.take i := fun hc => by
  obtain ⟨j, hj, e⟩ := List.getElem_of_mem hc
  rw [List.length_take] at hj
  rw [List.getElem_take] at e
  exact h j (by omega) (by rw [getD_lt (by omega)]; exact e)
theorem cut_first {l : List UInt8} {c : UInt8} {i : Nat} (hi : i < l.length) (hc : l.getD i 0 = c) : l = l.take i ++ c :: l.drop (i + 1) := by
  rw [getD_lt hi] at hc
  conv => lhs; rw [← List.take_append_drop i l, List.drop_eq_getElem_cons hi, hc]
/-- The first place of a byte. -/
theorem first_of : ∀ (l : List UInt8) (c : UInt8), (Lib.indexByte l c = -1 ∧ c ∉ l) ∨ ∃ k : Nat, Lib.indexByte l c = k ∧ k < l.length ∧ l.getD k 0 = c ∧ ∀ j, j < k → l.getD j 0 ≠ c
  | [], c => .inl ⟨rfl, by simp⟩
  | a :: l, c => by
    by_cases e : a = c
    · exact .inr ⟨0, by simp [Lib.indexByte, e], by simp, by simpa using e, fun j h => by omega⟩
    · rcases first_of l c with ⟨h1, h2⟩ | ⟨k, h1, h2, h3, h4⟩
      · exact .inl ⟨by simp [Lib.indexByte, e, h1], fun hc => (List.mem_cons.1 hc).elim (fun e2 => e e2.symm) h2⟩
      · refine .inr ⟨k + 1, by simp [Lib.indexByte, e, h1], by simpa using h2, by simpa using h3, fun j h => ?_⟩
        cases j with
        | zero => simpa using e
        | succ j => simpa using h4 j (by omega)
theorem splitK_parts (c : UInt8) : ∀ (k : Nat) (l : List UInt8), l.count c = k → Lib.splitK [c] 0 k l = parts c l
  | 0, l, h => by
    rw [Lib.splitK, parts_none (List.count_eq_zero.1 h)]
  | k + 1, l, h => by
    rcases first_of l c with ⟨h1, h2⟩ | ⟨i, h1, h2, h3, h4⟩
    · rw [List.count_eq_zero.2 h2] at h; cases h
    · have ec := cut_first h2 h3
      have hf : c ∉ l.take i := mem_take_first h4
      have hk : (l.drop (i + 1)).count c = k := by
        rw [ec, List.count_append, List.count_cons_self, List.count_eq_zero.2 hf] at h
        omega
      rw [Lib.splitK, Lib.index_one, h1, if_neg (by simp), show ((i : Int)).toNat = i from rfl, Nat.add_zero, List.length_singleton, splitK_parts c k _ hk]
      conv => rhs; rw [ec, parts_cut _ hf]
theorem split_parts (s : ByteArray) (c : UInt8) : (Lib.splitB ⟨#[c]⟩ 0 (Lib.countB s ⟨#[c]⟩) s).map (·.data.toList) = parts c s.data.toList := by
  rw [Lib.splitB_data]
  exact splitK_parts c _ _ (Lib.count_one c _).symm
theorem parts_count (c : UInt8) : ∀ l : List UInt8, (parts c l).length ≤ l.length + 1
  | [] => by simp [parts]
  | a :: l => by
    have ih := parts_count c l
    unfold parts
    split
    · simp; omega
    · split
      · rename_i p r hp; rw [hp] at ih; simp at ih ⊢; omega
      · simp
theorem parts_size (c : UInt8) : ∀ l : List UInt8, ∀ p ∈ parts c l, p.length ≤ l.length
  | [], p, hp => by simp [parts] at hp; simp [hp]
  | a :: l, p, hp => by
    have ih := parts_size c l
    unfold parts at hp
    split at hp
    · rcases List.mem_cons.1 hp with rfl | hp
      · simp
      · have := ih p hp; simp; omega
    · split at hp
      · rename_i q r hq
        rcases List.mem_cons.1 hp with rfl | hp
        · have := ih q (by rw [hq]; simp); simp; omega
        · have := ih p (by rw [hq]; exact List.mem_cons_of_mem _ hp); simp; omega
      · rename_i hq; exact absurd hq (parts_ne c l)
end Go.Proofs.YtackffegdmohiaaDoor
