/- Plain facts on arguments that are read: a slice whose elements lie in cells reads as a list. No condition. -/
import Derived.Test.YtackffegdmohiaaDoorMem
import Derived.ProofKit
import Derived.Deep.Slices
import Derived.OpenShut
namespace Go.Proofs.YtackffegdmohiaaDoor
open Go.ChangeShapes Go.WideShapes Go.Deep

theorem list_of {α : Type} {p : Nat → α → Prop} : ∀ (n : Nat), (∀ i, i < n → ∃ y, p i y) → ∃ l : List α, l.length = n ∧ ∀ i (hi : i < l.length), p i l[i]
  | 0, _ => ⟨[], rfl, fun i hi => absurd hi (Nat.not_lt_zero i)⟩
  | n + 1, h => by
    obtain ⟨l, hl, hp⟩ := list_of n (fun i hi => h i (by omega))
    obtain ⟨y, hy⟩ := h n (by omega)
    refine ⟨l ++ [y], by simp [hl], fun i hi => ?_⟩
    by_cases e : i < l.length
    · rw [List.getElem_append_left e]; exact hp i e
    · have : i = n := by simp at hi; omega
      subst this
      rw [List.getElem_append_right (by omega)]
      simpa [hl] using hy

variable {α : Type} {H : Type} {enc : TypeId × Value → H} {P : Program} {w : World}
theorem open_rows (S : Shape α) (ok : α → Prop) {t e : TypeId} {fuel : Nat} {v : Value} {x : DataW H × List MemPlace} (ht : P.underlying t = some (.slice e)) (hC : P.cellsOf e = S.sz)
    (hel : ∀ (fuel : Nat) (cs : List Value) (x : DataW H × List MemPlace), DataW.trod enc P w 0 (fun _ => true) true fuel e cs = some x → ∃ y, cs = S.enc y ∧ ok y)
    (h : DataW.trod enc P w 0 (fun _ => true) true fuel t [v] = some x) : ∃ l, Sl S w v l ∧ ∀ y ∈ l, ok y := by
  rcases open_slice ht h with ⟨hcs, _⟩ | ⟨a, len, cap, m, n, D, Pl, hcs, _, hl, hm, hmm, _, hi⟩
  · simp only [List.cons.injEq, and_true] at hcs
    subst hcs
    exact ⟨[], ⟨none, 0, rfl, Nat.le_refl _, by simp [maxLen], .inl rfl⟩, by simp⟩
  · simp only [List.cons.injEq, and_true] at hcs
    subst hcs
    simp only [if_true] at hmm
    subst hmm
    obtain ⟨l, hlen, hp⟩ := list_of (p := fun i y => w.cells? 0 (a.add (i * S.sz)) S.sz = some (S.enc y) ∧ ok y) len (fun i hlt => by
      obtain ⟨cs', h1, h2⟩ := hi i (by omega)
      obtain ⟨y, rfl, hy⟩ := hel _ _ _ h2
      exact ⟨y, by rw [← hC]; exact h1, hy⟩)
    refine ⟨l, ⟨some a, m, by rw [hlen], by omega, hm, ?_⟩, fun y hy => ?_⟩
    · rcases Nat.eq_zero_or_pos l.length with h0 | h0
      · exact .inl (List.eq_nil_of_length_eq_zero h0)
      · right
        have cell : ∀ i (hlt : i < l.length) f, f < S.sz → w.cell? (a.add (i * S.sz + f)) = (S.enc l[i])[f]? := fun i hlt f hf => by
          have := (World.cells?_some (hp i hlt).1).2.2 f hf
          rwa [add_add] at this
        have c0 := cell 0 h0 0 S.pos
        have hsome : ∃ u, (S.enc l[0])[0]? = some u := ⟨_, List.getElem?_eq_getElem (by rw [S.len]; exact S.pos)⟩
        obtain ⟨u0, hu0⟩ := hsome
        rw [hu0] at c0
        obtain ⟨b, off, spot⟩ := a
        have hspot : spot = none := by
          have := World.cell?_spot c0
          simpa [Addr.add] using this
        subst hspot
        refine ⟨b, off, rfl, ?_, fun j u hu => ?_⟩
        · have := World.block_lt_of_cell? w _ c0
          simpa [add_plain] using this
        · have hj : j < l.length * S.sz := by rw [← S.cells_len]; exact (List.getElem?_eq_some_iff.1 hu).1
          have hq : j / S.sz < l.length := Nat.div_lt_of_lt_mul (by rw [Nat.mul_comm]; exact hj)
          have hr : j % S.sz < S.sz := Nat.mod_lt _ S.pos
          have hjj : j / S.sz * S.sz + j % S.sz = j := by rw [Nat.mul_comm]; exact Nat.div_add_mod j S.sz
          have := cell (j / S.sz) hq (j % S.sz) hr
          rw [← S.cells_at l _ hq _ hr, hjj, add_plain] at this
          rw [this, hu]
    · obtain ⟨i, hi2, rfl⟩ := List.getElem_of_mem hy
      exact (hp i hi2).2
end Go.Proofs.YtackffegdmohiaaDoor
