/- Plain facts on one actor more in its place; the walk of withAt. Condition: the slice reads as the list. -/
import Derived.Test.YtipalcmfhmmdiaaActrN
import Derived.Test.YtipalcmfhmmdiaaApp
import Derived.Test.YtipalcmfhmmdiaaCpActor
namespace Go.Proofs.Ytipalcmfhmmdiaa
open Go.RowKit

/-- x at place n. -/
def insAt (l : List Actr) (x : Actr) (n : Nat) : List Actr := l.take n ++ x :: l.drop n
theorem insAt_len (l : List Actr) (x : Actr) (n : Nat) : (insAt l x n).length = l.length + 1 := by
  unfold insAt
  rw [List.length_append, List.length_cons, List.length_take, List.length_drop]; omega
/-- The first n names stand before nm. -/
def LessTo (l : List Actr) (nm : ByteArray) (n : Nat) : Prop := ∀ i (h : i < l.length), i < n → Op.bytesLess l[i].name.toList nm.toList = true
def AtRel (l : List Actr) (nm : ByteArray) (n : Nat) : Prop := n ≤ l.length ∧ LessTo l nm n ∧ ∀ h : n < l.length, Op.bytesLess l[n].name.toList nm.toList = false
theorem LessTo.zero (l : List Actr) (nm : ByteArray) : LessTo l nm 0 := fun i _ h => by omega
theorem LessTo.succ {l : List Actr} {nm : ByteArray} {n : Nat} (h : LessTo l nm n) (hn : n < l.length) (he : Op.bytesLess l[n].name.toList nm.toList = true) : LessTo l nm (n + 1) := fun i hi h2 => by
  by_cases e : i = n
  · subst e; exact he
  · exact h i hi (by omega)
theorem AtRel.eq {l : List Actr} {nm : ByteArray} {n m : Nat} (h1 : AtRel l nm n) (h2 : AtRel l nm m) : n = m := by
  rcases Nat.lt_trichotomy n m with h | h | h
  · have a := h1.2.2 (by have := h2.1; omega)
    have b := h2.2.1 n (by have := h2.1; omega) h
    rw [a] at b; cases b
  · exact h
  · have a := h2.2.2 (by have := h1.1; omega)
    have b := h1.2.1 m (by have := h1.1; omega) h
    rw [a] at b; cases b
/-- What AddActor answers. -/
def AddRel (l : List Actr) (x : Actr) (out : List Actr) (ok : Bool) : Prop :=
  (actorsB l = false ∧ out = [] ∧ ok = false) ∨ (actorsB l = true ∧ ∃ n, AtRel l x.name n ∧ ((actorsB (insAt l x n) = true ∧ out = insAt l x n ∧ ok = true) ∨ (actorsB (insAt l x n) = false ∧ out = l ∧ ok = false)))
theorem AddRel.eq {l : List Actr} {x : Actr} {a b : List Actr} {p q : Bool} (h1 : AddRel l x a p) (h2 : AddRel l x b q) : a = b ∧ p = q := by
  rcases h1 with ⟨h1, rfl, rfl⟩ | ⟨h1, n, hn, h3⟩ <;> rcases h2 with ⟨h2, rfl, rfl⟩ | ⟨h2, m, hm, h4⟩
  · exact ⟨rfl, rfl⟩
  · rw [h1] at h2; cases h2
  · rw [h1] at h2; cases h2
  · obtain rfl := hn.eq hm
    rcases h3 with ⟨h3, rfl, rfl⟩ | ⟨h3, rfl, rfl⟩ <;> rcases h4 with ⟨h4, rfl, rfl⟩ | ⟨h4, rfl, rfl⟩
    · exact ⟨rfl, rfl⟩
    · rw [h3] at h4; cases h4
    · rw [h3] at h4; cases h4
    · exact ⟨rfl, rfl⟩
theorem AddRel.len {l : List Actr} {x : Actr} {a : List Actr} {p : Bool} (h : AddRel l x a p) : a.length ≤ l.length + 1 := by
  rcases h with ⟨_, rfl, _⟩ | ⟨_, n, _, ⟨_, rfl, _⟩ | ⟨_, rfl, _⟩⟩
  · simp
  · rw [insAt_len]; exact Nat.le_refl _
  · omega
theorem insAt_sizes {l : List Actr} {x : Actr} {n : Nat} (h : FeedSizes l) (h1 : x.name.size ≤ 140737488355328) (h2 : x.feed.size ≤ 140737488355328) : FeedSizes (insAt l x n) := fun y hy => by
  unfold insAt at hy
  rcases List.mem_append.1 hy with hy | hy
  · exact h y (List.mem_of_mem_take hy)
  · rcases List.mem_cons.1 hy with rfl | hy
    · exact ⟨h1, h2⟩
    · exact h y (List.mem_of_mem_drop hy)

set_option maxHeartbeats 800000 in
theorem with_Actor (A : Option Addr) (c : Nat) (l : List Actr) (x : Actr) (n : Nat) (w : World) (h : Sl actrS w (.slice A l.length c) l) (hb : l.length ≤ 1048576) (hn : n ≤ l.length) :
    Calls Try.prog 36 #[.slice A l.length c, .int .i64 n, .agg #[.string x.name, .string x.feed, .int .i64 x.sign]] w (RetVal (fun v' w' => w'.ownsRow w.heap.size 33 actrS.sz v' (insAt l x n).length (actrS.cells (insAt l x n))) w) := by
  obtain ⟨i0, hi, hz0, hz1, hz2⟩ := info_parts Try.infoActr
  have q0 : (0 : Int) ≤ (n : Int) := by omega
  have q1 : (n : Int) ≤ (l.length : Int) := by omega
  have hc : l.length ≤ c ∧ c ≤ maxLen := by obtain ⟨_, _, e, h1, h2, _⟩ := h; injection e with _ _ e; subst e; exact ⟨h1, h2⟩
  obtain ⟨hc1, hc2⟩ := hc
  have q2 : (n : Int) ≤ (c : Int) := by omega
  have q3 : (l.length : Int) ≤ (c : Int) := by omega
  go_enter Try.func36, Try.ntmps36
  have hb0 : Below w.heap.size w (w.alloc (.cells #[.string x.name, .string x.feed, .int .i64 x.sign] 33)) := below1 _ _
  go_wp2_with (first
    | (at_make; refine wpList_make_own _ rfl _ _ 25 rfl w.heap.size 33 i0 (.agg #[.string ⟨#[]⟩, .string ⟨#[]⟩, .int .i64 0]) actrS.sz Try.underlying25 hi hz0 hz1 .i64 .i64 _ (l.length + 1) rfl rfl (by omega) (by rw [hz2]; omega) (by simp [maxLen]; omega) (by simp) ?_; intro w1 hown1 hgrow1; simp only [World.size_alloc] at hown1; have hB1 := hb0.grown hgrow1 hb0.size (fun k hk => by cases hk); have c0 := hgrow1.cell (a := ⟨w.heap.size, 0, none⟩) (v := .string x.name) (by simp) (by simp); have c1 := hgrow1.cell (a := ⟨w.heap.size, 1, none⟩) (v := .string x.feed) (by simp) (by simp); have c2 := hgrow1.cell (a := ⟨w.heap.size, 2, none⟩) (v := .int .i64 x.sign) (by simp) (by simp))
    | (at_builtin; refine wpList_app_sl (S := actrS) rfl (.tmp 12) (.tmp 15) 25 rfl w.heap.size 33 i0 (.agg #[.string ⟨#[]⟩, .string ⟨#[]⟩, .int .i64 0]) 40 Try.underlying25 hi hz0 hz1 hz2 rfl _ _ _ rfl hown1 (l.take n) ((h.mono hB1).take n hn) (by simp [maxLen]; omega) (by simp; omega) hB1.size ?_; intro v2 w2 hown2 hgrow2 hat2; clear hat2; have hB2 := hB1.grown hgrow2 hB1.size (fun k hk => (hown1.lt k hk).1); have e0 := hgrow2.cell c0 (by intro e; have e' : w.heap.size = w.heap.size + 1 := Option.some.inj e; omega); have e1 := hgrow2.cell c1 (by intro e; have e' : w.heap.size = w.heap.size + 1 := Option.some.inj e; omega); have e2 := hgrow2.cell c2 (by intro e; have e' : w.heap.size = w.heap.size + 1 := Option.some.inj e; omega))
    | (at_builtin; refine wpList_app_sl (S := actrS) rfl (.tmp 17) (.tmp 19) 25 rfl w.heap.size 33 i0 (.agg #[.string ⟨#[]⟩, .string ⟨#[]⟩, .int .i64 0]) 40 Try.underlying25 hi hz0 hz1 hz2 rfl _ _ _ rfl (hown2.alloc _) [x] (one_sl (S := actrS) (x := x) (heap_alloc_new _ _)) (by simp [maxLen]; omega) (by simp; omega) (by have := hB2.size; simp; omega) ?_; intro v3 w3 hown3 hgrow3 hat3; clear hat3; have hB3 := (hB2.alloc hB2.size _).grown hgrow3 (by have := hB2.size; simp; omega) (fun k hk => (hown2.lt k hk).1))
    | (at_builtin; refine wpList_app_sl (S := actrS) rfl (.tmp 21) (.tmp 24) 25 rfl w.heap.size 33 i0 (.agg #[.string ⟨#[]⟩, .string ⟨#[]⟩, .int .i64 0]) 40 Try.underlying25 hi hz0 hz1 hz2 rfl _ _ _ rfl hown3 (l.drop n) ((h.mono hB3).drop n hn) (by simp [maxLen]; omega) (by simp; omega) hB3.size ?_; intro v4 w4 hown4 hgrow4 hat4; clear hat4))
  all_goals
    go_ret
    have hB4 := hB3.grown hgrow4 hB3.size (fun k hk => (hown3.lt k hk).1)
    have hlen : 0 + (l.take n).length + [x].length + (l.drop n).length = (insAt l x n).length := by rw [insAt_len]; simp; omega
    have hcel : [] ++ actrS.cells (l.take n) ++ actrS.cells [x] ++ actrS.cells (l.drop n) = actrS.cells (insAt l x n) := by
      unfold insAt
      rw [List.nil_append, ← actrS.cells_append, ← actrS.cells_append, List.append_assoc]; rfl
    rw [hlen, hcel] at hown4
    exact RetVal.mk hown4 hB4
end Go.Proofs.Ytipalcmfhmmdiaa
