/- Plain facts on the merging of feeds step by step. No condition. -/
import Derived.Test.YtlmpkajnbdhppaaFeedP
namespace Go.Proofs.Ytlmpkajnbdhppaa

/-- The first k as the second feed has them, the others as they were. -/
def mixL (b a : List Itm) (k : Nat) : List Itm := (b.take k).map (nowOf a) ++ b.drop k
theorem mixL_zero (b a : List Itm) : mixL b a 0 = b := by simp [mixL]
theorem mixL_len (b a : List Itm) (k : Nat) : (mixL b a k).length = b.length := by simp [mixL]; omega
theorem mixL_all (b a : List Itm) : mixL b a b.length = b.map (nowOf a) := by simp [mixL]
theorem mixL_at (b a : List Itm) (k : Nat) (hk : k < b.length) (h : k < (mixL b a k).length) : (mixL b a k)[k] = b[k] := by
  have e : (mixL b a k)[k]? = some b[k] := by
    unfold mixL
    rw [List.getElem?_append_right (by simp; omega)]
    simp [Nat.min_eq_left (Nat.le_of_lt hk), hk]
  rw [List.getElem?_eq_getElem h] at e
  exact Option.some.inj e
theorem mixL_step (b a : List Itm) (k : Nat) (hk : k < b.length) : mixL b a (k + 1) = (mixL b a k).set k (nowOf a b[k]) := by
  have hl : ((b.take k).map (nowOf a)).length = k := by simp; omega
  have h1 : mixL b a k = (b.take k).map (nowOf a) ++ b[k] :: b.drop (k + 1) := by unfold mixL; rw [List.drop_eq_getElem_cons hk]
  have h2 : ∀ (x : List Itm) (y z : Itm) (r : List Itm), x.length = k → (x ++ y :: r).set k z = x ++ z :: r := by
    intro x y z r hx
    subst hx
    induction x with
    | nil => rfl
    | cons u x ih => simp
  rw [h1, h2 _ _ _ _ hl]
  unfold mixL
  rw [List.take_succ_eq_append_getElem hk, List.map_append, List.append_assoc]
  rfl
theorem mixL_same (b a : List Itm) (k : Nat) (hk : k < b.length) (h : nowOf a b[k] = b[k]) : mixL b a (k + 1) = mixL b a k := by
  rw [mixL_step b a k hk, h]
  have := mixL_at b a k hk (by rw [mixL_len]; exact hk)
  conv => lhs; rw [← this]
  exact List.set_getElem_self _
theorem now_none {a : List Itm} {y : Itm} (h : a.find? (keyB y.key.toList) = none) : nowOf a y = y := by unfold nowOf; rw [h]; rfl
theorem now_some {a : List Itm} {y z : Itm} (h : a.find? (keyB y.key.toList) = some z) : nowOf a y = z := by unfold nowOf; rw [h]; rfl
theorem itm_set : ∀ (l : List Itm) (k : Nat) (_ : k < l.length) (y : Itm), itmS.cells (l.set k y) = ((((itmS.cells l).set (k * 4) (.string y.key)).set (k * 4 + 1) (.string y.title)).set (k * 4 + 2) (.string y.body)).set (k * 4 + 3) (.int .i64 y.day)
  | x :: l, 0, _, y => rfl
  | x :: l, k + 1, h, y => by
    have ih := itm_set l k (by simpa using h) y
    have e : ∀ l, itmS.cells (x :: l) = Value.string x.key :: Value.string x.title :: Value.string x.body :: Value.int .i64 x.day :: itmS.cells l := fun _ => rfl
    rw [List.set_cons_succ, e, e, ih, show (k + 1) * 4 = k * 4 + 4 by omega]
    rfl
theorem merge_bad {b a : List Itm} (h : ¬ (feedB b = true ∧ feedB a = true)) : mergeL b a = [] := by unfold mergeL; rw [if_neg h]
theorem merge_ok {b a : List Itm} (h : feedB b = true) (k : feedB a = true) : mergeL b a = cut8 (b.map (nowOf a) ++ freshL b a) := by unfold mergeL; rw [if_pos ⟨h, k⟩]
theorem map_take_step (b a : List Itm) (k : Nat) (hk : k < b.length) : (b.take (k + 1)).map (nowOf a) = (b.take k).map (nowOf a) ++ [nowOf a b[k]] := by
  rw [List.take_succ_eq_append_getElem hk, List.map_append]; rfl
end Go.Proofs.Ytlmpkajnbdhppaa
