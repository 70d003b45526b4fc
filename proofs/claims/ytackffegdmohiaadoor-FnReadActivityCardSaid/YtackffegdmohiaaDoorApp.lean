/- Appending the elements of a slice that reads as a list to a row of the call's own: one law for every source. No condition. -/
import Derived.Test.YtackffegdmohiaaDoorMem
import Derived.Laws.OwnMore
import Derived.Laws.AppendOwnNone
import Derived.Maps.AppendAt
import Derived.Deep.AppendLies
import Derived.OwnWalk
import Derived.Tactics
import Derived.RegionTactic
namespace Go.Proofs.YtackffegdmohiaaDoor
open Go.RowKit

section
variable {P : Program} (w : World)
theorem run_app_empty (base : Nat) (t ty e : TypeId) (i : TypeInfo) (size : Nat) (ht : P.underlying t = some (.slice e)) (hi : P.info? e = some i)
    (v : Value) (n : Nat) (xs : List Value) (hown : w.ownsRow base e size v n xs) (c : Nat) : (Builtin.append_ #[t, t] ty #[v, .slice none 0 c]).run P w = .ok v w := by
  rcases hown.2 with ⟨rfl, rfl⟩ | ⟨g, cap, cur, rfl, _, _, hnc, _⟩
  · simp [Builtin.append_, run_underlying ht, sizeOf, typeInfo, hi, Builtin.lenOf, Builtin.firstCells]
  · simp [Builtin.append_, run_underlying ht, sizeOf, typeInfo, hi, Builtin.lenOf, Builtin.firstCells, hnc, storeCells]

/-- append(v, x...) where x reads as l: v's row with l behind it. -/
theorem run_app_sl {α : Type} {S : Shape α} (base : Nat) (t ty e : TypeId) (i : TypeInfo) (z : Value) (bytes : Nat) (ht : P.underlying t = some (.slice e)) (hi : P.info? e = some i) (hz : i.zero = some z)
    (hsize : i.size = S.sz) (hby : i.bytes = bytes) (hzs : z.cells.size = S.sz)
    (v : Value) (n : Nat) (xs : List Value) (hown : w.ownsRow base e S.sz v n xs) (x : Value) (l : List α) (hx : Sl S w x l)
    (h63 : n + l.length ≤ maxLen) (hbytes : (n + l.length) * bytes ≤ 140737488355328) (hbase : base ≤ w.heap.size) :
    ∃ v' w', (Builtin.append_ #[t, t] ty #[v, x]).run P w = .ok v' w' ∧ w'.ownsRow base e S.sz v' (n + l.length) (xs ++ S.cells l) ∧ w.grownBy w' v.ownBlock ∧ (v'.ownBlock = v.ownBlock ∨ v'.ownBlock = some w.heap.size) := by
  obtain ⟨A, c, rfl, h1, h2, h3⟩ := hx
  rcases h3 with rfl | ⟨b, off, rfl, hlt, hc⟩
  · cases A with
    | none => exact ⟨v, w, run_app_empty w base t ty e i S.sz ht hi v n xs hown c, by simpa [Shape.cells] using hown, World.grownBy.refl w _, .inl rfl⟩
    | some ad =>
      obtain ⟨v', w', hrun, h4, h5, _, h6⟩ := run_append_own_at (P := P) w base t ty e i z S.sz bytes ht hi hz hsize hby hzs S.pos v n xs hown ad 0 c [] (by simp) (fun j u hu => by simp at hu) (fun u hu => by simp at hu) h63 hbytes hbase
      exact ⟨v', w', hrun, h4, h5, h6⟩
  · obtain ⟨v', w', hrun, h4, h5, _, h6⟩ := run_append_own_at (P := P) w base t ty e i z S.sz bytes ht hi hz hsize hby hzs S.pos v n xs hown ⟨b, off, none⟩ l.length c (S.cells l) (S.cells_len l)
      (fun j u hu => by rw [Addr.add_lit]; exact hc j u hu) (S.cells_oneCell l) h63 hbytes hbase
    exact ⟨v', w', hrun, h4, h5, h6⟩
end
section
variable {P : Program} {w : World} {ops : Array Oper} {rest : List Oper} {o : Oper} {a : Act} {Q : Exit → Act → World → Prop} {α : Type} {S : Shape α}
/-- .. in a walk. -/
theorem wpList_app_sl (hgd : o.guard = none) (s x : Operand) (t : TypeId)
    (ho : o.op = .call { callee := .builtin .append, args := #[s, x], argTypes := #[t, t] })
    (base : Nat) (e : TypeId) (i : TypeInfo) (z : Value) (bytes : Nat) (ht : P.underlying t = some (.slice e)) (hi : P.info? e = some i) (hz : i.zero = some z)
    (hsize : i.size = S.sz) (hby : i.bytes = bytes) (hzs : z.cells.size = S.sz)
    (v : Value) (n : Nat) (xs : List Value) (hs : a.eval s = v) (hown : w.ownsRow base e S.sz v n xs) (l : List α) (hx : Sl S w (a.eval x) l)
    (h63 : n + l.length ≤ maxLen) (hbytes : (n + l.length) * bytes ≤ 140737488355328) (hbase : base ≤ w.heap.size)
    (h : ∀ v' w', w'.ownsRow base e S.sz v' (n + l.length) (xs ++ S.cells l) → w.grownBy w' v.ownBlock → (v'.ownBlock = v.ownBlock ∨ v'.ownBlock = some w.heap.size) → wpList P ops Q rest (a.put o.dst v') w') : wpList P ops Q (o :: rest) a w := by
  refine wpList_plain hgd fun K hK => ?_
  obtain ⟨v', w', hr, h2, h3, h4⟩ := run_app_sl (P := P) w base t o.type e i z bytes ht hi hz hsize hby hzs v n xs hown (a.eval x) l hx h63 hbytes hbase
  unfold Oper.wp execOp
  simp only [ho, resolve, invoke, builtin, Sem.run_bind, Sem.run_pure, Result.andThen_ok, List.map_toArray, List.map_cons, List.map_nil, hs, hr]
  exact hK _ _ (h v' w' h2 h3 h4)

/-- .. at a step of a region that draws its order. -/
theorem step_app_sl {K : Act → World → Prop} {E : Prop} (hgd : o.guard = none) (s x : Operand) (t : TypeId)
    (ho : o.op = .call { callee := .builtin .append, args := #[s, x], argTypes := #[t, t] })
    (base : Nat) (e : TypeId) (i : TypeInfo) (z : Value) (bytes : Nat) (ht : P.underlying t = some (.slice e)) (hi : P.info? e = some i) (hz : i.zero = some z)
    (hsize : i.size = S.sz) (hby : i.bytes = bytes) (hzs : z.cells.size = S.sz)
    (v : Value) (n : Nat) (xs : List Value) (hs : a.eval s = v) (hown : w.ownsRow base e S.sz v n xs) (l : List α) (hx : Sl S w (a.eval x) l)
    (h63 : n + l.length ≤ maxLen) (hbytes : (n + l.length) * bytes ≤ 140737488355328) (hbase : base ≤ w.heap.size)
    (h : ∀ v' w', w'.ownsRow base e S.sz v' (n + l.length) (xs ++ S.cells l) → w.grownBy w' v.ownBlock → (v'.ownBlock = v.ownBlock ∨ v'.ownBlock = some w.heap.size) → K (a.put o.dst v') w') :
    if Region.wanted o (yielded ops a.tmps) = true then Oper.wp P o a w K Q else E := by
  have hw : Region.wanted o (yielded ops a.tmps) = true := by simp [Region.wanted, hgd]
  rw [if_pos hw]
  obtain ⟨v', w', hr, h2, h3, h4⟩ := run_app_sl (P := P) w base t o.type e i z bytes ht hi hz hsize hby hzs v n xs hown (a.eval x) l hx h63 hbytes hbase
  unfold Oper.wp execOp
  simp only [ho, resolve, invoke, builtin, Sem.run_bind, Sem.run_pure, Result.andThen_ok, List.map_toArray, List.map_cons, List.map_nil, hs, hr]
  exact h v' w' h2 h3 h4
/-- .. in a walk, at an operation behind a guard that was met. -/
theorem wpList_app_slw (hw : Region.wanted o (yielded ops a.tmps) = true) (s x : Operand) (t : TypeId)
    (ho : o.op = .call { callee := .builtin .append, args := #[s, x], argTypes := #[t, t] })
    (base : Nat) (e : TypeId) (i : TypeInfo) (z : Value) (bytes : Nat) (ht : P.underlying t = some (.slice e)) (hi : P.info? e = some i) (hz : i.zero = some z)
    (hsize : i.size = S.sz) (hby : i.bytes = bytes) (hzs : z.cells.size = S.sz)
    (v : Value) (n : Nat) (xs : List Value) (hs : a.eval s = v) (hown : w.ownsRow base e S.sz v n xs) (l : List α) (hx : Sl S w (a.eval x) l)
    (h63 : n + l.length ≤ maxLen) (hbytes : (n + l.length) * bytes ≤ 140737488355328) (hbase : base ≤ w.heap.size)
    (h : ∀ v' w', w'.ownsRow base e S.sz v' (n + l.length) (xs ++ S.cells l) → w.grownBy w' v.ownBlock → (v'.ownBlock = v.ownBlock ∨ v'.ownBlock = some w.heap.size) → wpList P ops Q rest (a.put o.dst v') w') : wpList P ops Q (o :: rest) a w := by
  refine wpList_step fun K hK => ?_
  rw [if_pos hw]
  obtain ⟨v', w', hr, h2, h3, h4⟩ := run_app_sl (P := P) w base t o.type e i z bytes ht hi hz hsize hby hzs v n xs hown (a.eval x) l hx h63 hbytes hbase
  unfold Oper.wp execOp
  simp only [ho, resolve, invoke, builtin, Sem.run_bind, Sem.run_pure, Result.andThen_ok, List.map_toArray, List.map_cons, List.map_nil, hs, hr]
  exact hK _ _ (h v' w' h2 h3 h4)
end
/-- One element in a block of its own. -/
theorem one_sl {α : Type} {S : Shape α} {x : α} {e : TypeId} {g : Nat} {w : World} (hb : w.heap[g]? = some (.cells (S.enc x).toArray e (0, 0))) : Sl S w (.slice (some ⟨g, 0, none⟩) 1 1) [x] := by
  refine ⟨_, 1, rfl, Nat.le_refl _, by simp [maxLen], .inr ⟨g, 0, rfl, (Array.getElem?_eq_some_iff.1 hb).1, fun j u hu => ?_⟩⟩
  rw [S.cells_one] at hu
  rw [Nat.zero_add, cell_of_row w g j _ e (0, 0) hb]
  simpa using hu
/-- A slice cut at its end; at its head. -/
theorem Sl.take {α : Type} {S : Shape α} {w : World} {A : Option Addr} {n c : Nat} {l : List α} (h : Sl S w (.slice A n c) l) (a : Nat) (ha : a ≤ l.length) : Sl S w (.slice A a c) (l.take a) := by
  obtain ⟨A', c', e, h1, h2, h3⟩ := h
  injection e with e1 e2 e3
  subst e1; subst e3
  refine ⟨A, c, by rw [List.length_take, Nat.min_eq_left ha], by rw [List.length_take]; omega, h2, ?_⟩
  rcases h3 with rfl | ⟨b, off, rfl, hlt, hc⟩
  · exact .inl (by simp)
  · refine .inr ⟨b, off, rfl, hlt, fun j u hu => hc j u ?_⟩
    rw [S.cells_take] at hu
    rw [List.getElem?_take] at hu
    split at hu
    · exact hu
    · cases hu
theorem Sl.drop {α : Type} {S : Shape α} {w : World} {A : Option Addr} {n c : Nat} {l : List α} (h : Sl S w (.slice A n c) l) (a : Nat) (ha : a ≤ l.length) : Sl S w (.slice (if c = a then A else A.map (·.add (a * S.sz))) (n - a) (c - a)) (l.drop a) := by
  obtain ⟨A', c', e, h1, h2, h3⟩ := h
  injection e with e1 e2 e3
  subst e1; subst e2; subst e3
  refine ⟨_, c - a, by rw [List.length_drop], by rw [List.length_drop]; omega, by omega, ?_⟩
  rcases h3 with rfl | ⟨b, off, rfl, hlt, hc⟩
  · exact .inl (by simp)
  · by_cases e : c = a
    · left
      exact List.eq_nil_of_length_eq_zero (by rw [List.length_drop]; omega)
    · rw [if_neg e]
      refine .inr ⟨b, off + a * S.sz, by simp [Addr.add], hlt, fun j u hu => ?_⟩
      have := hc (a * S.sz + j) u ?_
      · rw [Nat.add_assoc]; exact this
      · have hsplit : S.cells l = S.cells (l.take a) ++ S.cells (l.drop a) := by rw [← S.cells_append, List.take_append_drop]
        rw [hsplit, List.getElem?_append_right (by rw [S.cells_len, List.length_take, Nat.min_eq_left ha]; omega), S.cells_len, List.length_take, Nat.min_eq_left ha]
        rw [show a * S.sz + j - a * S.sz = j by omega]
        exact hu
end Go.Proofs.YtackffegdmohiaaDoor
