/- Appends to a row that the region itself makes, in a region that draws its order: what each operation leaves. No condition. -/
import Derived.Test.YtemjonibpachbaaDoorRegC
import Derived.Test.YtemjonibpachbaaDoorApp
import Derived.RegionTactic
namespace Go.Proofs.YtemjonibpachbaaDoor
open Go.RowKit

/-- What an operation leaves: anything; just this value; an empty row of the region's own; a row that owns these cells; a slice of one element in a block of its own. -/
inductive KTy
  | any
  | is (u : Value)
  | nil0
  | own (n : Nat) (xs : List Value)
  | one (cs : Array Value)
def KTy.T (e : TypeId) (sz H : Nat) (t : KTy) (w : World) (v : Value) : Prop := match t with
  | .any => True
  | .is u => v = u
  | .nil0 => ∃ g, v = .slice (some ⟨g, 0, none⟩) 0 0 ∧ H ≤ g ∧ w.heap[g]? = some (.cells #[] e (0, 0))
  | .own n xs => w.ownsRow H e sz v n xs
  | .one cs => ∃ g, v = .slice (some ⟨g, 0, none⟩) 1 1 ∧ 0 < cs.size ∧ w.heap[g]? = some (.cells cs e (0, 0))
def KTy.tag : KTy → Nat
  | .any => 0
  | .is _ => 1
  | .nil0 => 2
  | .own _ _ => 3
  | .one _ => 4
/-- What an operation does to the world: p writes into an empty row, q into any, all others only make blocks. -/
def RApp (e : TypeId) (p q i : Nat) (u u' : World) : Prop := (i ≠ p → i ≠ q → u.grownBy u' none) ∧ (i = p → ∃ g, u.heap[g]? = some (.cells #[] e (0, 0)) ∧ u.grownBy u' (some g))
theorem RApp.still {e : TypeId} {p q i : Nat} {u u' : World} (hp : i ≠ p) (h : u.grownBy u' none) : RApp e p q i u u' := ⟨fun _ _ => h, fun h => absurd h hp⟩
theorem RApp.first {e : TypeId} {p q g : Nat} {u u' : World} (hg : u.heap[g]? = some (.cells #[] e (0, 0))) (h : u.grownBy u' (some g)) : RApp e p q p u u' := ⟨fun h => absurd rfl h, fun _ => ⟨g, hg, h⟩⟩
theorem RApp.second {e : TypeId} {p q : Nat} {u u' : World} (hp : q ≠ p) : RApp e p q q u u' := ⟨fun _ h => absurd rfl h, fun h => absurd h hp⟩
def okTags (ops : Array Oper) (use : Nat → Nat) (p q : Nat) (ts : List Nat) : Bool := (List.range ts.length).all fun j =>
  decide (ts.getD j 0 ≤ 1) || ((q == j || skipC ops use q j) && (p == j || skipC ops use p j || ts.getD j 0 == 4))
theorem tyApp {ops : Array Oper} {use : Nat → Nat} {p q : Nat} {ks : List KTy} {e : TypeId} {sz H : Nat} (hok : okTags ops use p q (ks.map KTy.tag) = true) :
    ∀ i j, i ≠ j → skipC ops use i j = false → ∀ u u' v, RApp e p q i u u' → (ks.getD j .any).T e sz H u v → (ks.getD j .any).T e sz H u' v := by
  intro i j hij hs u u' v hR hT
  rcases Nat.lt_or_ge j ks.length with hj | hj
  · have h := List.all_eq_true.1 hok j (List.mem_range.2 (by simpa using hj))
    rw [Bool.or_eq_true, decide_eq_true_eq, Bool.and_eq_true] at h
    have ht : (ks.map KTy.tag).getD j 0 = (ks.getD j .any).tag := by simp [List.getD, hj]
    rw [ht] at h
    generalize ks.getD j .any = t at h hT ⊢
    by_cases hw : t.tag ≤ 1
    · cases t with
      | any => trivial
      | is u => exact hT
      | nil0 => exact absurd hw (by decide)
      | own n xs => exact absurd hw (by simp [KTy.tag])
      | one cs => exact absurd hw (by simp [KTy.tag])
    · have h2 := h.resolve_left hw
      have hiq : i ≠ q := fun e2 => by
        subst e2
        have h3 := h2.1
        rw [hs] at h3
        simp [hij] at h3
      by_cases hip : i = p
      · obtain ⟨g, hg, hgr⟩ := hR.2 hip
        have h4 : t.tag = 4 := by
          have h3 := h2.2
          rw [← hip, hs] at h3
          simpa [hij] using h3
        cases t with
        | one cs =>
          obtain ⟨g', rfl, hc, hb⟩ := hT
          refine ⟨g', rfl, hc, ?_⟩
          rw [hgr.block g' (Array.getElem?_eq_some_iff.1 hb).1 (fun e2 => ?_)]
          · exact hb
          · injection e2 with e2
            subst e2
            rw [hb] at hg
            injection hg with hg
            injection hg with hg
            rw [hg] at hc
            exact absurd hc (by decide)
        | any => exact absurd h4 (by decide)
        | is u => exact absurd h4 (by simp [KTy.tag])
        | nil0 => exact absurd h4 (by decide)
        | own n xs => exact absurd h4 (by simp [KTy.tag])
      · have hgr := hR.1 hip hiq
        cases t with
        | any => trivial
        | is u => exact hT
        | nil0 =>
          obtain ⟨g, rfl, hH, hb⟩ := hT
          exact ⟨g, rfl, hH, by rw [hgr.block g (Array.getElem?_eq_some_iff.1 hb).1 (fun e => by cases e)]; exact hb⟩
        | own n xs => exact World.ownsRow.kept hT hgr (by cases hv : v.ownBlock with
            | none => exact .inl rfl
            | some g => exact .inr (fun h => by cases h))
        | one cs =>
          obtain ⟨g, rfl, hc, hb⟩ := hT
          exact ⟨g, rfl, hc, by rw [hgr.block g (Array.getElem?_eq_some_iff.1 hb).1 (fun e => by cases e)]; exact hb⟩
  · rw [show ks.getD j .any = .any by simp [List.getD, List.getElem?_eq_none hj]]
    trivial
/-- The empty row. -/
theorem nil0_own {e : TypeId} {sz H g : Nat} {w : World} (hH : H ≤ g) (hb : w.heap[g]? = some (.cells #[] e (0, 0))) : w.ownsRow H e sz (.slice (some ⟨g, 0, none⟩) 0 0) 0 [] :=
  ⟨by simp, .inr ⟨g, 0, #[], rfl, hH, hb, Nat.le_refl _, by simp [maxLen], by simp, by simp⟩⟩
section
variable {P : Program} {w : World} {ops : Array Oper} {o : Oper} {a : Act} {Q : Exit → Act → World → Prop} {α : Type} {S : Shape α}
/-- Appending at a step of a region that draws its order, behind a guard that was met. -/
theorem step_app_slg {K : Act → World → Prop} {E : Prop} (hw : Region.wanted o (yielded ops a.tmps) = true) (s x : Operand) (t : TypeId)
    (ho : o.op = .call { callee := .builtin .append, args := #[s, x], argTypes := #[t, t] })
    (base : Nat) (e : TypeId) (i : TypeInfo) (z : Value) (bytes : Nat) (ht : P.underlying t = some (.slice e)) (hi : P.info? e = some i) (hz : i.zero = some z)
    (hsize : i.size = S.sz) (hby : i.bytes = bytes) (hzs : z.cells.size = S.sz)
    (v : Value) (n : Nat) (xs : List Value) (hs : a.eval s = v) (hown : w.ownsRow base e S.sz v n xs) (l : List α) (hx : Sl S w (a.eval x) l)
    (h63 : n + l.length ≤ maxLen) (hbytes : (n + l.length) * bytes ≤ 140737488355328) (hbase : base ≤ w.heap.size)
    (h : ∀ v' w', w'.ownsRow base e S.sz v' (n + l.length) (xs ++ S.cells l) → w.grownBy w' v.ownBlock → (v'.ownBlock = v.ownBlock ∨ v'.ownBlock = some w.heap.size) → K (a.put o.dst v') w') :
    if Region.wanted o (yielded ops a.tmps) = true then Oper.wp P o a w K Q else E := by
  rw [if_pos hw]
  obtain ⟨v', w', hr, h2, h3, h4⟩ := run_app_sl (P := P) w base t o.type e i z bytes ht hi hz hsize hby hzs v n xs hown (a.eval x) l hx h63 hbytes hbase
  unfold Oper.wp execOp
  simp only [ho, resolve, invoke, builtin, Sem.run_bind, Sem.run_pure, Result.andThen_ok, List.map_toArray, List.map_cons, List.map_nil, hs, hr]
  exact h v' w' h2 h3 h4
end
end Go.Proofs.YtemjonibpachbaaDoor
