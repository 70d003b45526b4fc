/- Types of values in a region that draws its order, where all operations leave what was there: types that speak of the world. No condition. -/
import Derived.Test.YtackffegdmohiaaDoorDet
namespace Go.Proofs.YtackffegdmohiaaDoor
open Go.RowKit

structure BTy where
  T : World → Value → Prop
  st : ∀ w w' v, Below w.heap.size w w' → T w v → T w' v
def bAny : BTy := ⟨fun _ _ => True, fun _ _ _ _ h => h⟩
def bIs (u : Value) : BTy := ⟨fun _ v => v = u, fun _ _ _ _ h => h⟩
theorem bty_st (L : List BTy) (i : Nat) (u u' : World) (v : Value) (hR : Below u.heap.size u u') (hT : (L.getD i bAny).T u v) : (L.getD i bAny).T u' v := BTy.st _ _ _ _ hR hT
/-- A pointer to a known cell in some block. -/
def bPtr (k : Nat) (u : Value) : BTy := ⟨fun w v => ∃ g, v = .pointer (some ⟨g, k, none⟩) ∧ w.cell? ⟨g, k, none⟩ = some u, fun _ _ _ hb h => by obtain ⟨g, e, hc⟩ := h; exact ⟨g, e, keep_cell hb hc⟩⟩
/-- A pointer to a new block with known cells. -/
def bNew (H : Nat) (cs : List Value) (t : TypeId) : BTy := ⟨fun w v => ∃ g, v = .pointer (some ⟨g, 0, none⟩) ∧ H ≤ g ∧ w.heap[g]? = some (.cells cs.toArray t (0, 0)), fun w _ _ hb h => by
  obtain ⟨g, e, hH, hc⟩ := h
  exact ⟨g, e, hH, (hb.block g (Array.getElem?_eq_some_iff.1 hc).1).trans hc⟩⟩
/-- A slice of a whole block with known cells. -/
def bSl (H : Nat) (cs : List Value) (t : TypeId) : BTy := ⟨fun w v => ∃ g, v = .slice (some ⟨g, 0, none⟩) cs.length cs.length ∧ H ≤ g ∧ w.heap[g]? = some (.cells cs.toArray t (0, 0)), fun w _ _ hb h => by
  obtain ⟨g, e, hH, hc⟩ := h
  exact ⟨g, e, hH, (hb.block g (Array.getElem?_eq_some_iff.1 hc).1).trans hc⟩⟩
end Go.Proofs.YtackffegdmohiaaDoor
