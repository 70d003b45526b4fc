/- The walk of the program's AddActor. Condition: the slice reads as the list, texts are no longer than a machine holds. -/
import Derived.Test.YtipalcmfhmmdiaaDoorActrA
namespace Go.Proofs.YtipalcmfhmmdiaaDoor
open Go.RowKit

def AddRet (l : List Actr) (x : Actr) (w : World) (e : Ending) (w' : World) : Prop := ∃ v out ok, e = .returned (.tuple #[v, .bool ok]) ∧ AddRel l x out ok ∧ w'.ownsRow w.heap.size 40 actrS.sz v out.length (actrS.cells out) ∧ Below w.heap.size w w'
theorem AddRet.mk {l out : List Actr} {x : Actr} {ok : Bool} {w w' : World} {v : Value} (hr : AddRel l x out ok) (ho : w'.ownsRow w.heap.size 40 actrS.sz v out.length (actrS.cells out)) (hb : Below w.heap.size w w') : AddRet l x w (.returned (.tuple #[v, .bool ok])) w' := ⟨v, out, ok, rfl, hr, ho, hb⟩
theorem owns_base {w : World} {base base' : Nat} {e : TypeId} {size : Nat} {v : Value} {n : Nat} {xs : List Value} (h : w.ownsRow base' e size v n xs) (hb : base ≤ base') : w.ownsRow base e size v n xs := by
  rcases h with ⟨h1, h2 | ⟨g, cap, cur, h3, h4, h5⟩⟩
  · exact ⟨h1, .inl h2⟩
  · exact ⟨h1, .inr ⟨g, cap, cur, h3, Nat.le_trans hb h4, h5⟩⟩

end Go.Proofs.YtipalcmfhmmdiaaDoor
