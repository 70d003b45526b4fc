/- The walk of the reference's drawing function for the law of FieldsText. No condition. -/
import Derived.Test.YtemjonibpachbaaDoorDrawFl
namespace Go.Proofs.YtemjonibpachbaaDoor
open Go.RowKit

def DrawnF (w : World) (v : Value) (o : List Fld) (w' : World) : Prop := o.length ≤ 6 ∧ (∀ y ∈ o, DrFld y) ∧ Sl fldS w' v o ∧ Below w.heap.size w w'
def DrawFlds (w : World) (e : Ending) (w' : World) : Prop := ∃ v o, e = .returned v ∧ DrawnF w v o w'
set_option maxHeartbeats 1000000 in
theorem draw_FieldsText (v : Value) (l : List UInt8) (w : World) (h : Sl byteS w v l) :
    Calls Tryd.prog 6 #[v] w (DrawFlds w) := by
  go_enter Tryd.func6, Tryd.ntmps6
  go_wp2_with fail
  refine (open_any v l _ h).mono ?_
  rintro e w1 ⟨rfl, hR, hB⟩
  go_wp2_with fail
  refine (fields_any _ _ _ _ hR (by omega) (by omega) (by omega)).mono ?_
  rintro e w2 ⟨u, o, rfl, h1, h2, hown, hR2, hE2⟩
  go_wp2_with fail
  go_ret
  exact ⟨u, o, rfl, h1, h2, Sl.of_owns hown, below_open hB hE2⟩
end Go.Proofs.YtemjonibpachbaaDoor
