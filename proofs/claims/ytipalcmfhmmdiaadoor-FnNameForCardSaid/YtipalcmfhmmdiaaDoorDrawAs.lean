/- The walks of the reference's drawing functions for the laws on actors. No condition. -/
import Derived.Test.YtipalcmfhmmdiaaDoorDrawAr
namespace Go.Proofs.YtipalcmfhmmdiaaDoor
open Go.RowKit

def DrawnL (w : World) (v : Value) (o : List Actr) (w' : World) : Prop := o.length ≤ 6 ∧ (∀ y ∈ o, DrActr y) ∧ Sl actrS w' v o ∧ Below w.heap.size w w'
def DrawActrs (w : World) (e : Ending) (w' : World) : Prop := ∃ v o, e = .returned v ∧ DrawnL w v o w'
def DrawNamed (w : World) (e : Ending) (w' : World) : Prop := ∃ v o, ∃ s : ByteArray, e = .returned (.tuple #[v, .string s]) ∧ s.size ≤ 9 ∧ DrawnL w v o w'
def DrawAdd (w : World) (e : Ending) (w' : World) : Prop := ∃ v o, ∃ y : Actr, e = .returned (.tuple #[v, .agg #[.string y.name, .string y.feed, .int .i64 y.sign]]) ∧ DrActr y ∧ DrawnL w v o w'
end Go.Proofs.YtipalcmfhmmdiaaDoor
