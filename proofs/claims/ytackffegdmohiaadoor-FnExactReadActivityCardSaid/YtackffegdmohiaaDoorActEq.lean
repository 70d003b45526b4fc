/- The walk of eqActivity at two alike ones. No condition. -/
import Derived.Test.YtackffegdmohiaaDoorActE
namespace Go.Proofs.YtackffegdmohiaaDoor
open Go.RowKit

theorem eq_Handle (n h : ByteArray) (w : World) :
    Calls Tryd.prog 40 #[.agg #[.string n, .string h], .agg #[.string n, .string h]] w fun x w' => x = .returned (.bool true) ∧ Below w.heap.size w w' := by
  go_enter Tryd.func40, Tryd.ntmps40
  go_wp2
  go_ret
  exact ⟨rfl, (by repeat (first | exact Below.refl _ _ | refine Below.alloc ?_ (by first | (simp; done) | (simp; omega)) _ | refine Below.drew ?_))⟩
set_option maxHeartbeats 1000000 in
theorem eq_Activity (k m : Int) (n h t : ByteArray) (w : World) :
    Calls Tryd.prog 17 #[.agg #[.int .i64 k, .int .i64 m, .string n, .string h, .string t], .agg #[.int .i64 k, .int .i64 m, .string n, .string h, .string t]] w fun x w' => x = .returned (.bool true) ∧ Below w.heap.size w w' := by
  go_enter Tryd.func17, Tryd.ntmps17
  go_wp2_with fail
  refine (eq_Handle _ _ _).mono ?_
  rintro x w1 ⟨rfl, hb⟩
  have c0 : w1.cell? ⟨w.heap.size, 4, none⟩ = some (.string t) := keep_cell hb (by simp)
  have c1 : w1.cell? ⟨w.heap.size + 1, 4, none⟩ = some (.string t) := keep_cell hb (by simp)
  go_wp2_with fail
  go_ret
  exact ⟨rfl, below_trans (below1 _ _) (below_trans (below1 _ _) hb)⟩
end Go.Proofs.YtackffegdmohiaaDoor
