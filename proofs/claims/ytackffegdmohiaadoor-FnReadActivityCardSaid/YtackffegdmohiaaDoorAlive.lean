/- The walk of alive: it returns true. No condition. -/
import Derived.Test.YtackffegdmohiaaDoorWordI
namespace Go.Proofs.YtackffegdmohiaaDoor
open Go.RowKit

theorem word_a1 : wordB (ByteArray.mk #[97, 49]).data.toList = true := by decide
theorem word_1a : wordB (ByteArray.mk #[49, 97]).data.toList = false := by decide
theorem alive_any (w : World) : Calls Tryd.prog 13 #[] w fun e w' => e = .returned (.bool true) ∧ w = w' := by
  go_enter Tryd.func13, Tryd.ntmps13
  go_wp2_with fail
  refine (i_WordValid _ _ (by decide)).mono ?_
  rintro e w' ⟨rfl, rfl⟩
  rw [word_a1]
  go_wp2_with fail
  refine (i_WordValid _ _ (by decide)).mono ?_
  rintro e w' ⟨rfl, rfl⟩
  rw [word_1a]
  go_wp2_with fail
  go_ret
  exact ⟨rfl, rfl⟩
end Go.Proofs.YtackffegdmohiaaDoor
