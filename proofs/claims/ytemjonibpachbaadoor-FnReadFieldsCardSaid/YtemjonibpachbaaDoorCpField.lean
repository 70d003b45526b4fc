/- The walk of copyOf at lists of Fields. Condition: the slice reads as the list. -/
import Derived.Test.YtemjonibpachbaaDoorLstField
import Derived.Test.YtemjonibpachbaaDoorApp
namespace Go.Proofs.YtemjonibpachbaaDoor
open Go.RowKit

theorem copy_Field (v : Value) (l : List Fld) (w : World) (h : Sl fldS w v l) (hb : l.length ≤ 1048576) :
    Calls Tryd.prog 32 #[v] w (RetVal (fun v' w' => w'.ownsRow w.heap.size 41 fldS.sz v' l.length (fldS.cells l)) w) := by
  obtain ⟨i0, hi, hz0, hz1, hz2⟩ := info_parts Tryd.infoFld
  go_enter Tryd.func32, Tryd.ntmps32
  go_wp2_with (at_builtin; refine wpList_app_sl rfl _ _ 23 rfl w.heap.size 41 i0 (.agg #[.string ⟨#[]⟩, .int .i64 0]) 24 Tryd.underlying23 hi hz0 hz1 hz2 rfl (.slice none 0 0) 0 [] rfl (World.ownsRow_nil _ _ _ _) l h (by simp [maxLen]; omega) (by omega) (Nat.le_refl _) ?_; intro v' w1 hown hgrow hat)
  go_ret
  rw [Nat.zero_add, List.nil_append] at hown
  exact RetVal.mk hown (below_grown hgrow (Nat.le_refl _) (fun g hg => by cases hg))
end Go.Proofs.YtemjonibpachbaaDoor
