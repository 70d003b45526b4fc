/- The walk of copyOf at lists of Actors. Condition: the slice reads as the list. -/
import Derived.Test.YtipalcmfhmmdiaaLstActor
import Derived.Test.YtipalcmfhmmdiaaApp
namespace Go.Proofs.Ytipalcmfhmmdiaa
open Go.RowKit

theorem copy_Actor (v : Value) (l : List Actr) (w : World) (h : Sl actrS w v l) (hb : l.length ≤ 1048576) :
    Calls Try.prog 37 #[v] w (RetVal (fun v' w' => w'.ownsRow w.heap.size 33 actrS.sz v' l.length (actrS.cells l)) w) := by
  obtain ⟨i0, hi, hz0, hz1, hz2⟩ := info_parts Try.infoActr
  go_enter Try.func37, Try.ntmps37
  go_wp2_with (at_builtin; refine wpList_app_sl rfl _ _ 25 rfl w.heap.size 33 i0 (.agg #[.string ⟨#[]⟩, .string ⟨#[]⟩, .int .i64 0]) 40 Try.underlying25 hi hz0 hz1 hz2 rfl (.slice none 0 0) 0 [] rfl (World.ownsRow_nil _ _ _ _) l h (by simp [maxLen]; omega) (by omega) (Nat.le_refl _) ?_; intro v' w1 hown hgrow hat)
  go_ret
  rw [Nat.zero_add, List.nil_append] at hown
  exact RetVal.mk hown (below_grown hgrow (Nat.le_refl _) (fun g hg => by cases hg))
end Go.Proofs.Ytipalcmfhmmdiaa
