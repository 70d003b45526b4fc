/- The walks of the program's and the reference's functions on handles, and of what the exact statements do with them. Condition: texts are no longer than a machine holds. -/
import Derived.Test.YtackffegdmohiaaDoorWordI
import Derived.Test.YtackffegdmohiaaDoorWordS
import Derived.Test.YtackffegdmohiaaDoorMem
import Derived.WalkSpells
import Derived.WalkLawsBesides
import Derived.Deep.RegionHeld3
namespace Go.Proofs.YtackffegdmohiaaDoor
open Go.RowKit

def handleB (n h : ByteArray) : Bool := wordB n.data.toList && wordB h.data.toList
theorem to_Handle (n h : ByteArray) (w : World) :
    Calls Tryd.prog 23 #[.agg #[.string n, .string h]] w fun x w' => x = .returned (.agg #[.string n, .string h]) ∧ Below w.heap.size w w' := by
  go_enter Tryd.func23, Tryd.ntmps23
  go_wp2
  exact bodyPost_ret (v := .agg #[.string n, .string h]) (by simp [results, Tryd.results23, go_sem]) rfl ⟨rfl, (by repeat (first | exact Below.refl _ _ | refine Below.alloc ?_ (by first | (simp; done) | (simp; omega)) _ | refine Below.drew ?_))⟩

/-- What szHandle says: -1, or what is left. -/
theorem sz_Handle (n h : ByteArray) (left : Int) (w : World) (hn0 : n.size ≤ maxLen) (hh0 : h.size ≤ maxLen) (l1 : 0 ≤ left) (l2 : left ≤ 1048576) :
    Calls Tryd.prog 19 #[.agg #[.string n, .string h], .int .i64 left] w (RetInt (fun r => r = -1 ∨ (0 ≤ r ∧ r = left - n.size - h.size)) w) := by
  have hn : n.size ≤ 9223372036854775807 := hn0
  have hh : h.size ≤ 9223372036854775807 := hh0
  clear hn0 hh0
  go_enter Tryd.func19, Tryd.ntmps19
  go_wp2
  all_goals first
    | (go_ret; exact RetInt.mk (.inl rfl) (below1 _ _))
    | (go_ret; exact RetInt.mk (.inr ⟨by omega, by omega⟩) (below1 _ _))

theorem i_HandleValid (n h : ByteArray) (w : World) (hn : n.size ≤ 140737488355328) (hh : h.size ≤ 140737488355328) :
    Calls Tryd.prog 44 #[.agg #[.string n, .string h]] w fun x w' => x = .returned (.bool (handleB n h)) ∧ Below w.heap.size w w' := by
  cases h1 : wordB n.data.toList
  · rw [show handleB n h = false from by unfold handleB; rw [h1]; rfl]
    have H1 : Hid (wordB n.data.toList = false) := h1
    clear h1
    go_enter Tryd.func44, Tryd.ntmps44
    go_wp2_with (go_at_call 32; refine (i_WordValid _ _ (by omega)).mono ?_; rintro e w' ⟨rfl, rfl⟩; rw [H1.out])
    go_ret
    exact ⟨rfl, below1 _ _⟩
  · rw [show handleB n h = wordB h.data.toList from by unfold handleB; rw [h1]; rfl]
    have H1 : Hid (wordB n.data.toList = true) := h1
    clear h1
    go_enter Tryd.func44, Tryd.ntmps44
    go_wp2_with (go_at_call 32; refine (i_WordValid _ _ (by omega)).mono ?_; rintro e w' ⟨rfl, rfl⟩; try rw [H1.out])
    go_ret
    exact ⟨rfl, below1 _ _⟩

theorem s_HandleValid (n h : ByteArray) (w : World) (hn : n.size ≤ 140737488355328) (hh : h.size ≤ 140737488355328) :
    Calls Tryd.prog 30 #[.agg #[.string n, .string h]] w fun x w' => x = .returned (.bool (handleB n h)) ∧ Below w.heap.size w w' := by
  cases h1 : wordB n.data.toList
  · rw [show handleB n h = false from by unfold handleB; rw [h1]; rfl]
    have H1 : Hid (wordB n.data.toList = false) := h1
    clear h1
    go_enter Tryd.func30, Tryd.ntmps30
    go_wp2_with (go_at_call 31; refine (s_WordValid _ _ (by omega)).mono ?_; rintro e w' ⟨rfl, rfl⟩; rw [H1.out])
    go_ret
    exact ⟨rfl, below1 _ _⟩
  · rw [show handleB n h = wordB h.data.toList from by unfold handleB; rw [h1]; rfl]
    have H1 : Hid (wordB n.data.toList = true) := h1
    clear h1
    go_enter Tryd.func30, Tryd.ntmps30
    go_wp2_with (go_at_call 31; refine (s_WordValid _ _ (by omega)).mono ?_; rintro e w' ⟨rfl, rfl⟩; try rw [H1.out])
    go_ret
    exact ⟨rfl, below1 _ _⟩

end Go.Proofs.YtackffegdmohiaaDoor
