/- More walks on handles. -/
import Derived.Test.YtackffegdmohiaaDoorHandE
import Derived.Test.YtackffegdmohiaaDoorLess
namespace Go.Proofs.YtackffegdmohiaaDoor
open Go.RowKit

/-- The order of handles: by host, then by name. -/
def beforeB (n h n2 h2 : ByteArray) : Bool := if h.toList = h2.toList then Op.bytesLess n.toList n2.toList else Op.bytesLess h.toList h2.toList
def handleT (n h : ByteArray) : ByteArray := if handleB n h then ⟨#[64]⟩ ++ n ++ ⟨#[64]⟩ ++ h else ⟨#[]⟩
theorem i_HandleText (n h : ByteArray) (w : World) (hn : n.size ≤ 140737488355328) (hh : h.size ≤ 140737488355328) :
    Calls Tryd.prog 26 #[.agg #[.string n, .string h]] w fun x w' => x = .returned (.string (handleT n h)) ∧ Below w.heap.size w w' := by
  cases h1 : handleB n h
  · rw [show handleT n h = ⟨#[]⟩ from by unfold handleT; rw [h1]; rfl]
    go_enter Tryd.func26, Tryd.ntmps26
    go_wp2_with (go_at_call 44; refine (i_HandleValid _ _ _ hn hh).mono ?_; rintro e w' ⟨rfl, hb⟩; rw [h1])
    go_ret
    exact ⟨rfl, below_trans (below1 _ _) hb⟩
  · rw [show handleT n h = ⟨#[64]⟩ ++ n ++ ⟨#[64]⟩ ++ h from by unfold handleT; rw [h1]; rfl]
    go_enter Tryd.func26, Tryd.ntmps26
    go_wp2_with fail
    refine (i_HandleValid _ _ _ hn hh).mono ?_
    rintro e w1 ⟨rfl, hb⟩
    rw [h1]
    have c0 : w1.cell? ⟨w.heap.size, 0, none⟩ = some (.string n) := keep_cell hb (by simp)
    have c1 : w1.cell? ⟨w.heap.size, 1, none⟩ = some (.string h) := keep_cell hb (by simp)
    go_wp2_with fail
    go_ret
    exact ⟨rfl, below_trans (below1 _ _) hb⟩
theorem s_HandleText (n h : ByteArray) (w : World) (hn : n.size ≤ 140737488355328) (hh : h.size ≤ 140737488355328) :
    Calls Tryd.prog 22 #[.agg #[.string n, .string h]] w fun x w' => x = .returned (.string (handleT n h)) ∧ Below w.heap.size w w' := by
  cases h1 : handleB n h
  · rw [show handleT n h = ⟨#[]⟩ from by unfold handleT; rw [h1]; rfl]
    go_enter Tryd.func22, Tryd.ntmps22
    go_wp2_with (go_at_call 30; refine (s_HandleValid _ _ _ hn hh).mono ?_; rintro e w' ⟨rfl, hb⟩; rw [h1])
    go_ret
    exact ⟨rfl, below_trans (below1 _ _) hb⟩
  · rw [show handleT n h = ⟨#[64]⟩ ++ n ++ ⟨#[64]⟩ ++ h from by unfold handleT; rw [h1]; rfl]
    go_enter Tryd.func22, Tryd.ntmps22
    go_wp2_with fail
    refine (s_HandleValid _ _ _ hn hh).mono ?_
    rintro e w1 ⟨rfl, hb⟩
    rw [h1]
    have c0 : w1.cell? ⟨w.heap.size, 0, none⟩ = some (.string n) := keep_cell hb (by simp)
    have c1 : w1.cell? ⟨w.heap.size, 1, none⟩ = some (.string h) := keep_cell hb (by simp)
    go_wp2_with fail
    go_ret
    exact ⟨rfl, below_trans (below1 _ _) hb⟩
end Go.Proofs.YtackffegdmohiaaDoor
