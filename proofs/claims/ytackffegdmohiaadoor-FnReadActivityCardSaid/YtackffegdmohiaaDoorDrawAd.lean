/- The walks of the reference's drawing functions for the laws of ActivityValid and UndoOf. No condition. -/
import Derived.Test.YtackffegdmohiaaDoorDrawAc
import Derived.Test.YtackffegdmohiaaDoorRegT
namespace Go.Proofs.YtackffegdmohiaaDoor
open Go.RowKit

def DrawActOk (k m : Int) (n h t : ByteArray) : Prop := (-1 ≤ k ∧ k ≤ 6) ∧ (-1 ≤ m ∧ m ≤ 11) ∧ n.size ≤ 9 ∧ h.size ≤ 9 ∧ t.size ≤ 9
def DrawAct (w : World) (e : Ending) (w' : World) : Prop := ∃ (k m : Int) (n h t : ByteArray), e = .returned (.agg #[.int .i64 k, .int .i64 m, .string n, .string h, .string t]) ∧ DrawActOk k m n h t ∧ Below w.heap.size w w'
def DrawUndo (w : World) (e : Ending) (w' : World) : Prop := ∃ (k m : Int) (n h t : ByteArray) (q : Int), e = .returned (.tuple #[.agg #[.int .i64 k, .int .i64 m, .string n, .string h, .string t], .int .i64 q]) ∧ DrawActOk k m n h t ∧ (-1 ≤ q ∧ q ≤ 1000000001) ∧ Below w.heap.size w w'
theorem activity_five (rb B0 : Nat) (n : Int) (w : World) (hR0 : Rd w rb B0) (hB : B0 ≤ 997000) (n1 : 0 ≤ n) (n2 : n ≤ 1000000) :
    Calls Tryd.prog 27 #[.pointer (some ⟨rb, 0, none⟩), .int .i64 n] w fun e w' => ∃ (k m : Int) (n h t : ByteArray), e = .returned (.agg #[.int .i64 k, .int .i64 m, .string n, .string h, .string t]) ∧ DrawActOk k m n h t ∧ Rd w' rb (B0 + 10) ∧ Ex (· = rb) w w' := by
  refine (activity_any rb B0 n w hR0 hB n1 n2).mono ?_
  rintro e w1 ⟨v, rfl, hv, hR, hE⟩
  obtain ⟨k, m, n, h, t, rfl, h1, h2, h3, h4, h5⟩ := sAct_open hv
  exact ⟨k, m, n, h, t, rfl, ⟨h1, h2, h3, h4, h5⟩, hR, hE⟩
set_option maxHeartbeats 1000000 in
theorem draw_ActivityText (v : Value) (l : List UInt8) (w : World) (h : Sl byteS w v l) :
    Calls Tryd.prog 11 #[v] w (DrawAct w) := by
  have h1 : Sl byteS (w.alloc (.cells #[.int .i64 0, .int .i64 0, .string ⟨#[]⟩, .string ⟨#[]⟩, .string ⟨#[]⟩] 30)) v l := h.mono (below1 _ _)
  go_enter Tryd.func11, Tryd.ntmps11
  go_wp2_with fail
  refine (open_any v l _ h1).mono ?_
  rintro e w1 ⟨rfl, hR, hB⟩
  have hsz : (w.alloc (.cells #[.int .i64 0, .int .i64 0, .string ⟨#[]⟩, .string ⟨#[]⟩, .string ⟨#[]⟩] 30)).heap.size = w.heap.size + 1 := by simp
  rw [hsz] at hR hB
  rw [hsz]
  go_wp2_with fail
  refine (activity_five _ _ _ _ hR (by omega) (by omega) (by omega)).mono ?_
  rintro e w2 ⟨k, m, n, h, t, rfl, ok, hR2, hE2⟩
  rw [← hsz] at hB hE2
  have hb := below_open hB hE2
  clear hsz
  have c0 : w2.cell? ⟨w.heap.size, 0, none⟩ = some (.int .i64 0) := keep_cell hb (by simp)
  have c1 : w2.cell? ⟨w.heap.size, 1, none⟩ = some (.int .i64 0) := keep_cell hb (by simp)
  have c2 : w2.cell? ⟨w.heap.size, 2, none⟩ = some (.string ⟨#[]⟩) := keep_cell hb (by simp)
  have c3 : w2.cell? ⟨w.heap.size, 3, none⟩ = some (.string ⟨#[]⟩) := keep_cell hb (by simp)
  have c4 : w2.cell? ⟨w.heap.size, 4, none⟩ = some (.string ⟨#[]⟩) := keep_cell hb (by simp)
  have f0 : w2.frozen? ⟨w.heap.size, 0, none⟩ = false := (hb.frozen (by simp)).trans (by simp)
  have f1 : w2.frozen? ⟨w.heap.size, 1, none⟩ = false := (hb.frozen (by simp)).trans (by simp)
  have f2 : w2.frozen? ⟨w.heap.size, 2, none⟩ = false := (hb.frozen (by simp)).trans (by simp)
  have f3 : w2.frozen? ⟨w.heap.size, 3, none⟩ = false := (hb.frozen (by simp)).trans (by simp)
  have f4 : w2.frozen? ⟨w.heap.size, 4, none⟩ = false := (hb.frozen (by simp)).trans (by simp)
  have bz : Below w.heap.size w w2 := below_trans (below1 _ _) hb
  have HP := Lib.hid (set5 (.int .i64 k) (.int .i64 m) (.string n) (.string h) (.string t) c0 c1 c2 c3 c4)
  go_wp2_with fail
  exact bodyPost_ret (resAct Tryd.results11 _ _ rfl HP.out.1 HP.out.2.1 HP.out.2.2.1 HP.out.2.2.2.1 HP.out.2.2.2.2) rfl ⟨k, m, n, h, t, rfl, ok, by repeat (first | (with_reducible exact bz) | (with_reducible refine Below.setCell ?_ (by simp only; omega) _))⟩
end Go.Proofs.YtackffegdmohiaaDoor
