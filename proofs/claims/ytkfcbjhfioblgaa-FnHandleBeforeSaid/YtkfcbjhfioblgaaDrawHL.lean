/- The walks of the reference's drawing functions for the laws on handles. No condition. -/
import Derived.Test.YtkfcbjhfioblgaaDrawH
namespace Go.Proofs.Ytkfcbjhfioblgaa
open Go.RowKit

def HandleRet (rb B : Nat) (w : World) (e : Ending) (w' : World) : Prop := ∃ n h : ByteArray, e = .returned (.agg #[.string n, .string h]) ∧ n.size ≤ 9 ∧ h.size ≤ 9 ∧ Rd w' rb B ∧ Ex (· = rb) w w'
theorem handle_two (rb B0 : Nat) (n : Int) (w : World) (hR0 : Rd w rb B0) (hB : B0 ≤ 998000) (n1 : 0 ≤ n) (n2 : n ≤ 1000000) :
    Calls Try.prog 30 #[.pointer (some ⟨rb, 0, none⟩), .int .i64 n] w (HandleRet rb (B0 + 6) w) := by
  refine (handle_any rb B0 n w hR0 hB n1 n2).mono fun e w' h => ?_
  obtain ⟨v, h1, ⟨vs, h2, hA⟩, hR, hE⟩ := h
  obtain ⟨_, _, ⟨s1, h3, z1⟩, ⟨s2, h4, z2⟩, h5⟩ := AllT.get2 hA
  subst h1 h2 h5 h3 h4
  exact ⟨s1, s2, rfl, z1, z2, hR, hE⟩
def DrawHnd (w : World) (e : Ending) (w' : World) : Prop := ∃ n h : ByteArray, e = .returned (.agg #[.string n, .string h]) ∧ (n.size ≤ 9 ∧ h.size ≤ 9) ∧ Below w.heap.size w w'
set_option maxHeartbeats 1000000 in
theorem draw_HandleValid (v : Value) (l : List UInt8) (w : World) (h : Sl byteS w v l) :
    Calls Try.prog 21 #[v] w (DrawHnd w) := by
  have h1 : Sl byteS (w.alloc (.cells #[.string ⟨#[]⟩, .string ⟨#[]⟩] 26)) v l := h.mono (below1 _ _)
  go_enter Try.func21, Try.ntmps21
  go_wp2_with fail
  refine (open_any v l _ h1).mono ?_
  rintro e w1 ⟨rfl, hR, hB⟩
  have hsz : (w.alloc (.cells #[.string ⟨#[]⟩, .string ⟨#[]⟩] 26)).heap.size = w.heap.size + 1 := by simp
  rw [hsz] at hR hB
  rw [hsz]
  go_wp2_with fail
  refine (handle_two _ _ _ _ hR (by omega) (by omega) (by omega)).mono ?_
  rintro e w2 ⟨s1, s2, rfl, z1, z2, hR2, hE2⟩
  rw [← hsz] at hB hE2
  have hb := below_open hB hE2
  clear hsz
  have c0 : w2.cell? ⟨w.heap.size, 0, none⟩ = some (.string ⟨#[]⟩) := keep_cell hb (by simp)
  have c1 : w2.cell? ⟨w.heap.size, 1, none⟩ = some (.string ⟨#[]⟩) := keep_cell hb (by simp)
  have f0 : w2.frozen? ⟨w.heap.size, 0, none⟩ = false := (hb.frozen (by simp)).trans (by simp)
  have f1 : w2.frozen? ⟨w.heap.size, 1, none⟩ = false := (hb.frozen (by simp)).trans (by simp)
  have bz : Below w.heap.size w w2 := below_trans (below1 _ _) hb
  have c1' : (w2.setCell ⟨w.heap.size, 0, none⟩ (.string s1)).cell? ⟨w.heap.size, 1, none⟩ = some (.string ⟨#[]⟩) := by rw [World.cell?_setCell_other _ _ _ _ (by simp)]; exact c1
  have g1 : ((w2.setCell ⟨w.heap.size, 0, none⟩ (.string s1)).setCell ⟨w.heap.size, 1, none⟩ (.string s2)).cell? ⟨w.heap.size, 1, none⟩ = some (.string s2) := World.cell?_setCell_same _ _ _ c1'
  have g0 : ((w2.setCell ⟨w.heap.size, 0, none⟩ (.string s1)).setCell ⟨w.heap.size, 1, none⟩ (.string s2)).cell? ⟨w.heap.size, 0, none⟩ = some (.string s1) := by rw [World.cell?_setCell_other _ _ _ _ (by simp)]; exact World.cell?_setCell_same _ _ _ c0
  clear hR hR2 hE2 hB hb
  go_wp2_with fail
  exact bodyPost_ret (v := .agg #[.string s1, .string s2]) (by simp [results, Try.results21, go_sem, g0, g1]) rfl ⟨s1, s2, rfl, ⟨z1, z2⟩, (bz.setCell (Nat.le_refl _) _).setCell (Nat.le_refl _) _⟩
set_option maxHeartbeats 1000000 in
theorem draw_HandleText (v : Value) (l : List UInt8) (w : World) (h : Sl byteS w v l) :
    Calls Try.prog 25 #[v] w (DrawHnd w) := by
  have h1 : Sl byteS (w.alloc (.cells #[.string ⟨#[]⟩, .string ⟨#[]⟩] 26)) v l := h.mono (below1 _ _)
  go_enter Try.func25, Try.ntmps25
  go_wp2_with fail
  refine (open_any v l _ h1).mono ?_
  rintro e w1 ⟨rfl, hR, hB⟩
  have hsz : (w.alloc (.cells #[.string ⟨#[]⟩, .string ⟨#[]⟩] 26)).heap.size = w.heap.size + 1 := by simp
  rw [hsz] at hR hB
  rw [hsz]
  go_wp2_with fail
  refine (handle_two _ _ _ _ hR (by omega) (by omega) (by omega)).mono ?_
  rintro e w2 ⟨s1, s2, rfl, z1, z2, hR2, hE2⟩
  rw [← hsz] at hB hE2
  have hb := below_open hB hE2
  clear hsz
  have c0 : w2.cell? ⟨w.heap.size, 0, none⟩ = some (.string ⟨#[]⟩) := keep_cell hb (by simp)
  have c1 : w2.cell? ⟨w.heap.size, 1, none⟩ = some (.string ⟨#[]⟩) := keep_cell hb (by simp)
  have f0 : w2.frozen? ⟨w.heap.size, 0, none⟩ = false := (hb.frozen (by simp)).trans (by simp)
  have f1 : w2.frozen? ⟨w.heap.size, 1, none⟩ = false := (hb.frozen (by simp)).trans (by simp)
  have bz : Below w.heap.size w w2 := below_trans (below1 _ _) hb
  have c1' : (w2.setCell ⟨w.heap.size, 0, none⟩ (.string s1)).cell? ⟨w.heap.size, 1, none⟩ = some (.string ⟨#[]⟩) := by rw [World.cell?_setCell_other _ _ _ _ (by simp)]; exact c1
  have g1 : ((w2.setCell ⟨w.heap.size, 0, none⟩ (.string s1)).setCell ⟨w.heap.size, 1, none⟩ (.string s2)).cell? ⟨w.heap.size, 1, none⟩ = some (.string s2) := World.cell?_setCell_same _ _ _ c1'
  have g0 : ((w2.setCell ⟨w.heap.size, 0, none⟩ (.string s1)).setCell ⟨w.heap.size, 1, none⟩ (.string s2)).cell? ⟨w.heap.size, 0, none⟩ = some (.string s1) := by rw [World.cell?_setCell_other _ _ _ _ (by simp)]; exact World.cell?_setCell_same _ _ _ c0
  clear hR hR2 hE2 hB hb
  go_wp2_with fail
  exact bodyPost_ret (v := .agg #[.string s1, .string s2]) (by simp [results, Try.results25, go_sem, g0, g1]) rfl ⟨s1, s2, rfl, ⟨z1, z2⟩, (bz.setCell (Nat.le_refl _) _).setCell (Nat.le_refl _) _⟩
end Go.Proofs.Ytkfcbjhfioblgaa
