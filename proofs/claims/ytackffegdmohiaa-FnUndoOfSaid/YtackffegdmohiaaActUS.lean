/- The walk of the reference's UndoOf. Condition: texts are no longer than a machine holds. -/
import Derived.Test.YtackffegdmohiaaActU
namespace Go.Proofs.Ytackffegdmohiaa
open Go.RowKit

set_option maxHeartbeats 1600000 in
theorem s_UndoOf (k m : Int) (n h t : ByteArray) (q : Int) (w : World) (hn : n.size ≤ 140737488355328) (hh : h.size ≤ 140737488355328) (ht : t.size ≤ 140737488355328) :
    Calls Try.prog 15 #[.agg #[.int .i64 k, .int .i64 m, .string n, .string h, .string t], .int .i64 q] w (UndoRet k m n h t q w) := by
  cases ha : actB k m n h t
  · have H : undoOk k m n h t q = false := by unfold undoOk; rw [ha]; rfl
    have HU := Lib.hid H
    clear H
    go_enter Try.func15, Try.ntmps15
    go_wp2_with fail
    refine (s_ActivityValid _ _ _ _ _ _ hn hh ht).mono ?_
    rintro x w1 ⟨rfl, hb⟩
    rw [ha]
    have r0 : w1.cell? ⟨w.heap.size + 1, 0, none⟩ = some (.int .i64 0) := keep_cell hb (by simp [go_sem])
    have r1 : w1.cell? ⟨w.heap.size + 1, 1, none⟩ = some (.int .i64 0) := keep_cell hb (by simp [go_sem])
    have r2 : w1.cell? ⟨w.heap.size + 1, 2, none⟩ = some (.string ⟨#[]⟩) := keep_cell hb (by simp [go_sem])
    have r3 : w1.cell? ⟨w.heap.size + 1, 3, none⟩ = some (.string ⟨#[]⟩) := keep_cell hb (by simp [go_sem])
    have r4 : w1.cell? ⟨w.heap.size + 1, 4, none⟩ = some (.string ⟨#[]⟩) := keep_cell hb (by simp [go_sem])
    have a0 : w1.cell? ⟨w.heap.size, 0, none⟩ = some (.int .i64 k) := keep_cell hb (by simp [go_sem])
    have a1 : w1.cell? ⟨w.heap.size, 1, none⟩ = some (.int .i64 m) := keep_cell hb (by simp [go_sem])
    have a2 : w1.cell? ⟨w.heap.size, 2, none⟩ = some (.string n) := keep_cell hb (by simp [go_sem])
    have a3 : w1.cell? ⟨w.heap.size, 3, none⟩ = some (.string h) := keep_cell hb (by simp [go_sem])
    have a4 : w1.cell? ⟨w.heap.size, 4, none⟩ = some (.string t) := keep_cell hb (by simp [go_sem])
    have f0 : ∀ i, w1.frozen? ⟨w.heap.size + 1, i, none⟩ = false := fun i => keep_froz hb (by simp) (by simp [go_sem])
    have hlt : w.heap.size + 1 < w1.heap.size := Nat.lt_of_lt_of_le (by simp) hb.size
    have bz : Below w.heap.size w w1 := below_trans (below1 _ _) (below_trans (below1 _ _) hb)
    have P := set5 (.int .i64 0) (.int .i64 0) (.string ⟨#[]⟩) (.string ⟨#[]⟩) (.string ⟨#[]⟩) r0 r1 r2 r3 r4
    have HP := Lib.hid P
    clear P
    go_wp2
    clear r0 r1 r2 r3 r4 f0 a0 a1 a2 a3 a4
    obtain ⟨P0, P1, P2, P3, P4⟩ := HP.out
    clear HP
    exact bodyPost_ret (resActB Try.results15 _ _ rfl P0 P1 P2 P3 P4) rfl (UndoRet.no HU.out (by repeat (first | (with_reducible exact bz) | (with_reducible refine Below.setCell ?_ (by simp only; omega) _) | (with_reducible refine Below.alloc ?_ (by have := bz.size; simp; omega) _))))
  have HA := Lib.hid ha
  have hk := actB_true ha
  clear ha
  obtain ⟨k0, k5, -⟩ := hk
  by_cases hq : q < 0
  · have H : undoOk k m n h t q = false := by unfold undoOk; rw [show (decide (0 ≤ q) && decide (q ≤ 1000000000)) = false by simp; omega]; simp
    have HU := Lib.hid H
    clear H k0 k5
    go_enter Try.func15, Try.ntmps15
    go_wp2_with fail
    refine (s_ActivityValid _ _ _ _ _ _ hn hh ht).mono ?_
    rintro x w1 ⟨rfl, hb⟩
    rw [HA.out]
    have r0 : w1.cell? ⟨w.heap.size + 1, 0, none⟩ = some (.int .i64 0) := keep_cell hb (by simp [go_sem])
    have r1 : w1.cell? ⟨w.heap.size + 1, 1, none⟩ = some (.int .i64 0) := keep_cell hb (by simp [go_sem])
    have r2 : w1.cell? ⟨w.heap.size + 1, 2, none⟩ = some (.string ⟨#[]⟩) := keep_cell hb (by simp [go_sem])
    have r3 : w1.cell? ⟨w.heap.size + 1, 3, none⟩ = some (.string ⟨#[]⟩) := keep_cell hb (by simp [go_sem])
    have r4 : w1.cell? ⟨w.heap.size + 1, 4, none⟩ = some (.string ⟨#[]⟩) := keep_cell hb (by simp [go_sem])
    have a0 : w1.cell? ⟨w.heap.size, 0, none⟩ = some (.int .i64 k) := keep_cell hb (by simp [go_sem])
    have a1 : w1.cell? ⟨w.heap.size, 1, none⟩ = some (.int .i64 m) := keep_cell hb (by simp [go_sem])
    have a2 : w1.cell? ⟨w.heap.size, 2, none⟩ = some (.string n) := keep_cell hb (by simp [go_sem])
    have a3 : w1.cell? ⟨w.heap.size, 3, none⟩ = some (.string h) := keep_cell hb (by simp [go_sem])
    have a4 : w1.cell? ⟨w.heap.size, 4, none⟩ = some (.string t) := keep_cell hb (by simp [go_sem])
    have f0 : ∀ i, w1.frozen? ⟨w.heap.size + 1, i, none⟩ = false := fun i => keep_froz hb (by simp) (by simp [go_sem])
    have hlt : w.heap.size + 1 < w1.heap.size := Nat.lt_of_lt_of_le (by simp) hb.size
    have bz : Below w.heap.size w w1 := below_trans (below1 _ _) (below_trans (below1 _ _) hb)
    have P := set5 (.int .i64 0) (.int .i64 0) (.string ⟨#[]⟩) (.string ⟨#[]⟩) (.string ⟨#[]⟩) r0 r1 r2 r3 r4
    have HP := Lib.hid P
    clear P
    go_wp2
    clear r0 r1 r2 r3 r4 f0 a0 a1 a2 a3 a4
    obtain ⟨P0, P1, P2, P3, P4⟩ := HP.out
    clear HP
    exact bodyPost_ret (resActB Try.results15 _ _ rfl P0 P1 P2 P3 P4) rfl (UndoRet.no HU.out (by repeat (first | (with_reducible exact bz) | (with_reducible refine Below.setCell ?_ (by simp only; omega) _) | (with_reducible refine Below.alloc ?_ (by have := bz.size; simp; omega) _))))
  have q0 : 0 ≤ q := by omega
  clear hq
  by_cases hq : 1000000000 < q
  · have H : undoOk k m n h t q = false := by unfold undoOk; rw [show (decide (0 ≤ q) && decide (q ≤ 1000000000)) = false by simp; omega]; simp
    have HU := Lib.hid H
    clear H k0 k5
    have q0 : 0 ≤ q := by omega
    have qd : decide (q ≤ 1000000000) = false := by simpa using hq
    go_enter Try.func15, Try.ntmps15
    go_wp2_with fail
    refine (s_ActivityValid _ _ _ _ _ _ hn hh ht).mono ?_
    rintro x w1 ⟨rfl, hb⟩
    rw [HA.out]
    have r0 : w1.cell? ⟨w.heap.size + 1, 0, none⟩ = some (.int .i64 0) := keep_cell hb (by simp [go_sem])
    have r1 : w1.cell? ⟨w.heap.size + 1, 1, none⟩ = some (.int .i64 0) := keep_cell hb (by simp [go_sem])
    have r2 : w1.cell? ⟨w.heap.size + 1, 2, none⟩ = some (.string ⟨#[]⟩) := keep_cell hb (by simp [go_sem])
    have r3 : w1.cell? ⟨w.heap.size + 1, 3, none⟩ = some (.string ⟨#[]⟩) := keep_cell hb (by simp [go_sem])
    have r4 : w1.cell? ⟨w.heap.size + 1, 4, none⟩ = some (.string ⟨#[]⟩) := keep_cell hb (by simp [go_sem])
    have a0 : w1.cell? ⟨w.heap.size, 0, none⟩ = some (.int .i64 k) := keep_cell hb (by simp [go_sem])
    have a1 : w1.cell? ⟨w.heap.size, 1, none⟩ = some (.int .i64 m) := keep_cell hb (by simp [go_sem])
    have a2 : w1.cell? ⟨w.heap.size, 2, none⟩ = some (.string n) := keep_cell hb (by simp [go_sem])
    have a3 : w1.cell? ⟨w.heap.size, 3, none⟩ = some (.string h) := keep_cell hb (by simp [go_sem])
    have a4 : w1.cell? ⟨w.heap.size, 4, none⟩ = some (.string t) := keep_cell hb (by simp [go_sem])
    have f0 : ∀ i, w1.frozen? ⟨w.heap.size + 1, i, none⟩ = false := fun i => keep_froz hb (by simp) (by simp [go_sem])
    have hlt : w.heap.size + 1 < w1.heap.size := Nat.lt_of_lt_of_le (by simp) hb.size
    have bz : Below w.heap.size w w1 := below_trans (below1 _ _) (below_trans (below1 _ _) hb)
    have P := set5 (.int .i64 0) (.int .i64 0) (.string ⟨#[]⟩) (.string ⟨#[]⟩) (.string ⟨#[]⟩) r0 r1 r2 r3 r4
    have HP := Lib.hid P
    clear P
    go_wp2
    clear r0 r1 r2 r3 r4 f0 a0 a1 a2 a3 a4
    obtain ⟨P0, P1, P2, P3, P4⟩ := HP.out
    clear HP
    exact bodyPost_ret (resActB Try.results15 _ _ rfl P0 P1 P2 P3 P4) rfl (UndoRet.no HU.out (by repeat (first | (with_reducible exact bz) | (with_reducible refine Below.setCell ?_ (by simp only; omega) _) | (with_reducible refine Below.alloc ?_ (by have := bz.size; simp; omega) _))))
  have q1 : q ≤ 1000000000 := by omega
  clear hq
  rcases (show k = 0 ∨ k = 1 ∨ k = 2 ∨ k = 3 ∨ k = 4 ∨ k = 5 by omega) with rfl | rfl | rfl | rfl | rfl | rfl
  · have H : undoOk 0 m n h t q = true := by unfold undoOk; rw [HA.out, decide_eq_true q0, decide_eq_true q1]; rfl
    have HU := Lib.hid H
    clear H
    go_enter Try.func15, Try.ntmps15
    go_wp2_with fail
    refine (s_ActivityValid _ _ _ _ _ _ hn hh ht).mono ?_
    rintro x w1 ⟨rfl, hb⟩
    rw [HA.out]
    have r0 : w1.cell? ⟨w.heap.size + 1, 0, none⟩ = some (.int .i64 0) := keep_cell hb (by simp [go_sem])
    have r1 : w1.cell? ⟨w.heap.size + 1, 1, none⟩ = some (.int .i64 0) := keep_cell hb (by simp [go_sem])
    have r2 : w1.cell? ⟨w.heap.size + 1, 2, none⟩ = some (.string ⟨#[]⟩) := keep_cell hb (by simp [go_sem])
    have r3 : w1.cell? ⟨w.heap.size + 1, 3, none⟩ = some (.string ⟨#[]⟩) := keep_cell hb (by simp [go_sem])
    have r4 : w1.cell? ⟨w.heap.size + 1, 4, none⟩ = some (.string ⟨#[]⟩) := keep_cell hb (by simp [go_sem])
    have a0 : w1.cell? ⟨w.heap.size, 0, none⟩ = some (.int .i64 0) := keep_cell hb (by simp [go_sem])
    have a1 : w1.cell? ⟨w.heap.size, 1, none⟩ = some (.int .i64 m) := keep_cell hb (by simp [go_sem])
    have a2 : w1.cell? ⟨w.heap.size, 2, none⟩ = some (.string n) := keep_cell hb (by simp [go_sem])
    have a3 : w1.cell? ⟨w.heap.size, 3, none⟩ = some (.string h) := keep_cell hb (by simp [go_sem])
    have a4 : w1.cell? ⟨w.heap.size, 4, none⟩ = some (.string t) := keep_cell hb (by simp [go_sem])
    have f0 : ∀ i, w1.frozen? ⟨w.heap.size + 1, i, none⟩ = false := fun i => keep_froz hb (by simp) (by simp [go_sem])
    have hlt : w.heap.size + 1 < w1.heap.size := Nat.lt_of_lt_of_le (by simp) hb.size
    have bz : Below w.heap.size w w1 := below_trans (below1 _ _) (below_trans (below1 _ _) hb)
    have e0 : ∀ o, (w1.alloc o).cell? ⟨w.heap.size, 0, none⟩ = some (.int .i64 0) := fun o => keep_cell (below1 _ _) a0
    have d0 : ∀ o, (w1.alloc o).cell? ⟨w.heap.size + 1, 0, none⟩ = some (.int .i64 0) := fun o => keep_cell (below1 _ _) r0
    have d1 : ∀ o, (w1.alloc o).cell? ⟨w.heap.size + 1, 1, none⟩ = some (.int .i64 0) := fun o => keep_cell (below1 _ _) r1
    have d2 : ∀ o, (w1.alloc o).cell? ⟨w.heap.size + 1, 2, none⟩ = some (.string ⟨#[]⟩) := fun o => keep_cell (below1 _ _) r2
    have d3 : ∀ o, (w1.alloc o).cell? ⟨w.heap.size + 1, 3, none⟩ = some (.string ⟨#[]⟩) := fun o => keep_cell (below1 _ _) r3
    have d4 : ∀ o, (w1.alloc o).cell? ⟨w.heap.size + 1, 4, none⟩ = some (.string ⟨#[]⟩) := fun o => keep_cell (below1 _ _) r4
    have g0 : ∀ o i, (w1.alloc o).frozen? ⟨w.heap.size + 1, i, none⟩ = false := fun o i => keep_froz (below1 _ _) (by simpa using hlt) (f0 i)
    have P := set5 (.int .i64 2) (.int .i64 q) (.string n) (.string h) (.string t) r0 r1 r2 r3 r4
    have HP := Lib.hid P
    clear P
    go_wp2
    clear r0 r1 r2 r3 r4 f0 a0 a1 a2 a3 a4
    obtain ⟨P0, P1, P2, P3, P4⟩ := HP.out
    clear HP
    exact bodyPost_ret (resActB Try.results15 _ _ rfl (keep_cell (below1 _ _) P0) (keep_cell (below1 _ _) P1) (keep_cell (below1 _ _) P2) (keep_cell (below1 _ _) P3) (keep_cell (below1 _ _) P4)) rfl (UndoRet.yes HU.out rfl (by repeat (first | (with_reducible exact bz) | (with_reducible refine Below.setCell ?_ (by simp only; omega) _) | (with_reducible refine Below.alloc ?_ (by have := bz.size; simp; omega) _))))
  · have H : undoOk 1 m n h t q = true := by unfold undoOk; rw [HA.out, decide_eq_true q0, decide_eq_true q1]; rfl
    have HU := Lib.hid H
    clear H
    go_enter Try.func15, Try.ntmps15
    go_wp2_with fail
    refine (s_ActivityValid _ _ _ _ _ _ hn hh ht).mono ?_
    rintro x w1 ⟨rfl, hb⟩
    rw [HA.out]
    have r0 : w1.cell? ⟨w.heap.size + 1, 0, none⟩ = some (.int .i64 0) := keep_cell hb (by simp [go_sem])
    have r1 : w1.cell? ⟨w.heap.size + 1, 1, none⟩ = some (.int .i64 0) := keep_cell hb (by simp [go_sem])
    have r2 : w1.cell? ⟨w.heap.size + 1, 2, none⟩ = some (.string ⟨#[]⟩) := keep_cell hb (by simp [go_sem])
    have r3 : w1.cell? ⟨w.heap.size + 1, 3, none⟩ = some (.string ⟨#[]⟩) := keep_cell hb (by simp [go_sem])
    have r4 : w1.cell? ⟨w.heap.size + 1, 4, none⟩ = some (.string ⟨#[]⟩) := keep_cell hb (by simp [go_sem])
    have a0 : w1.cell? ⟨w.heap.size, 0, none⟩ = some (.int .i64 1) := keep_cell hb (by simp [go_sem])
    have a1 : w1.cell? ⟨w.heap.size, 1, none⟩ = some (.int .i64 m) := keep_cell hb (by simp [go_sem])
    have a2 : w1.cell? ⟨w.heap.size, 2, none⟩ = some (.string n) := keep_cell hb (by simp [go_sem])
    have a3 : w1.cell? ⟨w.heap.size, 3, none⟩ = some (.string h) := keep_cell hb (by simp [go_sem])
    have a4 : w1.cell? ⟨w.heap.size, 4, none⟩ = some (.string t) := keep_cell hb (by simp [go_sem])
    have f0 : ∀ i, w1.frozen? ⟨w.heap.size + 1, i, none⟩ = false := fun i => keep_froz hb (by simp) (by simp [go_sem])
    have hlt : w.heap.size + 1 < w1.heap.size := Nat.lt_of_lt_of_le (by simp) hb.size
    have bz : Below w.heap.size w w1 := below_trans (below1 _ _) (below_trans (below1 _ _) hb)
    have e0 : ∀ o, (w1.alloc o).cell? ⟨w.heap.size, 0, none⟩ = some (.int .i64 1) := fun o => keep_cell (below1 _ _) a0
    have d0 : ∀ o, (w1.alloc o).cell? ⟨w.heap.size + 1, 0, none⟩ = some (.int .i64 0) := fun o => keep_cell (below1 _ _) r0
    have d1 : ∀ o, (w1.alloc o).cell? ⟨w.heap.size + 1, 1, none⟩ = some (.int .i64 0) := fun o => keep_cell (below1 _ _) r1
    have d2 : ∀ o, (w1.alloc o).cell? ⟨w.heap.size + 1, 2, none⟩ = some (.string ⟨#[]⟩) := fun o => keep_cell (below1 _ _) r2
    have d3 : ∀ o, (w1.alloc o).cell? ⟨w.heap.size + 1, 3, none⟩ = some (.string ⟨#[]⟩) := fun o => keep_cell (below1 _ _) r3
    have d4 : ∀ o, (w1.alloc o).cell? ⟨w.heap.size + 1, 4, none⟩ = some (.string ⟨#[]⟩) := fun o => keep_cell (below1 _ _) r4
    have g0 : ∀ o i, (w1.alloc o).frozen? ⟨w.heap.size + 1, i, none⟩ = false := fun o i => keep_froz (below1 _ _) (by simpa using hlt) (f0 i)
    have P := set5 (.int .i64 2) (.int .i64 q) (.string n) (.string h) (.string t) r0 r1 r2 r3 r4
    have HP := Lib.hid P
    clear P
    go_wp2
    clear r0 r1 r2 r3 r4 f0 a0 a1 a2 a3 a4
    obtain ⟨P0, P1, P2, P3, P4⟩ := HP.out
    clear HP
    exact bodyPost_ret (resActB Try.results15 _ _ rfl (keep_cell (below1 _ _) P0) (keep_cell (below1 _ _) P1) (keep_cell (below1 _ _) P2) (keep_cell (below1 _ _) P3) (keep_cell (below1 _ _) P4)) rfl (UndoRet.yes HU.out rfl (by repeat (first | (with_reducible exact bz) | (with_reducible refine Below.setCell ?_ (by simp only; omega) _) | (with_reducible refine Below.alloc ?_ (by have := bz.size; simp; omega) _))))
  · have H : undoOk 2 m n h t q = false := by unfold undoOk; simp
    have HU := Lib.hid H
    clear H
    go_enter Try.func15, Try.ntmps15
    go_wp2_with fail
    refine (s_ActivityValid _ _ _ _ _ _ hn hh ht).mono ?_
    rintro x w1 ⟨rfl, hb⟩
    rw [HA.out]
    have r0 : w1.cell? ⟨w.heap.size + 1, 0, none⟩ = some (.int .i64 0) := keep_cell hb (by simp [go_sem])
    have r1 : w1.cell? ⟨w.heap.size + 1, 1, none⟩ = some (.int .i64 0) := keep_cell hb (by simp [go_sem])
    have r2 : w1.cell? ⟨w.heap.size + 1, 2, none⟩ = some (.string ⟨#[]⟩) := keep_cell hb (by simp [go_sem])
    have r3 : w1.cell? ⟨w.heap.size + 1, 3, none⟩ = some (.string ⟨#[]⟩) := keep_cell hb (by simp [go_sem])
    have r4 : w1.cell? ⟨w.heap.size + 1, 4, none⟩ = some (.string ⟨#[]⟩) := keep_cell hb (by simp [go_sem])
    have a0 : w1.cell? ⟨w.heap.size, 0, none⟩ = some (.int .i64 2) := keep_cell hb (by simp [go_sem])
    have a1 : w1.cell? ⟨w.heap.size, 1, none⟩ = some (.int .i64 m) := keep_cell hb (by simp [go_sem])
    have a2 : w1.cell? ⟨w.heap.size, 2, none⟩ = some (.string n) := keep_cell hb (by simp [go_sem])
    have a3 : w1.cell? ⟨w.heap.size, 3, none⟩ = some (.string h) := keep_cell hb (by simp [go_sem])
    have a4 : w1.cell? ⟨w.heap.size, 4, none⟩ = some (.string t) := keep_cell hb (by simp [go_sem])
    have f0 : ∀ i, w1.frozen? ⟨w.heap.size + 1, i, none⟩ = false := fun i => keep_froz hb (by simp) (by simp [go_sem])
    have hlt : w.heap.size + 1 < w1.heap.size := Nat.lt_of_lt_of_le (by simp) hb.size
    have bz : Below w.heap.size w w1 := below_trans (below1 _ _) (below_trans (below1 _ _) hb)
    have e0 : ∀ o, (w1.alloc o).cell? ⟨w.heap.size, 0, none⟩ = some (.int .i64 2) := fun o => keep_cell (below1 _ _) a0
    have d0 : ∀ o, (w1.alloc o).cell? ⟨w.heap.size + 1, 0, none⟩ = some (.int .i64 0) := fun o => keep_cell (below1 _ _) r0
    have d1 : ∀ o, (w1.alloc o).cell? ⟨w.heap.size + 1, 1, none⟩ = some (.int .i64 0) := fun o => keep_cell (below1 _ _) r1
    have d2 : ∀ o, (w1.alloc o).cell? ⟨w.heap.size + 1, 2, none⟩ = some (.string ⟨#[]⟩) := fun o => keep_cell (below1 _ _) r2
    have d3 : ∀ o, (w1.alloc o).cell? ⟨w.heap.size + 1, 3, none⟩ = some (.string ⟨#[]⟩) := fun o => keep_cell (below1 _ _) r3
    have d4 : ∀ o, (w1.alloc o).cell? ⟨w.heap.size + 1, 4, none⟩ = some (.string ⟨#[]⟩) := fun o => keep_cell (below1 _ _) r4
    have g0 : ∀ o i, (w1.alloc o).frozen? ⟨w.heap.size + 1, i, none⟩ = false := fun o i => keep_froz (below1 _ _) (by simpa using hlt) (f0 i)
    have P := set5 (.int .i64 0) (.int .i64 0) (.string ⟨#[]⟩) (.string ⟨#[]⟩) (.string ⟨#[]⟩) r0 r1 r2 r3 r4
    have HP := Lib.hid P
    clear P
    go_wp2
    clear r0 r1 r2 r3 r4 f0 a0 a1 a2 a3 a4
    obtain ⟨P0, P1, P2, P3, P4⟩ := HP.out
    clear HP
    exact bodyPost_ret (resActB Try.results15 _ _ rfl P0 P1 P2 P3 P4) rfl (UndoRet.no HU.out (by repeat (first | (with_reducible exact bz) | (with_reducible refine Below.setCell ?_ (by simp only; omega) _) | (with_reducible refine Below.alloc ?_ (by have := bz.size; simp; omega) _))))
  · have H : undoOk 3 m n h t q = true := by unfold undoOk; rw [HA.out, decide_eq_true q0, decide_eq_true q1]; rfl
    have HU := Lib.hid H
    clear H
    go_enter Try.func15, Try.ntmps15
    go_wp2_with fail
    refine (s_ActivityValid _ _ _ _ _ _ hn hh ht).mono ?_
    rintro x w1 ⟨rfl, hb⟩
    rw [HA.out]
    have r0 : w1.cell? ⟨w.heap.size + 1, 0, none⟩ = some (.int .i64 0) := keep_cell hb (by simp [go_sem])
    have r1 : w1.cell? ⟨w.heap.size + 1, 1, none⟩ = some (.int .i64 0) := keep_cell hb (by simp [go_sem])
    have r2 : w1.cell? ⟨w.heap.size + 1, 2, none⟩ = some (.string ⟨#[]⟩) := keep_cell hb (by simp [go_sem])
    have r3 : w1.cell? ⟨w.heap.size + 1, 3, none⟩ = some (.string ⟨#[]⟩) := keep_cell hb (by simp [go_sem])
    have r4 : w1.cell? ⟨w.heap.size + 1, 4, none⟩ = some (.string ⟨#[]⟩) := keep_cell hb (by simp [go_sem])
    have a0 : w1.cell? ⟨w.heap.size, 0, none⟩ = some (.int .i64 3) := keep_cell hb (by simp [go_sem])
    have a1 : w1.cell? ⟨w.heap.size, 1, none⟩ = some (.int .i64 m) := keep_cell hb (by simp [go_sem])
    have a2 : w1.cell? ⟨w.heap.size, 2, none⟩ = some (.string n) := keep_cell hb (by simp [go_sem])
    have a3 : w1.cell? ⟨w.heap.size, 3, none⟩ = some (.string h) := keep_cell hb (by simp [go_sem])
    have a4 : w1.cell? ⟨w.heap.size, 4, none⟩ = some (.string t) := keep_cell hb (by simp [go_sem])
    have f0 : ∀ i, w1.frozen? ⟨w.heap.size + 1, i, none⟩ = false := fun i => keep_froz hb (by simp) (by simp [go_sem])
    have hlt : w.heap.size + 1 < w1.heap.size := Nat.lt_of_lt_of_le (by simp) hb.size
    have bz : Below w.heap.size w w1 := below_trans (below1 _ _) (below_trans (below1 _ _) hb)
    have e0 : ∀ o, (w1.alloc o).cell? ⟨w.heap.size, 0, none⟩ = some (.int .i64 3) := fun o => keep_cell (below1 _ _) a0
    have d0 : ∀ o, (w1.alloc o).cell? ⟨w.heap.size + 1, 0, none⟩ = some (.int .i64 0) := fun o => keep_cell (below1 _ _) r0
    have d1 : ∀ o, (w1.alloc o).cell? ⟨w.heap.size + 1, 1, none⟩ = some (.int .i64 0) := fun o => keep_cell (below1 _ _) r1
    have d2 : ∀ o, (w1.alloc o).cell? ⟨w.heap.size + 1, 2, none⟩ = some (.string ⟨#[]⟩) := fun o => keep_cell (below1 _ _) r2
    have d3 : ∀ o, (w1.alloc o).cell? ⟨w.heap.size + 1, 3, none⟩ = some (.string ⟨#[]⟩) := fun o => keep_cell (below1 _ _) r3
    have d4 : ∀ o, (w1.alloc o).cell? ⟨w.heap.size + 1, 4, none⟩ = some (.string ⟨#[]⟩) := fun o => keep_cell (below1 _ _) r4
    have g0 : ∀ o i, (w1.alloc o).frozen? ⟨w.heap.size + 1, i, none⟩ = false := fun o i => keep_froz (below1 _ _) (by simpa using hlt) (f0 i)
    have P := set5 (.int .i64 5) (.int .i64 q) (.string n) (.string h) (.string t) r0 r1 r2 r3 r4
    have HP := Lib.hid P
    clear P
    go_wp2
    clear r0 r1 r2 r3 r4 f0 a0 a1 a2 a3 a4
    obtain ⟨P0, P1, P2, P3, P4⟩ := HP.out
    clear HP
    exact bodyPost_ret (resActB Try.results15 _ _ rfl (keep_cell (below1 _ _) P0) (keep_cell (below1 _ _) P1) (keep_cell (below1 _ _) P2) (keep_cell (below1 _ _) P3) (keep_cell (below1 _ _) P4)) rfl (UndoRet.yes HU.out rfl (by repeat (first | (with_reducible exact bz) | (with_reducible refine Below.setCell ?_ (by simp only; omega) _) | (with_reducible refine Below.alloc ?_ (by have := bz.size; simp; omega) _))))
  · have H : undoOk 4 m n h t q = true := by unfold undoOk; rw [HA.out, decide_eq_true q0, decide_eq_true q1]; rfl
    have HU := Lib.hid H
    clear H
    go_enter Try.func15, Try.ntmps15
    go_wp2_with fail
    refine (s_ActivityValid _ _ _ _ _ _ hn hh ht).mono ?_
    rintro x w1 ⟨rfl, hb⟩
    rw [HA.out]
    have r0 : w1.cell? ⟨w.heap.size + 1, 0, none⟩ = some (.int .i64 0) := keep_cell hb (by simp [go_sem])
    have r1 : w1.cell? ⟨w.heap.size + 1, 1, none⟩ = some (.int .i64 0) := keep_cell hb (by simp [go_sem])
    have r2 : w1.cell? ⟨w.heap.size + 1, 2, none⟩ = some (.string ⟨#[]⟩) := keep_cell hb (by simp [go_sem])
    have r3 : w1.cell? ⟨w.heap.size + 1, 3, none⟩ = some (.string ⟨#[]⟩) := keep_cell hb (by simp [go_sem])
    have r4 : w1.cell? ⟨w.heap.size + 1, 4, none⟩ = some (.string ⟨#[]⟩) := keep_cell hb (by simp [go_sem])
    have a0 : w1.cell? ⟨w.heap.size, 0, none⟩ = some (.int .i64 4) := keep_cell hb (by simp [go_sem])
    have a1 : w1.cell? ⟨w.heap.size, 1, none⟩ = some (.int .i64 m) := keep_cell hb (by simp [go_sem])
    have a2 : w1.cell? ⟨w.heap.size, 2, none⟩ = some (.string n) := keep_cell hb (by simp [go_sem])
    have a3 : w1.cell? ⟨w.heap.size, 3, none⟩ = some (.string h) := keep_cell hb (by simp [go_sem])
    have a4 : w1.cell? ⟨w.heap.size, 4, none⟩ = some (.string t) := keep_cell hb (by simp [go_sem])
    have f0 : ∀ i, w1.frozen? ⟨w.heap.size + 1, i, none⟩ = false := fun i => keep_froz hb (by simp) (by simp [go_sem])
    have hlt : w.heap.size + 1 < w1.heap.size := Nat.lt_of_lt_of_le (by simp) hb.size
    have bz : Below w.heap.size w w1 := below_trans (below1 _ _) (below_trans (below1 _ _) hb)
    have e0 : ∀ o, (w1.alloc o).cell? ⟨w.heap.size, 0, none⟩ = some (.int .i64 4) := fun o => keep_cell (below1 _ _) a0
    have d0 : ∀ o, (w1.alloc o).cell? ⟨w.heap.size + 1, 0, none⟩ = some (.int .i64 0) := fun o => keep_cell (below1 _ _) r0
    have d1 : ∀ o, (w1.alloc o).cell? ⟨w.heap.size + 1, 1, none⟩ = some (.int .i64 0) := fun o => keep_cell (below1 _ _) r1
    have d2 : ∀ o, (w1.alloc o).cell? ⟨w.heap.size + 1, 2, none⟩ = some (.string ⟨#[]⟩) := fun o => keep_cell (below1 _ _) r2
    have d3 : ∀ o, (w1.alloc o).cell? ⟨w.heap.size + 1, 3, none⟩ = some (.string ⟨#[]⟩) := fun o => keep_cell (below1 _ _) r3
    have d4 : ∀ o, (w1.alloc o).cell? ⟨w.heap.size + 1, 4, none⟩ = some (.string ⟨#[]⟩) := fun o => keep_cell (below1 _ _) r4
    have g0 : ∀ o i, (w1.alloc o).frozen? ⟨w.heap.size + 1, i, none⟩ = false := fun o i => keep_froz (below1 _ _) (by simpa using hlt) (f0 i)
    have P := set5 (.int .i64 5) (.int .i64 q) (.string n) (.string h) (.string t) r0 r1 r2 r3 r4
    have HP := Lib.hid P
    clear P
    go_wp2
    clear r0 r1 r2 r3 r4 f0 a0 a1 a2 a3 a4
    obtain ⟨P0, P1, P2, P3, P4⟩ := HP.out
    clear HP
    exact bodyPost_ret (resActB Try.results15 _ _ rfl (keep_cell (below1 _ _) P0) (keep_cell (below1 _ _) P1) (keep_cell (below1 _ _) P2) (keep_cell (below1 _ _) P3) (keep_cell (below1 _ _) P4)) rfl (UndoRet.yes HU.out rfl (by repeat (first | (with_reducible exact bz) | (with_reducible refine Below.setCell ?_ (by simp only; omega) _) | (with_reducible refine Below.alloc ?_ (by have := bz.size; simp; omega) _))))
  · have H : undoOk 5 m n h t q = false := by unfold undoOk; simp
    have HU := Lib.hid H
    clear H
    go_enter Try.func15, Try.ntmps15
    go_wp2_with fail
    refine (s_ActivityValid _ _ _ _ _ _ hn hh ht).mono ?_
    rintro x w1 ⟨rfl, hb⟩
    rw [HA.out]
    have r0 : w1.cell? ⟨w.heap.size + 1, 0, none⟩ = some (.int .i64 0) := keep_cell hb (by simp [go_sem])
    have r1 : w1.cell? ⟨w.heap.size + 1, 1, none⟩ = some (.int .i64 0) := keep_cell hb (by simp [go_sem])
    have r2 : w1.cell? ⟨w.heap.size + 1, 2, none⟩ = some (.string ⟨#[]⟩) := keep_cell hb (by simp [go_sem])
    have r3 : w1.cell? ⟨w.heap.size + 1, 3, none⟩ = some (.string ⟨#[]⟩) := keep_cell hb (by simp [go_sem])
    have r4 : w1.cell? ⟨w.heap.size + 1, 4, none⟩ = some (.string ⟨#[]⟩) := keep_cell hb (by simp [go_sem])
    have a0 : w1.cell? ⟨w.heap.size, 0, none⟩ = some (.int .i64 5) := keep_cell hb (by simp [go_sem])
    have a1 : w1.cell? ⟨w.heap.size, 1, none⟩ = some (.int .i64 m) := keep_cell hb (by simp [go_sem])
    have a2 : w1.cell? ⟨w.heap.size, 2, none⟩ = some (.string n) := keep_cell hb (by simp [go_sem])
    have a3 : w1.cell? ⟨w.heap.size, 3, none⟩ = some (.string h) := keep_cell hb (by simp [go_sem])
    have a4 : w1.cell? ⟨w.heap.size, 4, none⟩ = some (.string t) := keep_cell hb (by simp [go_sem])
    have f0 : ∀ i, w1.frozen? ⟨w.heap.size + 1, i, none⟩ = false := fun i => keep_froz hb (by simp) (by simp [go_sem])
    have hlt : w.heap.size + 1 < w1.heap.size := Nat.lt_of_lt_of_le (by simp) hb.size
    have bz : Below w.heap.size w w1 := below_trans (below1 _ _) (below_trans (below1 _ _) hb)
    have e0 : ∀ o, (w1.alloc o).cell? ⟨w.heap.size, 0, none⟩ = some (.int .i64 5) := fun o => keep_cell (below1 _ _) a0
    have d0 : ∀ o, (w1.alloc o).cell? ⟨w.heap.size + 1, 0, none⟩ = some (.int .i64 0) := fun o => keep_cell (below1 _ _) r0
    have d1 : ∀ o, (w1.alloc o).cell? ⟨w.heap.size + 1, 1, none⟩ = some (.int .i64 0) := fun o => keep_cell (below1 _ _) r1
    have d2 : ∀ o, (w1.alloc o).cell? ⟨w.heap.size + 1, 2, none⟩ = some (.string ⟨#[]⟩) := fun o => keep_cell (below1 _ _) r2
    have d3 : ∀ o, (w1.alloc o).cell? ⟨w.heap.size + 1, 3, none⟩ = some (.string ⟨#[]⟩) := fun o => keep_cell (below1 _ _) r3
    have d4 : ∀ o, (w1.alloc o).cell? ⟨w.heap.size + 1, 4, none⟩ = some (.string ⟨#[]⟩) := fun o => keep_cell (below1 _ _) r4
    have g0 : ∀ o i, (w1.alloc o).frozen? ⟨w.heap.size + 1, i, none⟩ = false := fun o i => keep_froz (below1 _ _) (by simpa using hlt) (f0 i)
    have P := set5 (.int .i64 0) (.int .i64 0) (.string ⟨#[]⟩) (.string ⟨#[]⟩) (.string ⟨#[]⟩) r0 r1 r2 r3 r4
    have HP := Lib.hid P
    clear P
    go_wp2
    clear r0 r1 r2 r3 r4 f0 a0 a1 a2 a3 a4
    obtain ⟨P0, P1, P2, P3, P4⟩ := HP.out
    clear HP
    exact bodyPost_ret (resActB Try.results15 _ _ rfl P0 P1 P2 P3 P4) rfl (UndoRet.no HU.out (by repeat (first | (with_reducible exact bz) | (with_reducible refine Below.setCell ?_ (by simp only; omega) _) | (with_reducible refine Below.alloc ?_ (by have := bz.size; simp; omega) _))))
end Go.Proofs.Ytackffegdmohiaa
