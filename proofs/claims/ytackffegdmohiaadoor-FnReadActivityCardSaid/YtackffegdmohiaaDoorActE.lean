/- The walks of the program's and the reference's functions on activities, and of what the exact statements do with them. Condition: texts are no longer than a machine holds. -/
import Derived.Test.YtackffegdmohiaaDoorHandE
import Derived.WalkKit
import Derived.Deep.Draws
import Derived.Lib.Hide
namespace Go.Proofs.YtackffegdmohiaaDoor
open Go.RowKit

/-- Five cells of a block written one behind the other. -/
theorem set5 {W : World} {b : Nat} {u0 u1 u2 u3 u4 : Value} (v0 v1 v2 v3 v4 : Value) (h0 : W.cell? ⟨b, 0, none⟩ = some u0) (h1 : W.cell? ⟨b, 1, none⟩ = some u1) (h2 : W.cell? ⟨b, 2, none⟩ = some u2) (h3 : W.cell? ⟨b, 3, none⟩ = some u3) (h4 : W.cell? ⟨b, 4, none⟩ = some u4) :
    let W' := ((((W.setCell ⟨b, 0, none⟩ v0).setCell ⟨b, 1, none⟩ v1).setCell ⟨b, 2, none⟩ v2).setCell ⟨b, 3, none⟩ v3).setCell ⟨b, 4, none⟩ v4
    W'.cell? ⟨b, 0, none⟩ = some v0 ∧ W'.cell? ⟨b, 1, none⟩ = some v1 ∧ W'.cell? ⟨b, 2, none⟩ = some v2 ∧ W'.cell? ⟨b, 3, none⟩ = some v3 ∧ W'.cell? ⟨b, 4, none⟩ = some v4 := by
  have o : ∀ (X : World) (i j : Nat) (v : Value), i ≠ j → (X.setCell ⟨b, i, none⟩ v).cell? ⟨b, j, none⟩ = X.cell? ⟨b, j, none⟩ := fun X i j v hij => World.cell?_setCell_other _ _ _ _ (fun e => hij (congrArg Addr.off e))
  refine ⟨?_, ?_, ?_, ?_, ?_⟩
  · rw [o _ 4 0 _ (by decide), o _ 3 0 _ (by decide), o _ 2 0 _ (by decide), o _ 1 0 _ (by decide)]
    exact World.cell?_setCell_same _ _ _ h0
  · rw [o _ 4 1 _ (by decide), o _ 3 1 _ (by decide), o _ 2 1 _ (by decide)]
    exact World.cell?_setCell_same _ _ _ (by rw [o _ 0 1 _ (by decide)]; exact h1)
  · rw [o _ 4 2 _ (by decide), o _ 3 2 _ (by decide)]
    exact World.cell?_setCell_same _ _ _ (by rw [o _ 1 2 _ (by decide), o _ 0 2 _ (by decide)]; exact h2)
  · rw [o _ 4 3 _ (by decide)]
    exact World.cell?_setCell_same _ _ _ (by rw [o _ 2 3 _ (by decide), o _ 1 3 _ (by decide), o _ 0 3 _ (by decide)]; exact h3)
  · exact World.cell?_setCell_same _ _ _ (by rw [o _ 3 4 _ (by decide), o _ 2 4 _ (by decide), o _ 1 4 _ (by decide), o _ 0 4 _ (by decide)]; exact h4)
theorem far {W : World} {b c i j : Nat} {v u : Value} (hbc : b ≠ c) (h : W.cell? ⟨c, j, none⟩ = some u) : (W.setCell ⟨b, i, none⟩ v).cell? ⟨c, j, none⟩ = some u := by
  rw [World.cell?_setCell_other _ _ _ _ (fun e => hbc (congrArg Addr.block e))]; exact h

theorem resAct {fn : Func} {slot b : Nat} (hr : fn.results = #[.cell slot 30]) (tmps : Array Value) (W : World) (ht : tmps[slot]? = some (.pointer (some ⟨b, 0, none⟩))) {a0 a1 a2 a3 a4 : Value}
    (h0 : W.cell? ⟨b, 0, none⟩ = some a0) (h1 : W.cell? ⟨b, 1, none⟩ = some a1) (h2 : W.cell? ⟨b, 2, none⟩ = some a2) (h3 : W.cell? ⟨b, 3, none⟩ = some a3) (h4 : W.cell? ⟨b, 4, none⟩ = some a4) :
    (results fn tmps).run Tryd.prog W = .ok (.agg #[a0, a1, a2, a3, a4]) W := by
  simp [results, hr, go_sem, ht, h0, h1, h2, h3, h4]
theorem resActB {fn : Func} {slot bs b : Nat} (hr : fn.results = #[.cell slot 30, .tmp bs]) (tmps : Array Value) (W : World) (ht : tmps[slot]? = some (.pointer (some ⟨b, 0, none⟩))) {a0 a1 a2 a3 a4 : Value}
    (h0 : W.cell? ⟨b, 0, none⟩ = some a0) (h1 : W.cell? ⟨b, 1, none⟩ = some a1) (h2 : W.cell? ⟨b, 2, none⟩ = some a2) (h3 : W.cell? ⟨b, 3, none⟩ = some a3) (h4 : W.cell? ⟨b, 4, none⟩ = some a4) :
    (results fn tmps).run Tryd.prog W = .ok (.tuple #[.agg #[a0, a1, a2, a3, a4], tmps.getD bs undef]) W := by
  simp [results, hr, go_sem, ht, h0, h1, h2, h3, h4]

set_option maxHeartbeats 1000000 in
theorem to_Activity (k m : Int) (n h t : ByteArray) (w : World) :
    Calls Tryd.prog 9 #[.agg #[.int .i64 k, .int .i64 m, .string n, .string h, .string t]] w fun x w' => x = .returned (.agg #[.int .i64 k, .int .i64 m, .string n, .string h, .string t]) ∧ Below w.heap.size w w' := by
  go_enter Tryd.func9, Tryd.ntmps9
  go_wp2_with fail
  refine (to_Handle _ _ _).mono ?_
  rintro x w1 ⟨rfl, hb⟩
  have a0 : w1.cell? ⟨w.heap.size, 0, none⟩ = some (.int .i64 k) := keep_cell hb (by simp [go_sem])
  have r0 : w1.cell? ⟨w.heap.size + 1, 0, none⟩ = some (.int .i64 0) := keep_cell hb (by simp [go_sem])
  have o0 : w1.cell? ⟨w.heap.size + 1 + 1, 0, none⟩ = some (.int .i64 k) := keep_cell hb (by simp [go_sem])
  have fr0 : w1.frozen? ⟨w.heap.size + 1, 0, none⟩ = false := (hb.frozen (by simp [go_sem])).trans (by simp [go_sem])
  have fo0 : w1.frozen? ⟨w.heap.size + 1 + 1, 0, none⟩ = false := (hb.frozen (by simp [go_sem])).trans (by simp [go_sem])
  have a1 : w1.cell? ⟨w.heap.size, 1, none⟩ = some (.int .i64 m) := keep_cell hb (by simp [go_sem])
  have r1 : w1.cell? ⟨w.heap.size + 1, 1, none⟩ = some (.int .i64 0) := keep_cell hb (by simp [go_sem])
  have o1 : w1.cell? ⟨w.heap.size + 1 + 1, 1, none⟩ = some (.int .i64 m) := keep_cell hb (by simp [go_sem])
  have fr1 : w1.frozen? ⟨w.heap.size + 1, 1, none⟩ = false := (hb.frozen (by simp [go_sem])).trans (by simp [go_sem])
  have fo1 : w1.frozen? ⟨w.heap.size + 1 + 1, 1, none⟩ = false := (hb.frozen (by simp [go_sem])).trans (by simp [go_sem])
  have a2 : w1.cell? ⟨w.heap.size, 2, none⟩ = some (.string n) := keep_cell hb (by simp [go_sem])
  have r2 : w1.cell? ⟨w.heap.size + 1, 2, none⟩ = some (.string ⟨#[]⟩) := keep_cell hb (by simp [go_sem])
  have o2 : w1.cell? ⟨w.heap.size + 1 + 1, 2, none⟩ = some (.string ⟨#[]⟩) := keep_cell hb (by simp [go_sem])
  have fr2 : w1.frozen? ⟨w.heap.size + 1, 2, none⟩ = false := (hb.frozen (by simp [go_sem])).trans (by simp [go_sem])
  have fo2 : w1.frozen? ⟨w.heap.size + 1 + 1, 2, none⟩ = false := (hb.frozen (by simp [go_sem])).trans (by simp [go_sem])
  have a3 : w1.cell? ⟨w.heap.size, 3, none⟩ = some (.string h) := keep_cell hb (by simp [go_sem])
  have r3 : w1.cell? ⟨w.heap.size + 1, 3, none⟩ = some (.string ⟨#[]⟩) := keep_cell hb (by simp [go_sem])
  have o3 : w1.cell? ⟨w.heap.size + 1 + 1, 3, none⟩ = some (.string ⟨#[]⟩) := keep_cell hb (by simp [go_sem])
  have fr3 : w1.frozen? ⟨w.heap.size + 1, 3, none⟩ = false := (hb.frozen (by simp [go_sem])).trans (by simp [go_sem])
  have fo3 : w1.frozen? ⟨w.heap.size + 1 + 1, 3, none⟩ = false := (hb.frozen (by simp [go_sem])).trans (by simp [go_sem])
  have a4 : w1.cell? ⟨w.heap.size, 4, none⟩ = some (.string t) := keep_cell hb (by simp [go_sem])
  have r4 : w1.cell? ⟨w.heap.size + 1, 4, none⟩ = some (.string ⟨#[]⟩) := keep_cell hb (by simp [go_sem])
  have o4 : w1.cell? ⟨w.heap.size + 1 + 1, 4, none⟩ = some (.string ⟨#[]⟩) := keep_cell hb (by simp [go_sem])
  have fr4 : w1.frozen? ⟨w.heap.size + 1, 4, none⟩ = false := (hb.frozen (by simp [go_sem])).trans (by simp [go_sem])
  have fo4 : w1.frozen? ⟨w.heap.size + 1 + 1, 4, none⟩ = false := (hb.frozen (by simp [go_sem])).trans (by simp [go_sem])
  have bz : Below w.heap.size w w1 := below_trans (below1 _ _) (below_trans (below1 _ _) (below_trans (below1 _ _) hb))
  have hne : w.heap.size + 1 + 1 ≠ w.heap.size + 1 := by omega
  have P := set5 (.int .i64 k) (.int .i64 m) (.string n) (.string h) (.string t) (far (i := 4) (v := .string t) hne (far (i := 3) (v := .string h) hne (far (i := 2) (v := .string n) hne r0))) (far (i := 4) (v := .string t) hne (far (i := 3) (v := .string h) hne (far (i := 2) (v := .string n) hne r1)))
    (far (i := 4) (v := .string t) hne (far (i := 3) (v := .string h) hne (far (i := 2) (v := .string n) hne r2))) (far (i := 4) (v := .string t) hne (far (i := 3) (v := .string h) hne (far (i := 2) (v := .string n) hne r3))) (far (i := 4) (v := .string t) hne (far (i := 3) (v := .string h) hne (far (i := 2) (v := .string n) hne r4)))
  have HP := Lib.hid P
  clear P
  go_wp2_with fail
  clear a0 a1 a2 a3 a4 r0 r1 r2 r3 r4 o0 o1 o2 o3 o4 fr0 fr1 fr2 fr3 fr4 fo0 fo1 fo2 fo3 fo4
  obtain ⟨P0, P1, P2, P3, P4⟩ := HP.out
  exact bodyPost_ret (resAct Tryd.results9 _ _ rfl P0 P1 P2 P3 P4) rfl ⟨rfl, by repeat (first | (with_reducible exact bz) | (with_reducible refine Below.setCell ?_ (by simp only; omega) _))⟩
set_option maxHeartbeats 1000000 in
theorem sz_Activity (k m : Int) (n h t : ByteArray) (left : Int) (w : World) (hn0 : n.size ≤ maxLen) (hh0 : h.size ≤ maxLen) (ht0 : t.size ≤ maxLen) (l1 : 0 ≤ left) (l2 : left ≤ 1048576) :
    Calls Tryd.prog 7 #[.agg #[.int .i64 k, .int .i64 m, .string n, .string h, .string t], .int .i64 left] w (RetInt (fun r => r = -1 ∨ (0 ≤ r ∧ r = left - n.size - h.size - t.size)) w) := by
  have ht : t.size ≤ 9223372036854775807 := ht0
  clear ht0
  go_enter Tryd.func7, Tryd.ntmps7
  go_wp2_with fail
  refine (sz_Handle _ _ _ _ hn0 hh0 l1 l2).mono ?_
  rintro x w1 ⟨r, rfl, hr, hb⟩
  have a4 : w1.cell? ⟨w.heap.size, 4, none⟩ = some (.string t) := keep_cell hb (by simp [go_sem])
  have bz : Below w.heap.size w w1 := below_trans (below1 _ _) hb
  rcases hr with rfl | ⟨hr, hs⟩
  · go_wp2_with fail
    go_ret
    exact RetInt.mk (.inl rfl) bz
  · go_wp2_with fail
    all_goals first
      | (go_ret; exact RetInt.mk (.inl rfl) bz)
      | (go_ret; exact RetInt.mk (.inr ⟨by omega, by omega⟩) bz)
end Go.Proofs.YtackffegdmohiaaDoor
