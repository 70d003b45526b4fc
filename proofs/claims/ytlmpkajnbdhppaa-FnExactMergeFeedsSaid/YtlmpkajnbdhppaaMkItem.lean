/- The walks of what the exact statements do to lists of Items: they are marked, and the marks are read. Condition: the list is the call's own. -/
import Derived.Test.YtlmpkajnbdhppaaLstItem
import Derived.Test.YtlmpkajnbdhppaaMark
import Derived.Deep.RegionHeld3
import Derived.Deep.AppendLies
import Derived.Lib.Hide
namespace Go.Proofs.Ytlmpkajnbdhppaa
open Go.RowKit

/-- The Item marked from m on. -/
def mkItem (m : Nat) : Itm := ⟨markT (m), markT (m + 1), markT (m + 2), ((m + 3 : Nat) : Int)⟩
def mkItemL (n k : Nat) : List Itm := (List.range n).map fun i => mkItem (k + 4 * i)
theorem mkItemL_len (n k : Nat) : (mkItemL n k).length = n := by simp [mkItemL]
theorem mkItemL_at (n k j : Nat) (h : j < (mkItemL n k).length) : (mkItemL n k)[j] = mkItem (k + 4 * j) := by simp [mkItemL]

set_option maxHeartbeats 1600000 in
theorem markItemS_any (v : Value) (l : List Itm) (base k0 : Nat) (z : Int) (w : World) (hz : z = k0) (h : w.ownsRow base 30 4 v l.length (itmS.cells l)) (h1 : 1 ≤ k0) (h2 : k0 ≤ 50000000) (h3 : l.length ≤ 1048576) :
    Calls Try.prog 24 #[v, .int .i64 z] w fun e w' => e = .returned (.int .i64 ((k0 + 4 * l.length : Nat) : Int)) ∧ w'.ownsRow base 30 4 v l.length (itmS.cells (mkItemL l.length k0)) ∧ w.grownBy w' v.ownBlock := by
  subst hz
  rcases Nat.eq_zero_or_pos l.length with h0 | h0
  · obtain rfl := List.eq_nil_of_length_eq_zero h0
    obtain ⟨A, cap, rfl⟩ : ∃ A cap, v = .slice A 0 cap := by
      rcases h.2 with ⟨rfl, _⟩ | ⟨g, cap, cur, rfl, _⟩
      · exact ⟨_, _, rfl⟩
      · exact ⟨_, _, rfl⟩
    have H := Lib.hid h
    clear h0 h
    go_enter Try.func24, Try.ntmps24
    go_wp2
    go_loop [1, 5] (fun m i => i = .int .i64 0 ∧ m = .int .i64 k0) (fun _ _ => 0)
    case atStart => exact ⟨rfl, rfl⟩
    case round =>
      obtain ⟨rfl, rfl⟩ := hrel
      go_wp2
      go_ret
      exact ⟨rfl, H.out, World.grownBy.refl _ _⟩
  · obtain ⟨g, cap, rfl, hg1, hg2⟩ := h.form h0
    have hl := mkItemL_len l.length k0
    go_enter Try.func24, Try.ntmps24
    go_wp2
    go_loopw [1, 5] (fun m i wr => ∃ (j q : Nat) (xs : List Value), j ≤ l.length ∧ Hid (q = k0 + 4 * j) ∧ i = .int .i64 j ∧ m = .int .i64 q ∧ wr.ownsRow base 30 4 (.slice (some ⟨g, 0, none⟩) l.length cap) l.length xs ∧ Hid (xs.take (j * 4) = itmS.cells ((mkItemL l.length k0).take j)) ∧ w.grownBy wr (some g)) (fun _ i _ => l.length - (intOf i).toNat)
    case atStart => exact ⟨0, k0, _, Nat.zero_le _, (by show _ = _; omega), rfl, rfl, h, (by show _ = _; rw [Nat.zero_mul]; rfl), World.grownBy.refl _ _⟩
    case round =>
      obtain ⟨j, q, xs, hj, hq, rfl, rfl, hown, hxs, hG⟩ := hrel
      clear h
      by_cases hlt : j < l.length
      · have q0 : 1 ≤ q := by have := hq.out; omega
        have q1 : q ≤ 60000000 := by have := hq.out; omega
        have j0 : (0 : Int) ≤ (j : Int) := by omega
        have j1 : (j : Int) < (l.length : Int) := by omega
        go_wp2_with fail
        refine (mark_any _ (q) _ (by omega) (by omega) (by omega)).mono ?_
        rintro x w1 ⟨rfl, hb0⟩
        have hown0 := owns_below hown hb0
        have hG0 := grown_trans hG (grown_below hb0 _)
        clear hown hG hb0
        have hfr0 := hown0.frozenAt (j * 4)
        obtain ⟨u0, hcl0⟩ := owned_cell hown0 (j := j * 4) (by omega)
        obtain ⟨ho0, hs0⟩ := hown0.stored (j * 4) (.string (markT (q)))
        have hK0 := grown_trans hG0 hs0
        clear hown0 hG0 hs0
        go_wp2_with fail
        refine (mark_any _ (q + 1) _ (by omega) (by omega) (by omega)).mono ?_
        rintro x w2 ⟨rfl, hb1⟩
        have hown1 := owns_below ho0 hb1
        have hG1 := grown_trans hK0 (grown_below hb1 _)
        clear ho0 hK0 hb1
        have hfr1 := hown1.frozenAt (j * 4 + 1)
        obtain ⟨u1, hcl1⟩ := owned_cell hown1 (j := j * 4 + 1) (by omega)
        obtain ⟨ho1, hs1⟩ := hown1.stored (j * 4 + 1) (.string (markT (q + 1)))
        have hK1 := grown_trans hG1 hs1
        clear hown1 hG1 hs1
        go_wp2_with fail
        refine (mark_any _ (q + 2) _ (by omega) (by omega) (by omega)).mono ?_
        rintro x w3 ⟨rfl, hb2⟩
        have hown2 := owns_below ho1 hb2
        have hG2 := grown_trans hK1 (grown_below hb2 _)
        clear ho1 hK1 hb2
        have hfr2 := hown2.frozenAt (j * 4 + 2)
        obtain ⟨u2, hcl2⟩ := owned_cell hown2 (j := j * 4 + 2) (by omega)
        obtain ⟨ho2, hs2⟩ := hown2.stored (j * 4 + 2) (.string (markT (q + 2)))
        have hK2 := grown_trans hG2 hs2
        clear hown2 hG2 hs2
        have hfr3 := ho2.frozenAt (j * 4 + 3)
        obtain ⟨u3, hcl3⟩ := owned_cell ho2 (j := j * 4 + 3) (by omega)
        obtain ⟨ho3, hs3⟩ := ho2.stored (j * 4 + 3) (.int .i64 ((q : Int) + 3))
        have hK3 := grown_trans hK2 hs3
        clear ho2 hK2 hs3
        have hx2 : Hid (((((xs.set (j * 4) (.string (markT (q)))).set (j * 4 + 1) (.string (markT (q + 1)))).set (j * 4 + 2) (.string (markT (q + 2)))).set (j * 4 + 3) (.int .i64 ((q : Int) + 3))).take ((j + 1) * 4) = itmS.cells ((mkItemL l.length k0).take (j + 1))) := fill4 hxs.out (by omega) (by have := ho3.1; simp only [List.length_set] at this; rw [hl]; exact this) (by rw [mkItemL_at, ← hq.out]; rfl)
        have hq2 : Hid (q + 4 = k0 + 4 * (j + 1)) := (by show _ = _; have := hq.out; omega)
        clear hxs hq
        go_wp2
        go_roundw
        case rel => exact ⟨j + 1, q + 4, _, by omega, hq2, by go_num, by go_num, ho3, hx2, hK3⟩
        case measure => simp [intOf]; omega
      · obtain rfl : j = l.length := by omega
        have R0 : wr.ownsRow base 30 4 (.slice (some ⟨g, 0, none⟩) l.length cap) l.length (itmS.cells (mkItemL l.length k0)) := by
          have := filled (S := itmS) (l := mkItemL l.length k0) (by rw [hl]; exact hown) (by rw [hl]; exact hxs.out)
          rwa [hl] at this
        have hq0 : Hid (q = k0 + 4 * l.length) := hq
        clear hown hxs hq
        go_wp2
        rw [hq0.out]
        go_ret
        exact ⟨rfl, R0, hG⟩

set_option maxHeartbeats 1600000 in
theorem heldItemS_any (v : Value) (n k0 : Nat) (z : Int) (w : World) (hz : z = k0) (h : Sl itmS w v (mkItemL n k0)) (h1 : 1 ≤ k0) (h2 : k0 ≤ 50000000) (h3 : n ≤ 1048576) :
    Calls Try.prog 25 #[v, .int .i64 z] w fun e w' => e = .returned (.int .i64 ((k0 + 4 * n : Nat) : Int)) ∧ Below w.heap.size w w' := by
  subst hz
  have hl := mkItemL_len n k0
  rcases Nat.eq_zero_or_pos n with h0 | h0
  · subst h0
    obtain ⟨a, cap, rfl, _⟩ := h
    rw [hl]
    clear hl
    go_enter Try.func25, Try.ntmps25
    go_wp2
    go_loop [1, 5] (fun m i => i = .int .i64 0 ∧ m = .int .i64 k0) (fun _ _ => 0)
    case atStart => exact ⟨rfl, rfl⟩
    case round =>
      obtain ⟨rfl, rfl⟩ := hrel
      go_wp2
      go_ret
      exact ⟨rfl, Below.refl _ _⟩
  · obtain ⟨b, off, cap, hv, hcap, hbs, hc0⟩ := SlItm.open h (by omega)
    rw [hl] at hv hcap
    subst hv
    have hc : ∀ i, i < n → w.cell? ⟨b, off + i * 4, none⟩ = some (.string (mkItem (k0 + 4 * i)).key) ∧ w.cell? ⟨b, off + i * 4 + 1, none⟩ = some (.string (mkItem (k0 + 4 * i)).title) ∧ w.cell? ⟨b, off + i * 4 + 2, none⟩ = some (.string (mkItem (k0 + 4 * i)).body) ∧ w.cell? ⟨b, off + i * 4 + 3, none⟩ = some (.int .i64 (mkItem (k0 + 4 * i)).day) := fun i hi => by
      have := hc0 i (by omega)
      rw [mkItemL_at] at this
      exact this
    clear h hc0
    go_enter Try.func25, Try.ntmps25
    go_wp2
    go_loopw [1, 5] (fun m i wr => ∃ (j q : Nat), j ≤ n ∧ Hid (q = k0 + 4 * j) ∧ i = .int .i64 j ∧ m = .int .i64 q ∧ Below w.heap.size w wr) (fun _ i _ => n - (intOf i).toNat)
    case atStart => exact ⟨0, k0, Nat.zero_le _, (by show _ = _; omega), rfl, rfl, Below.refl _ _⟩
    case round =>
      obtain ⟨j, q, hj, hq, rfl, rfl, hB⟩ := hrel
      by_cases hlt : j < n
      · have q0 : 1 ≤ q := by have := hq.out; omega
        have q1 : q ≤ 60000000 := by have := hq.out; omega
        have j0 : (0 : Int) ≤ (j : Int) := by omega
        have j1 : (j : Int) < (n : Int) := by omega
        have hcj := hc j hlt
        rw [← hq.out] at hcj
        have c0 : wr.cell? ⟨b, off + j * 4, none⟩ = some (.string (markT (q))) := (hB.cell (p := ⟨b, off + j * 4, none⟩) hbs).trans hcj.1
        have c1 : wr.cell? ⟨b, off + j * 4 + 1, none⟩ = some (.string (markT (q + 1))) := (hB.cell (p := ⟨b, off + j * 4 + 1, none⟩) hbs).trans hcj.2.1
        have c2 : wr.cell? ⟨b, off + j * 4 + 2, none⟩ = some (.string (markT (q + 2))) := (hB.cell (p := ⟨b, off + j * 4 + 2, none⟩) hbs).trans hcj.2.2.1
        have c3 : wr.cell? ⟨b, off + j * 4 + 3, none⟩ = some (.int .i64 ((q : Int) + 3)) := (hB.cell (p := ⟨b, off + j * 4 + 3, none⟩) hbs).trans hcj.2.2.2
        clear hc hcj
        have hq2 : Hid (q + 4 = k0 + 4 * (j + 1)) := (by show _ = _; have := hq.out; omega)
        clear hq
        go_wp2
        go_region_held3 (fun w' => w'.cell? ⟨b, off + j * 4, none⟩ = some (.string (markT (q)))) (first | go_keep | (exact keep_cell hb0 (by assumption)))
          (first | (go_at_call 46; refine (mark_any _ (q) _ (by omega) (by omega) (by omega)).mono ?_; rintro x w1 ⟨rfl, hb0⟩))
        replace c1 := keep_cell hb0 c1
        replace c2 := keep_cell hb0 c2
        replace c3 := keep_cell hb0 c3
        replace hB := below_trans hB.drew hb0
        clear hb0
        go_wp2
        go_region_held3 (fun w' => w'.cell? ⟨b, off + j * 4 + 1, none⟩ = some (.string (markT (q + 1)))) (first | go_keep | (exact keep_cell hb1 (by assumption)))
          (first | (go_at_call 46; refine (mark_any _ (q + 1) _ (by omega) (by omega) (by omega)).mono ?_; rintro x w2 ⟨rfl, hb1⟩))
        replace c2 := keep_cell hb1 c2
        replace c3 := keep_cell hb1 c3
        replace hB := below_trans hB.drew hb1
        clear hb1
        go_wp2
        go_region_held3 (fun w' => w'.cell? ⟨b, off + j * 4 + 2, none⟩ = some (.string (markT (q + 2)))) (first | go_keep | (exact keep_cell hb2 (by assumption)))
          (first | (go_at_call 46; refine (mark_any _ (q + 2) _ (by omega) (by omega) (by omega)).mono ?_; rintro x w3 ⟨rfl, hb2⟩))
        replace c3 := keep_cell hb2 c3
        replace hB := below_trans hB.drew hb2
        clear hb2
        go_wp2
        go_roundw
        case rel => exact ⟨j + 1, q + 4, by omega, hq2, by go_num, by go_num, hB⟩
        case measure => simp [intOf]; omega
      · obtain rfl : j = n := by omega
        have hq0 : Hid (q = k0 + 4 * j) := hq
        clear hq hc
        go_wp2
        rw [hq0.out]
        go_ret
        exact ⟨rfl, hB⟩

end Go.Proofs.Ytlmpkajnbdhppaa
