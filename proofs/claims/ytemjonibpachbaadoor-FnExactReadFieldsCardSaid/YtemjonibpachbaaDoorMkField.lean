/- The walks of what the exact statements do to lists of Fields: they are marked, and the marks are read. Condition: the list is the call's own. -/
import Derived.Test.YtemjonibpachbaaDoorLstField
import Derived.Test.YtemjonibpachbaaDoorMark
import Derived.Deep.RegionHeld3
import Derived.Deep.AppendLies
import Derived.Lib.Hide
namespace Go.Proofs.YtemjonibpachbaaDoor
open Go.RowKit

/-- The Field marked from m on. -/
def mkField (m : Nat) : Fld := ⟨markT (m), ((m + 1 : Nat) : Int)⟩
def mkFieldL (n k : Nat) : List Fld := (List.range n).map fun i => mkField (k + 2 * i)
theorem mkFieldL_len (n k : Nat) : (mkFieldL n k).length = n := by simp [mkFieldL]
theorem mkFieldL_at (n k j : Nat) (h : j < (mkFieldL n k).length) : (mkFieldL n k)[j] = mkField (k + 2 * j) := by simp [mkFieldL]

set_option maxHeartbeats 1600000 in
theorem markFieldS_any (v : Value) (l : List Fld) (base k0 : Nat) (z : Int) (w : World) (hz : z = k0) (h : w.ownsRow base 41 2 v l.length (fldS.cells l)) (h1 : 1 ≤ k0) (h2 : k0 ≤ 50000000) (h3 : l.length ≤ 1048576) :
    Calls Tryd.prog 17 #[v, .int .i64 z] w fun e w' => e = .returned (.int .i64 ((k0 + 2 * l.length : Nat) : Int)) ∧ w'.ownsRow base 41 2 v l.length (fldS.cells (mkFieldL l.length k0)) ∧ w.grownBy w' v.ownBlock := by
  subst hz
  rcases Nat.eq_zero_or_pos l.length with h0 | h0
  · obtain rfl := List.eq_nil_of_length_eq_zero h0
    obtain ⟨A, cap, rfl⟩ : ∃ A cap, v = .slice A 0 cap := by
      rcases h.2 with ⟨rfl, _⟩ | ⟨g, cap, cur, rfl, _⟩
      · exact ⟨_, _, rfl⟩
      · exact ⟨_, _, rfl⟩
    have H := Lib.hid h
    clear h0 h
    go_enter Tryd.func17, Tryd.ntmps17
    go_wp2
    go_loop [1, 5] (fun m i => i = .int .i64 0 ∧ m = .int .i64 k0) (fun _ _ => 0)
    case atStart => exact ⟨rfl, rfl⟩
    case round =>
      obtain ⟨rfl, rfl⟩ := hrel
      go_wp2
      go_ret
      exact ⟨rfl, H.out, World.grownBy.refl _ _⟩
  · obtain ⟨g, cap, rfl, hg1, hg2⟩ := h.form h0
    have hl := mkFieldL_len l.length k0
    go_enter Tryd.func17, Tryd.ntmps17
    go_wp2
    go_loopw [1, 5] (fun m i wr => ∃ (j q : Nat) (xs : List Value), j ≤ l.length ∧ Hid (q = k0 + 2 * j) ∧ i = .int .i64 j ∧ m = .int .i64 q ∧ wr.ownsRow base 41 2 (.slice (some ⟨g, 0, none⟩) l.length cap) l.length xs ∧ Hid (xs.take (j * 2) = fldS.cells ((mkFieldL l.length k0).take j)) ∧ w.grownBy wr (some g)) (fun _ i _ => l.length - (intOf i).toNat)
    case atStart => exact ⟨0, k0, _, Nat.zero_le _, (by show _ = _; omega), rfl, rfl, h, (by show _ = _; rw [Nat.zero_mul]; rfl), World.grownBy.refl _ _⟩
    case round =>
      obtain ⟨j, q, xs, hj, hq, rfl, rfl, hown, hxs, hG⟩ := hrel
      clear h
      by_cases hlt : j < l.length
      · have q0 : 1 ≤ q := by have := hq.out; omega
        have q1 : q ≤ 60000000 := by have := hq.out; omega
        have j0 : (0 : Int) ≤ (j : Int) := by omega
        have j1 : (j : Int) < (l.length : Int) := by omega
        go_wp2_with fail
        refine (mark_any _ (q) _ (by omega) (by omega) (by omega)).mono ?_
        rintro x w1 ⟨rfl, hb0⟩
        have hown0 := owns_below hown hb0
        have hG0 := grown_trans hG (grown_below hb0 _)
        clear hown hG hb0
        have hfr0 := hown0.frozenAt (j * 2)
        obtain ⟨u0, hcl0⟩ := owned_cell hown0 (j := j * 2) (by omega)
        obtain ⟨ho0, hs0⟩ := hown0.stored (j * 2) (.string (markT (q)))
        have hK0 := grown_trans hG0 hs0
        clear hown0 hG0 hs0
        have hfr1 := ho0.frozenAt (j * 2 + 1)
        obtain ⟨u1, hcl1⟩ := owned_cell ho0 (j := j * 2 + 1) (by omega)
        obtain ⟨ho1, hs1⟩ := ho0.stored (j * 2 + 1) (.int .i64 ((q : Int) + 1))
        have hK1 := grown_trans hK0 hs1
        clear ho0 hK0 hs1
        have hx2 : Hid (((xs.set (j * 2) (.string (markT (q)))).set (j * 2 + 1) (.int .i64 ((q : Int) + 1))).take ((j + 1) * 2) = fldS.cells ((mkFieldL l.length k0).take (j + 1))) := fill2 hxs.out (by omega) (by have := ho1.1; simp only [List.length_set] at this; rw [hl]; exact this) (by rw [mkFieldL_at, ← hq.out]; rfl)
        have hq2 : Hid (q + 2 = k0 + 2 * (j + 1)) := (by show _ = _; have := hq.out; omega)
        clear hxs hq
        go_wp2
        go_roundw
        case rel => exact ⟨j + 1, q + 2, _, by omega, hq2, by go_num, by go_num, ho1, hx2, hK1⟩
        case measure => simp [intOf]; omega
      · obtain rfl : j = l.length := by omega
        have R0 : wr.ownsRow base 41 2 (.slice (some ⟨g, 0, none⟩) l.length cap) l.length (fldS.cells (mkFieldL l.length k0)) := by
          have := filled (S := fldS) (l := mkFieldL l.length k0) (by rw [hl]; exact hown) (by rw [hl]; exact hxs.out)
          rwa [hl] at this
        have hq0 : Hid (q = k0 + 2 * l.length) := hq
        clear hown hxs hq
        go_wp2
        rw [hq0.out]
        go_ret
        exact ⟨rfl, R0, hG⟩

set_option maxHeartbeats 1600000 in
theorem heldFieldS_any (v : Value) (n k0 : Nat) (z : Int) (w : World) (hz : z = k0) (h : Sl fldS w v (mkFieldL n k0)) (h1 : 1 ≤ k0) (h2 : k0 ≤ 50000000) (h3 : n ≤ 1048576) :
    Calls Tryd.prog 18 #[v, .int .i64 z] w fun e w' => e = .returned (.int .i64 ((k0 + 2 * n : Nat) : Int)) ∧ Below w.heap.size w w' := by
  subst hz
  have hl := mkFieldL_len n k0
  rcases Nat.eq_zero_or_pos n with h0 | h0
  · subst h0
    obtain ⟨a, cap, rfl, _⟩ := h
    rw [hl]
    clear hl
    go_enter Tryd.func18, Tryd.ntmps18
    go_wp2
    go_loop [1, 5] (fun m i => i = .int .i64 0 ∧ m = .int .i64 k0) (fun _ _ => 0)
    case atStart => exact ⟨rfl, rfl⟩
    case round =>
      obtain ⟨rfl, rfl⟩ := hrel
      go_wp2
      go_ret
      exact ⟨rfl, Below.refl _ _⟩
  · obtain ⟨b, off, cap, hv, hcap, hbs, hc0⟩ := SlFld.open h (by omega)
    rw [hl] at hv hcap
    subst hv
    have hc : ∀ i, i < n → w.cell? ⟨b, off + i * 2, none⟩ = some (.string (mkField (k0 + 2 * i)).name) ∧ w.cell? ⟨b, off + i * 2 + 1, none⟩ = some (.int .i64 (mkField (k0 + 2 * i)).val) := fun i hi => by
      have := hc0 i (by omega)
      rw [mkFieldL_at] at this
      exact this
    clear h hc0
    go_enter Tryd.func18, Tryd.ntmps18
    go_wp2
    go_loopw [1, 5] (fun m i wr => ∃ (j q : Nat), j ≤ n ∧ Hid (q = k0 + 2 * j) ∧ i = .int .i64 j ∧ m = .int .i64 q ∧ Below w.heap.size w wr) (fun _ i _ => n - (intOf i).toNat)
    case atStart => exact ⟨0, k0, Nat.zero_le _, (by show _ = _; omega), rfl, rfl, Below.refl _ _⟩
    case round =>
      obtain ⟨j, q, hj, hq, rfl, rfl, hB⟩ := hrel
      by_cases hlt : j < n
      · have q0 : 1 ≤ q := by have := hq.out; omega
        have q1 : q ≤ 60000000 := by have := hq.out; omega
        have j0 : (0 : Int) ≤ (j : Int) := by omega
        have j1 : (j : Int) < (n : Int) := by omega
        have hcj := hc j hlt
        rw [← hq.out] at hcj
        have c0 : wr.cell? ⟨b, off + j * 2, none⟩ = some (.string (markT (q))) := (hB.cell (p := ⟨b, off + j * 2, none⟩) hbs).trans hcj.1
        have c1 : wr.cell? ⟨b, off + j * 2 + 1, none⟩ = some (.int .i64 ((q : Int) + 1)) := (hB.cell (p := ⟨b, off + j * 2 + 1, none⟩) hbs).trans hcj.2
        clear hc hcj
        have hq2 : Hid (q + 2 = k0 + 2 * (j + 1)) := (by show _ = _; have := hq.out; omega)
        clear hq
        go_wp2
        go_region_held3 (fun w' => w'.cell? ⟨b, off + j * 2, none⟩ = some (.string (markT (q)))) (first | go_keep | (exact keep_cell hb0 (by assumption)))
          (first | (go_at_call 40; refine (mark_any _ (q) _ (by omega) (by omega) (by omega)).mono ?_; rintro x w1 ⟨rfl, hb0⟩))
        replace c1 := keep_cell hb0 c1
        replace hB := below_trans hB.drew hb0
        clear hb0
        go_wp2
        go_roundw
        case rel => exact ⟨j + 1, q + 2, by omega, hq2, by go_num, by go_num, hB⟩
        case measure => simp [intOf]; omega
      · obtain rfl : j = n := by omega
        have hq0 : Hid (q = k0 + 2 * j) := hq
        clear hq hc
        go_wp2
        rw [hq0.out]
        go_ret
        exact ⟨rfl, hB⟩

end Go.Proofs.YtemjonibpachbaaDoor
