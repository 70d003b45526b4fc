/- The walks of what the exact statements do with lists of Fields. Condition: a slice reads as the list, and its texts are no longer than a machine holds. -/
import Derived.Test.YtemjonibpachbaaMem
import Derived.Test.YtemjonibpachbaaTypes
import Derived.Test.YtemjonibpachbaaRet
import Derived.Test.YtemjonibpachbaaRows
import Derived.WalkKit
import Derived.WalkSpells
import Derived.StillTailTactics
namespace Go.Proofs.Ytemjonibpachbaa
open Go.RowKit

theorem Try.infoFld : (Try.prog.info? 28).map (fun i => (i.zero, i.size, i.bytes)) = some (some (.agg #[.string ⟨#[]⟩, .int .i64 0]), 2, 24) := by kernel_rfl
theorem to_Field (a0 : ByteArray) (a1 : Int) (w : World) :
    Calls Try.prog 30 #[.agg #[.string a0, .int .i64 a1]] w fun x w' => x = .returned (.agg #[.string a0, .int .i64 a1]) ∧ Below w.heap.size w w' := by
  go_enter Try.func30, Try.ntmps30
  go_wp2
  exact bodyPost_ret (v := .agg #[.string a0, .int .i64 a1]) (by simp [results, Try.results30, go_sem]) rfl ⟨rfl, (by repeat (first | exact Below.refl _ _ | refine Below.alloc ?_ (by first | (simp; done) | (simp; omega)) _ | refine Below.drew ?_))⟩

theorem sz_Field (a0 : ByteArray) (a1 : Int) (left : Int) (w : World) (h0 : a0.size ≤ maxLen) (l1 : 0 ≤ left) (l2 : left ≤ 1048576) :
    Calls Try.prog 29 #[.agg #[.string a0, .int .i64 a1], .int .i64 left] w (RetInt (fun r => r = -1 ∨ (0 ≤ r ∧ r = left - a0.size)) w) := by
  have k0 : a0.size ≤ 9223372036854775807 := h0
  clear h0
  go_enter Try.func29, Try.ntmps29
  go_wp2
  all_goals first
    | (go_ret; exact RetInt.mk (.inl rfl) (by repeat (first | exact Below.refl _ _ | refine Below.alloc ?_ (by first | (simp; done) | (simp; omega)) _ | refine Below.drew ?_)))
    | (go_ret; exact RetInt.mk (.inr ⟨by omega, by omega⟩) (by repeat (first | exact Below.refl _ _ | refine Below.alloc ?_ (by first | (simp; done) | (simp; omega)) _ | refine Below.drew ?_)))

theorem eq_Field (a0 : ByteArray) (a1 : Int) (w : World) :
    Calls Try.prog 31 #[.agg #[.string a0, .int .i64 a1], .agg #[.string a0, .int .i64 a1]] w fun x w' => x = .returned (.bool true) ∧ Below w.heap.size w w' := by
  go_enter Try.func31, Try.ntmps31
  go_wp2
  go_ret
  exact ⟨rfl, (by repeat (first | exact Below.refl _ _ | refine Below.alloc ?_ (by first | (simp; done) | (simp; omega)) _ | refine Below.drew ?_))⟩

def OkFldL (l : List Fld) : Prop := ∀ y ∈ l, y.name.size ≤ maxLen
theorem SlFld.open {w : World} {v : Value} {l : List Fld} (h : Sl fldS w v l) (h0 : 0 < l.length) :
    ∃ b off cap, v = .slice (some ⟨b, off, none⟩) l.length cap ∧ l.length ≤ cap ∧ b < w.heap.size ∧ ∀ i (hi : i < l.length), w.cell? ⟨b, off + i * 2, none⟩ = some (.string l[i].name) ∧ w.cell? ⟨b, off + i * 2 + 1, none⟩ = some (.int .i64 l[i].val) := by
  obtain ⟨b, off, cap, rfl, h1, _, h3, h4⟩ := h.open h0
  exact ⟨b, off, cap, rfl, h1, h3, fun i hi => ⟨by have := h4 i hi 0 (by decide); simpa [fldS, Nat.add_assoc] using this, by have := h4 i hi 1 (by decide); simpa [fldS, Nat.add_assoc] using this⟩⟩

set_option maxHeartbeats 800000 in
theorem toFieldS_any (v : Value) (l : List Fld) (w : World) (h : Sl fldS w v l) (hb : l.length ≤ 1048576) :
    Calls Try.prog 13 #[v] w (RetVal (fun v' w' => w'.ownsRow w.heap.size 28 2 v' l.length (fldS.cells l)) w) := by
  obtain ⟨i0, hi, hz0, hz1, hz2⟩ := info_parts Try.infoFld
  rcases Nat.eq_zero_or_pos l.length with h0 | h0
  · obtain rfl := List.eq_nil_of_length_eq_zero h0
    obtain ⟨a, cap, rfl, _⟩ := h
    clear h0
    go_enter Try.func13, Try.ntmps13
    go_wp2_with (at_make; refine wpList_make_full _ rfl _ _ 23 rfl w.heap.size 28 i0 (.agg #[.string ⟨#[]⟩, .int .i64 0]) 2 Try.underlying23 hi hz0 hz1 .i64 .i64 _ _ 0 rfl rfl (by simp) (by simp) (by omega) (by simp [maxLen]) (by simp) ?_; intro w1 hown hgrow)
    go_loop [4] (fun i => i = .int .i64 0) (fun _ => 0)
    case atStart => rfl
    case round =>
      obtain rfl := hrel
      go_wp2
      go_ret
      exact RetVal.mk (by rw [madeCells_zero] at hown; exact hown) ((Below.refl _ _).grown hgrow (Nat.le_refl _) (fun k hk => by cases hk))
  · obtain ⟨b, off, cap, rfl, hcap, hbs, hc⟩ := SlFld.open h h0
    clear h
    go_enter Try.func13, Try.ntmps13
    go_wp2_with (at_make; refine wpList_make_full _ rfl _ _ 23 rfl w.heap.size 28 i0 (.agg #[.string ⟨#[]⟩, .int .i64 0]) 2 Try.underlying23 hi hz0 hz1 .i64 .i64 _ _ l.length rfl rfl rfl rfl (by rw [hz2]; omega) (by simp [maxLen]; omega) (Nat.le_refl _) ?_; intro w1 hown hgrow)
    have hB : Below w.heap.size w w1 := (Below.refl _ _).grown hgrow (Nat.le_refl _) (fun k hk => by cases hk)
    clear hgrow
    go_loopw [4] (fun i wr => ∃ (k : Nat) (xs : List Value), k ≤ l.length ∧ i = .int .i64 k ∧ wr.ownsRow w.heap.size 28 2 (.slice (some ⟨w.heap.size, 0, none⟩) l.length l.length) l.length xs ∧ Hid (xs.take (k * 2) = fldS.cells (l.take k)) ∧ Below w.heap.size w wr) (fun i _ => l.length - (intOf i).toNat)
    case atStart => exact ⟨0, _, Nat.zero_le _, rfl, hown, (by show _ = _; rw [Nat.zero_mul]; rfl), hB⟩
    case round =>
      obtain ⟨k, xs, hk, rfl, hown1, hxs, hB1⟩ := hrel
      clear hown hB
      by_cases hlt : k < l.length
      · have hcell0 : wr.cell? ⟨b, off + k * 2, none⟩ = some (.string l[k].name) := (hB1.cell (p := ⟨b, off + k * 2, none⟩) hbs).trans (hc k hlt).1
        have hcell1 : wr.cell? ⟨b, off + k * 2 + 1, none⟩ = some (.int .i64 l[k].val) := (hB1.cell (p := ⟨b, off + k * 2 + 1, none⟩) hbs).trans (hc k hlt).2
        clear hc
        go_wp2_with fail
        refine (to_Field _ _ _).mono ?_
        rintro x w2 ⟨rfl, hb2⟩
        have hown2 := owns_below hown1 hb2
        have hB2 := below_trans hB1 hb2
        clear hown1 hB1 hb2 hcell0 hcell1
        have hfr0 := hown2.frozenAt (k * 2)
        obtain ⟨u0, hcl0⟩ := owned_cell hown2 (j := k * 2) (by omega)
        have hfr1 := hown2.frozenAt (k * 2 + 1)
        obtain ⟨u1, hcl1⟩ := owned_cell hown2 (j := k * 2 + 1) (by omega)
        obtain ⟨ho0, hg0⟩ := hown2.stored (k * 2) (.string l[k].name)
        have hC0 := hB2.grown hg0 hB2.size (fun k hk => by cases hk; exact Nat.le_refl _)
        obtain ⟨ho1, hg1⟩ := ho0.stored (k * 2 + 1) (.int .i64 l[k].val)
        have hC1 := hC0.grown hg1 hC0.size (fun k hk => by cases hk; exact Nat.le_refl _)
        have hx2 : Hid (((xs.set (k * 2) (.string l[k].name)).set (k * 2 + 1) (.int .i64 l[k].val)).take ((k + 1) * 2) = fldS.cells (l.take (k + 1))) := fill2 hxs.out hlt hown2.1 rfl
        clear hown2 hxs hB2 hg0 hg1 ho0 hC0
        go_wp2
        go_roundw
        case rel => exact ⟨k + 1, _, by omega, by go_num, ho1, hx2, hC1⟩
        case measure => simp [intOf]; omega
      · obtain rfl : k = l.length := by omega
        have R := filled (S := fldS) hown1 hxs.out
        clear hown1 hxs hc
        go_wp2
        go_ret
        exact RetVal.mk R hB1

def SzFldTo (l : List Fld) (k : Nat) : Prop := ∀ j (h : j < l.length), j < k → l[j].name.size ≤ 1048576
def SzFld (l : List Fld) : Prop := l.length ≤ 1048576 ∧ ∀ y ∈ l, y.name.size ≤ 1048576
theorem SzFldTo.all {l : List Fld} (h : SzFldTo l l.length) (hl : l.length ≤ 1048576) : SzFld l := ⟨hl, fun y hy => by
  obtain ⟨j, hj, rfl⟩ := List.getElem_of_mem hy
  exact h j hj hj⟩
theorem SzFldTo.succ {l : List Fld} {k : Nat} (h : SzFldTo l k) (hk : k < l.length) (hs : l[k].name.size ≤ 1048576) : SzFldTo l (k + 1) := fun j hj h2 => by
  by_cases e : j = k
  · subst e; exact hs
  · exact h j hj (by omega)

set_option maxHeartbeats 800000 in
theorem szFldS_any (v : Value) (l : List Fld) (left : Nat) (z : Int) (w : World) (hz : z = left) (h : Sl fldS w v l) (ho : OkFldL l) (h2 : left ≤ 1048576) :
    Calls Try.prog 12 #[v, .int .i64 z] w (RetInt (fun r => r = -1 ∨ (SzFld l ∧ 0 ≤ r ∧ r ≤ left)) w) := by
  subst hz
  have hm := h.len
  rcases Nat.eq_zero_or_pos l.length with h0 | h0
  · obtain rfl := List.eq_nil_of_length_eq_zero h0
    obtain ⟨a, cap, rfl, _⟩ := h
    have hS : Hid (SzFld ([] : List Fld)) := ⟨by simp, by simp⟩
    clear h0 ho hm
    go_enter Try.func12, Try.ntmps12
    go_wp2
    go_loop [1, 5] (fun m i => i = .int .i64 0 ∧ m = .int .i64 left) (fun _ _ => 0)
    case atStart => exact ⟨rfl, rfl⟩
    case round =>
      obtain ⟨rfl, rfl⟩ := hrel
      go_wp2
      go_ret
      exact RetInt.mk (.inr ⟨hS.out, by omega, by omega⟩) (Below.refl _ _)
  · obtain ⟨b, off, cap, rfl, hcap, hbs, hc⟩ := SlFld.open h h0
    clear h
    by_cases hll : (l.length : Int) ≤ left
    · go_enter Try.func12, Try.ntmps12
      go_wp2
      go_loopw [1, 5] (fun m i wr => ∃ k r : Nat, k ≤ l.length ∧ r ≤ left ∧ i = .int .i64 k ∧ m = .int .i64 r ∧ SzFldTo l k ∧ Below w.heap.size w wr) (fun _ i _ => l.length - (intOf i).toNat)
      case atStart => exact ⟨0, left - l.length, Nat.zero_le _, by omega, rfl, by go_num, fun j _ h => by omega, Below.refl _ _⟩
      case round =>
        obtain ⟨k, r, hk, hr, rfl, rfl, hT, hB1⟩ := hrel
        by_cases hlt : k < l.length
        · have hmem := ho _ (List.getElem_mem hlt)
          have hcell0 : wr.cell? ⟨b, off + k * 2, none⟩ = some (.string l[k].name) := (hB1.cell (p := ⟨b, off + k * 2, none⟩) hbs).trans (hc k hlt).1
          have hcell1 : wr.cell? ⟨b, off + k * 2 + 1, none⟩ = some (.int .i64 l[k].val) := (hB1.cell (p := ⟨b, off + k * 2 + 1, none⟩) hbs).trans (hc k hlt).2
          clear hc
          go_wp2_with fail
          refine (sz_Field _ _ _ _ hmem (by omega) (by omega)).mono ?_
          rintro x w2 ⟨r', rfl, hr', hb2⟩
          have hB2 := below_trans hB1 hb2
          rcases hr' with rfl | ⟨hr0, hr'⟩
          · go_wp2_with fail
            go_ret
            exact RetInt.mk (.inl rfl) hB2
          · have hT2 := hT.succ hlt (by refine ?_; all_goals omega)
            obtain ⟨q, rfl⟩ := Int.eq_ofNat_of_zero_le hr0
            have hq : q ≤ left := by omega
            clear hT hr' hB1 hb2 ho
            go_wp2_with fail
            go_roundw
            case rel => exact ⟨k + 1, q, by omega, hq, by go_num, rfl, hT2, hB2⟩
            case measure => simp [intOf]; omega
        · have hS : Hid (SzFld l) := by
            obtain rfl : k = l.length := by omega
            exact hT.all (by omega)
          clear hT hc ho
          go_wp2
          go_ret
          exact RetInt.mk (.inr ⟨hS.out, by omega, by omega⟩) hB1
    · clear ho hc
      go_enter Try.func12, Try.ntmps12
      go_wp2
      go_ret
      exact RetInt.mk (.inl rfl) (Below.refl _ _)

set_option maxHeartbeats 800000 in
theorem eqFieldS_same (v1 v2 : Value) (l : List Fld) (w : World) (h1 : Sl fldS w v1 l) (h2 : Sl fldS w v2 l) :
    Calls Try.prog 14 #[v1, v2] w fun e w' => e = .returned (.bool true) ∧ Below w.heap.size w w' := by
  have hm := h1.len
  rcases Nat.eq_zero_or_pos l.length with h0 | h0
  · obtain rfl := List.eq_nil_of_length_eq_zero h0
    obtain ⟨a, cap, rfl, _⟩ := h1
    obtain ⟨a', cap', rfl, _⟩ := h2
    clear h0 hm
    go_enter Try.func14, Try.ntmps14
    go_wp2
    go_loop [5] (fun i => i = .int .i64 0) (fun _ => 0)
    case atStart => rfl
    case round =>
      obtain rfl := hrel
      go_wp2
      go_ret
      exact ⟨rfl, Below.refl _ _⟩
  · obtain ⟨b, off, cap, rfl, hcap, hbs, hc⟩ := SlFld.open h1 h0
    obtain ⟨b', off', cap', rfl, hcap', hbs', hc'⟩ := SlFld.open h2 h0
    clear h1 h2
    go_enter Try.func14, Try.ntmps14
    go_wp2
    go_loopw [5] (fun i wr => ∃ k : Nat, k ≤ l.length ∧ i = .int .i64 k ∧ Below w.heap.size w wr) (fun i _ => l.length - (intOf i).toNat)
    case atStart => exact ⟨0, Nat.zero_le _, rfl, Below.refl _ _⟩
    case round =>
      obtain ⟨k, hk, rfl, hB⟩ := hrel
      by_cases hlt : k < l.length
      · have hcell0 : wr.cell? ⟨b, off + k * 2, none⟩ = some (.string l[k].name) := (hB.cell (p := ⟨b, off + k * 2, none⟩) hbs).trans (hc k hlt).1
        have hcellb0 : wr.cell? ⟨b', off' + k * 2, none⟩ = some (.string l[k].name) := (hB.cell (p := ⟨b', off' + k * 2, none⟩) hbs').trans (hc' k hlt).1
        have hcell1 : wr.cell? ⟨b, off + k * 2 + 1, none⟩ = some (.int .i64 l[k].val) := (hB.cell (p := ⟨b, off + k * 2 + 1, none⟩) hbs).trans (hc k hlt).2
        have hcellb1 : wr.cell? ⟨b', off' + k * 2 + 1, none⟩ = some (.int .i64 l[k].val) := (hB.cell (p := ⟨b', off' + k * 2 + 1, none⟩) hbs').trans (hc' k hlt).2
        have q0 : (0 : Int) ≤ (k : Int) := by omega
        have q1 : (k : Int) < (l.length : Int) := by omega
        clear hc hc'
        go_wp2
        go_still_tail 8, (by kernel_rfl)
        change wpList _ _ _ _ _ wr.drew
        obtain ⟨w2, hw2⟩ : ∃ w2, w2 = wr.drew := ⟨_, rfl⟩
        have hB2 : Below w.heap.size w w2 := by rw [hw2]; exact hB.drew
        rw [← hw2]
        clear hw2 hB
        go_wp2_with fail
        refine (eq_Field _ _ _).mono ?_
        rintro x w3 ⟨rfl, hb3⟩
        have hB3 := below_trans hB2 hb3
        go_wp2_with fail
        go_roundw
        case rel => exact ⟨k + 1, by omega, by go_num, hB3⟩
        case measure => simp [intOf]; omega
      · clear hc hc'
        go_wp2
        go_ret
        exact ⟨rfl, hB⟩

end Go.Proofs.Ytemjonibpachbaa
