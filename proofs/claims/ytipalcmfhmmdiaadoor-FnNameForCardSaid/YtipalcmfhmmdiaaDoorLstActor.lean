/- The walks of what the exact statements do with lists of Actors. Condition: a slice reads as the list, and its texts are no longer than a machine holds. -/
import Derived.Test.YtipalcmfhmmdiaaDoorMem
import Derived.Test.YtipalcmfhmmdiaaDoorTypes
import Derived.Test.YtipalcmfhmmdiaaDoorRet
import Derived.Test.YtipalcmfhmmdiaaDoorRows
import Derived.WalkKit
import Derived.WalkSpells
import Derived.StillTailTactics
namespace Go.Proofs.YtipalcmfhmmdiaaDoor
open Go.RowKit

theorem Tryd.infoActr : (Tryd.prog.info? 40).map (fun i => (i.zero, i.size, i.bytes)) = some (some (.agg #[.string ⟨#[]⟩, .string ⟨#[]⟩, .int .i64 0]), 3, 40) := by kernel_rfl
theorem to_Actor (a0 : ByteArray) (a1 : ByteArray) (a2 : Int) (w : World) :
    Calls Tryd.prog 18 #[.agg #[.string a0, .string a1, .int .i64 a2]] w fun x w' => x = .returned (.agg #[.string a0, .string a1, .int .i64 a2]) ∧ Below w.heap.size w w' := by
  go_enter Tryd.func18, Tryd.ntmps18
  go_wp2
  exact bodyPost_ret (v := .agg #[.string a0, .string a1, .int .i64 a2]) (by simp [results, Tryd.results18, go_sem]) rfl ⟨rfl, (by repeat (first | exact Below.refl _ _ | refine Below.alloc ?_ (by first | (simp; done) | (simp; omega)) _ | refine Below.drew ?_))⟩

theorem sz_Actor (a0 : ByteArray) (a1 : ByteArray) (a2 : Int) (left : Int) (w : World) (h0 : a0.size ≤ maxLen) (h1 : a1.size ≤ maxLen) (l1 : 0 ≤ left) (l2 : left ≤ 1048576) :
    Calls Tryd.prog 14 #[.agg #[.string a0, .string a1, .int .i64 a2], .int .i64 left] w (RetInt (fun r => r = -1 ∨ (0 ≤ r ∧ r = left - a0.size - a1.size)) w) := by
  have k0 : a0.size ≤ 9223372036854775807 := h0
  have k1 : a1.size ≤ 9223372036854775807 := h1
  clear h0 h1
  go_enter Tryd.func14, Tryd.ntmps14
  go_wp2
  all_goals first
    | (go_ret; exact RetInt.mk (.inl rfl) (by repeat (first | exact Below.refl _ _ | refine Below.alloc ?_ (by first | (simp; done) | (simp; omega)) _ | refine Below.drew ?_)))
    | (go_ret; exact RetInt.mk (.inr ⟨by omega, by omega⟩) (by repeat (first | exact Below.refl _ _ | refine Below.alloc ?_ (by first | (simp; done) | (simp; omega)) _ | refine Below.drew ?_)))

theorem eq_Actor (a0 : ByteArray) (a1 : ByteArray) (a2 : Int) (w : World) :
    Calls Tryd.prog 21 #[.agg #[.string a0, .string a1, .int .i64 a2], .agg #[.string a0, .string a1, .int .i64 a2]] w fun x w' => x = .returned (.bool true) ∧ Below w.heap.size w w' := by
  go_enter Tryd.func21, Tryd.ntmps21
  go_wp2
  go_ret
  exact ⟨rfl, (by repeat (first | exact Below.refl _ _ | refine Below.alloc ?_ (by first | (simp; done) | (simp; omega)) _ | refine Below.drew ?_))⟩

def OkActrL (l : List Actr) : Prop := ∀ y ∈ l, y.name.size ≤ maxLen ∧ y.feed.size ≤ maxLen
theorem SlActr.open {w : World} {v : Value} {l : List Actr} (h : Sl actrS w v l) (h0 : 0 < l.length) :
    ∃ b off cap, v = .slice (some ⟨b, off, none⟩) l.length cap ∧ l.length ≤ cap ∧ b < w.heap.size ∧ ∀ i (hi : i < l.length), w.cell? ⟨b, off + i * 3, none⟩ = some (.string l[i].name) ∧ w.cell? ⟨b, off + i * 3 + 1, none⟩ = some (.string l[i].feed) ∧ w.cell? ⟨b, off + i * 3 + 2, none⟩ = some (.int .i64 l[i].sign) := by
  obtain ⟨b, off, cap, rfl, h1, _, h3, h4⟩ := h.open h0
  exact ⟨b, off, cap, rfl, h1, h3, fun i hi => ⟨by have := h4 i hi 0 (by decide); simpa [actrS, Nat.add_assoc] using this, by have := h4 i hi 1 (by decide); simpa [actrS, Nat.add_assoc] using this, by have := h4 i hi 2 (by decide); simpa [actrS, Nat.add_assoc] using this⟩⟩

set_option maxHeartbeats 800000 in
theorem toActorS_any (v : Value) (l : List Actr) (w : World) (h : Sl actrS w v l) (hb : l.length ≤ 1048576) :
    Calls Tryd.prog 7 #[v] w (RetVal (fun v' w' => w'.ownsRow w.heap.size 40 3 v' l.length (actrS.cells l)) w) := by
  obtain ⟨i0, hi, hz0, hz1, hz2⟩ := info_parts Tryd.infoActr
  rcases Nat.eq_zero_or_pos l.length with h0 | h0
  · obtain rfl := List.eq_nil_of_length_eq_zero h0
    obtain ⟨a, cap, rfl, _⟩ := h
    clear h0
    go_enter Tryd.func7, Tryd.ntmps7
    go_wp2_with (at_make; refine wpList_make_full _ rfl _ _ 25 rfl w.heap.size 40 i0 (.agg #[.string ⟨#[]⟩, .string ⟨#[]⟩, .int .i64 0]) 3 Tryd.underlying25 hi hz0 hz1 .i64 .i64 _ _ 0 rfl rfl (by simp) (by simp) (by omega) (by simp [maxLen]) (by simp) ?_; intro w1 hown hgrow)
    go_loop [4] (fun i => i = .int .i64 0) (fun _ => 0)
    case atStart => rfl
    case round =>
      obtain rfl := hrel
      go_wp2
      go_ret
      exact RetVal.mk (by rw [madeCells_zero] at hown; exact hown) ((Below.refl _ _).grown hgrow (Nat.le_refl _) (fun k hk => by cases hk))
  · obtain ⟨b, off, cap, rfl, hcap, hbs, hc⟩ := SlActr.open h h0
    clear h
    go_enter Tryd.func7, Tryd.ntmps7
    go_wp2_with (at_make; refine wpList_make_full _ rfl _ _ 25 rfl w.heap.size 40 i0 (.agg #[.string ⟨#[]⟩, .string ⟨#[]⟩, .int .i64 0]) 3 Tryd.underlying25 hi hz0 hz1 .i64 .i64 _ _ l.length rfl rfl rfl rfl (by rw [hz2]; omega) (by simp [maxLen]; omega) (Nat.le_refl _) ?_; intro w1 hown hgrow)
    have hB : Below w.heap.size w w1 := (Below.refl _ _).grown hgrow (Nat.le_refl _) (fun k hk => by cases hk)
    clear hgrow
    go_loopw [4] (fun i wr => ∃ (k : Nat) (xs : List Value), k ≤ l.length ∧ i = .int .i64 k ∧ wr.ownsRow w.heap.size 40 3 (.slice (some ⟨w.heap.size, 0, none⟩) l.length l.length) l.length xs ∧ Hid (xs.take (k * 3) = actrS.cells (l.take k)) ∧ Below w.heap.size w wr) (fun i _ => l.length - (intOf i).toNat)
    case atStart => exact ⟨0, _, Nat.zero_le _, rfl, hown, (by show _ = _; rw [Nat.zero_mul]; rfl), hB⟩
    case round =>
      obtain ⟨k, xs, hk, rfl, hown1, hxs, hB1⟩ := hrel
      clear hown hB
      by_cases hlt : k < l.length
      · have hcell0 : wr.cell? ⟨b, off + k * 3, none⟩ = some (.string l[k].name) := (hB1.cell (p := ⟨b, off + k * 3, none⟩) hbs).trans (hc k hlt).1
        have hcell1 : wr.cell? ⟨b, off + k * 3 + 1, none⟩ = some (.string l[k].feed) := (hB1.cell (p := ⟨b, off + k * 3 + 1, none⟩) hbs).trans (hc k hlt).2.1
        have hcell2 : wr.cell? ⟨b, off + k * 3 + 2, none⟩ = some (.int .i64 l[k].sign) := (hB1.cell (p := ⟨b, off + k * 3 + 2, none⟩) hbs).trans (hc k hlt).2.2
        clear hc
        go_wp2_with fail
        refine (to_Actor _ _ _ _).mono ?_
        rintro x w2 ⟨rfl, hb2⟩
        have hown2 := owns_below hown1 hb2
        have hB2 := below_trans hB1 hb2
        clear hown1 hB1 hb2 hcell0 hcell1 hcell2
        have hfr0 := hown2.frozenAt (k * 3)
        obtain ⟨u0, hcl0⟩ := owned_cell hown2 (j := k * 3) (by omega)
        have hfr1 := hown2.frozenAt (k * 3 + 1)
        obtain ⟨u1, hcl1⟩ := owned_cell hown2 (j := k * 3 + 1) (by omega)
        have hfr2 := hown2.frozenAt (k * 3 + 2)
        obtain ⟨u2, hcl2⟩ := owned_cell hown2 (j := k * 3 + 2) (by omega)
        obtain ⟨ho0, hg0⟩ := hown2.stored (k * 3) (.string l[k].name)
        have hC0 := hB2.grown hg0 hB2.size (fun k hk => by cases hk; exact Nat.le_refl _)
        obtain ⟨ho1, hg1⟩ := ho0.stored (k * 3 + 1) (.string l[k].feed)
        have hC1 := hC0.grown hg1 hC0.size (fun k hk => by cases hk; exact Nat.le_refl _)
        obtain ⟨ho2, hg2⟩ := ho1.stored (k * 3 + 2) (.int .i64 l[k].sign)
        have hC2 := hC1.grown hg2 hC1.size (fun k hk => by cases hk; exact Nat.le_refl _)
        have hx2 : Hid ((((xs.set (k * 3) (.string l[k].name)).set (k * 3 + 1) (.string l[k].feed)).set (k * 3 + 2) (.int .i64 l[k].sign)).take ((k + 1) * 3) = actrS.cells (l.take (k + 1))) := fill3 hxs.out hlt hown2.1 rfl
        clear hown2 hxs hB2 hg0 hg1 hg2 ho0 ho1 hC0 hC1
        go_wp2
        go_roundw
        case rel => exact ⟨k + 1, _, by omega, by go_num, ho2, hx2, hC2⟩
        case measure => simp [intOf]; omega
      · obtain rfl : k = l.length := by omega
        have R := filled (S := actrS) hown1 hxs.out
        clear hown1 hxs hc
        go_wp2
        go_ret
        exact RetVal.mk R hB1

def SzActrTo (l : List Actr) (k : Nat) : Prop := ∀ j (h : j < l.length), j < k → l[j].name.size ≤ 1048576 ∧ l[j].feed.size ≤ 1048576
def SzActr (l : List Actr) : Prop := l.length ≤ 1048576 ∧ ∀ y ∈ l, y.name.size ≤ 1048576 ∧ y.feed.size ≤ 1048576
theorem SzActrTo.all {l : List Actr} (h : SzActrTo l l.length) (hl : l.length ≤ 1048576) : SzActr l := ⟨hl, fun y hy => by
  obtain ⟨j, hj, rfl⟩ := List.getElem_of_mem hy
  exact h j hj hj⟩
theorem SzActrTo.succ {l : List Actr} {k : Nat} (h : SzActrTo l k) (hk : k < l.length) (hs : l[k].name.size ≤ 1048576 ∧ l[k].feed.size ≤ 1048576) : SzActrTo l (k + 1) := fun j hj h2 => by
  by_cases e : j = k
  · subst e; exact hs
  · exact h j hj (by omega)

set_option maxHeartbeats 800000 in
theorem szActrS_any (v : Value) (l : List Actr) (left : Nat) (z : Int) (w : World) (hz : z = left) (h : Sl actrS w v l) (ho : OkActrL l) (h2 : left ≤ 1048576) :
    Calls Tryd.prog 5 #[v, .int .i64 z] w (RetInt (fun r => r = -1 ∨ (SzActr l ∧ 0 ≤ r ∧ r ≤ left)) w) := by
  subst hz
  have hm := h.len
  rcases Nat.eq_zero_or_pos l.length with h0 | h0
  · obtain rfl := List.eq_nil_of_length_eq_zero h0
    obtain ⟨a, cap, rfl, _⟩ := h
    have hS : Hid (SzActr ([] : List Actr)) := ⟨by simp, by simp⟩
    clear h0 ho hm
    go_enter Tryd.func5, Tryd.ntmps5
    go_wp2
    go_loop [1, 5] (fun m i => i = .int .i64 0 ∧ m = .int .i64 left) (fun _ _ => 0)
    case atStart => exact ⟨rfl, rfl⟩
    case round =>
      obtain ⟨rfl, rfl⟩ := hrel
      go_wp2
      go_ret
      exact RetInt.mk (.inr ⟨hS.out, by omega, by omega⟩) (Below.refl _ _)
  · obtain ⟨b, off, cap, rfl, hcap, hbs, hc⟩ := SlActr.open h h0
    clear h
    by_cases hll : (l.length : Int) ≤ left
    · go_enter Tryd.func5, Tryd.ntmps5
      go_wp2
      go_loopw [1, 5] (fun m i wr => ∃ k r : Nat, k ≤ l.length ∧ r ≤ left ∧ i = .int .i64 k ∧ m = .int .i64 r ∧ SzActrTo l k ∧ Below w.heap.size w wr) (fun _ i _ => l.length - (intOf i).toNat)
      case atStart => exact ⟨0, left - l.length, Nat.zero_le _, by omega, rfl, by go_num, fun j _ h => by omega, Below.refl _ _⟩
      case round =>
        obtain ⟨k, r, hk, hr, rfl, rfl, hT, hB1⟩ := hrel
        by_cases hlt : k < l.length
        · have hmem := ho _ (List.getElem_mem hlt)
          have hcell0 : wr.cell? ⟨b, off + k * 3, none⟩ = some (.string l[k].name) := (hB1.cell (p := ⟨b, off + k * 3, none⟩) hbs).trans (hc k hlt).1
          have hcell1 : wr.cell? ⟨b, off + k * 3 + 1, none⟩ = some (.string l[k].feed) := (hB1.cell (p := ⟨b, off + k * 3 + 1, none⟩) hbs).trans (hc k hlt).2.1
          have hcell2 : wr.cell? ⟨b, off + k * 3 + 2, none⟩ = some (.int .i64 l[k].sign) := (hB1.cell (p := ⟨b, off + k * 3 + 2, none⟩) hbs).trans (hc k hlt).2.2
          clear hc
          go_wp2_with fail
          refine (sz_Actor _ _ _ _ _ hmem.1 hmem.2 (by omega) (by omega)).mono ?_
          rintro x w2 ⟨r', rfl, hr', hb2⟩
          have hB2 := below_trans hB1 hb2
          rcases hr' with rfl | ⟨hr0, hr'⟩
          · go_wp2_with fail
            go_ret
            exact RetInt.mk (.inl rfl) hB2
          · have hT2 := hT.succ hlt (by refine ⟨?_, ?_⟩; all_goals omega)
            obtain ⟨q, rfl⟩ := Int.eq_ofNat_of_zero_le hr0
            have hq : q ≤ left := by omega
            clear hT hr' hB1 hb2 ho
            go_wp2_with fail
            go_roundw
            case rel => exact ⟨k + 1, q, by omega, hq, by go_num, rfl, hT2, hB2⟩
            case measure => simp [intOf]; omega
        · have hS : Hid (SzActr l) := by
            obtain rfl : k = l.length := by omega
            exact hT.all (by omega)
          clear hT hc ho
          go_wp2
          go_ret
          exact RetInt.mk (.inr ⟨hS.out, by omega, by omega⟩) hB1
    · clear ho hc
      go_enter Tryd.func5, Tryd.ntmps5
      go_wp2
      go_ret
      exact RetInt.mk (.inl rfl) (Below.refl _ _)

set_option maxHeartbeats 800000 in
theorem eqActorS_same (v1 v2 : Value) (l : List Actr) (w : World) (h1 : Sl actrS w v1 l) (h2 : Sl actrS w v2 l) :
    Calls Tryd.prog 9 #[v1, v2] w fun e w' => e = .returned (.bool true) ∧ Below w.heap.size w w' := by
  have hm := h1.len
  rcases Nat.eq_zero_or_pos l.length with h0 | h0
  · obtain rfl := List.eq_nil_of_length_eq_zero h0
    obtain ⟨a, cap, rfl, _⟩ := h1
    obtain ⟨a', cap', rfl, _⟩ := h2
    clear h0 hm
    go_enter Tryd.func9, Tryd.ntmps9
    go_wp2
    go_loop [5] (fun i => i = .int .i64 0) (fun _ => 0)
    case atStart => rfl
    case round =>
      obtain rfl := hrel
      go_wp2
      go_ret
      exact ⟨rfl, Below.refl _ _⟩
  · obtain ⟨b, off, cap, rfl, hcap, hbs, hc⟩ := SlActr.open h1 h0
    obtain ⟨b', off', cap', rfl, hcap', hbs', hc'⟩ := SlActr.open h2 h0
    clear h1 h2
    go_enter Tryd.func9, Tryd.ntmps9
    go_wp2
    go_loopw [5] (fun i wr => ∃ k : Nat, k ≤ l.length ∧ i = .int .i64 k ∧ Below w.heap.size w wr) (fun i _ => l.length - (intOf i).toNat)
    case atStart => exact ⟨0, Nat.zero_le _, rfl, Below.refl _ _⟩
    case round =>
      obtain ⟨k, hk, rfl, hB⟩ := hrel
      by_cases hlt : k < l.length
      · have hcell0 : wr.cell? ⟨b, off + k * 3, none⟩ = some (.string l[k].name) := (hB.cell (p := ⟨b, off + k * 3, none⟩) hbs).trans (hc k hlt).1
        have hcellb0 : wr.cell? ⟨b', off' + k * 3, none⟩ = some (.string l[k].name) := (hB.cell (p := ⟨b', off' + k * 3, none⟩) hbs').trans (hc' k hlt).1
        have hcell1 : wr.cell? ⟨b, off + k * 3 + 1, none⟩ = some (.string l[k].feed) := (hB.cell (p := ⟨b, off + k * 3 + 1, none⟩) hbs).trans (hc k hlt).2.1
        have hcellb1 : wr.cell? ⟨b', off' + k * 3 + 1, none⟩ = some (.string l[k].feed) := (hB.cell (p := ⟨b', off' + k * 3 + 1, none⟩) hbs').trans (hc' k hlt).2.1
        have hcell2 : wr.cell? ⟨b, off + k * 3 + 2, none⟩ = some (.int .i64 l[k].sign) := (hB.cell (p := ⟨b, off + k * 3 + 2, none⟩) hbs).trans (hc k hlt).2.2
        have hcellb2 : wr.cell? ⟨b', off' + k * 3 + 2, none⟩ = some (.int .i64 l[k].sign) := (hB.cell (p := ⟨b', off' + k * 3 + 2, none⟩) hbs').trans (hc' k hlt).2.2
        have q0 : (0 : Int) ≤ (k : Int) := by omega
        have q1 : (k : Int) < (l.length : Int) := by omega
        clear hc hc'
        go_wp2
        go_still_tail 8, (by kernel_rfl)
        change wpList _ _ _ _ _ wr.drew
        obtain ⟨w2, hw2⟩ : ∃ w2, w2 = wr.drew := ⟨_, rfl⟩
        have hB2 : Below w.heap.size w w2 := by rw [hw2]; exact hB.drew
        rw [← hw2]
        clear hw2 hB
        go_wp2_with fail
        refine (eq_Actor _ _ _ _).mono ?_
        rintro x w3 ⟨rfl, hb3⟩
        have hB3 := below_trans hB2 hb3
        go_wp2_with fail
        go_roundw
        case rel => exact ⟨k + 1, by omega, by go_num, hB3⟩
        case measure => simp [intOf]; omega
      · clear hc hc'
        go_wp2
        go_ret
        exact ⟨rfl, hB⟩

end Go.Proofs.YtipalcmfhmmdiaaDoor
