/- The walks of what the exact statements do with lists of Fields. Condition: a slice reads as the list, and its texts are no longer than a machine holds. -/
import Derived.Test.YtemjonibpachbaaDoorMem
import Derived.Test.YtemjonibpachbaaDoorTypes
import Derived.Test.YtemjonibpachbaaDoorRet
import Derived.Test.YtemjonibpachbaaDoorRows
import Derived.WalkKit
import Derived.WalkSpells
import Derived.StillTailTactics
namespace Go.Proofs.YtemjonibpachbaaDoor
open Go.RowKit
set_option maxRecDepth 8000

theorem Tryd.infoFld : (Tryd.prog.info? 41).map (fun i => (i.zero, i.size, i.bytes)) = some (some (.agg #[.string ⟨#[]⟩, .int .i64 0]), 2, 24) := by kernel_rfl
theorem eq_Field (a0 : ByteArray) (a1 : Int) (w : World) :
    Calls Tryd.prog 39 #[.agg #[.string a0, .int .i64 a1], .agg #[.string a0, .int .i64 a1]] w fun x w' => x = .returned (.bool true) ∧ Below w.heap.size w w' := by
  go_enter Tryd.func39, Tryd.ntmps39
  go_wp2
  go_ret
  exact ⟨rfl, (by repeat (first | exact Below.refl _ _ | refine Below.alloc ?_ (by first | (simp; done) | (simp; omega)) _ | refine Below.drew ?_))⟩
def OkFldL (l : List Fld) : Prop := ∀ y ∈ l, y.name.size ≤ maxLen
theorem SlFld.open {w : World} {v : Value} {l : List Fld} (h : Sl fldS w v l) (h0 : 0 < l.length) :
    ∃ b off cap, v = .slice (some ⟨b, off, none⟩) l.length cap ∧ l.length ≤ cap ∧ b < w.heap.size ∧ ∀ i (hi : i < l.length), w.cell? ⟨b, off + i * 2, none⟩ = some (.string l[i].name) ∧ w.cell? ⟨b, off + i * 2 + 1, none⟩ = some (.int .i64 l[i].val) := by
  obtain ⟨b, off, cap, rfl, h1, _, h3, h4⟩ := h.open h0
  exact ⟨b, off, cap, rfl, h1, h3, fun i hi => ⟨by have := h4 i hi 0 (by decide); simpa [fldS, Nat.add_assoc] using this, by have := h4 i hi 1 (by decide); simpa [fldS, Nat.add_assoc] using this⟩⟩

def SzFldTo (l : List Fld) (k : Nat) : Prop := ∀ j (h : j < l.length), j < k → l[j].name.size ≤ 1048576
def SzFld (l : List Fld) : Prop := l.length ≤ 1048576 ∧ ∀ y ∈ l, y.name.size ≤ 1048576
theorem SzFldTo.all {l : List Fld} (h : SzFldTo l l.length) (hl : l.length ≤ 1048576) : SzFld l := ⟨hl, fun y hy => by
  obtain ⟨j, hj, rfl⟩ := List.getElem_of_mem hy
  exact h j hj hj⟩
theorem SzFldTo.succ {l : List Fld} {k : Nat} (h : SzFldTo l k) (hk : k < l.length) (hs : l[k].name.size ≤ 1048576) : SzFldTo l (k + 1) := fun j hj h2 => by
  by_cases e : j = k
  · subst e; exact hs
  · exact h j hj (by omega)

set_option maxHeartbeats 800000 in
theorem eqFieldS_same (v1 v2 : Value) (l : List Fld) (w : World) (h1 : Sl fldS w v1 l) (h2 : Sl fldS w v2 l) :
    Calls Tryd.prog 16 #[v1, v2] w fun e w' => e = .returned (.bool true) ∧ Below w.heap.size w w' := by
  have hm := h1.len
  rcases Nat.eq_zero_or_pos l.length with h0 | h0
  · obtain rfl := List.eq_nil_of_length_eq_zero h0
    obtain ⟨a, cap, rfl, _⟩ := h1
    obtain ⟨a', cap', rfl, _⟩ := h2
    clear h0 hm
    go_enter Tryd.func16, Tryd.ntmps16
    go_wp2
    go_loop [5] (fun i => i = .int .i64 0) (fun _ => 0)
    case atStart => rfl
    case round =>
      obtain rfl := hrel
      go_wp2
      go_ret
      exact ⟨rfl, Below.refl _ _⟩
  · obtain ⟨b, off, cap, rfl, hcap, hbs, hc⟩ := SlFld.open h1 h0
    obtain ⟨b', off', cap', rfl, hcap', hbs', hc'⟩ := SlFld.open h2 h0
    clear h1 h2
    go_enter Tryd.func16, Tryd.ntmps16
    go_wp2
    go_loopw [5] (fun i wr => ∃ k : Nat, k ≤ l.length ∧ i = .int .i64 k ∧ Below w.heap.size w wr) (fun i _ => l.length - (intOf i).toNat)
    case atStart => exact ⟨0, Nat.zero_le _, rfl, Below.refl _ _⟩
    case round =>
      obtain ⟨k, hk, rfl, hB⟩ := hrel
      by_cases hlt : k < l.length
      · have hcell0 : wr.cell? ⟨b, off + k * 2, none⟩ = some (.string l[k].name) := (hB.cell (p := ⟨b, off + k * 2, none⟩) hbs).trans (hc k hlt).1
        have hcellb0 : wr.cell? ⟨b', off' + k * 2, none⟩ = some (.string l[k].name) := (hB.cell (p := ⟨b', off' + k * 2, none⟩) hbs').trans (hc' k hlt).1
        have hcell1 : wr.cell? ⟨b, off + k * 2 + 1, none⟩ = some (.int .i64 l[k].val) := (hB.cell (p := ⟨b, off + k * 2 + 1, none⟩) hbs).trans (hc k hlt).2
        have hcellb1 : wr.cell? ⟨b', off' + k * 2 + 1, none⟩ = some (.int .i64 l[k].val) := (hB.cell (p := ⟨b', off' + k * 2 + 1, none⟩) hbs').trans (hc' k hlt).2
        have q0 : (0 : Int) ≤ (k : Int) := by omega
        have q1 : (k : Int) < (l.length : Int) := by omega
        clear hc hc'
        go_wp2
        go_still_tail 8, (by kernel_rfl)
        change wpList _ _ _ _ _ wr.drew
        obtain ⟨w2, hw2⟩ : ∃ w2, w2 = wr.drew := ⟨_, rfl⟩
        have hB2 : Below w.heap.size w w2 := by rw [hw2]; exact hB.drew
        rw [← hw2]
        clear hw2 hB
        go_wp2_with fail
        refine (eq_Field _ _ _).mono ?_
        rintro x w3 ⟨rfl, hb3⟩
        have hB3 := below_trans hB2 hb3
        go_wp2_with fail
        go_roundw
        case rel => exact ⟨k + 1, by omega, by go_num, hB3⟩
        case measure => simp [intOf]; omega
      · clear hc hc'
        go_wp2
        go_ret
        exact ⟨rfl, hB⟩
end Go.Proofs.YtemjonibpachbaaDoor
