/- The walk of the laws' sameFields at two slices that read as one list. Condition: they do. -/
import Derived.Test.YtemjonibpachbaaDoorLstField
import Derived.Test.YtemjonibpachbaaDoorQuiet
import Derived.Deep.QuietTactic
import Derived.BigQuiet
namespace Go.Proofs.YtemjonibpachbaaDoor
open Go.RowKit

set_option maxHeartbeats 1600000 in
theorem same_Field (v1 v2 : Value) (l : List Fld) (w : World) (h1 : Sl fldS w v1 l) (h2 : Sl fldS w v2 l) :
    Calls Tryd.prog 12 #[v1, v2] w fun e w' => e = .returned (.bool true) ∧ Below w.heap.size w w' := by
  have hm := h1.len
  rcases Nat.eq_zero_or_pos l.length with h0 | h0
  · obtain rfl := List.eq_nil_of_length_eq_zero h0
    obtain ⟨a, cap, rfl, _⟩ := h1
    obtain ⟨a', cap', rfl, _⟩ := h2
    clear h0 hm
    go_enter Tryd.func12, Tryd.ntmps12
    go_wp2
    go_loop [5] (fun i => i = .int .i64 0) (fun _ => 0)
    case atStart => rfl
    case round =>
      obtain rfl := hrel
      go_wp2
      go_ret
      exact ⟨rfl, Below.refl _ _⟩
  · obtain ⟨b, off, cap, rfl, hcap, hbs, hc⟩ := SlFld.open h1 h0
    obtain ⟨b', off', cap', rfl, hcap', hbs', hc'⟩ := SlFld.open h2 h0
    clear h1 h2
    go_enter Tryd.func12, Tryd.ntmps12
    go_wp2
    go_loopw [5] (fun i wr => ∃ k : Nat, k ≤ l.length ∧ i = .int .i64 k ∧ Below w.heap.size w wr) (fun i _ => l.length - (intOf i).toNat)
    case atStart => exact ⟨0, Nat.zero_le _, rfl, Below.refl _ _⟩
    case round =>
      obtain ⟨wo, rfl⟩ : ∃ wo : World, wo = wr := ⟨_, rfl⟩
      obtain ⟨k, hk, rfl, hB⟩ := hrel
      by_cases hlt : k < l.length
      · have ca0 : wo.cell? ⟨b, off + k * 2, none⟩ = some (.string l[k].name) := (hB.cell (p := ⟨b, off + k * 2, none⟩) hbs).trans (hc k hlt).1
        have cb0 : wo.cell? ⟨b', off' + k * 2, none⟩ = some (.string l[k].name) := (hB.cell (p := ⟨b', off' + k * 2, none⟩) hbs').trans (hc' k hlt).1
        have ca1 : wo.cell? ⟨b, off + k * 2 + 1, none⟩ = some (.int .i64 l[k].val) := (hB.cell (p := ⟨b, off + k * 2 + 1, none⟩) hbs).trans (hc k hlt).2
        have cb1 : wo.cell? ⟨b', off' + k * 2 + 1, none⟩ = some (.int .i64 l[k].val) := (hB.cell (p := ⟨b', off' + k * 2 + 1, none⟩) hbs').trans (hc' k hlt).2
        have q0 : (0 : Int) ≤ (k : Int) := by omega
        have q1 : (k : Int) < (l.length : Int) := by omega
        clear hc hc'
        go_wp2_with fail
        go_quiet (fail)
        go_wp2_with fail
        go_roundw
        case rel => exact ⟨k + 1, by omega, by go_num, belowN hB _⟩
        case measure => simp [intOf]; omega
      · clear hc hc'
        go_wp2_with fail
        go_ret
        exact ⟨rfl, hB⟩
end Go.Proofs.YtemjonibpachbaaDoor
