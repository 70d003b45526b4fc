/- The walk of the laws' sameTexts at two slices that read as one list. Condition: they do. -/
import Derived.Test.YtlmpkajnbdhppaaTypes
import Derived.Test.YtlmpkajnbdhppaaRows
import Derived.Test.YtlmpkajnbdhppaaQuiet
import Derived.WalkKit
import Derived.WalkSpells
import Derived.Deep.QuietTactic
import Derived.BigQuiet
namespace Go.Proofs.Ytlmpkajnbdhppaa
open Go.RowKit

theorem SlStr.open {w : World} {v : Value} {l : List ByteArray} (h : Sl strS w v l) (h0 : 0 < l.length) :
    ∃ b off cap, v = .slice (some ⟨b, off, none⟩) l.length cap ∧ l.length ≤ cap ∧ b < w.heap.size ∧ ∀ i (hi : i < l.length), w.cell? ⟨b, off + i, none⟩ = some (.string l[i]) := by
  obtain ⟨b, off, cap, rfl, h1, _, h3, h4⟩ := h.open h0
  exact ⟨b, off, cap, rfl, h1, h3, fun i hi => by have := h4 i hi 0 (by decide); simpa [strS] using this⟩
set_option maxHeartbeats 1600000 in
theorem same_Text (v1 v2 : Value) (l : List ByteArray) (w : World) (h1 : Sl strS w v1 l) (h2 : Sl strS w v2 l) :
    Calls Try.prog 16 #[v1, v2] w fun e w' => e = .returned (.bool true) ∧ Below w.heap.size w w' := by
  have hm := h1.len
  rcases Nat.eq_zero_or_pos l.length with h0 | h0
  · obtain rfl := List.eq_nil_of_length_eq_zero h0
    obtain ⟨a, cap, rfl, _⟩ := h1
    obtain ⟨a', cap', rfl, _⟩ := h2
    clear h0 hm
    go_enter Try.func16, Try.ntmps16
    go_wp2
    go_loop [5] (fun i => i = .int .i64 0) (fun _ => 0)
    case atStart => rfl
    case round =>
      obtain rfl := hrel
      go_wp2
      go_ret
      exact ⟨rfl, Below.refl _ _⟩
  · obtain ⟨b, off, cap, rfl, hcap, hbs, hc⟩ := SlStr.open h1 h0
    obtain ⟨b', off', cap', rfl, hcap', hbs', hc'⟩ := SlStr.open h2 h0
    clear h1 h2
    go_enter Try.func16, Try.ntmps16
    go_wp2
    go_loopw [5] (fun i wr => ∃ k : Nat, k ≤ l.length ∧ i = .int .i64 k ∧ Below w.heap.size w wr) (fun i _ => l.length - (intOf i).toNat)
    case atStart => exact ⟨0, Nat.zero_le _, rfl, Below.refl _ _⟩
    case round =>
      obtain ⟨wo, rfl⟩ : ∃ wo : World, wo = wr := ⟨_, rfl⟩
      obtain ⟨k, hk, rfl, hB⟩ := hrel
      by_cases hlt : k < l.length
      · have ca0 : wo.cell? ⟨b, off + k, none⟩ = some (.string l[k]) := (hB.cell (p := ⟨b, off + k, none⟩) hbs).trans (hc k hlt)
        have cb0 : wo.cell? ⟨b', off' + k, none⟩ = some (.string l[k]) := (hB.cell (p := ⟨b', off' + k, none⟩) hbs').trans (hc' k hlt)
        have q0 : (0 : Int) ≤ (k : Int) := by omega
        have q1 : (k : Int) < (l.length : Int) := by omega
        clear hc hc'
        go_wp2_with fail
        go_quiet (fail)
        go_wp2_with fail
        go_roundw
        case rel => exact ⟨k + 1, by omega, by go_num, belowN hB _⟩
        case measure => simp [intOf]; omega
      · clear hc hc'
        go_wp2_with fail
        go_ret
        exact ⟨rfl, hB⟩
end Go.Proofs.Ytlmpkajnbdhppaa
