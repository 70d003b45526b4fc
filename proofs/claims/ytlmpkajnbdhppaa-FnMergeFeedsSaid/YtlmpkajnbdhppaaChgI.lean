/- The walk of the program's ChangedItems where nothing is changed. Condition: the slices read as the lists, both are valid feeds, and an item of the first one with a key of the second one is the same there. -/
import Derived.Test.YtlmpkajnbdhppaaNewI
namespace Go.Proofs.Ytlmpkajnbdhppaa
open Go.RowKit

/-- An item of the first one with a key of the second one is the same there. -/
def SameIn (b a : List Itm) : Prop := ∀ y ∈ a, ∀ z, b.find? (keyB y.key.toList) = some z → z = y
set_option maxHeartbeats 3200000 in
theorem i_ChangedItems_none (vb va : Value) (lb la : List Itm) (w : World) (hb : Sl itmS w vb lb) (ha : Sl itmS w va la) (sb : SzL lb) (sa : SzL la) (HF : Hid (feedB lb = true)) (HG : Hid (feedB la = true)) (HS : Hid (SameIn lb la)) :
    Calls Try.prog 27 #[vb, va] w fun e w' => e = .returned (.slice none 0 0) ∧ Below w.heap.size w w' := by
  obtain ⟨A, cap, rfl⟩ : ∃ A cap, va = .slice A la.length cap := by obtain ⟨a, c, h, _⟩ := ha; exact ⟨a, c, h⟩
  obtain ⟨A2, cap2, rfl⟩ : ∃ A cap, vb = .slice A lb.length cap := by obtain ⟨a, c, h, _⟩ := hb; exact ⟨a, c, h⟩
  have h8 := (feed_iff.1 HG.out).1
  have h8' := (feed_iff.1 HF.out).1
  go_enter Try.func27, Try.ntmps27
  go_wp2_with fail
  refine (i_FeedValid _ lb _ hb sb).mono ?_
  rintro e w1 ⟨rfl, hb1⟩
  rw [HF.out]
  have ha1 := ha.mono hb1
  go_wp2_with fail
  refine (i_FeedValid _ la _ ha1 sa).mono ?_
  rintro e w2 ⟨rfl, hb2⟩
  rw [HG.out]
  have hB := below_trans hb1 hb2
  clear ha1 hb1 hb2
  go_wp2_with fail
  go_loopw [5, 19] (fun V I wr => ∃ (k : Nat), V = .slice none 0 0 ∧ I = .int .i64 k ∧ k ≤ la.length ∧ Below w.heap.size w wr) (fun _ I _ => la.length - (intOf I).toNat)
  case atStart => exact ⟨0, rfl, rfl, Nat.zero_le _, hB⟩
  case round =>
    clear hB
    obtain ⟨wo, rfl⟩ : ∃ wo : World, wo = wr := ⟨_, rfl⟩
    obtain ⟨k, rfl, rfl, hk, hB⟩ := hrel
    by_cases hlt : k < la.length
    · obtain ⟨b, off, c', hv, hcap, hbs, hc⟩ := SlItm.open ha (by omega)
      injection hv with hv1 _ hv3
      subst hv1; subst hv3
      obtain ⟨hc0, hc1, hc2, hc3⟩ := hc k hlt
      have c0 := keep_cell hB hc0
      have c1 := keep_cell hB hc1
      have c2 := keep_cell hB hc2
      have c3 := keep_cell hB hc3
      have q0 : (0 : Int) ≤ (k : Int) := by omega
      have q1 : (k : Int) < (la.length : Int) := by omega
      have hB3 : Below w.heap.size w (wo.alloc (.cells #[.string la[k].key, .string la[k].title, .string la[k].body, .int .i64 la[k].day] 30)) := below_trans hB (below1 _ _)
      clear hc hc0 hc1 hc2 hc3
      go_wp2_with fail
      refine (i_itemNumber _ lb la[k].key _ (hb.mono hB3)).mono ?_
      rintro e w3 ⟨rfl, hb3⟩
      have hB4 := below_trans hB3 hb3
      have d0 : w3.cell? ⟨wo.heap.size, 0, none⟩ = some (.string la[k].key) := keep_cell hb3 (by simp [go_sem])
      have d1 : w3.cell? ⟨wo.heap.size, 1, none⟩ = some (.string la[k].title) := keep_cell hb3 (by simp [go_sem])
      have d2 : w3.cell? ⟨wo.heap.size, 2, none⟩ = some (.string la[k].body) := keep_cell hb3 (by simp [go_sem])
      have d3 : w3.cell? ⟨wo.heap.size, 3, none⟩ = some (.int .i64 la[k].day) := keep_cell hb3 (by simp [go_sem])
      clear c0 c1 c2 c3 hb3 hB hB3
      rcases keyNo_find lb la[k].key.toList with ⟨n1, _⟩ | ⟨j, hj, n1, _, _, n3, _⟩
      · rw [n1]
        clear n1
        go_wp2_with fail
        go_quiet (fail)
        go_wp2_with fail
        go_roundw
        case rel => exact ⟨k + 1, rfl, by go_num, by omega, belowN hB4 _⟩
        case measure => simp [intOf]; omega
      · rw [n1]
        have hz : lb[j] = la[k] := HS.out _ (List.getElem_mem hlt) _ n3
        obtain ⟨b2, off2, c2', hv, hcap2, hbs2, hc2⟩ := SlItm.open hb (by omega)
        injection hv with hv1 _ hv3
        subst hv1; subst hv3
        obtain ⟨hc0, hc1, hc2, hc3⟩ := hc2 j hj
        rw [hz] at hc0 hc1 hc2 hc3
        have e0 := keep_cell hB4 hc0
        have e1 := keep_cell hB4 hc1
        have e2 := keep_cell hB4 hc2
        have e3 := keep_cell hB4 hc3
        have j0 : (0 : Int) ≤ (j : Int) := by omega
        have j1 : (j : Int) < (lb.length : Int) := by omega
        clear n1 n3 hz hc0 hc1 hc2 hc3
        go_wp2_with fail
        go_quiet (fail)
        go_wp2_with fail
        go_roundw
        case rel => exact ⟨k + 1, rfl, by go_num, by omega, belowN hB4 _⟩
        case measure => simp [intOf]; omega
    · go_wp2_with fail
      go_ret
      exact ⟨rfl, hB⟩
end Go.Proofs.Ytlmpkajnbdhppaa
