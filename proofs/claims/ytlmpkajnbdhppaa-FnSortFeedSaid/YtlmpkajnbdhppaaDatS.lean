/- The walk of the reference's DateText. Condition: none but the ranges named. -/
import Derived.Test.YtlmpkajnbdhppaaDayS
import Derived.Test.YtlmpkajnbdhppaaMark
namespace Go.Proofs.Ytlmpkajnbdhppaa
open Go.RowKit

set_option maxHeartbeats 800000 in
theorem s_DateText_out (d : Int) (w : World) (h : d < 0 ∨ 1460969 < d) :
    Calls Try.prog 74 #[.int .i64 d] w fun e w' => e = .returned (.string ⟨#[]⟩) ∧ Below w.heap.size w w' := by
  have H := Lib.hid h
  clear h
  go_enter Try.func74, Try.ntmps74
  go_wp2_with (first | (go_at_call 84; refine (s_DayLast _).mono ?_; rintro e w1 ⟨rfl, hb1⟩) | (go_at_call 83; refine (in_no _ _ _ _ H.out).mono ?_; rintro e w' ⟨rfl, rfl⟩))
  go_ret
  exact ⟨rfl, hb1⟩

/-- Ten digits in a block. -/
def Digs (w : World) (g : Nat) : Prop := ∀ j, j < 10 → ∃ x : Int, w.cell? ⟨g, j, none⟩ = some (.int .i64 x) ∧ -1 ≤ x ∧ x ≤ 9
theorem Digs.mono {w w' : World} {g : Nat} (h : Digs w g) (hb : Below w.heap.size w w') : Digs w' g := fun j hj => by
  obtain ⟨x, h1, h2⟩ := h j hj
  exact ⟨x, keep_cell hb h1, h2⟩
theorem Digs.new (w : World) (t : TypeId) (l : List Int) (h : l.length = 10) (hl : ∀ x ∈ l, -1 ≤ x ∧ x ≤ 9) : Digs (w.alloc (.cells (l.map (Value.int .i64)).toArray t)) w.heap.size := fun j hj => by
  refine ⟨l[j]'(by omega), ?_, hl _ (List.getElem_mem _)⟩
  simp [World.cell?_alloc_new, h, hj]
theorem ten {a b c d e f g h : Int} (ha : 0 ≤ a ∧ a ≤ 9) (hb : 0 ≤ b ∧ b ≤ 9) (hc : 0 ≤ c ∧ c ≤ 9) (hd : 0 ≤ d ∧ d ≤ 9) (he : 0 ≤ e ∧ e ≤ 9) (hf : 0 ≤ f ∧ f ≤ 9) (hg : 0 ≤ g ∧ g ≤ 9) (hh : 0 ≤ h ∧ h ≤ 9) :
    ∀ x ∈ [a, b, c, d, -1, e, f, -1, g, h], -1 ≤ x ∧ x ≤ 9 := by
  intro x hx
  simp only [List.mem_cons, List.not_mem_nil, or_false] at hx
  rcases hx with rfl | rfl | rfl | rfl | rfl | rfl | rfl | rfl | rfl | rfl <;> omega
theorem year_cum {y d : Int} (h : d < daysM (y + 1)) : d - daysM y < cumM y 12 := by
  have := days_next y
  have := cumM_year y
  omega

set_option maxRecDepth 100000 in
set_option maxHeartbeats 6400000 in
theorem s_DateText (d : Int) (w : World) (h1 : 0 ≤ d) (h2 : d ≤ 1460969) :
    Calls Try.prog 74 #[.int .i64 d] w (RetVal SomeText w) := by
  have g0 := days_guess h1
  go_enter Try.func74, Try.ntmps74
  go_wp2_with (first | (go_at_call 84; refine (s_DayLast _).mono ?_; rintro e w1 ⟨rfl, hb1⟩) | (go_at_call 83; refine (in_yes _ _ _ _ (by omega) (by omega)).mono ?_; rintro e w' ⟨rfl, rfl⟩))
  go_loopw [3] (fun Y wr => ∃ y : Int, 1 ≤ y ∧ y ≤ 4000 ∧ daysM y ≤ d ∧ Y = .int .i64 y ∧ Below w.heap.size w wr) (fun Y _ => (4000 - intOf Y).toNat)
  case atStart => exact ⟨_, by omega, by omega, g0, rfl, hb1⟩
  case round =>
    clear g0 hb1
    obtain ⟨y, hy1, hy2, hy3, rfl, hB⟩ := hrel
    by_cases hc : y < 4000 ∧ daysM (y + 1) ≤ d
    · obtain ⟨hlt, hd⟩ := hc
      go_wp2_with (go_at_call 84; refine (s_DayFirst _ _ (by omega) (by omega)).mono ?_; rintro e w2 ⟨rfl, hb2⟩)
      go_roundw
      case rel => exact ⟨y + 1, by omega, by omega, hd, rfl, below_trans hB hb2⟩
      case measure => simp [intOf]; omega
    · have hz : d < daysM (y + 1) := by
        by_cases e : y = 4000
        · subst e; have := days_last; show d < daysM 4001; omega
        · omega
      have hC := year_cum hz
      have hyd := days_bd hy1 (by omega)
      clear hz
      rcases (show (y < 4000 ∧ decide (y < 4000) = true) ∨ (¬ y < 4000 ∧ decide (y < 4000) = false) by by_cases e : y < 4000 <;> simp [e]) with ⟨hlt, hdc⟩ | ⟨hlt, hdc⟩
      all_goals
        go_wp2_with (go_at_call 84; refine (s_DayFirst _ _ (by omega) (by omega)).mono ?_; rintro e w2 ⟨rfl, hb2⟩; replace hB := below_trans hB hb2; clear hb2)
        go_loopw [4] (fun M wr => ∃ k : Nat, k ≤ 11 ∧ M = .int .i64 ((k : Int) + 1) ∧ cumM y k ≤ d - daysM y ∧ Below w.heap.size w wr) (fun M _ => (12 - intOf M).toNat)
        case atStart => exact ⟨0, by omega, rfl, by simp only [cumM]; omega, hB⟩
        case round =>
          clear hB
          obtain ⟨k, hk, rfl, hc1, hB⟩ := hrel
          have hcb := cumM_bd y k
          have hmb := mdM_bd y (k + 1 : Nat)
          have hcs : cumM y (k + 1) = cumM y k + mdM y (k + 1 : Nat) := rfl
          by_cases hcc : k < 11 ∧ cumM y (k + 1) ≤ d - daysM y
          · obtain ⟨hk2, hd⟩ := hcc
            have hm12 : (k : Int) + 1 < 12 := by omega
            have hcb2 := cumM_bd y (k + 1)
            clear hcs hmb hC
            go_wp2_with (go_at_call 84; refine (s_DayMonth y (k + 1) _ _ (by omega) (by omega) (by omega) (by omega)).mono ?_; rintro e w2 ⟨rfl, hb2⟩)
            go_roundw
            case rel => exact ⟨k + 1, by omega, by go_num, hd, below_trans hB hb2⟩
            case measure => simp [intOf]; omega
          · have hd0 : d - daysM y < cumM y (k + 1) := by
              by_cases e : k = 11
              · subst e; exact hC
              · omega
            have hd1 : 1 ≤ d - (daysM y + cumM y k) + 1 := by omega
            have hd2 : d - (daysM y + cumM y k) + 1 ≤ 31 := by omega
            have hcb2 := cumM_bd y (k + 1)
            clear hcc hcs hC
            rcases (show ((k : Int) + 1 < 12 ∧ decide ((k : Int) + 1 < 12) = true) ∨ (¬ (k : Int) + 1 < 12 ∧ decide ((k : Int) + 1 < 12) = false) by by_cases e : (k : Int) + 1 < 12 <;> simp [e]) with ⟨hm12, hdm⟩ | ⟨hm12, hdm⟩
            focus
              go_wp2_with fail
              refine (s_DayMonth y (k + 1) _ _ (by omega) (by omega) (by omega) (by omega)).mono ?_
              rintro e w2 ⟨rfl, hb2⟩
              replace hB := below_trans hB hb2
              clear hb2
            all_goals
              go_wp2_with fail
              refine (s_DayMonth y k _ _ (by omega) (by omega) (by omega) (by omega)).mono ?_
              rintro e w3 ⟨rfl, hb3⟩
              replace hB := below_trans hB hb3
              clear hb3
              have hm12' : (k : Int) + 1 ≤ 12 := by omega
              clear hdm hm12
              clear hd0 hcb hcb2 hmb hc1 hy3
              go_wp2_with fail
              go_loopw [6, 8] (fun O K wr => ∃ (j : Nat) (s : ByteArray), j ≤ 10 ∧ K = .int .i64 j ∧ O = .string s ∧ j ≤ s.size ∧ s.size ≤ j ∧ Digs wr w3.heap.size ∧ Below w.heap.size w wr) (fun _ K _ => (10 - intOf K).toNat)
              case atStart => exact ⟨0, ⟨#[]⟩, by omega, rfl, rfl, Nat.zero_le _, Nat.le_refl _, Digs.new _ _ [_, _, _, _, _, _, _, _, _, _] rfl (ten (by omega) (by omega) (by omega) (by omega) (by omega) (by omega) (by omega) (by omega)), below_trans hB (below1 _ _)⟩
              case round =>
                clear hB
                obtain ⟨j, s, hj, rfl, rfl, s1, s2, hD, hB⟩ := hrel
                by_cases hlt : j < 10
                · obtain ⟨x, hx, x1, x2⟩ := hD j hlt
                  by_cases h0 : x < 0
                  · have hsz : (s ++ ⟨#[46]⟩).size = s.size + 1 := by rw [ByteArray.size_append]; rfl
                    have g1 : j + 1 ≤ (s ++ ⟨#[46]⟩).size := by omega
                    have g2 : (s ++ ⟨#[46]⟩).size ≤ j + 1 := by omega
                    clear hsz
                    go_wp2
                    go_roundw
                    case rel => exact ⟨j + 1, _, by omega, by go_num, rfl, g1, g2, hD, hB⟩
                    case measure => simp [intOf]; omega
                  · have hrun := run_one_string (P := Try.prog) (wr.alloc (.cells #[.int .u8 (48 + x)] 5)) 22 9 5 wr.heap.size (48 + x) (48 + x).toNat Try.underlying22 Try.underlying5 Try.underlying9 (by simp) (by omega)
                    generalize hq : ByteArray.mk #[UInt8.ofNat (48 + x).toNat] = D at hrun
                    have hD1 : D.size = 1 := by rw [← hq]; rfl
                    have hsz : (s ++ D).size = s.size + 1 := by rw [ByteArray.size_append, hD1]
                    have g1 : j + 1 ≤ (s ++ D).size := by omega
                    have g2 : (s ++ D).size ≤ j + 1 := by omega
                    have g3 : D.size ≤ 1 := by omega
                    have hDg : Digs (wr.alloc (.cells #[.int .u8 (48 + x)] 5)) w3.heap.size := hD.mono (below1 _ _)
                    have hB2 : Below w.heap.size w (wr.alloc (.cells #[.int .u8 (48 + x)] 5)) := below_trans hB (below1 _ _)
                    clear hsz hq hD1 hD hB
                    go_wp2
                    go_roundw
                    case rel => exact ⟨j + 1, _, by omega, by go_num, rfl, g1, g2, hDg, hB2⟩
                    case measure => simp [intOf]; omega
                · have hs : s.toList.isEmpty = false := full_text (by omega)
                  have HS := Lib.hid hs
                  clear hs hD
                  go_wp2
                  go_ret
                  exact RetVal.mk ⟨s, rfl, HS.out⟩ hB
end Go.Proofs.Ytlmpkajnbdhppaa
