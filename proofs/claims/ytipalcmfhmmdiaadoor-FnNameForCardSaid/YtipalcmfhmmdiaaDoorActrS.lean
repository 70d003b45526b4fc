/- The walk of the reference's ActorsValid. Condition: the slice reads as the list, texts are no longer than a machine holds. -/
import Derived.Test.YtipalcmfhmmdiaaDoorActrV
namespace Go.Proofs.YtipalcmfhmmdiaaDoor
open Go.RowKit

theorem s_l1In (n lo hi : Int) (w : World) : Calls Tryd.prog 27 #[.int .i64 n, .int .i64 lo, .int .i64 hi] w fun e w' => e = .returned (.bool (decide (lo ≤ n) && decide (n ≤ hi))) ∧ w = w' := by
  by_cases h : lo ≤ n
  · rw [show (decide (lo ≤ n) && decide (n ≤ hi)) = decide (n ≤ hi) by simp [h]]
    go_enter Tryd.func27, Tryd.ntmps27
    go_wp2
    go_ret
    exact ⟨rfl, rfl⟩
  · rw [show (decide (lo ≤ n) && decide (n ≤ hi)) = false by simp; omega]
    have h2 : n < lo := by omega
    go_enter Tryd.func27, Tryd.ntmps27
    go_wp2
    go_ret
    exact ⟨rfl, rfl⟩

set_option maxHeartbeats 3200000 in
theorem s_ActorsValid (v : Value) (l : List Actr) (w : World) (h : Sl actrS w v l) (hs : FeedSizes l) :
    Calls Tryd.prog 15 #[v] w fun e w' => e = .returned (.bool (actorsB l)) ∧ Below w.heap.size w w' := by
  have hm := h.len
  rcases Nat.eq_zero_or_pos l.length with h0 | h0
  · obtain rfl := List.eq_nil_of_length_eq_zero h0
    obtain ⟨a, cap, rfl, _⟩ := h
    rw [show actorsB [] = true from rfl]
    clear h0 hm hs
    go_enter Tryd.func15, Tryd.ntmps15
    go_wp2
    go_loop [3] (fun i => i = .int .i64 0) (fun _ => 0)
    case atStart => rfl
    case round =>
      obtain rfl := hrel
      go_wp2
      go_ret
      exact ⟨rfl, Below.refl _ _⟩
  · obtain ⟨b, off, cap, rfl, hcap, hbs, hc⟩ := SlActr.open h h0
    clear h
    go_enter Tryd.func15, Tryd.ntmps15
    go_wp2
    go_loopw [3] (fun i wr => ∃ k : Nat, k ≤ l.length ∧ i = .int .i64 k ∧ ActTo l k ∧ Below w.heap.size w wr) (fun i _ => l.length - (intOf i).toNat)
    case atStart => exact ⟨0, Nat.zero_le _, rfl, GoodTo.zero _ _ _, Below.refl _ _⟩
    case round =>
      obtain ⟨wo, rfl⟩ : ∃ wo : World, wo = wr := ⟨_, rfl⟩
      obtain ⟨k, hk, rfl, hT, hB⟩ := hrel
      by_cases hlt : k < l.length
      · obtain ⟨hsk, hsf⟩ := hs _ (List.getElem_mem hlt)
        have hcell0 : wo.cell? ⟨b, off + k * 3, none⟩ = some (.string l[k].name) := (hB.cell (p := ⟨b, off + k * 3, none⟩) hbs).trans (hc k hlt).1
        have hcell1 : wo.cell? ⟨b, off + k * 3 + 1, none⟩ = some (.string l[k].feed) := (hB.cell (p := ⟨b, off + k * 3 + 1, none⟩) hbs).trans (hc k hlt).2.1
        have hcell2 : wo.cell? ⟨b, off + k * 3 + 2, none⟩ = some (.int .i64 l[k].sign) := (hB.cell (p := ⟨b, off + k * 3 + 2, none⟩) hbs).trans (hc k hlt).2.2
        have hb2 : Below w.heap.size w (wo.alloc (.cells #[.string l[k].name, .string l[k].feed, .int .i64 l[k].sign] 40)) := below_trans hB (below1 _ _)
        have hwn : ∀ (q : Bool), wordB l[k].name.data.toList = q → ∀ W, Calls Tryd.prog 16 #[.string l[k].name] W fun e w' => e = .returned (.bool q) ∧ W = w' := fun q hq W => by rw [← hq]; exact s_WordValid _ W hsk
        have hwf : ∀ (q : Bool), wordB l[k].feed.data.toList = q → ∀ W, Calls Tryd.prog 16 #[.string l[k].feed] W fun e w' => e = .returned (.bool q) ∧ W = w' := fun q hq W => by rw [← hq]; exact s_WordValid _ W hsf
        have hli : ∀ (q : Bool), (decide (0 ≤ l[k].sign) && decide (l[k].sign ≤ 1000000000)) = q → ∀ W, Calls Tryd.prog 27 #[.int .i64 l[k].sign, .int .i64 0, .int .i64 1000000000] W fun e w' => e = .returned (.bool q) ∧ W = w' := fun q hq W => by rw [← hq]; exact s_l1In _ _ _ W
        have HW := Lib.hid hwn
        have HV := Lib.hid hwf
        have HI := Lib.hid hli
        clear hwn hwf hli hs
        cases actCase l k hlt with
        | word h =>
          have H : Hid (actorsB l = false) := actors_word hlt h
          have HN := Lib.hid (HW.out _ h)
          have HF := Lib.hid (trivial)
          have HL := Lib.hid (trivial)
          clear hc hT h
          go_wp2
          go_quiet ((first | (go_at_call 16; first | (with_reducible exact quiet_left (HN.out _)) | (with_reducible exact quiet_left (HF.out _))) | (go_at_call 27; with_reducible exact quiet_left (HL.out _))))
          go_wp2
          go_ret
          exact ⟨ret_bool H.out.symm, belowN hb2 _⟩
        | feed h0 h =>
          have H : Hid (actorsB l = false) := actors_feed hlt h
          have HN := Lib.hid (HW.out _ h0)
          have HF := Lib.hid (HV.out _ h)
          have HL := Lib.hid (trivial)
          clear hc hT h0 h
          go_wp2
          go_quiet ((first | (go_at_call 16; first | (with_reducible exact quiet_left (HN.out _)) | (with_reducible exact quiet_left (HF.out _))) | (go_at_call 27; with_reducible exact quiet_left (HL.out _))))
          go_wp2
          go_ret
          exact ⟨ret_bool H.out.symm, belowN hb2 _⟩
        | low h0 h1 h =>
          have H : Hid (actorsB l = false) := actors_sign hlt (.inl h)
          have HN := Lib.hid (HW.out _ h0)
          have HF := Lib.hid (HV.out _ h1)
          have HL := Lib.hid (HI.out false (by simp; omega))
          clear hc hT h0 h1
          go_wp2
          go_quiet ((first | (go_at_call 16; first | (with_reducible exact quiet_left (HN.out _)) | (with_reducible exact quiet_left (HF.out _))) | (go_at_call 27; with_reducible exact quiet_left (HL.out _))))
          go_wp2
          go_ret
          exact ⟨ret_bool H.out.symm, belowN hb2 _⟩
        | high h0 h1 h2 h =>
          have H : Hid (actorsB l = false) := actors_sign hlt (.inr h)
          have HN := Lib.hid (HW.out _ h0)
          have HF := Lib.hid (HV.out _ h1)
          have HL := Lib.hid (HI.out false (by simp; omega))
          clear hc hT h0 h1
          go_wp2
          go_quiet ((first | (go_at_call 16; first | (with_reducible exact quiet_left (HN.out _)) | (with_reducible exact quiet_left (HF.out _))) | (go_at_call 27; with_reducible exact quiet_left (HL.out _))))
          go_wp2
          go_ret
          exact ⟨ret_bool H.out.symm, belowN hb2 _⟩
        | bad h0 h1 h2 h3 h h4 =>
          have H : Hid (actorsB l = false) := actors_asc h hlt h4
          have HN := Lib.hid (HW.out _ h0)
          have HF := Lib.hid (HV.out _ h1)
          have HL := Lib.hid (HI.out true (by simp; omega))
          have p0 : wo.cell? ⟨b, off + (k - 1) * 3, none⟩ = some (.string l[k - 1].name) := (hB.cell (p := ⟨b, off + (k - 1) * 3, none⟩) hbs).trans (hc (k - 1) (by omega)).1
          have p1 : (wo.alloc (.cells #[.string l[k].name, .string l[k].feed, .int .i64 l[k].sign] 40)).cell? ⟨b, off + (k - 1) * 3, none⟩ = some (.string l[k - 1].name) := keep_cell (below1 _ _) p0
          have e1 : IntKind.i64.wrap ((k : Int) - 1) = (k : Int) - 1 := IntWalk.i64_in _ (by omega)
          have e2 : (0 : Int) ≤ (k : Int) - 1 := by omega
          have e3 : (k : Int) - 1 < (l.length : Int) := by omega
          have e4 : ((k : Int) - 1).toNat = k - 1 := by omega
          have e5 : decide ((0 : Int) < (k : Int)) = true := by simp; omega
          have e6 : decide (0 < k) = true := by simp; omega
          have e7 : (1 : Int) ≤ (k : Int) := by omega
          have e8 : (k : Int) < (l.length : Int) + 1 := by omega
          have g4 : (Op.bytesLess l[k].name.toList l[k - 1].name.toList || l[k].name.toList == l[k - 1].name.toList) = true := by rw [less_not, h4]; rfl
          clear hc hT h0 h1
          go_wp2
          go_quiet ((first | (go_at_call 16; first | (with_reducible exact quiet_left (HN.out _)) | (with_reducible exact quiet_left (HF.out _))) | (go_at_call 27; with_reducible exact quiet_left (HL.out _))))
          go_wp2
          go_ret
          exact ⟨ret_bool H.out.symm, belowN hb2 _⟩
        | first h0 h1 h2 h3 h =>
          have HN := Lib.hid (HW.out _ h0)
          have HF := Lib.hid (HV.out _ h1)
          have HL := Lib.hid (HI.out true (by simp; omega))
          have H0 := Lib.hid h0
          have H1 := Lib.hid h1
          have HT := Lib.hid hT
          subst h
          simp only [Nat.zero_mul, Nat.add_zero] at hcell0 hcell1 hcell2
          have HC := Lib.hid hc
          clear hc hT h0 h1
          go_wp2
          go_quiet ((first | (go_at_call 16; first | (with_reducible exact quiet_left (HN.out _)) | (with_reducible exact quiet_left (HF.out _))) | (go_at_call 27; with_reducible exact quiet_left (HL.out _))))
          go_wp2
          go_loopw [5] (fun i wr => i = .int .i64 0 ∧ Below w.heap.size w wr) (fun _ _ => 0)
          case atStart => exact ⟨rfl, belowN hb2 _⟩
          case round =>
            obtain ⟨rfl, hB2⟩ := hrel
            have HT2 : ActTo l 1 := HT.out.step hlt H0.out H1.out h2 h3 rfl (FreeOf.zero _ _ _ _)
            go_wp2
            go_roundw
            case rel => exact ⟨1, by omega, by go_num, HT2, hB2⟩
            case measure => simp [intOf]; omega
        | good h0 h1 h2 h3 h h4 =>
          have HN := Lib.hid (HW.out _ h0)
          have HF := Lib.hid (HV.out _ h1)
          have HL := Lib.hid (HI.out true (by simp; omega))
          have H0 := Lib.hid h0
          have H1 := Lib.hid h1
          have HT := Lib.hid hT
          have HA : Hid (ascAt l k = true) := by show _ = _; rw [ascAt_pos h hlt]; exact h4
          have p0 : wo.cell? ⟨b, off + (k - 1) * 3, none⟩ = some (.string l[k - 1].name) := (hB.cell (p := ⟨b, off + (k - 1) * 3, none⟩) hbs).trans (hc (k - 1) (by omega)).1
          have p1 : (wo.alloc (.cells #[.string l[k].name, .string l[k].feed, .int .i64 l[k].sign] 40)).cell? ⟨b, off + (k - 1) * 3, none⟩ = some (.string l[k - 1].name) := keep_cell (below1 _ _) p0
          have e1 : IntKind.i64.wrap ((k : Int) - 1) = (k : Int) - 1 := IntWalk.i64_in _ (by omega)
          have e2 : (0 : Int) ≤ (k : Int) - 1 := by omega
          have e3 : (k : Int) - 1 < (l.length : Int) := by omega
          have e4 : ((k : Int) - 1).toNat = k - 1 := by omega
          have e5 : decide ((0 : Int) < (k : Int)) = true := by simp; omega
          have e6 : decide (0 < k) = true := by simp; omega
          have e7 : (1 : Int) ≤ (k : Int) := by omega
          have e8 : (k : Int) < (l.length : Int) + 1 := by omega
          have g4 : (Op.bytesLess l[k].name.toList l[k - 1].name.toList || l[k].name.toList == l[k - 1].name.toList) = false := by rw [less_not, h4]; rfl
          have HC := Lib.hid hc
          clear hc hT h0 h1
          go_wp2
          go_quiet ((first | (go_at_call 16; first | (with_reducible exact quiet_left (HN.out _)) | (with_reducible exact quiet_left (HF.out _))) | (go_at_call 27; with_reducible exact quiet_left (HL.out _))))
          clear e1 e2 e3 e4 e5 e6 e7 e8 g4 p0 p1
          go_wp2
          go_loopw [5] (fun i wr => ∃ j : Nat, j ≤ k ∧ i = .int .i64 j ∧ ActFree l k hlt j ∧ wr.cell? ⟨wo.heap.size, 1, none⟩ = some (.string l[k].feed) ∧ Below w.heap.size w wr) (fun i _ => k - (intOf i).toNat)
          case atStart => exact ⟨0, Nat.zero_le _, rfl, FreeOf.zero _ _ _ _, by simp, belowN hb2 _⟩
          case round =>
            obtain ⟨j, hj, rfl, hF, hf0, hB2⟩ := hrel
            by_cases hjk : j < k
            · have hjl : j < l.length := by omega
              have d1 : wr.cell? ⟨b, off + j * 3 + 1, none⟩ = some (.string l[j].feed) := (hB2.cell (p := ⟨b, off + j * 3 + 1, none⟩) hbs).trans (HC.out j hjl).2.1
              have q0 : (0 : Int) ≤ (j : Int) := by omega
              have q1 : (j : Int) < (l.length : Int) := by omega
              cases he : (l[j].feed.toList == l[k].feed.toList)
              · have HF : Hid (ActFree l k hlt (j + 1)) := FreeOf.succ hF hjl he
                clear hF
                go_wp2
                go_quiet (fail)
                go_wp2
                go_roundw
                case rel => exact ⟨j + 1, by omega, by go_num, HF.out, hf0, belowN hB2 _⟩
                case measure => simp [intOf]; omega
              · have H : Hid (actorsB l = false) := actors_twice hjk hlt he
                clear hF
                go_wp2
                go_quiet (fail)
                go_wp2
                go_ret
                exact ⟨ret_bool H.out.symm, belowN hB2 _⟩
            · have HT2 : ActTo l (k + 1) := by
                obtain rfl : j = k := by omega
                exact HT.out.step hlt H0.out H1.out h2 h3 HA.out hF
              clear hF
              go_wp2
              go_roundw
              case rel => exact ⟨k + 1, by omega, by go_num, HT2, hB2⟩
              case measure => simp [intOf]; omega
      · obtain rfl : k = l.length := by omega
        by_cases h6 : l.length ≤ 8
        · have H : Hid (actorsB l = true) := goodB_yes h6 hT
          clear hT hc hs
          go_wp2
          go_ret
          exact ⟨ret_bool (by rw [H.out]; simp; omega), hB⟩
        · have H : Hid (actorsB l = false) := goodB_long (by omega)
          clear hT hc hs
          go_wp2
          go_ret
          exact ⟨ret_bool (by rw [H.out]; simp; omega), hB⟩
end Go.Proofs.YtipalcmfhmmdiaaDoor
