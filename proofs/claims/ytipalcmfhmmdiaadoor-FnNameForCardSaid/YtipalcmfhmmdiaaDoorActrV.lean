/- The walks of the program's and the reference's ActorsValid: each returns what the plain function says. Condition: the slice reads as the list, texts are no longer than a machine holds. -/
import Derived.Test.YtipalcmfhmmdiaaDoorWordI
import Derived.Test.YtipalcmfhmmdiaaDoorWordS
import Derived.Test.YtipalcmfhmmdiaaDoorGood
import Derived.Test.YtipalcmfhmmdiaaDoorLess
import Derived.Test.YtipalcmfhmmdiaaDoorLstActor
import Derived.Test.YtipalcmfhmmdiaaDoorQuiet
import Derived.Lib.Hide
import Derived.IntWalk
namespace Go.Proofs.YtipalcmfhmmdiaaDoor
open Go.RowKit

/-- An actor: two words and a number from 0 to Great. -/
def actOk (f : Actr) : Bool := wordB f.name.data.toList && (wordB f.feed.data.toList && (decide (0 ≤ f.sign) && decide (f.sign ≤ 1000000000)))
/-- The name stands behind the one before it. -/
def ascAt (l : List Actr) (k : Nat) : Bool := match k with
  | 0 => true
  | j + 1 => match l[j]?, l[j + 1]? with
    | some x, some y => Op.bytesLess x.name.toList y.name.toList
    | _, _ => true
def actAt (l : List Actr) (k : Nat) : Bool := okBy actOk l k && ascAt l k
/-- At most eight actors with ascending names and different feeds. -/
def actorsB (l : List Actr) : Bool := goodB 8 (actAt l) (fun f => f.feed.toList) l
theorem ascAt_zero (l : List Actr) : ascAt l 0 = true := rfl
theorem ascAt_pos {l : List Actr} {k : Nat} (h : 0 < k) (hk : k < l.length) : ascAt l k = Op.bytesLess (l[k - 1]'(by omega)).name.toList l[k].name.toList := by
  obtain ⟨j, rfl⟩ : ∃ j, k = j + 1 := ⟨k - 1, by omega⟩
  unfold ascAt
  simp only [List.getElem?_eq_getElem (show j < l.length by omega), List.getElem?_eq_getElem hk]
  rfl
theorem actors_word {l : List Actr} {k : Nat} (hk : k < l.length) (h : wordB l[k].name.data.toList = false) : actorsB l = false :=
  goodB_at hk (goodAt_bad (by unfold actAt; rw [okBy_eq hk]; unfold actOk; rw [h]; rfl))
theorem actors_feed {l : List Actr} {k : Nat} (hk : k < l.length) (h : wordB l[k].feed.data.toList = false) : actorsB l = false :=
  goodB_at hk (goodAt_bad (by unfold actAt; rw [okBy_eq hk]; unfold actOk; rw [h]; simp))
theorem actors_sign {l : List Actr} {k : Nat} (hk : k < l.length) (h : l[k].sign < 0 ∨ 1000000000 < l[k].sign) : actorsB l = false :=
  goodB_at hk (goodAt_bad (by unfold actAt; rw [okBy_eq hk]; unfold actOk; rw [show (decide (0 ≤ l[k].sign) && decide (l[k].sign ≤ 1000000000)) = false by simp; omega]; simp))
theorem actors_asc {l : List Actr} {k : Nat} (h0 : 0 < k) (hk : k < l.length) (h : Op.bytesLess (l[k - 1]'(by omega)).name.toList l[k].name.toList = false) : actorsB l = false :=
  goodB_at hk (goodAt_bad (by unfold actAt; rw [ascAt_pos h0 hk, h]; simp))
theorem actors_twice {l : List Actr} {j k : Nat} (hj : j < k) (hk : k < l.length) (h : ((l[j]'(by omega)).feed.toList == l[k].feed.toList) = true) : actorsB l = false :=
  goodB_at hk (goodAt_twice hk hj h)
def ActTo (l : List Actr) (k : Nat) : Prop := GoodTo (actAt l) (fun f => f.feed.toList) l k
def ActFree (l : List Actr) (k : Nat) (hk : k < l.length) (j : Nat) : Prop := FreeOf (fun f : Actr => f.feed.toList) l k hk j
theorem ActTo.step {l : List Actr} {k : Nat} (h : ActTo l k) (hk : k < l.length) (h1 : wordB l[k].name.data.toList = true) (h4 : wordB l[k].feed.data.toList = true) (h2 : 0 ≤ l[k].sign) (h3 : l[k].sign ≤ 1000000000) (ha : ascAt l k = true) (hf : ActFree l k hk k) : ActTo l (k + 1) :=
  h.succ (goodAt_yes hk (by unfold actAt; rw [okBy_eq hk, ha]; unfold actOk; rw [h1, h4, decide_eq_true h2, decide_eq_true h3]; rfl) hf)
/-- What stands at element k, case by case. -/
inductive ActCase (l : List Actr) (k : Nat) (hk : k < l.length) : Prop
  | word (h : wordB l[k].name.data.toList = false)
  | feed (h0 : wordB l[k].name.data.toList = true) (h : wordB l[k].feed.data.toList = false)
  | low (h0 : wordB l[k].name.data.toList = true) (h1 : wordB l[k].feed.data.toList = true) (h : l[k].sign < 0)
  | high (h0 : wordB l[k].name.data.toList = true) (h1 : wordB l[k].feed.data.toList = true) (h2 : 0 ≤ l[k].sign) (h : 1000000000 < l[k].sign)
  | first (h0 : wordB l[k].name.data.toList = true) (h1 : wordB l[k].feed.data.toList = true) (h2 : 0 ≤ l[k].sign) (h3 : l[k].sign ≤ 1000000000) (h : k = 0)
  | bad (h0 : wordB l[k].name.data.toList = true) (h1 : wordB l[k].feed.data.toList = true) (h2 : 0 ≤ l[k].sign) (h3 : l[k].sign ≤ 1000000000) (h : 0 < k) (h4 : Op.bytesLess (l[k - 1]'(by omega)).name.toList l[k].name.toList = false)
  | good (h0 : wordB l[k].name.data.toList = true) (h1 : wordB l[k].feed.data.toList = true) (h2 : 0 ≤ l[k].sign) (h3 : l[k].sign ≤ 1000000000) (h : 0 < k) (h4 : Op.bytesLess (l[k - 1]'(by omega)).name.toList l[k].name.toList = true)
theorem actCase (l : List Actr) (k : Nat) (hk : k < l.length) : ActCase l k hk := by
  cases h0 : wordB l[k].name.data.toList
  · exact .word h0
  cases h1 : wordB l[k].feed.data.toList
  · exact .feed h0 h1
  by_cases h2 : 0 ≤ l[k].sign
  · by_cases h3 : l[k].sign ≤ 1000000000
    · by_cases h : k = 0
      · exact .first h0 h1 h2 h3 h
      · cases h4 : Op.bytesLess (l[k - 1]'(by omega)).name.toList l[k].name.toList
        · exact .bad h0 h1 h2 h3 (by omega) h4
        · exact .good h0 h1 h2 h3 (by omega) h4
    · exact .high h0 h1 h2 (by omega)
  · exact .low h0 h1 (by omega)

def FeedSizes (l : List Actr) : Prop := ∀ y ∈ l, y.name.size ≤ 140737488355328 ∧ y.feed.size ≤ 140737488355328

set_option maxHeartbeats 3200000 in
theorem i_ActorsValid (v : Value) (l : List Actr) (w : World) (h : Sl actrS w v l) (hs : FeedSizes l) :
    Calls Tryd.prog 19 #[v] w fun e w' => e = .returned (.bool (actorsB l)) ∧ Below w.heap.size w w' := by
  have hm := h.len
  rcases Nat.eq_zero_or_pos l.length with h0 | h0
  · obtain rfl := List.eq_nil_of_length_eq_zero h0
    obtain ⟨a, cap, rfl, _⟩ := h
    rw [show actorsB [] = true from rfl]
    clear h0 hm hs
    go_enter Tryd.func19, Tryd.ntmps19
    go_wp2
    go_loop [12] (fun i => i = .int .i64 0) (fun _ => 0)
    case atStart => rfl
    case round =>
      obtain rfl := hrel
      go_wp2
      go_ret
      exact ⟨rfl, Below.refl _ _⟩
  · obtain ⟨b, off, cap, rfl, hcap, hbs, hc⟩ := SlActr.open h h0
    clear h
    by_cases h6 : l.length ≤ 8
    · go_enter Tryd.func19, Tryd.ntmps19
      go_wp2
      go_loopw [12] (fun i wr => ∃ k : Nat, k ≤ l.length ∧ i = .int .i64 k ∧ ActTo l k ∧ Below w.heap.size w wr) (fun i _ => l.length - (intOf i).toNat)
      case atStart => exact ⟨0, Nat.zero_le _, rfl, GoodTo.zero _ _ _, Below.refl _ _⟩
      case round =>
        obtain ⟨wo, rfl⟩ : ∃ wo : World, wo = wr := ⟨_, rfl⟩
        obtain ⟨k, hk, rfl, hT, hB⟩ := hrel
        by_cases hlt : k < l.length
        · obtain ⟨hsk, hsf⟩ := hs _ (List.getElem_mem hlt)
          have hcell0 : wo.cell? ⟨b, off + k * 3, none⟩ = some (.string l[k].name) := (hB.cell (p := ⟨b, off + k * 3, none⟩) hbs).trans (hc k hlt).1
          have hcell1 : wo.cell? ⟨b, off + k * 3 + 1, none⟩ = some (.string l[k].feed) := (hB.cell (p := ⟨b, off + k * 3 + 1, none⟩) hbs).trans (hc k hlt).2.1
          have hcell2 : wo.cell? ⟨b, off + k * 3 + 2, none⟩ = some (.int .i64 l[k].sign) := (hB.cell (p := ⟨b, off + k * 3 + 2, none⟩) hbs).trans (hc k hlt).2.2
          have hb2 : Below w.heap.size w (wo.alloc (.cells #[.string l[k].name, .string l[k].feed, .int .i64 l[k].sign] 40)) := below_trans hB (below1 _ _)
          have hwn : ∀ W, Calls Tryd.prog 12 #[.string l[k].name] W fun e w' => e = .returned (.bool (wordB l[k].name.data.toList)) ∧ W = w' := fun W => i_WordValid _ W hsk
          have hwf : ∀ W, Calls Tryd.prog 12 #[.string l[k].feed] W fun e w' => e = .returned (.bool (wordB l[k].feed.data.toList)) ∧ W = w' := fun W => i_WordValid _ W hsf
          have HN := Lib.hid hwn
          have HF := Lib.hid hwf
          clear hwn hwf hs
          cases actCase l k hlt with
          | word h =>
            have H : Hid (actorsB l = false) := actors_word hlt h
            clear hc hT
            go_wp2_with fail
            refine (HN.out _).mono ?_
            rintro e w' ⟨rfl, rfl⟩
            rw [h]
            go_wp2_with fail
            go_ret
            exact ⟨ret_bool H.out.symm, hb2⟩
          | feed h0 h =>
            have H : Hid (actorsB l = false) := actors_feed hlt h
            have H0 := Lib.hid h0
            clear hc hT h0
            go_wp2_with fail
            refine (HN.out _).mono ?_
            rintro e w' ⟨rfl, rfl⟩
            rw [H0.out]
            go_wp2_with fail
            refine (HF.out _).mono ?_
            rintro e w' ⟨rfl, rfl⟩
            rw [h]
            go_wp2_with fail
            go_ret
            exact ⟨ret_bool H.out.symm, hb2⟩
          | low h0 h1 h =>
            have H : Hid (actorsB l = false) := actors_sign hlt (.inl h)
            have H0 := Lib.hid h0
            have H1 := Lib.hid h1
            clear hc hT h0 h1
            go_wp2_with fail
            refine (HN.out _).mono ?_
            rintro e w' ⟨rfl, rfl⟩
            rw [H0.out]
            go_wp2_with fail
            refine (HF.out _).mono ?_
            rintro e w' ⟨rfl, rfl⟩
            rw [H1.out]
            go_wp2
            go_ret
            exact ⟨ret_bool H.out.symm, hb2⟩
          | high h0 h1 h2 h =>
            have H : Hid (actorsB l = false) := actors_sign hlt (.inr h)
            have hd : decide (l[k].sign ≤ 1000000000) = false := by simpa using h
            have H0 := Lib.hid h0
            have H1 := Lib.hid h1
            clear hc hT h0 h1
            go_wp2_with fail
            refine (HN.out _).mono ?_
            rintro e w' ⟨rfl, rfl⟩
            rw [H0.out]
            go_wp2_with fail
            refine (HF.out _).mono ?_
            rintro e w' ⟨rfl, rfl⟩
            rw [H1.out]
            go_wp2
            go_ret
            exact ⟨ret_bool H.out.symm, hb2⟩
          | first h0 h1 h2 h3 h =>
            subst h
            simp only [Nat.zero_mul, Nat.add_zero] at hcell0 hcell1 hcell2
            have H0 := Lib.hid h0
            have H1 := Lib.hid h1
            have HT := Lib.hid hT
            clear h0 h1 hT
            go_wp2_with fail
            refine (HN.out _).mono ?_
            rintro e w' ⟨rfl, rfl⟩
            rw [H0.out]
            go_wp2_with fail
            refine (HF.out _).mono ?_
            rintro e w' ⟨rfl, rfl⟩
            rw [H1.out]
            go_wp2
            go_quiet (fail)
            go_wp2
            go_loopw [50] (fun i wr => i = .int .i64 0 ∧ Below w.heap.size w wr) (fun _ _ => 0)
            case atStart => exact ⟨rfl, belowN hb2 _⟩
            case round =>
              obtain ⟨rfl, hB2⟩ := hrel
              have HT2 : ActTo l 1 := HT.out.step hlt H0.out H1.out h2 h3 rfl (FreeOf.zero _ _ _ _)
              clear hc
              go_wp2
              go_roundw
              case rel => exact ⟨1, by omega, by go_num, HT2, hB2⟩
              case measure => simp [intOf]; omega
          | bad h0 h1 h2 h3 h h4 =>
            have H : Hid (actorsB l = false) := actors_asc h hlt h4
            have H0 := Lib.hid h0
            have H1 := Lib.hid h1
            have HT := Lib.hid hT
            have p0 : wo.cell? ⟨b, off + (k - 1) * 3, none⟩ = some (.string l[k - 1].name) := (hB.cell (p := ⟨b, off + (k - 1) * 3, none⟩) hbs).trans (hc (k - 1) (by omega)).1
            have p1 : (wo.alloc (.cells #[.string l[k].name, .string l[k].feed, .int .i64 l[k].sign] 40)).cell? ⟨b, off + (k - 1) * 3, none⟩ = some (.string l[k - 1].name) := keep_cell (below1 _ _) p0
            have e1 : IntKind.i64.wrap ((k : Int) - 1) = (k : Int) - 1 := IntWalk.i64_in _ (by omega)
            have e2 : (0 : Int) ≤ (k : Int) - 1 := by omega
            have e3 : (k : Int) - 1 < (l.length : Int) := by omega
            have e4 : ((k : Int) - 1).toNat = k - 1 := by omega
            have e5 : decide ((0 : Int) < (k : Int)) = true := by simp; omega
            have e6 : decide (0 < k) = true := by simp; omega
            have e7 : (1 : Int) ≤ (k : Int) := by omega
            have e8 : (k : Int) < (l.length : Int) + 1 := by omega
            have g4 : (!Op.bytesLess l[k - 1].name.toList l[k].name.toList) = true := by rw [h4]; rfl
            clear hc h0 h1 hT
            go_wp2_with fail
            refine (HN.out _).mono ?_
            rintro e w' ⟨rfl, rfl⟩
            rw [H0.out]
            go_wp2_with fail
            refine (HF.out _).mono ?_
            rintro e w' ⟨rfl, rfl⟩
            rw [H1.out]
            go_wp2
            go_quiet (fail)
            go_wp2
            go_ret
            exact ⟨ret_bool H.out.symm, belowN hb2 _⟩
          | good h0 h1 h2 h3 h h4 =>
            have HA : Hid (ascAt l k = true) := by show _ = _; rw [ascAt_pos h hlt]; exact h4
            have H0 := Lib.hid h0
            have H1 := Lib.hid h1
            have HT := Lib.hid hT
            have p0 : wo.cell? ⟨b, off + (k - 1) * 3, none⟩ = some (.string l[k - 1].name) := (hB.cell (p := ⟨b, off + (k - 1) * 3, none⟩) hbs).trans (hc (k - 1) (by omega)).1
            have p1 : (wo.alloc (.cells #[.string l[k].name, .string l[k].feed, .int .i64 l[k].sign] 40)).cell? ⟨b, off + (k - 1) * 3, none⟩ = some (.string l[k - 1].name) := keep_cell (below1 _ _) p0
            have e1 : IntKind.i64.wrap ((k : Int) - 1) = (k : Int) - 1 := IntWalk.i64_in _ (by omega)
            have e2 : (0 : Int) ≤ (k : Int) - 1 := by omega
            have e3 : (k : Int) - 1 < (l.length : Int) := by omega
            have e4 : ((k : Int) - 1).toNat = k - 1 := by omega
            have e5 : decide ((0 : Int) < (k : Int)) = true := by simp; omega
            have e6 : decide (0 < k) = true := by simp; omega
            have e7 : (1 : Int) ≤ (k : Int) := by omega
            have e8 : (k : Int) < (l.length : Int) + 1 := by omega
            have g4 : (!Op.bytesLess l[k - 1].name.toList l[k].name.toList) = false := by rw [h4]; rfl
            clear h0 h1 hT
            have HC := Lib.hid hc
            clear hc
            go_wp2_with fail
            refine (HN.out _).mono ?_
            rintro e w' ⟨rfl, rfl⟩
            rw [H0.out]
            go_wp2_with fail
            refine (HF.out _).mono ?_
            rintro e w' ⟨rfl, rfl⟩
            rw [H1.out]
            go_wp2
            go_quiet (fail)
            clear e1 e2 e3 e4 e5 e6 e7 e8 g4 p0 p1
            go_wp2
            go_loopw [50] (fun i wr => ∃ j : Nat, j ≤ k ∧ i = .int .i64 j ∧ ActFree l k hlt j ∧ wr.cell? ⟨wo.heap.size, 1, none⟩ = some (.string l[k].feed) ∧ Below w.heap.size w wr) (fun i _ => k - (intOf i).toNat)
            case atStart => exact ⟨0, Nat.zero_le _, rfl, FreeOf.zero _ _ _ _, by simp, belowN hb2 _⟩
            case round =>
              obtain ⟨j, hj, rfl, hF, hf0, hB2⟩ := hrel
              by_cases hjk : j < k
              · have hjl : j < l.length := by omega
                have d0 : wr.cell? ⟨b, off + j * 3, none⟩ = some (.string l[j].name) := (hB2.cell (p := ⟨b, off + j * 3, none⟩) hbs).trans (HC.out j hjl).1
                have d1 : wr.cell? ⟨b, off + j * 3 + 1, none⟩ = some (.string l[j].feed) := (hB2.cell (p := ⟨b, off + j * 3 + 1, none⟩) hbs).trans (HC.out j hjl).2.1
                have d2 : wr.cell? ⟨b, off + j * 3 + 2, none⟩ = some (.int .i64 l[j].sign) := (hB2.cell (p := ⟨b, off + j * 3 + 2, none⟩) hbs).trans (HC.out j hjl).2.2
                have hB3 : Below w.heap.size w (wr.alloc (.cells #[.string l[j].name, .string l[j].feed, .int .i64 l[j].sign] 40)) := below_trans hB2 (below1 _ _)
                have f1 : (wr.alloc (.cells #[.string l[j].name, .string l[j].feed, .int .i64 l[j].sign] 40)).cell? ⟨wo.heap.size, 1, none⟩ = some (.string l[k].feed) := keep_cell (below1 _ _) hf0
                cases he : (l[j].feed.toList == l[k].feed.toList)
                · have HF : Hid (ActFree l k hlt (j + 1)) := FreeOf.succ hF hjl he
                  clear hF
                  go_wp2
                  go_roundw
                  case rel => exact ⟨j + 1, by omega, by go_num, HF.out, f1, hB3⟩
                  case measure => simp [intOf]; omega
                · have H : Hid (actorsB l = false) := actors_twice hjk hlt he
                  clear hF
                  go_wp2
                  go_ret
                  exact ⟨ret_bool H.out.symm, hB3⟩
              · have HT2 : ActTo l (k + 1) := by
                  obtain rfl : j = k := by omega
                  exact HT.out.step hlt H0.out H1.out h2 h3 HA.out hF
                clear hF
                go_wp2
                go_roundw
                case rel => exact ⟨k + 1, by omega, by go_num, HT2, hB2⟩
                case measure => simp [intOf]; omega
        · have H : Hid (actorsB l = true) := by
            obtain rfl : k = l.length := by omega
            exact goodB_yes h6 hT
          clear hT hc hs
          go_wp2
          go_ret
          exact ⟨ret_bool H.out.symm, hB⟩
    · rw [show actorsB l = false from goodB_long (by omega)]
      clear hc hs
      go_enter Tryd.func19, Tryd.ntmps19
      go_wp2
      go_ret
      exact ⟨rfl, Below.refl _ _⟩
end Go.Proofs.YtipalcmfhmmdiaaDoor
