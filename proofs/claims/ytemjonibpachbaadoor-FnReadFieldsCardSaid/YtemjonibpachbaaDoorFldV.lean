/- The walks of the program's and the reference's FieldsValid: each returns what the plain function says. Condition: the slice reads as the list, texts are no longer than a machine holds. -/
import Derived.Test.YtemjonibpachbaaDoorWordI
import Derived.Test.YtemjonibpachbaaDoorWordS
import Derived.Test.YtemjonibpachbaaDoorGood
import Derived.Test.YtemjonibpachbaaDoorLstField
import Derived.Deep.QuietTactic
import Derived.BigQuiet
import Derived.Lib.Hide
import Derived.Test.YtemjonibpachbaaDoorQuiet
namespace Go.Proofs.YtemjonibpachbaaDoor
open Go.RowKit

theorem fields_word {l : List Fld} {k : Nat} (hk : k < l.length) (h : wordB l[k].name.data.toList = false) : fieldsB l = false :=
  goodB_at hk (goodAt_bad (by rw [okBy_eq hk]; unfold fldOk; rw [h]; rfl))
theorem fields_val {l : List Fld} {k : Nat} (hk : k < l.length) (h : ¬ (0 ≤ l[k].val ∧ l[k].val ≤ 1000000000)) : fieldsB l = false :=
  goodB_at hk (goodAt_bad (by rw [okBy_eq hk]; unfold fldOk; rw [show (decide (0 ≤ l[k].val) && decide (l[k].val ≤ 1000000000)) = false by simp; omega]; simp))
theorem fields_twice {l : List Fld} {j k : Nat} (hj : j < k) (hk : k < l.length) (h : ((l[j]'(by omega)).name.toList == l[k].name.toList) = true) : fieldsB l = false :=
  goodB_at hk (goodAt_twice hk hj h)
def FldTo (l : List Fld) (k : Nat) : Prop := GoodTo (okBy fldOk l) (fun f => f.name.toList) l k
def FldFree (l : List Fld) (k : Nat) (hk : k < l.length) (j : Nat) : Prop := FreeOf (fun f : Fld => f.name.toList) l k hk j
theorem FldTo.step {l : List Fld} {k : Nat} (h : FldTo l k) (hk : k < l.length) (h1 : wordB l[k].name.data.toList = true) (h2 : 0 ≤ l[k].val) (h3 : l[k].val ≤ 1000000000) (hf : FldFree l k hk k) : FldTo l (k + 1) :=
  h.succ (goodAt_yes hk (by rw [okBy_eq hk]; unfold fldOk; rw [h1, decide_eq_true h2, decide_eq_true h3]; rfl) hf)

set_option maxHeartbeats 1600000 in
theorem i_FieldsValid (v : Value) (l : List Fld) (w : World) (h : Sl fldS w v l) (hs : ∀ y ∈ l, y.name.size ≤ 140737488355328) :
    Calls Tryd.prog 31 #[v] w fun e w' => e = .returned (.bool (fieldsB l)) ∧ Below w.heap.size w w' := by
  have hm := h.len
  rcases Nat.eq_zero_or_pos l.length with h0 | h0
  · obtain rfl := List.eq_nil_of_length_eq_zero h0
    obtain ⟨a, cap, rfl, _⟩ := h
    rw [show fieldsB [] = true from rfl]
    clear h0 hm hs
    go_enter Tryd.func31, Tryd.ntmps31
    go_wp2
    go_loop [12] (fun i => i = .int .i64 0) (fun _ => 0)
    case atStart => rfl
    case round =>
      obtain rfl := hrel
      go_wp2
      go_ret
      exact ⟨rfl, Below.refl _ _⟩
  · obtain ⟨b, off, cap, rfl, hcap, hbs, hc⟩ := SlFld.open h h0
    clear h
    by_cases h6 : l.length ≤ 6
    · go_enter Tryd.func31, Tryd.ntmps31
      go_wp2
      go_loopw [12] (fun i wr => ∃ k : Nat, k ≤ l.length ∧ i = .int .i64 k ∧ FldTo l k ∧ Below w.heap.size w wr) (fun i _ => l.length - (intOf i).toNat)
      case atStart => exact ⟨0, Nat.zero_le _, rfl, GoodTo.zero _ _ _, Below.refl _ _⟩
      case round =>
        obtain ⟨wo, rfl⟩ : ∃ wo : World, wo = wr := ⟨_, rfl⟩
        obtain ⟨k, hk, rfl, hT, hB⟩ := hrel
        by_cases hlt : k < l.length
        · have hsk := hs _ (List.getElem_mem hlt)
          have hcell0 : wo.cell? ⟨b, off + k * 2, none⟩ = some (.string l[k].name) := (hB.cell (p := ⟨b, off + k * 2, none⟩) hbs).trans (hc k hlt).1
          have hcell1 : wo.cell? ⟨b, off + k * 2 + 1, none⟩ = some (.int .i64 l[k].val) := (hB.cell (p := ⟨b, off + k * 2 + 1, none⟩) hbs).trans (hc k hlt).2
          cases hw : wordB l[k].name.data.toList
          · have H : Hid (fieldsB l = false) := fields_word hlt hw
            clear hc hs hT
            go_wp2_with (go_at_call 27; refine (i_WordValid _ _ hsk).mono ?_; rintro e w' ⟨rfl, rfl⟩; rw [hw])
            go_ret
            exact ⟨ret_bool H.out.symm, below_trans hB (below1 _ _)⟩
          · by_cases hv : 0 ≤ l[k].val ∧ l[k].val ≤ 1000000000
            · have HW := Lib.hid hw
              have HT := Lib.hid hT
              obtain ⟨v0, v1⟩ := hv
              have hb2 : Below w.heap.size w (wo.alloc (.cells #[.string l[k].name, .int .i64 l[k].val] 41)) := below_trans hB (below1 _ _)
              clear hw hT hs
              go_wp2_with (first | (go_at_call 27; refine (i_WordValid _ _ hsk).mono ?_; rintro e w' ⟨rfl, rfl⟩; rw [HW.out]) | go_in)
              go_loopw [31] (fun i wr => ∃ j : Nat, j ≤ k ∧ i = .int .i64 j ∧ FldFree l k hlt j ∧ wr.cell? ⟨wo.heap.size, 0, none⟩ = some (.string l[k].name) ∧ Below w.heap.size w wr) (fun i _ => k - (intOf i).toNat)
              case atStart => exact ⟨0, Nat.zero_le _, rfl, FreeOf.zero _ _ _ _, by simp, hb2⟩
              case round =>
                obtain ⟨j, hj, rfl, hF, hf0, hB2⟩ := hrel
                by_cases hjk : j < k
                · have hjl : j < l.length := by omega
                  have d0 : wr.cell? ⟨b, off + j * 2, none⟩ = some (.string l[j].name) := (hB2.cell (p := ⟨b, off + j * 2, none⟩) hbs).trans (hc j hjl).1
                  have d1 : wr.cell? ⟨b, off + j * 2 + 1, none⟩ = some (.int .i64 l[j].val) := (hB2.cell (p := ⟨b, off + j * 2 + 1, none⟩) hbs).trans (hc j hjl).2
                  have hB3 : Below w.heap.size w (wr.alloc (.cells #[.string l[j].name, .int .i64 l[j].val] 41)) := below_trans hB2 (below1 _ _)
                  clear hc hb2
                  have f1 : (wr.alloc (.cells #[.string l[j].name, .int .i64 l[j].val] 41)).cell? ⟨wo.heap.size, 0, none⟩ = some (.string l[k].name) := keep_cell (below1 _ _) hf0
                  cases he : (l[j].name.toList == l[k].name.toList)
                  · have HF : Hid (FldFree l k hlt (j + 1)) := FreeOf.succ hF hjl he
                    clear hF
                    go_wp2
                    go_roundw
                    case rel => exact ⟨j + 1, by omega, by go_num, HF.out, f1, hB3⟩
                    case measure => simp [intOf]; omega
                  · have H : Hid (fieldsB l = false) := fields_twice hjk hlt he
                    clear hF
                    go_wp2
                    go_ret
                    exact ⟨ret_bool H.out.symm, hB3⟩
                · have HT2 : FldTo l (k + 1) := by
                    obtain rfl : j = k := by omega
                    exact HT.out.step hlt HW.out v0 v1 hF
                  clear hc hF
                  go_wp2
                  go_roundw
                  case rel => exact ⟨k + 1, by omega, by go_num, HT2, hB2⟩
                  case measure => simp [intOf]; omega
            · have H : Hid (fieldsB l = false) := fields_val hlt hv
              have HW := Lib.hid hw
              clear hc hs hT hw
              rcases (show l[k].val < 0 ∨ (0 ≤ l[k].val ∧ 1000000000 < l[k].val) by omega) with hv | ⟨hv0, hv⟩
              · go_wp2_with (first | (go_at_call 27; refine (i_WordValid _ _ hsk).mono ?_; rintro e w' ⟨rfl, rfl⟩; rw [HW.out]) | go_in)
                go_ret
                exact ⟨ret_bool H.out.symm, below_trans hB (below1 _ _)⟩
              · have hd : decide (l[k].val ≤ 1000000000) = false := by simpa using hv
                go_wp2_with (first | (go_at_call 27; refine (i_WordValid _ _ hsk).mono ?_; rintro e w' ⟨rfl, rfl⟩; rw [HW.out]) | go_in)
                go_ret
                exact ⟨ret_bool H.out.symm, below_trans hB (below1 _ _)⟩
        · have H : Hid (fieldsB l = true) := by
            obtain rfl : k = l.length := by omega
            exact goodB_yes h6 hT
          clear hT hc hs
          go_wp2
          go_ret
          exact ⟨ret_bool H.out.symm, hB⟩
    · rw [show fieldsB l = false from goodB_long (by omega)]
      clear hc hs
      go_enter Tryd.func31, Tryd.ntmps31
      go_wp2
      go_ret
      exact ⟨rfl, Below.refl _ _⟩

set_option maxHeartbeats 1600000 in
theorem s_FieldsValid (v : Value) (l : List Fld) (w : World) (h : Sl fldS w v l) (hs : ∀ y ∈ l, y.name.size ≤ 140737488355328) :
    Calls Tryd.prog 9 #[v] w fun e w' => e = .returned (.bool (fieldsB l)) ∧ Below w.heap.size w w' := by
  have hm := h.len
  rcases Nat.eq_zero_or_pos l.length with h0 | h0
  · obtain rfl := List.eq_nil_of_length_eq_zero h0
    obtain ⟨a, cap, rfl, _⟩ := h
    rw [show fieldsB [] = true from rfl]
    clear h0 hm hs
    go_enter Tryd.func9, Tryd.ntmps9
    go_wp2
    go_loop [3] (fun i => i = .int .i64 0) (fun _ => 0)
    case atStart => rfl
    case round =>
      obtain rfl := hrel
      go_wp2
      go_ret
      exact ⟨rfl, Below.refl _ _⟩
  · obtain ⟨b, off, cap, rfl, hcap, hbs, hc⟩ := SlFld.open h h0
    clear h
    go_enter Tryd.func9, Tryd.ntmps9
    go_wp2
    go_loopw [3] (fun i wr => ∃ k : Nat, k ≤ l.length ∧ i = .int .i64 k ∧ FldTo l k ∧ Below w.heap.size w wr) (fun i _ => l.length - (intOf i).toNat)
    case atStart => exact ⟨0, Nat.zero_le _, rfl, GoodTo.zero _ _ _, Below.refl _ _⟩
    case round =>
      obtain ⟨wo, rfl⟩ : ∃ wo : World, wo = wr := ⟨_, rfl⟩
      obtain ⟨k, hk, rfl, hT, hB⟩ := hrel
      by_cases hlt : k < l.length
      · have hsk := hs _ (List.getElem_mem hlt)
        have hcell0 : wo.cell? ⟨b, off + k * 2, none⟩ = some (.string l[k].name) := (hB.cell (p := ⟨b, off + k * 2, none⟩) hbs).trans (hc k hlt).1
        have hcell1 : wo.cell? ⟨b, off + k * 2 + 1, none⟩ = some (.int .i64 l[k].val) := (hB.cell (p := ⟨b, off + k * 2 + 1, none⟩) hbs).trans (hc k hlt).2
        cases hw : wordB l[k].name.data.toList
        · have H : Hid (fieldsB l = false) := fields_word hlt hw
          clear hc hs hT
          go_wp2_with (go_at_call 25; refine (s_WordValid _ _ hsk).mono ?_; rintro e w' ⟨rfl, rfl⟩; rw [hw])
          go_ret
          exact ⟨ret_bool H.out.symm, hB⟩
        · by_cases hv : 0 ≤ l[k].val ∧ l[k].val ≤ 1000000000
          · have HW := Lib.hid hw
            have HT := Lib.hid hT
            obtain ⟨v0, v1⟩ := hv
            clear hw hT hs
            go_wp2_with (first | (go_at_call 25; refine (s_WordValid _ _ hsk).mono ?_; rintro e w' ⟨rfl, rfl⟩; rw [HW.out]) | go_in)
            go_loopw [4] (fun i wr => ∃ j : Nat, j ≤ k ∧ i = .int .i64 j ∧ FldFree l k hlt j ∧ Below w.heap.size w wr) (fun i _ => k - (intOf i).toNat)
            case atStart => exact ⟨0, Nat.zero_le _, rfl, FreeOf.zero _ _ _ _, hB⟩
            case round =>
              obtain ⟨j, hj, rfl, hF, hB2⟩ := hrel
              by_cases hjk : j < k
              · have hjl : j < l.length := by omega
                have d0 : wr.cell? ⟨b, off + j * 2, none⟩ = some (.string l[j].name) := (hB2.cell (p := ⟨b, off + j * 2, none⟩) hbs).trans (hc j hjl).1
                have d1 : wr.cell? ⟨b, off + k * 2, none⟩ = some (.string l[k].name) := (hB2.cell (p := ⟨b, off + k * 2, none⟩) hbs).trans (hc k hlt).1
                have q0 : (0 : Int) ≤ (j : Int) := by omega
                have q1 : (j : Int) < (l.length : Int) := by omega
                have q2 : (0 : Int) ≤ (k : Int) := by omega
                have q3 : (k : Int) < (l.length : Int) := by omega
                clear hc
                cases he : (l[j].name.toList == l[k].name.toList)
                · have HF : Hid (FldFree l k hlt (j + 1)) := FreeOf.succ hF hjl he
                  clear hF
                  go_wp2
                  go_quiet (fail)
                  go_wp2
                  go_roundw
                  case rel => exact ⟨j + 1, by omega, by go_num, HF.out, belowN hB2 _⟩
                  case measure => simp [intOf]; omega
                · have H : Hid (fieldsB l = false) := fields_twice hjk hlt he
                  clear hF
                  go_wp2
                  go_quiet (fail)
                  go_wp2
                  go_ret
                  exact ⟨ret_bool H.out.symm, belowN hB2 _⟩
              · have HT2 : FldTo l (k + 1) := by
                  obtain rfl : j = k := by omega
                  exact HT.out.step hlt HW.out v0 v1 hF
                clear hc hF
                go_wp2
                go_roundw
                case rel => exact ⟨k + 1, by omega, by go_num, HT2, hB2⟩
                case measure => simp [intOf]; omega
          · have H : Hid (fieldsB l = false) := fields_val hlt hv
            have HW := Lib.hid hw
            clear hc hs hT hw
            rcases (show l[k].val < 0 ∨ (0 ≤ l[k].val ∧ 1000000000 < l[k].val) by omega) with hv | ⟨hv0, hv⟩
            · go_wp2_with (first | (go_at_call 25; refine (s_WordValid _ _ hsk).mono ?_; rintro e w' ⟨rfl, rfl⟩; rw [HW.out]) | go_in)
              go_ret
              exact ⟨ret_bool H.out.symm, hB⟩
            · have hd : decide (l[k].val ≤ 1000000000) = false := by simpa using hv
              go_wp2_with (first | (go_at_call 25; refine (s_WordValid _ _ hsk).mono ?_; rintro e w' ⟨rfl, rfl⟩; rw [HW.out]) | go_in)
              go_ret
              exact ⟨ret_bool H.out.symm, hB⟩
      · obtain rfl : k = l.length := by omega
        by_cases h6 : l.length ≤ 6
        · have H : Hid (fieldsB l = true) := goodB_yes h6 hT
          clear hT hc hs
          go_wp2
          go_ret
          exact ⟨ret_bool (by rw [H.out]; simp; omega), hB⟩
        · have H : Hid (fieldsB l = false) := goodB_long (by omega)
          clear hT hc hs
          go_wp2
          go_ret
          exact ⟨ret_bool (by rw [H.out]; simp; omega), hB⟩
end Go.Proofs.YtemjonibpachbaaDoor
