/- The walks of the reference's NewItems and GoneKeys. Condition: the slices read as the lists, texts are no longer than a machine holds. -/
import Derived.Test.YtlmpkajnbdhppaaNewI
import Derived.Test.YtlmpkajnbdhppaaWith
import Derived.Test.YtlmpkajnbdhppaaDrawOwn
namespace Go.Proofs.Ytlmpkajnbdhppaa
open Go.RowKit

def Fed2 (b a : List Itm) (k : Nat) : Prop := 0 < k → feedB b = true ∧ feedB a = true
theorem Fed2.zero (b a : List Itm) : Fed2 b a 0 := fun h => absurd h (by omega)
theorem Fed2.yes {b a : List Itm} (h : feedB b = true) (k : feedB a = true) (n : Nat) : Fed2 b a n := fun _ => ⟨h, k⟩
theorem with_none {l : List Itm} {k : List UInt8} (h : feedB l = true) (hn : l.find? (keyB k) = none) : withL l k = none := (with_ok h).trans hn
theorem with_some {l : List Itm} {k : List UInt8} {y : Itm} (h : feedB l = true) (hn : l.find? (keyB k) = some y) : withL l k = some y := (with_ok h).trans hn
theorem Try.emptyItm (w : World) : (w.alloc (.cells #[] 30)).ownsRow w.heap.size 30 4 (.slice (some ⟨w.heap.size, 0, none⟩) 0 0) 0 (itmS.cells []) := World.ownsRow_lit _ _ _ (Nat.le_refl _) (by simp [maxLen]) (by simp)
theorem Try.emptyStr (w : World) : (w.alloc (.cells #[] 9)).ownsRow w.heap.size 9 1 (.slice (some ⟨w.heap.size, 0, none⟩) 0 0) 0 (strS.cells []) := World.ownsRow_lit _ _ _ (Nat.le_refl _) (by simp [maxLen]) (by simp)

set_option maxRecDepth 100000 in
set_option maxHeartbeats 3200000 in
theorem s_NewItems (vb va : Value) (lb la : List Itm) (w : World) (hb : Sl itmS w vb lb) (ha : Sl itmS w va la) (sb : SzL lb) (sa : SzL la) :
    Calls Try.prog 41 #[vb, va] w (ItmsRet (newL lb la) w) := by
  obtain ⟨i0, hi, hz0, hz1, hz2⟩ := info_parts Try.infoItm
  obtain ⟨A, cap, rfl⟩ : ∃ A cap, va = .slice A la.length cap := by obtain ⟨a, c, h, _⟩ := ha; exact ⟨a, c, h⟩
  have hm := ha.len
  go_enter Try.func41, Try.ntmps41
  go_wp2_with fail
  go_loopw [5, 6] (fun V I wr => ∃ (k : Nat) (o : List Itm) (uV : Value), uV = V ∧ I = .int .i64 k ∧ k ≤ la.length ∧ FrTo lb la k o ∧ Fed2 lb la k ∧ wr.ownsRow w.heap.size 30 4 uV o.length (itmS.cells o) ∧ Below w.heap.size w wr) (fun _ I _ => la.length - (intOf I).toNat)
  case atStart => exact ⟨0, [], _, rfl, rfl, Nat.zero_le _, FrTo.zero _ _, Fed2.zero _ _, Try.emptyItm _, below1 _ _⟩
  case round =>
    obtain ⟨wo, rfl⟩ : ∃ wo : World, wo = wr := ⟨_, rfl⟩
    obtain ⟨k, o, uV, rfl, rfl, hk, hT, hF2, hown, hB⟩ := hrel
    have q0 : (0 : Int) ≤ (k : Int) := by omega
    by_cases hlt : k < la.length
    · have q1 : (k : Int) < (la.length : Int) := by omega
      have q2 : decide ((k : Int) < (la.length : Int)) = true := by simp; omega
      by_cases hfg : feedB lb = true ∧ feedB la = true
      · obtain ⟨hf, hg⟩ := hfg
        have h8 := (feed_iff.1 hg).1
        have HF := Lib.hid hf
        have HG := Lib.hid hg
        clear hf hg hF2
        obtain ⟨b, off, c', hv, hcap, hbs, hc⟩ := SlItm.open ha (by omega)
        injection hv with hv1 _ hv3
        subst hv1; subst hv3
        obtain ⟨hc0, hc1, hc2, hc3⟩ := hc k hlt
        have ho7 : o.length ≤ k := hT.2
        clear hc
        go_wp2_with fail
        refine (s_FeedValid _ lb _ (hb.mono hB) sb).mono ?_
        rintro e w1 ⟨rfl, hb1⟩
        rw [HF.out]
        replace hB := below_trans hB hb1
        replace hown := owns_below hown hb1
        clear hb1
        go_wp2_with fail
        refine (s_FeedValid _ la _ (ha.mono hB) sa).mono ?_
        rintro e w2 ⟨rfl, hb2⟩
        rw [HG.out]
        replace hB := below_trans hB hb2
        replace hown := owns_below hown hb2
        have c0 := keep_cell hB hc0
        have c1 := keep_cell hB hc1
        have c2 := keep_cell hB hc2
        have c3 := keep_cell hB hc3
        clear hb2
        go_wp2_with fail
        refine (s_ItemWith _ lb la[k].key _ (hb.mono hB) sb).mono ?_
        rintro e w3 ⟨rfl, hb3⟩
        replace hB := below_trans hB hb3
        replace hown := owns_below hown hb3
        clear c0 c1 c2 c3
        have c0 := keep_cell hB hc0
        have c1 := keep_cell hB hc1
        have c2 := keep_cell hB hc2
        have c3 := keep_cell hB hc3
        clear hb3 hc0 hc1 hc2 hc3
        rcases keyNo_find lb la[k].key.toList with ⟨n1, _, n3, _⟩ | ⟨j, hj, n1, _, _, n3, _⟩
        · rw [with_none HF.out n3]
          dsimp only [Option.getD, Option.isSome, itmV, noItm]
          have HT := Lib.hid (hT.new hlt n1)
          have e0 := keep_cell (below1 w3 (.cells #[.string ⟨#[]⟩, .string ⟨#[]⟩, .string ⟨#[]⟩, .int .i64 0] 30)) c0
          have e1 := keep_cell (below1 w3 (.cells #[.string ⟨#[]⟩, .string ⟨#[]⟩, .string ⟨#[]⟩, .int .i64 0] 30)) c1
          have e2 := keep_cell (below1 w3 (.cells #[.string ⟨#[]⟩, .string ⟨#[]⟩, .string ⟨#[]⟩, .int .i64 0] 30)) c2
          have e3 := keep_cell (below1 w3 (.cells #[.string ⟨#[]⟩, .string ⟨#[]⟩, .string ⟨#[]⟩, .int .i64 0] 30)) c3
          have hnew := heap_alloc_new (w3.alloc (.cells #[.string ⟨#[]⟩, .string ⟨#[]⟩, .string ⟨#[]⟩, .int .i64 0] 30)) (.cells (itmS.enc la[k]).toArray 30)
          rw [World.size_alloc] at hnew
          replace hown := hown.alloc (.cells #[.string ⟨#[]⟩, .string ⟨#[]⟩, .string ⟨#[]⟩, .int .i64 0] 30)
          replace hB := hB.alloc hB.size (.cells #[.string ⟨#[]⟩, .string ⟨#[]⟩, .string ⟨#[]⟩, .int .i64 0] 30)
          clear hT n1 n3
          go_wp2_with (at_builtin; refine wpList_app_sl (S := itmS) rfl _ _ 23 rfl w.heap.size 30 i0 (.agg #[.string ⟨#[]⟩, .string ⟨#[]⟩, .string ⟨#[]⟩, .int .i64 0]) 56 Try.underlying23 hi hz0 hz1 hz2 rfl _ _ _ rfl (hown.alloc _) [la[k]] (one_sl (S := itmS) (x := la[k]) hnew) (by simp [maxLen]; omega) (by simp; omega) (by have := hB.size; rw [World.size_alloc]; omega) ?_; intro v7 w7 hown7 hgrow7 hat7; clear hat7)
          have hB7 : Below w.heap.size w w7 := (hB.alloc hB.size _).grown hgrow7 (by have := hB.size; rw [World.size_alloc]; omega) (fun g hg => (hown.lt g hg).1)
          go_roundw
          case rel => exact ⟨k + 1, o ++ [la[k]], _, rfl, by go_num, by omega, HT.out, Fed2.yes HF.out HG.out _, by rw [List.length_append, itmS.cells_append]; exact hown7, hB7⟩
          case measure => simp [intOf]; omega
        · rw [with_some HF.out n3]
          dsimp only [Option.getD, Option.isSome, itmV, noItm]
          have HT := Lib.hid (hT.old hlt n1)
          replace hown := hown.alloc (.cells #[.string lb[j].key, .string lb[j].title, .string lb[j].body, .int .i64 lb[j].day] 30)
          replace hB := hB.alloc hB.size (.cells #[.string lb[j].key, .string lb[j].title, .string lb[j].body, .int .i64 lb[j].day] 30)
          clear hT n1 n3
          go_wp2_with fail
          go_roundw
          case rel => exact ⟨k + 1, o, _, rfl, by go_num, by omega, HT.out, Fed2.yes HF.out HG.out _, hown, hB⟩
          case measure => simp [intOf]; omega
      · have ho0 : o = [] := by
          have hk0 : k = 0 := by
            rcases Nat.eq_zero_or_pos k with h | h
            · exact h
            · exact absurd (hF2 h) hfg
          have := hT.2
          exact List.eq_nil_of_length_eq_zero (by omega)
        have H : Hid (o = newL lb la) := by
          show o = newL lb la
          rw [ho0]; unfold newL; rw [if_neg hfg]
        clear ho0 hT hF2
        cases hf : feedB lb
        · have HF := Lib.hid hf
          clear hf hfg
          go_wp2_with fail
          refine (s_FeedValid _ lb _ (hb.mono hB) sb).mono ?_
          rintro e w1 ⟨rfl, hb1⟩
          rw [HF.out]
          replace hB := below_trans hB hb1
          replace hown := owns_below hown hb1
          go_wp2_with fail
          go_ret
          exact ItmsRet.mk (by rw [← H.out]; exact hown) hB
        · have HF := Lib.hid hf
          have HG : Hid (feedB la = false) := by
            show _ = _
            cases hg : feedB la
            · rfl
            · exact absurd ⟨hf, hg⟩ hfg
          clear hf hfg
          go_wp2_with fail
          refine (s_FeedValid _ lb _ (hb.mono hB) sb).mono ?_
          rintro e w1 ⟨rfl, hb1⟩
          rw [HF.out]
          replace hB := below_trans hB hb1
          replace hown := owns_below hown hb1
          clear hb1
          go_wp2_with fail
          refine (s_FeedValid _ la _ (ha.mono hB) sa).mono ?_
          rintro e w2 ⟨rfl, hb2⟩
          rw [HG.out]
          replace hB := below_trans hB hb2
          replace hown := owns_below hown hb2
          go_wp2_with fail
          go_ret
          exact ItmsRet.mk (by rw [← H.out]; exact hown) hB
    · have q1 : ¬ (k : Int) < (la.length : Int) := by omega
      have q2 : decide ((k : Int) < (la.length : Int)) = false := by simp; omega
      have H : Hid (o = newL lb la) := by
        show o = newL lb la
        obtain rfl : k = la.length := by omega
        rcases Nat.eq_zero_or_pos la.length with h0 | h0
        · obtain rfl := List.eq_nil_of_length_eq_zero h0
          have := hT.all
          rw [this]; unfold newL; split <;> rfl
        · rw [newL_yes (hF2 h0).1 (hF2 h0).2]; exact hT.all
      clear hT hF2
      go_wp2_with fail
      go_ret
      exact ItmsRet.mk (by rw [← H.out]; exact hown) hB

theorem ex_row {w w0 w' : World} {rb : Nat} {row : Option Nat} (hE : Ex (· = rb) w w0) (hg : w0.grownBy w' row) (hr : ∀ g, row = some g → g = rb ∨ w.heap.size ≤ g) : Ex (· = rb) w w' :=
  ⟨hg.os.trans hE.os, hg.tape.trans hE.tape, hg.output.trans hE.output, Nat.le_trans hE.size hg.size, fun k hk hx => (hg.block k (Nat.lt_of_lt_of_le hk hE.size) (fun e => by rcases hr k e.symm with h | h; exact hx h; omega)).trans (hE.block k hk hx)⟩
set_option maxHeartbeats 1600000 in
theorem s_GoneKeys (vb va : Value) (lb la : List Itm) (w : World) (hb : Sl itmS w vb lb) (ha : Sl itmS w va la) (sb : SzL lb) (sa : SzL la) :
    Calls Try.prog 17 #[vb, va] w (TextsRet (goneL lb la) w) := by
  obtain ⟨i0, hi, hz0, hz1, hz2⟩ := info_parts Try.infoStr
  have he := Try.emptyStr w
  have hw1 : Below w.heap.size w (w.alloc (.cells #[] 9)) := below1 _ _
  have ha1 := ha.mono hw1
  have hb1 := hb.mono hw1
  go_enter Try.func17, Try.ntmps17
  go_wp2_with fail
  refine (s_NewItems _ _ la lb _ ha1 hb1 sa sb).mono ?_
  rintro e w2 ⟨vn, rfl, on, hb2⟩
  have hl8 := (newL_len la lb).2
  have hG : Hid (goneL lb la = (newL la lb).map (·.key)) := rfl
  generalize newL la lb = ln at on hl8 hG
  have hsn : Sl itmS w2 vn ln := Sl.of_owns on
  have hB := below_trans hw1 hb2
  have hown := owns_below he hb2
  have hbk : ∀ g, vn.ownBlock = some g → g ≠ w.heap.size := fun g hg => by have := (on.lt g hg).1; simp at this; omega
  have hrow : ∀ g, (Value.slice (some ⟨w.heap.size, 0, none⟩) 0 0).ownBlock = some g → g = w.heap.size ∨ w2.heap.size ≤ g := fun g hg => by cases hg; exact .inl rfl
  obtain ⟨A, cap, rfl⟩ : ∃ A cap, vn = .slice A ln.length cap := by obtain ⟨a, c, h, _⟩ := hsn; exact ⟨a, c, h⟩
  clear ha1 hb1 hb2 he hw1
  go_wp2_with fail
  go_loopw [5, 7] (fun V I wr => ∃ (k : Nat) (o : List ByteArray) (uV : Value), uV = V ∧ I = .int .i64 k ∧ k ≤ ln.length ∧ Hid ((ln.take k).map (·.key) = o) ∧ o.length ≤ k ∧ wr.ownsRow w.heap.size 9 1 uV o.length (strS.cells o) ∧ Hid (∀ g, uV.ownBlock = some g → g = w.heap.size ∨ w2.heap.size ≤ g) ∧ Ex (· = w.heap.size) w2 wr ∧ Below w.heap.size w wr) (fun _ I _ => ln.length - (intOf I).toNat)
  case atStart => exact ⟨0, [], _, rfl, rfl, Nat.zero_le _, rfl, Nat.le_refl _, hown, hrow, Ex.refl _ _, hB⟩
  case round =>
    clear hown hrow hB
    obtain ⟨wo, rfl⟩ : ∃ wo : World, wo = wr := ⟨_, rfl⟩
    obtain ⟨k, o, uV, rfl, rfl, hk, hT, ho7, hown, hrow, hE, hB⟩ := hrel
    by_cases hlt : k < ln.length
    · obtain ⟨b, off, c', hv, hcap, hbs, hc⟩ := SlItm.open hsn (by omega)
      injection hv with hv1 _ hv3
      subst hv1; subst hv3
      have hne : b ≠ w.heap.size := by
        obtain ⟨g, c2, hg, hg1, _⟩ := on.form (by omega)
        injection hg with hg _ _
        injection hg with hg
        injection hg with hg _
        subst hg
        simp at hg1; omega
      have c0 := hE.cell (p := ⟨b, off + k * 4, none⟩) hne (hc k hlt).1
      have q0 : (0 : Int) ≤ (k : Int) := by omega
      have q1 : (k : Int) < (ln.length : Int) := by omega
      have HT : Hid ((ln.take (k + 1)).map (·.key) = o ++ [ln[k].key]) := by
        show _ = _
        rw [List.take_succ_eq_append_getElem hlt, List.map_append, hT.out]; rfl
      clear hc hT hne hbk
      go_wp2_with (at_builtin; refine wpList_app_sl (S := strS) rfl _ _ 35 rfl w.heap.size 9 i0 (.string ⟨#[]⟩) 16 Try.underlying35 hi hz0 hz1 hz2 rfl _ _ _ rfl (hown.alloc _) [ln[k].key] (one_sl (S := strS) (x := ln[k].key) (heap_alloc_new _ _)) (by simp [maxLen]; omega) (by simp; omega) (by have := hB.size; rw [World.size_alloc]; omega) ?_; intro v7 w7 hown7 hgrow7 hat7)
      have hB7 : Below w.heap.size w w7 := (hB.alloc hB.size _).grown hgrow7 (by have := hB.size; rw [World.size_alloc]; omega) (fun g hg => (hown.lt g hg).1)
      have hE7 : Ex (· = w.heap.size) w2 w7 := ex_row (hE.alloc _) hgrow7 hrow.out
      have hR7 : Hid (∀ g, v7.ownBlock = some g → g = w.heap.size ∨ w2.heap.size ≤ g) := fun g hg => by
        rcases hat7 with h | h
        · exact hrow.out g (h ▸ hg)
        · rw [h] at hg; cases hg; right; have := hE.size; rw [World.size_alloc]; omega
      clear hat7 hgrow7
      go_roundw
      case rel => exact ⟨k + 1, o ++ [ln[k].key], _, rfl, by go_num, by omega, HT, by simp; omega, by rw [List.length_append, strS.cells_append]; exact hown7, hR7, hE7, hB7⟩
      case measure => simp [intOf]; omega
    · have H : Hid (o = goneL lb la) := by
        show o = _
        obtain rfl : k = ln.length := by omega
        rw [hG.out, ← hT.out, List.take_length]
      clear hT hrow hbk
      go_wp2_with fail
      go_ret
      exact TextsRet.mk (by rw [← H.out]; exact hown) hB
end Go.Proofs.Ytlmpkajnbdhppaa
