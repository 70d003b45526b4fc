/- The walk of the reference's MergeFeeds. Condition: the slices read as the lists, texts are no longer than a machine holds. -/
import Derived.Test.YtlmpkajnbdhppaaNewS
import Derived.Test.YtlmpkajnbdhppaaMrgI
namespace Go.Proofs.Ytlmpkajnbdhppaa
open Go.RowKit

/-- The first k as the second feed has them. -/
def NwTo (b a : List Itm) (k : Nat) (o : List Itm) : Prop := (b.take k).map (nowOf a) = o
theorem NwTo.len {b a o : List Itm} {k : Nat} (h : NwTo b a k o) (hk : k ≤ b.length) : o.length = k := by rw [← h]; simp; omega
theorem NwTo.step {b a o : List Itm} {k : Nat} (h : NwTo b a k o) (hk : k < b.length) {y : Itm} (hy : nowOf a b[k] = y) : NwTo b a (k + 1) (o ++ [y]) := by unfold NwTo; rw [map_take_step b a k hk, hy, h]

set_option maxRecDepth 100000 in
set_option maxHeartbeats 3200000 in
theorem s_MergeFeeds (vb va : Value) (lb la : List Itm) (w : World) (hb : Sl itmS w vb lb) (ha : Sl itmS w va la) (sb : SzL lb) (sa : SzL la) :
    Calls Try.prog 20 #[vb, va] w (ItmsRet (mergeL lb la) w) := by
  obtain ⟨i0, hi, hz0, hz1, hz2⟩ := info_parts Try.infoItm
  obtain ⟨A, cap, rfl⟩ : ∃ A cap, vb = .slice A lb.length cap := by obtain ⟨a, c, h, _⟩ := hb; exact ⟨a, c, h⟩
  have hm := hb.len
  go_enter Try.func20, Try.ntmps20
  go_wp2_with fail
  go_loopw [5, 6] (fun V I wr => ∃ (k : Nat) (o : List Itm) (uV : Value), uV = V ∧ I = .int .i64 k ∧ k ≤ lb.length ∧ Hid (NwTo lb la k o) ∧ Fed2 lb la k ∧ o.length ≤ k ∧ wr.ownsRow w.heap.size 30 4 uV o.length (itmS.cells o) ∧ Below w.heap.size w wr) (fun _ I _ => lb.length - (intOf I).toNat)
  case atStart => exact ⟨0, [], _, rfl, rfl, Nat.zero_le _, rfl, Fed2.zero _ _, Nat.le_refl _, Try.emptyItm _, below1 _ _⟩
  case round =>
    obtain ⟨wo, rfl⟩ : ∃ wo : World, wo = wr := ⟨_, rfl⟩
    obtain ⟨k, o, uV, rfl, rfl, hk, hT, hF2, ho7, hown, hB⟩ := hrel
    have q0 : (0 : Int) ≤ (k : Int) := by omega
    by_cases hlt : k < lb.length ∧ (feedB lb = true ∧ feedB la = true)
    · obtain ⟨hlt, hf, hg⟩ := hlt
      have q1 : (k : Int) < (lb.length : Int) := by omega
      have q2 : decide ((k : Int) < (lb.length : Int)) = true := by simp; omega
      have h8 := (feed_iff.1 hf).1
      have HF := Lib.hid hf
      have HG := Lib.hid hg
      clear hf hg hF2
      obtain ⟨b, off, c', hv, hcap, hbs, hc⟩ := SlItm.open hb (by omega)
      injection hv with hv1 _ hv3
      subst hv1; subst hv3
      obtain ⟨hc0, hc1, hc2, hc3⟩ := hc k hlt
      clear hc
      go_wp2_with fail
      refine (s_FeedValid _ lb _ (hb.mono hB) sb).mono ?_
      rintro e w1 ⟨rfl, hb1⟩
      rw [HF.out]
      replace hB := below_trans hB hb1
      replace hown := owns_below hown hb1
      clear hb1
      go_wp2_with fail
      refine (s_FeedValid _ la _ (ha.mono hB) sa).mono ?_
      rintro e w2 ⟨rfl, hb2⟩
      rw [HG.out]
      replace hB := below_trans hB hb2
      replace hown := owns_below hown hb2
      have c0 := keep_cell hB hc0
      have c1 := keep_cell hB hc1
      have c2 := keep_cell hB hc2
      have c3 := keep_cell hB hc3
      clear hb2
      go_wp2_with fail
      refine (s_ItemWith _ la lb[k].key _ (ha.mono hB) sa).mono ?_
      rintro e w3 ⟨rfl, hb3⟩
      replace hB := below_trans hB hb3
      replace hown := owns_below hown hb3
      clear c0 c1 c2 c3
      have c0 := keep_cell hB hc0
      have c1 := keep_cell hB hc1
      have c2 := keep_cell hB hc2
      have c3 := keep_cell hB hc3
      clear hb3 hc0 hc1 hc2 hc3
      rcases keyNo_find la lb[k].key.toList with ⟨_, _, n3, _⟩ | ⟨j, hj, _, _, _, n3, _⟩
      · rw [with_none HG.out n3]
        dsimp only [Option.getD, Option.isSome, itmV, noItm]
        have HT := Lib.hid (hT.out.step hlt (now_none n3))
        have e0 := keep_cell (below1 w3 (.cells #[.string ⟨#[]⟩, .string ⟨#[]⟩, .string ⟨#[]⟩, .int .i64 0] 30)) c0
        have e1 := keep_cell (below1 w3 (.cells #[.string ⟨#[]⟩, .string ⟨#[]⟩, .string ⟨#[]⟩, .int .i64 0] 30)) c1
        have e2 := keep_cell (below1 w3 (.cells #[.string ⟨#[]⟩, .string ⟨#[]⟩, .string ⟨#[]⟩, .int .i64 0] 30)) c2
        have e3 := keep_cell (below1 w3 (.cells #[.string ⟨#[]⟩, .string ⟨#[]⟩, .string ⟨#[]⟩, .int .i64 0] 30)) c3
        have hnew := heap_alloc_new (w3.alloc (.cells #[.string lb[k].key, .string lb[k].title, .string lb[k].body, .int .i64 lb[k].day] 30)) (.cells (itmS.enc lb[k]).toArray 30)
        rw [World.size_alloc] at hnew
        replace hown := hown.alloc (.cells #[.string lb[k].key, .string lb[k].title, .string lb[k].body, .int .i64 lb[k].day] 30)
        replace hB := hB.alloc hB.size (.cells #[.string lb[k].key, .string lb[k].title, .string lb[k].body, .int .i64 lb[k].day] 30)
        clear hT n3
        go_wp2_with (at_builtin; refine wpList_app_sl (S := itmS) rfl _ _ 23 rfl w.heap.size 30 i0 (.agg #[.string ⟨#[]⟩, .string ⟨#[]⟩, .string ⟨#[]⟩, .int .i64 0]) 56 Try.underlying23 hi hz0 hz1 hz2 rfl _ _ _ rfl (hown.alloc _) [lb[k]] (one_sl (S := itmS) (x := lb[k]) hnew) (by simp [maxLen]; omega) (by simp; omega) (by have := hB.size; rw [World.size_alloc]; omega) ?_; intro v7 w7 hown7 hgrow7 hat7; clear hat7)
        have hB7 : Below w.heap.size w w7 := (hB.alloc hB.size _).grown hgrow7 (by have := hB.size; rw [World.size_alloc]; omega) (fun g hg => (hown.lt g hg).1)
        go_roundw
        case rel => exact ⟨k + 1, o ++ [lb[k]], _, rfl, by go_num, by omega, HT, Fed2.yes HF.out HG.out _, by simp; omega, by rw [List.length_append, itmS.cells_append]; exact hown7, hB7⟩
        case measure => simp [intOf]; omega
      · rw [with_some HG.out n3]
        dsimp only [Option.getD, Option.isSome, itmV, noItm]
        have HT := Lib.hid (hT.out.step hlt (now_some n3))
        have hnew := heap_alloc_new (w3.alloc (.cells #[.string la[j].key, .string la[j].title, .string la[j].body, .int .i64 la[j].day] 30)) (.cells (itmS.enc la[j]).toArray 30)
        rw [World.size_alloc] at hnew
        replace hown := hown.alloc (.cells #[.string la[j].key, .string la[j].title, .string la[j].body, .int .i64 la[j].day] 30)
        replace hB := hB.alloc hB.size (.cells #[.string la[j].key, .string la[j].title, .string la[j].body, .int .i64 la[j].day] 30)
        clear hT n3
        go_wp2_with (at_builtin; refine wpList_app_sl (S := itmS) rfl _ _ 23 rfl w.heap.size 30 i0 (.agg #[.string ⟨#[]⟩, .string ⟨#[]⟩, .string ⟨#[]⟩, .int .i64 0]) 56 Try.underlying23 hi hz0 hz1 hz2 rfl _ _ _ rfl (hown.alloc _) [la[j]] (one_sl (S := itmS) (x := la[j]) hnew) (by simp [maxLen]; omega) (by simp; omega) (by have := hB.size; rw [World.size_alloc]; omega) ?_; intro v7 w7 hown7 hgrow7 hat7; clear hat7)
        have hB7 : Below w.heap.size w w7 := (hB.alloc hB.size _).grown hgrow7 (by have := hB.size; rw [World.size_alloc]; omega) (fun g hg => (hown.lt g hg).1)
        go_roundw
        case rel => exact ⟨k + 1, o ++ [la[j]], _, rfl, by go_num, by omega, HT, Fed2.yes HF.out HG.out _, by simp; omega, by rw [List.length_append, itmS.cells_append]; exact hown7, hB7⟩
        case measure => simp [intOf]; omega
    · have hn8 := (newL_len lb la).2
      have H : Hid (mergeL lb la = cut8 (o ++ newL lb la)) := by
        show mergeL lb la = _
        by_cases hfg : feedB lb = true ∧ feedB la = true
        · have hk2 : k = lb.length := by
            refine Nat.le_antisymm hk (Nat.le_of_not_lt fun h => hlt ⟨h, hfg⟩)
          subst hk2
          have : lb.map (nowOf la) = o := by have := hT.out; unfold NwTo at this; rwa [List.take_length] at this
          rw [merge_ok hfg.1 hfg.2, newL_yes hfg.1 hfg.2, this]
        · have hk0 : k = 0 := by
            rcases Nat.eq_zero_or_pos k with h | h
            · exact h
            · exact absurd (hF2 h) hfg
          have ho0 : o = [] := List.eq_nil_of_length_eq_zero (by omega)
          have hn0 : newL lb la = [] := by unfold newL; rw [if_neg hfg]
          rw [merge_bad hfg, ho0, hn0]; rfl
      have ho8 : o.length ≤ 8 := by
        by_cases hfg : feedB lb = true ∧ feedB la = true
        · have := (feed_iff.1 hfg.1).1
          omega
        · rcases Nat.eq_zero_or_pos k with h | h
          · omega
          · exact absurd (hF2 h) hfg
      clear hT hF2
      by_cases hlt2 : k < lb.length
      · have q1 : (k : Int) < (lb.length : Int) := by omega
        have q2 : decide ((k : Int) < (lb.length : Int)) = true := by simp; omega
        have hfg : ¬ (feedB lb = true ∧ feedB la = true) := fun h => hlt ⟨hlt2, h⟩
        clear hlt
        cases hf : feedB lb
        · have HF := Lib.hid hf
          clear hf hfg
          go_wp2_with fail
          refine (s_FeedValid _ lb _ (hb.mono hB) sb).mono ?_
          rintro e w1 ⟨rfl, hb1⟩
          rw [HF.out]
          replace hB := below_trans hB hb1
          replace hown := owns_below hown hb1
          clear hb1
          go_wp2_with fail
          refine (s_NewItems _ _ lb la _ (hb.mono hB) (ha.mono hB) sb sa).mono ?_
          rintro e w5 ⟨vn, rfl, on, hb5⟩
          have hsn : Sl itmS w5 vn (newL lb la) := Sl.of_owns on
          replace hown := owns_below hown hb5
          replace hB := below_trans hB hb5
          clear hb5 on
          by_cases h8 : (o ++ newL lb la).length ≤ 8
          · have hC : Hid (mergeL lb la = o ++ newL lb la) := H.out.trans (if_pos h8)
            obtain ⟨mn, hmn⟩ : ∃ mn, mn = o ++ newL lb la := ⟨_, rfl⟩
            have HL : Hid (o.length + (newL lb la).length = mn.length) := by show _ = _; rw [hmn, List.length_append]
            rw [← hmn] at h8 hC
            have H8 : decide ((8 : Int) < (mn.length : Int)) = false := by simp only [decide_eq_false_iff_not]; omega
            have H9 : ¬ (8 : Int) < (mn.length : Int) := by omega
            have HMN := Lib.hid hmn
            clear hmn
            go_wp2_with (at_builtin; refine wpList_app_sl (S := itmS) rfl _ _ 23 rfl w.heap.size 30 i0 (.agg #[.string ⟨#[]⟩, .string ⟨#[]⟩, .string ⟨#[]⟩, .int .i64 0]) 56 Try.underlying23 hi hz0 hz1 hz2 rfl _ _ _ rfl hown (newL lb la) hsn (by simp [maxLen]; omega) (by omega) hB.size ?_; intro v6 w6 hown6 hgrow6 hat6; clear hat6; rw [HL.out, ← itmS.cells_append, ← HMN.out] at hown6; obtain ⟨A6, c6, e6⟩ := own_form hown6; subst e6)
            have hB6 : Below w.heap.size w w6 := hB.grown hgrow6 hB.size (fun g hg => (hown.lt g hg).1)
            go_ret
            rw [hC.out]
            exact ItmsRet.mk hown6 hB6
          · have hC : Hid (mergeL lb la = []) := H.out.trans (if_neg h8)
            obtain ⟨mn, hmn⟩ : ∃ mn, mn = o ++ newL lb la := ⟨_, rfl⟩
            have HL : Hid (o.length + (newL lb la).length = mn.length) := by show _ = _; rw [hmn, List.length_append]
            rw [← hmn] at h8
            have H8 : decide ((8 : Int) < (mn.length : Int)) = true := by simp only [decide_eq_true_iff]; omega
            have H9 : (8 : Int) < (mn.length : Int) := by omega
            have HMN := Lib.hid hmn
            clear hmn
            go_wp2_with (at_builtin; refine wpList_app_sl (S := itmS) rfl _ _ 23 rfl w.heap.size 30 i0 (.agg #[.string ⟨#[]⟩, .string ⟨#[]⟩, .string ⟨#[]⟩, .int .i64 0]) 56 Try.underlying23 hi hz0 hz1 hz2 rfl _ _ _ rfl hown (newL lb la) hsn (by simp [maxLen]; omega) (by omega) hB.size ?_; intro v6 w6 hown6 hgrow6 hat6; clear hat6; rw [HL.out, ← itmS.cells_append, ← HMN.out] at hown6; obtain ⟨A6, c6, e6⟩ := own_form hown6; subst e6)
            have hB6 : Below w.heap.size w w6 := hB.grown hgrow6 hB.size (fun g hg => (hown.lt g hg).1)
            go_ret
            rw [hC.out]
            exact ItmsRet.mk (by
              have := Try.emptyItm w6
              exact owns_up this hB6.size) (hB6.alloc hB6.size _)
        · have HF := Lib.hid hf
          have HG : Hid (feedB la = false) := by
            show _ = _
            cases hg : feedB la
            · rfl
            · exact absurd ⟨hf, hg⟩ hfg
          clear hf hfg
          go_wp2_with fail
          refine (s_FeedValid _ lb _ (hb.mono hB) sb).mono ?_
          rintro e w1 ⟨rfl, hb1⟩
          rw [HF.out]
          replace hB := below_trans hB hb1
          replace hown := owns_below hown hb1
          clear hb1
          go_wp2_with fail
          refine (s_FeedValid _ la _ (ha.mono hB) sa).mono ?_
          rintro e w2 ⟨rfl, hb2⟩
          rw [HG.out]
          replace hB := below_trans hB hb2
          replace hown := owns_below hown hb2
          clear hb2
          go_wp2_with fail
          refine (s_NewItems _ _ lb la _ (hb.mono hB) (ha.mono hB) sb sa).mono ?_
          rintro e w5 ⟨vn, rfl, on, hb5⟩
          have hsn : Sl itmS w5 vn (newL lb la) := Sl.of_owns on
          replace hown := owns_below hown hb5
          replace hB := below_trans hB hb5
          clear hb5 on
          by_cases h8 : (o ++ newL lb la).length ≤ 8
          · have hC : Hid (mergeL lb la = o ++ newL lb la) := H.out.trans (if_pos h8)
            obtain ⟨mn, hmn⟩ : ∃ mn, mn = o ++ newL lb la := ⟨_, rfl⟩
            have HL : Hid (o.length + (newL lb la).length = mn.length) := by show _ = _; rw [hmn, List.length_append]
            rw [← hmn] at h8 hC
            have H8 : decide ((8 : Int) < (mn.length : Int)) = false := by simp only [decide_eq_false_iff_not]; omega
            have H9 : ¬ (8 : Int) < (mn.length : Int) := by omega
            have HMN := Lib.hid hmn
            clear hmn
            go_wp2_with (at_builtin; refine wpList_app_sl (S := itmS) rfl _ _ 23 rfl w.heap.size 30 i0 (.agg #[.string ⟨#[]⟩, .string ⟨#[]⟩, .string ⟨#[]⟩, .int .i64 0]) 56 Try.underlying23 hi hz0 hz1 hz2 rfl _ _ _ rfl hown (newL lb la) hsn (by simp [maxLen]; omega) (by omega) hB.size ?_; intro v6 w6 hown6 hgrow6 hat6; clear hat6; rw [HL.out, ← itmS.cells_append, ← HMN.out] at hown6; obtain ⟨A6, c6, e6⟩ := own_form hown6; subst e6)
            have hB6 : Below w.heap.size w w6 := hB.grown hgrow6 hB.size (fun g hg => (hown.lt g hg).1)
            go_ret
            rw [hC.out]
            exact ItmsRet.mk hown6 hB6
          · have hC : Hid (mergeL lb la = []) := H.out.trans (if_neg h8)
            obtain ⟨mn, hmn⟩ : ∃ mn, mn = o ++ newL lb la := ⟨_, rfl⟩
            have HL : Hid (o.length + (newL lb la).length = mn.length) := by show _ = _; rw [hmn, List.length_append]
            rw [← hmn] at h8
            have H8 : decide ((8 : Int) < (mn.length : Int)) = true := by simp only [decide_eq_true_iff]; omega
            have H9 : (8 : Int) < (mn.length : Int) := by omega
            have HMN := Lib.hid hmn
            clear hmn
            go_wp2_with (at_builtin; refine wpList_app_sl (S := itmS) rfl _ _ 23 rfl w.heap.size 30 i0 (.agg #[.string ⟨#[]⟩, .string ⟨#[]⟩, .string ⟨#[]⟩, .int .i64 0]) 56 Try.underlying23 hi hz0 hz1 hz2 rfl _ _ _ rfl hown (newL lb la) hsn (by simp [maxLen]; omega) (by omega) hB.size ?_; intro v6 w6 hown6 hgrow6 hat6; clear hat6; rw [HL.out, ← itmS.cells_append, ← HMN.out] at hown6; obtain ⟨A6, c6, e6⟩ := own_form hown6; subst e6)
            have hB6 : Below w.heap.size w w6 := hB.grown hgrow6 hB.size (fun g hg => (hown.lt g hg).1)
            go_ret
            rw [hC.out]
            exact ItmsRet.mk (by
              have := Try.emptyItm w6
              exact owns_up this hB6.size) (hB6.alloc hB6.size _)
      · have q1 : ¬ (k : Int) < (lb.length : Int) := by omega
        have q2 : decide ((k : Int) < (lb.length : Int)) = false := by simp; omega
        clear hlt
        go_wp2_with fail
        refine (s_NewItems _ _ lb la _ (hb.mono hB) (ha.mono hB) sb sa).mono ?_
        rintro e w5 ⟨vn, rfl, on, hb5⟩
        have hsn : Sl itmS w5 vn (newL lb la) := Sl.of_owns on
        replace hown := owns_below hown hb5
        replace hB := below_trans hB hb5
        clear hb5 on
        by_cases h8 : (o ++ newL lb la).length ≤ 8
        · have hC : Hid (mergeL lb la = o ++ newL lb la) := H.out.trans (if_pos h8)
          obtain ⟨mn, hmn⟩ : ∃ mn, mn = o ++ newL lb la := ⟨_, rfl⟩
          have HL : Hid (o.length + (newL lb la).length = mn.length) := by show _ = _; rw [hmn, List.length_append]
          rw [← hmn] at h8 hC
          have H8 : decide ((8 : Int) < (mn.length : Int)) = false := by simp only [decide_eq_false_iff_not]; omega
          have H9 : ¬ (8 : Int) < (mn.length : Int) := by omega
          have HMN := Lib.hid hmn
          clear hmn
          go_wp2_with (at_builtin; refine wpList_app_sl (S := itmS) rfl _ _ 23 rfl w.heap.size 30 i0 (.agg #[.string ⟨#[]⟩, .string ⟨#[]⟩, .string ⟨#[]⟩, .int .i64 0]) 56 Try.underlying23 hi hz0 hz1 hz2 rfl _ _ _ rfl hown (newL lb la) hsn (by simp [maxLen]; omega) (by omega) hB.size ?_; intro v6 w6 hown6 hgrow6 hat6; clear hat6; rw [HL.out, ← itmS.cells_append, ← HMN.out] at hown6; obtain ⟨A6, c6, e6⟩ := own_form hown6; subst e6)
          have hB6 : Below w.heap.size w w6 := hB.grown hgrow6 hB.size (fun g hg => (hown.lt g hg).1)
          go_ret
          rw [hC.out]
          exact ItmsRet.mk hown6 hB6
        · have hC : Hid (mergeL lb la = []) := H.out.trans (if_neg h8)
          obtain ⟨mn, hmn⟩ : ∃ mn, mn = o ++ newL lb la := ⟨_, rfl⟩
          have HL : Hid (o.length + (newL lb la).length = mn.length) := by show _ = _; rw [hmn, List.length_append]
          rw [← hmn] at h8
          have H8 : decide ((8 : Int) < (mn.length : Int)) = true := by simp only [decide_eq_true_iff]; omega
          have H9 : (8 : Int) < (mn.length : Int) := by omega
          have HMN := Lib.hid hmn
          clear hmn
          go_wp2_with (at_builtin; refine wpList_app_sl (S := itmS) rfl _ _ 23 rfl w.heap.size 30 i0 (.agg #[.string ⟨#[]⟩, .string ⟨#[]⟩, .string ⟨#[]⟩, .int .i64 0]) 56 Try.underlying23 hi hz0 hz1 hz2 rfl _ _ _ rfl hown (newL lb la) hsn (by simp [maxLen]; omega) (by omega) hB.size ?_; intro v6 w6 hown6 hgrow6 hat6; clear hat6; rw [HL.out, ← itmS.cells_append, ← HMN.out] at hown6; obtain ⟨A6, c6, e6⟩ := own_form hown6; subst e6)
          have hB6 : Below w.heap.size w w6 := hB.grown hgrow6 hB.size (fun g hg => (hown.lt g hg).1)
          go_ret
          rw [hC.out]
          exact ItmsRet.mk (by
            have := Try.emptyItm w6
            exact owns_up this hB6.size) (hB6.alloc hB6.size _)
end Go.Proofs.Ytlmpkajnbdhppaa
