/- The walk of the program's MergeFeeds. Condition: the slices read as the lists, texts are no longer than a machine holds. -/
import Derived.Test.YtlmpkajnbdhppaaNewI
import Derived.Test.YtlmpkajnbdhppaaMrgP
import Derived.Test.YtlmpkajnbdhppaaCpItem
namespace Go.Proofs.Ytlmpkajnbdhppaa
open Go.RowKit

theorem owns_up {w : World} {base base' : Nat} {e : TypeId} {size : Nat} {v : Value} {n : Nat} {xs : List Value} (h : w.ownsRow base' e size v n xs) (hb : base ≤ base') : w.ownsRow base e size v n xs := by
  rcases h with ⟨h1, h2 | ⟨g, cap, cur, h3, h4, h5⟩⟩
  · exact ⟨h1, .inl h2⟩
  · exact ⟨h1, .inr ⟨g, cap, cur, h3, Nat.le_trans hb h4, h5⟩⟩
theorem own_form {w : World} {base : Nat} {e : TypeId} {size : Nat} {v : Value} {n : Nat} {xs : List Value} (h : w.ownsRow base e size v n xs) : ∃ A c, v = .slice A n c := by
  rcases h.2 with ⟨rfl, h0⟩ | ⟨g, cap, cur, rfl, _⟩
  · exact ⟨none, 0, by rw [h0]⟩
  · exact ⟨_, _, rfl⟩
set_option maxHeartbeats 3200000 in
theorem i_MergeFeeds (vb va : Value) (lb la : List Itm) (w : World) (hb : Sl itmS w vb lb) (ha : Sl itmS w va la) (sb : SzL lb) (sa : SzL la) :
    Calls Try.prog 22 #[vb, va] w (ItmsRet (mergeL lb la) w) := by
  obtain ⟨i0, hi, hz0, hz1, hz2⟩ := info_parts Try.infoItm
  cases hf : feedB lb
  · rw [merge_bad (by rw [hf]; simp)]
    go_enter Try.func22, Try.ntmps22
    go_wp2_with fail
    refine (i_FeedValid _ lb _ hb sb).mono ?_
    rintro e w1 ⟨rfl, hb1⟩
    rw [hf]
    go_wp2_with fail
    go_ret
    exact ItmsRet.mk (World.ownsRow_nil _ _ _ _) hb1
  cases hg : feedB la
  · rw [merge_bad (by rw [hg]; simp)]
    have HF := Lib.hid hf
    have HG := Lib.hid hg
    clear hf hg
    go_enter Try.func22, Try.ntmps22
    go_wp2_with fail
    refine (i_FeedValid _ lb _ hb sb).mono ?_
    rintro e w1 ⟨rfl, hb1⟩
    rw [HF.out]
    have ha1 := ha.mono hb1
    go_wp2_with fail
    refine (i_FeedValid _ la _ ha1 sa).mono ?_
    rintro e w2 ⟨rfl, hb2⟩
    rw [HG.out]
    go_wp2_with fail
    go_ret
    exact ItmsRet.mk (World.ownsRow_nil _ _ _ _) (below_trans hb1 hb2)
  rw [merge_ok hf hg]
  have h8b := (feed_iff.1 hf).1
  have h8a := (feed_iff.1 hg).1
  have HN := Lib.hid (newL_yes hf hg)
  have HF := Lib.hid hf
  have HG := Lib.hid hg
  clear hf hg
  obtain ⟨A2, cap2, rfl⟩ : ∃ A cap, va = .slice A la.length cap := by obtain ⟨a, c, h, _⟩ := ha; exact ⟨a, c, h⟩
  go_enter Try.func22, Try.ntmps22
  go_wp2_with fail
  refine (i_FeedValid _ lb _ hb sb).mono ?_
  rintro e w1 ⟨rfl, hb1⟩
  rw [HF.out]
  have ha1 := ha.mono hb1
  go_wp2_with fail
  refine (i_FeedValid _ la _ ha1 sa).mono ?_
  rintro e w2 ⟨rfl, hb2⟩
  rw [HG.out]
  have hB := below_trans hb1 hb2
  clear ha1 hb1 hb2
  go_wp2_with fail
  refine (copy_Item _ lb _ (hb.mono hB) (by omega)).mono ?_
  rintro e w3 ⟨vc, rfl, hown, hb3⟩
  replace hown := owns_up hown hB.size
  replace hB := below_trans hB hb3
  have hslc : Sl itmS w3 vc lb := Sl.of_owns hown
  obtain ⟨A, cap, rfl⟩ : ∃ A cap, vc = .slice A lb.length cap := by obtain ⟨a, c, h, _⟩ := hslc; exact ⟨a, c, h⟩
  clear hb3 hslc
  go_wp2_with fail
  go_loopw [21] (fun I wr => ∃ (k : Nat) (m : List Itm), I = .int .i64 k ∧ k ≤ lb.length ∧ Hid (m = mixL lb la k) ∧ wr.ownsRow w.heap.size 30 4 (.slice A lb.length cap) lb.length (itmS.cells m) ∧ Below w.heap.size w wr) (fun I _ => lb.length - (intOf I).toNat)
  case atStart => exact ⟨0, lb, rfl, Nat.zero_le _, (mixL_zero _ _).symm, hown, hB⟩
  case round =>
    clear hown hB
    obtain ⟨wo, rfl⟩ : ∃ wo : World, wo = wr := ⟨_, rfl⟩
    obtain ⟨k, m, rfl, hk, hM, hown, hB⟩ := hrel
    by_cases hlt : k < lb.length
    · have hml : m.length = lb.length := by rw [hM.out, mixL_len]
      have hmk : m[k]'(by omega) = lb[k] := by
        have := mixL_at lb la k hlt (by rw [mixL_len]; exact hlt)
        rw [← this]
        congr 1
      obtain ⟨g, cap', hv, hg1, hg2⟩ := hown.form (by omega)
      injection hv with hv1 _ hv3
      subst hv1; subst hv3
      have cells : ∀ f, f < 4 → wo.cell? ⟨g, k * 4 + f, none⟩ = (itmS.enc lb[k])[f]? := fun f hf => by
        rw [hown.cellAt _ (by omega), ← hmk]
        exact itmS.cells_at m k (by omega) f hf
      have c0 : wo.cell? ⟨g, k * 4, none⟩ = some (.string lb[k].key) := cells 0 (by omega)
      have c1 : wo.cell? ⟨g, k * 4 + 1, none⟩ = some (.string lb[k].title) := cells 1 (by omega)
      have c2 : wo.cell? ⟨g, k * 4 + 2, none⟩ = some (.string lb[k].body) := cells 2 (by omega)
      have c3 : wo.cell? ⟨g, k * 4 + 3, none⟩ = some (.int .i64 lb[k].day) := cells 3 (by omega)
      have q0 : (0 : Int) ≤ (k : Int) := by omega
      have q1 : (k : Int) < (lb.length : Int) := by omega
      have hB3 : Below w.heap.size w (wo.alloc (.cells #[.string lb[k].key, .string lb[k].title, .string lb[k].body, .int .i64 lb[k].day] 30)) := below_trans hB (below1 _ _)
      clear cells hmk
      go_wp2_with fail
      refine (i_itemNumber _ la lb[k].key _ (ha.mono hB3)).mono ?_
      rintro e w4 ⟨rfl, hb4⟩
      have hB4 := below_trans hB3 hb4
      have hown4 := owns_below (hown.alloc (.cells #[.string lb[k].key, .string lb[k].title, .string lb[k].body, .int .i64 lb[k].day] 30)) hb4
      clear c0 c1 c2 c3 hb4 hown hB hB3
      rcases keyNo_find la lb[k].key.toList with ⟨n1, _, n3, _⟩ | ⟨j, hj, n1, _, _, n3, _⟩
      · rw [n1]
        have HM : Hid (m = mixL lb la (k + 1)) := by
          show m = _
          rw [mixL_same lb la k hlt (now_none n3)]; exact hM.out
        clear hM n1 n3
        go_wp2_with fail
        go_roundw
        case rel => exact ⟨k + 1, m, by go_num, by omega, HM, hown4, hB4⟩
        case measure => simp [intOf]; omega
      · rw [n1]
        obtain ⟨b2, off2, c2', hv, hcap2, hbs2, hc2⟩ := SlItm.open ha (by omega)
        injection hv with hv1 _ hv3
        subst hv1; subst hv3
        obtain ⟨hc0, hc1, hc2, hc3⟩ := hc2 j hj
        have e0 := keep_cell hB4 hc0
        have e1 := keep_cell hB4 hc1
        have e2 := keep_cell hB4 hc2
        have e3 := keep_cell hB4 hc3
        have j0 : (0 : Int) ≤ (j : Int) := by omega
        have j1 : (j : Int) < (la.length : Int) := by omega
        have HM : Hid (m.set k la[j] = mixL lb la (k + 1)) := by
          show _ = _
          rw [mixL_step lb la k hlt, now_some n3, hM.out]
        have hset := itm_set m k (by omega) la[j]
        have hfr0 := hown4.frozenAt (k * 4)
        obtain ⟨u0, hcl0⟩ := owned_cell hown4 (j := k * 4) (by omega)
        have hfr1 := hown4.frozenAt (k * 4 + 1)
        obtain ⟨u1, hcl1⟩ := owned_cell hown4 (j := k * 4 + 1) (by omega)
        have hfr2 := hown4.frozenAt (k * 4 + 2)
        obtain ⟨u2, hcl2⟩ := owned_cell hown4 (j := k * 4 + 2) (by omega)
        have hfr3 := hown4.frozenAt (k * 4 + 3)
        obtain ⟨u3, hcl3⟩ := owned_cell hown4 (j := k * 4 + 3) (by omega)
        obtain ⟨ho0, hg0⟩ := hown4.stored (k * 4) (.string la[j].key)
        have hC0 := hB4.grown hg0 hB4.size (fun k hk => by cases hk; exact hg1)
        obtain ⟨ho1, hg1'⟩ := ho0.stored (k * 4 + 1) (.string la[j].title)
        have hC1 := hC0.grown hg1' hC0.size (fun k hk => by cases hk; exact hg1)
        obtain ⟨ho2, hg2'⟩ := ho1.stored (k * 4 + 2) (.string la[j].body)
        have hC2 := hC1.grown hg2' hC1.size (fun k hk => by cases hk; exact hg1)
        obtain ⟨ho3, hg3'⟩ := ho2.stored (k * 4 + 3) (.int .i64 la[j].day)
        have hC3 := hC2.grown hg3' hC2.size (fun k hk => by cases hk; exact hg1)
        rw [← hset] at ho3
        clear hset hM n1 n3 hc0 hc1 hc2 hc3 hB4 hg0 hg1' hg2' hg3' ho0 ho1 ho2 hC0 hC1 hC2 hown4
        go_wp2_with fail
        go_roundw
        case rel => exact ⟨k + 1, m.set k la[j], by go_num, by omega, HM, ho3, hC3⟩
        case measure => simp [intOf]; omega
    · have HM : Hid (m = lb.map (nowOf la)) := by
        obtain rfl : k = lb.length := by omega
        show m = _
        rw [hM.out, mixL_all]
      have hml : m.length = lb.length := by rw [HM.out, List.length_map]
      have q1 : ¬ (k : Int) < (lb.length : Int) := by omega
      clear hM
      go_wp2_with fail
      refine (i_NewItems _ _ lb la _ (hb.mono hB) (ha.mono hB) sb sa).mono ?_
      rintro e w5 ⟨vn, rfl, on, hb5⟩
      rw [HN.out] at on
      have hf8 := fresh_len lb la
      have hsn : Sl itmS w5 vn (freshL lb la) := Sl.of_owns on
      replace hown := owns_below hown hb5
      replace hB := below_trans hB hb5
      clear hb5 on
      have hlen : lb.length + (freshL lb la).length = (m ++ freshL lb la).length := by rw [List.length_append, hml]
      obtain ⟨nn, hnn⟩ : ∃ nn, nn = freshL lb la := ⟨_, rfl⟩
      have HQ : Hid (lb.map (nowOf la) ++ freshL lb la = m ++ nn) := by show _ = _; rw [HM.out, hnn]
      rw [← hnn] at hsn hf8 hlen
      clear HM hnn
      by_cases h8 : (m ++ nn).length ≤ 8
      · have hC : Hid (cut8 (lb.map (nowOf la) ++ freshL lb la) = m ++ nn) := by show _ = _; rw [HQ.out]; exact if_pos h8
        have H8 : decide ((8 : Int) < ((m ++ nn).length : Int)) = false := by simp only [decide_eq_false_iff_not]; omega
        have H9 : ¬ (8 : Int) < ((m ++ nn).length : Int) := by omega
        generalize hmn : m ++ nn = mn at hlen h8 hC H8 H9 ⊢
        have HMN := Lib.hid hmn
        have HL := Lib.hid hlen
        clear hmn hlen
        go_wp2_with (at_builtin; refine wpList_app_sl (S := itmS) rfl _ _ 23 rfl w.heap.size 30 i0 (.agg #[.string ⟨#[]⟩, .string ⟨#[]⟩, .string ⟨#[]⟩, .int .i64 0]) 56 Try.underlying23 hi hz0 hz1 hz2 rfl _ _ _ rfl hown nn hsn (by simp [maxLen]; omega) (by omega) hB.size ?_; intro v6 w6 hown6 hgrow6 hat6; clear hat6; rw [HL.out, ← itmS.cells_append, HMN.out] at hown6; obtain ⟨A6, c6, e6⟩ := own_form hown6; subst e6)
        have hB6 : Below w.heap.size w w6 := hB.grown hgrow6 hB.size (fun g hg => (hown.lt g hg).1)
        go_ret
        rw [hC.out]
        exact ItmsRet.mk hown6 hB6
      · have hC : Hid (cut8 (lb.map (nowOf la) ++ freshL lb la) = []) := by show _ = _; rw [HQ.out]; exact if_neg h8
        have H8 : decide ((8 : Int) < ((m ++ nn).length : Int)) = true := by simp only [decide_eq_true_iff]; omega
        have H9 : (8 : Int) < ((m ++ nn).length : Int) := by omega
        generalize hmn : m ++ nn = mn at hlen h8 hC H8 H9 ⊢
        have HMN := Lib.hid hmn
        have HL := Lib.hid hlen
        clear hmn hlen
        go_wp2_with (at_builtin; refine wpList_app_sl (S := itmS) rfl _ _ 23 rfl w.heap.size 30 i0 (.agg #[.string ⟨#[]⟩, .string ⟨#[]⟩, .string ⟨#[]⟩, .int .i64 0]) 56 Try.underlying23 hi hz0 hz1 hz2 rfl _ _ _ rfl hown nn hsn (by simp [maxLen]; omega) (by omega) hB.size ?_; intro v6 w6 hown6 hgrow6 hat6; clear hat6; rw [HL.out, ← itmS.cells_append, HMN.out] at hown6; obtain ⟨A6, c6, e6⟩ := own_form hown6; subst e6)
        have hB6 : Below w.heap.size w w6 := hB.grown hgrow6 hB.size (fun g hg => (hown.lt g hg).1)
        go_ret
        rw [hC.out]
        exact ItmsRet.mk (World.ownsRow_nil _ _ _ _) hB6
end Go.Proofs.Ytlmpkajnbdhppaa
