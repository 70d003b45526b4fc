/- The walks of the program's NewItems and GoneKeys. Condition: the slices read as the lists, texts are no longer than a machine holds. -/
import Derived.Test.YtlmpkajnbdhppaaFeedV
import Derived.Laws.OwnMore
namespace Go.Proofs.Ytlmpkajnbdhppaa
open Go.RowKit

/-- A list of items in a row of the call's own; a list of texts. -/
def ItmsRet (out : List Itm) (w : World) (e : Ending) (w' : World) : Prop := ∃ v, e = .returned v ∧ w'.ownsRow w.heap.size 30 4 v out.length (itmS.cells out) ∧ Below w.heap.size w w'
theorem ItmsRet.mk {out : List Itm} {w w' : World} {v : Value} (ho : w'.ownsRow w.heap.size 30 4 v out.length (itmS.cells out)) (hb : Below w.heap.size w w') : ItmsRet out w (.returned v) w' := ⟨v, rfl, ho, hb⟩
def TextsRet (out : List ByteArray) (w : World) (e : Ending) (w' : World) : Prop := ∃ v, e = .returned v ∧ w'.ownsRow w.heap.size 9 1 v out.length (strS.cells out) ∧ Below w.heap.size w w'
theorem TextsRet.mk {out : List ByteArray} {w w' : World} {v : Value} (ho : w'.ownsRow w.heap.size 9 1 v out.length (strS.cells out)) (hb : Below w.heap.size w w') : TextsRet out w (.returned v) w' := ⟨v, rfl, ho, hb⟩
theorem newL_no1 {b a : List Itm} (h : feedB b = false) : newL b a = [] := by unfold newL; rw [if_neg (by rw [h]; simp)]
theorem newL_no2 {b a : List Itm} (h : feedB a = false) : newL b a = [] := by unfold newL; rw [if_neg (by rw [h]; simp)]
theorem newL_yes {b a : List Itm} (h : feedB b = true) (k : feedB a = true) : newL b a = freshL b a := by unfold newL; rw [if_pos ⟨h, k⟩]
/-- The new ones among the first k. -/
def FrTo (b a : List Itm) (k : Nat) (o : List Itm) : Prop := freshL b (a.take k) = o ∧ o.length ≤ k
theorem FrTo.zero (b a : List Itm) : FrTo b a 0 [] := ⟨by simp [freshL], Nat.le_refl _⟩
theorem FrTo.old {b a o : List Itm} {k j : Nat} (h : FrTo b a k o) (hk : k < a.length) (hj : keyNo b a[k].key.toList = j) : FrTo b a (k + 1) o := ⟨by rw [fresh_old hk hj]; exact h.1, by have := h.2; omega⟩
theorem FrTo.new {b a o : List Itm} {k : Nat} (h : FrTo b a k o) (hk : k < a.length) (hj : keyNo b a[k].key.toList = -1) : FrTo b a (k + 1) (o ++ [a[k]]) := ⟨by rw [fresh_new hk hj, h.1], by have := h.2; simp; omega⟩
theorem FrTo.all {b a o : List Itm} (h : FrTo b a a.length o) : o = freshL b a := by rw [← h.1, List.take_length]
theorem Try.infoStr : (Try.prog.info? 9).map (fun i => (i.zero, i.size, i.bytes)) = some (some (.string ⟨#[]⟩), 1, 16) := by kernel_rfl


set_option maxHeartbeats 3200000 in
theorem i_NewItems (vb va : Value) (lb la : List Itm) (w : World) (hb : Sl itmS w vb lb) (ha : Sl itmS w va la) (sb : SzL lb) (sa : SzL la) :
    Calls Try.prog 13 #[vb, va] w (ItmsRet (newL lb la) w) := by
  obtain ⟨i0, hi, hz0, hz1, hz2⟩ := info_parts Try.infoItm
  cases hf : feedB lb
  · rw [newL_no1 hf]
    go_enter Try.func13, Try.ntmps13
    go_wp2_with fail
    refine (i_FeedValid _ lb _ hb sb).mono ?_
    rintro e w1 ⟨rfl, hb1⟩
    rw [hf]
    go_wp2_with fail
    go_ret
    exact ItmsRet.mk (World.ownsRow_nil _ _ _ _) hb1
  cases hg : feedB la
  · rw [newL_no2 hg]
    have HF := Lib.hid hf
    have HG := Lib.hid hg
    clear hf hg
    go_enter Try.func13, Try.ntmps13
    go_wp2_with fail
    refine (i_FeedValid _ lb _ hb sb).mono ?_
    rintro e w1 ⟨rfl, hb1⟩
    rw [HF.out]
    have ha1 := ha.mono hb1
    go_wp2_with fail
    refine (i_FeedValid _ la _ ha1 sa).mono ?_
    rintro e w2 ⟨rfl, hb2⟩
    rw [HG.out]
    go_wp2_with fail
    go_ret
    exact ItmsRet.mk (World.ownsRow_nil _ _ _ _) (below_trans hb1 hb2)
  rw [newL_yes hf hg]
  have h8 := (feed_iff.1 hg).1
  have HF := Lib.hid hf
  have HG := Lib.hid hg
  clear hf hg
  obtain ⟨A, cap, rfl⟩ : ∃ A cap, va = .slice A la.length cap := by obtain ⟨a, c, h, _⟩ := ha; exact ⟨a, c, h⟩
  go_enter Try.func13, Try.ntmps13
  go_wp2_with fail
  refine (i_FeedValid _ lb _ hb sb).mono ?_
  rintro e w1 ⟨rfl, hb1⟩
  rw [HF.out]
  have ha1 := ha.mono hb1
  go_wp2_with fail
  refine (i_FeedValid _ la _ ha1 sa).mono ?_
  rintro e w2 ⟨rfl, hb2⟩
  rw [HG.out]
  have hB := below_trans hb1 hb2
  have hown : w2.ownsRow w.heap.size 30 4 (.slice none 0 0) 0 (itmS.cells []) := World.ownsRow_nil _ _ _ _
  clear ha1 hb1 hb2
  go_wp2_with fail
  go_loopw [5, 18] (fun V I wr => ∃ (k : Nat) (o : List Itm) (uV : Value), uV = V ∧ I = .int .i64 k ∧ k ≤ la.length ∧ FrTo lb la k o ∧ wr.ownsRow w.heap.size 30 4 uV (o).length (itmS.cells (o)) ∧ Below w.heap.size w wr) (fun _ I _ => la.length - (intOf I).toNat)
  case atStart => exact ⟨0, [], _, rfl, rfl, Nat.zero_le _, FrTo.zero _ _, hown, hB⟩
  case round =>
    clear hown hB
    obtain ⟨wo, rfl⟩ : ∃ wo : World, wo = wr := ⟨_, rfl⟩
    obtain ⟨k, o, uV, rfl, rfl, hk, hT, hown, hB⟩ := hrel
    by_cases hlt : k < la.length
    · obtain ⟨b, off, c', hv, hcap, hbs, hc⟩ := SlItm.open ha (by omega)
      injection hv with hv1 _ hv3
      subst hv1; subst hv3
      obtain ⟨hc0, hc1, hc2, hc3⟩ := hc k hlt
      have c0 := keep_cell hB hc0
      have c1 := keep_cell hB hc1
      have c2 := keep_cell hB hc2
      have c3 := keep_cell hB hc3
      have q0 : (0 : Int) ≤ (k : Int) := by omega
      have q1 : (k : Int) < (la.length : Int) := by omega
      have hB3 : Below w.heap.size w (wo.alloc (.cells #[.string la[k].key, .string la[k].title, .string la[k].body, .int .i64 la[k].day] 30)) := below_trans hB (below1 _ _)
      have ho7 : o.length ≤ k := hT.2
      clear hc hc0 hc1 hc2 hc3
      go_wp2_with fail
      refine (i_itemNumber _ lb la[k].key _ (hb.mono hB3)).mono ?_
      rintro e w3 ⟨rfl, hb3⟩
      have hB4 := below_trans hB3 hb3
      have hown3 := owns_below (hown.alloc (.cells #[.string la[k].key, .string la[k].title, .string la[k].body, .int .i64 la[k].day] 30)) hb3
      have d0 : w3.cell? ⟨wo.heap.size, 0, none⟩ = some (.string la[k].key) := keep_cell hb3 (by simp [go_sem])
      have d1 : w3.cell? ⟨wo.heap.size, 1, none⟩ = some (.string la[k].title) := keep_cell hb3 (by simp [go_sem])
      have d2 : w3.cell? ⟨wo.heap.size, 2, none⟩ = some (.string la[k].body) := keep_cell hb3 (by simp [go_sem])
      have d3 : w3.cell? ⟨wo.heap.size, 3, none⟩ = some (.int .i64 la[k].day) := keep_cell hb3 (by simp [go_sem])
      clear c0 c1 c2 c3 hb3 hown hB hB3
      rcases keyNo_find lb la[k].key.toList with ⟨n1, _⟩ | ⟨j, _, n1, _⟩
      · rw [n1]
        have HT := Lib.hid (hT.new hlt n1)
        clear hT n1
        go_wp2_with (at_builtin; refine wpList_app_sl (S := itmS) rfl _ _ 23 rfl w.heap.size 30 i0 (.agg #[.string ⟨#[]⟩, .string ⟨#[]⟩, .string ⟨#[]⟩, .int .i64 0]) 56 Try.underlying23 hi hz0 hz1 hz2 rfl _ _ _ rfl (hown3.alloc _) [la[k]] (one_sl (S := itmS) (x := la[k]) (heap_alloc_new _ _)) (by simp [maxLen]; omega) (by simp; omega) (by have := hB4.size; rw [World.size_alloc]; omega) ?_; intro v7 w7 hown7 hgrow7 hat7; clear hat7)
        have hB7 : Below w.heap.size w w7 := (hB4.alloc hB4.size _).grown hgrow7 (by have := hB4.size; rw [World.size_alloc]; omega) (fun g hg => (hown3.lt g hg).1)
        go_roundw
        case rel => exact ⟨k + 1, o ++ [la[k]], _, rfl, by go_num, by omega, HT.out, by rw [List.length_append, itmS.cells_append]; exact hown7, hB7⟩
        case measure => simp [intOf]; omega
      · rw [n1]
        have j0 : (0 : Int) ≤ (j : Int) := by omega
        have HT := Lib.hid (hT.old hlt n1)
        clear hT n1
        go_wp2_with fail
        go_roundw
        case rel => exact ⟨k + 1, o, _, rfl, by go_num, by omega, HT.out, hown3, hB4⟩
        case measure => simp [intOf]; omega
    · have H : Hid (o = freshL lb la) := by
        obtain rfl : k = la.length := by omega
        exact hT.all
      clear hT
      go_wp2_with fail
      go_ret
      exact ItmsRet.mk (by rw [← H.out]; exact hown) hB


set_option maxHeartbeats 3200000 in
theorem i_GoneKeys (vb va : Value) (lb la : List Itm) (w : World) (hb : Sl itmS w vb lb) (ha : Sl itmS w va la) (sb : SzL lb) (sa : SzL la) :
    Calls Try.prog 15 #[vb, va] w (TextsRet (goneL lb la) w) := by
  obtain ⟨i0, hi, hz0, hz1, hz2⟩ := info_parts Try.infoStr
  cases hf : feedB lb
  · rw [show goneL lb la = [] by unfold goneL; rw [newL_no2 hf]; rfl]
    go_enter Try.func15, Try.ntmps15
    go_wp2_with fail
    refine (i_FeedValid _ lb _ hb sb).mono ?_
    rintro e w1 ⟨rfl, hb1⟩
    rw [hf]
    go_wp2_with fail
    go_ret
    exact TextsRet.mk (World.ownsRow_nil _ _ _ _) hb1
  cases hg : feedB la
  · rw [show goneL lb la = [] by unfold goneL; rw [newL_no1 hg]; rfl]
    have HF := Lib.hid hf
    have HG := Lib.hid hg
    clear hf hg
    go_enter Try.func15, Try.ntmps15
    go_wp2_with fail
    refine (i_FeedValid _ lb _ hb sb).mono ?_
    rintro e w1 ⟨rfl, hb1⟩
    rw [HF.out]
    have ha1 := ha.mono hb1
    go_wp2_with fail
    refine (i_FeedValid _ la _ ha1 sa).mono ?_
    rintro e w2 ⟨rfl, hb2⟩
    rw [HG.out]
    go_wp2_with fail
    go_ret
    exact TextsRet.mk (World.ownsRow_nil _ _ _ _) (below_trans hb1 hb2)
  rw [show goneL lb la = (freshL la lb).map (·.key) by unfold goneL; rw [newL_yes hg hf]]
  have h8 := (feed_iff.1 hf).1
  have HF := Lib.hid hf
  have HG := Lib.hid hg
  clear hf hg
  obtain ⟨A, cap, rfl⟩ : ∃ A cap, vb = .slice A lb.length cap := by obtain ⟨a, c, h, _⟩ := hb; exact ⟨a, c, h⟩
  go_enter Try.func15, Try.ntmps15
  go_wp2_with fail
  refine (i_FeedValid _ lb _ hb sb).mono ?_
  rintro e w1 ⟨rfl, hb1⟩
  rw [HF.out]
  have ha1 := ha.mono hb1
  go_wp2_with fail
  refine (i_FeedValid _ la _ ha1 sa).mono ?_
  rintro e w2 ⟨rfl, hb2⟩
  rw [HG.out]
  have hB := below_trans hb1 hb2
  have hown : w2.ownsRow w.heap.size 9 1 (.slice none 0 0) 0 (strS.cells []) := World.ownsRow_nil _ _ _ _
  clear ha1 hb1 hb2
  go_wp2_with fail
  go_loopw [5, 18] (fun V I wr => ∃ (k : Nat) (o : List Itm) (uV : Value), uV = V ∧ I = .int .i64 k ∧ k ≤ lb.length ∧ FrTo la lb k o ∧ wr.ownsRow w.heap.size 9 1 uV (o.map (·.key)).length (strS.cells (o.map (·.key))) ∧ Below w.heap.size w wr) (fun _ I _ => lb.length - (intOf I).toNat)
  case atStart => exact ⟨0, [], _, rfl, rfl, Nat.zero_le _, FrTo.zero _ _, hown, hB⟩
  case round =>
    clear hown hB
    obtain ⟨wo, rfl⟩ : ∃ wo : World, wo = wr := ⟨_, rfl⟩
    obtain ⟨k, o, uV, rfl, rfl, hk, hT, hown, hB⟩ := hrel
    by_cases hlt : k < lb.length
    · obtain ⟨b, off, c', hv, hcap, hbs, hc⟩ := SlItm.open hb (by omega)
      injection hv with hv1 _ hv3
      subst hv1; subst hv3
      obtain ⟨hc0, hc1, hc2, hc3⟩ := hc k hlt
      have c0 := keep_cell hB hc0
      have c1 := keep_cell hB hc1
      have c2 := keep_cell hB hc2
      have c3 := keep_cell hB hc3
      have q0 : (0 : Int) ≤ (k : Int) := by omega
      have q1 : (k : Int) < (lb.length : Int) := by omega
      have hB3 : Below w.heap.size w (wo.alloc (.cells #[.string lb[k].key, .string lb[k].title, .string lb[k].body, .int .i64 lb[k].day] 30)) := below_trans hB (below1 _ _)
      have ho7 : o.length ≤ k := hT.2
      clear hc hc0 hc1 hc2 hc3
      go_wp2_with fail
      refine (i_itemNumber _ la lb[k].key _ (ha.mono hB3)).mono ?_
      rintro e w3 ⟨rfl, hb3⟩
      have hB4 := below_trans hB3 hb3
      have hown3 := owns_below (hown.alloc (.cells #[.string lb[k].key, .string lb[k].title, .string lb[k].body, .int .i64 lb[k].day] 30)) hb3
      have d0 : w3.cell? ⟨wo.heap.size, 0, none⟩ = some (.string lb[k].key) := keep_cell hb3 (by simp [go_sem])
      have d1 : w3.cell? ⟨wo.heap.size, 1, none⟩ = some (.string lb[k].title) := keep_cell hb3 (by simp [go_sem])
      have d2 : w3.cell? ⟨wo.heap.size, 2, none⟩ = some (.string lb[k].body) := keep_cell hb3 (by simp [go_sem])
      have d3 : w3.cell? ⟨wo.heap.size, 3, none⟩ = some (.int .i64 lb[k].day) := keep_cell hb3 (by simp [go_sem])
      clear c0 c1 c2 c3 hb3 hown hB hB3
      rcases keyNo_find la lb[k].key.toList with ⟨n1, _⟩ | ⟨j, _, n1, _⟩
      · rw [n1]
        have HT := Lib.hid (hT.new hlt n1)
        clear hT n1
        go_wp2_with (at_builtin; refine wpList_app_sl (S := strS) rfl _ _ 35 rfl w.heap.size 9 i0 (.string ⟨#[]⟩) 16 Try.underlying35 hi hz0 hz1 hz2 rfl _ _ _ rfl (hown3.alloc _) [lb[k].key] (one_sl (S := strS) (x := lb[k].key) (heap_alloc_new _ _)) (by simp [maxLen]; omega) (by simp; omega) (by have := hB4.size; rw [World.size_alloc]; omega) ?_; intro v7 w7 hown7 hgrow7 hat7; clear hat7)
        have hB7 : Below w.heap.size w w7 := (hB4.alloc hB4.size _).grown hgrow7 (by have := hB4.size; rw [World.size_alloc]; omega) (fun g hg => (hown3.lt g hg).1)
        go_roundw
        case rel => exact ⟨k + 1, o ++ [lb[k]], _, rfl, by go_num, by omega, HT.out, by rw [List.map_append, List.length_append, strS.cells_append]; exact hown7, hB7⟩
        case measure => simp [intOf]; omega
      · rw [n1]
        have j0 : (0 : Int) ≤ (j : Int) := by omega
        have HT := Lib.hid (hT.old hlt n1)
        clear hT n1
        go_wp2_with fail
        go_roundw
        case rel => exact ⟨k + 1, o, _, rfl, by go_num, by omega, HT.out, hown3, hB4⟩
        case measure => simp [intOf]; omega
    · have H : Hid (o = freshL la lb) := by
        obtain rfl : k = lb.length := by omega
        exact hT.all
      clear hT
      go_wp2_with fail
      go_ret
      exact TextsRet.mk (by rw [← H.out]; exact hown) hB

end Go.Proofs.Ytlmpkajnbdhppaa
