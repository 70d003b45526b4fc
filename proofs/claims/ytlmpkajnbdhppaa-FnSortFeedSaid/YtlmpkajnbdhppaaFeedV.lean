/- The walks of itemNumber and of the program's and the reference's FeedValid. Condition: the slice reads as the list, texts are no longer than a machine holds. -/
import Derived.Test.YtlmpkajnbdhppaaItm
import Derived.Test.YtlmpkajnbdhppaaLstItem
import Derived.Test.YtlmpkajnbdhppaaApp
import Derived.Deep.QuietTactic
import Derived.BigQuiet
import Derived.Lib.Hide
import Derived.Test.YtlmpkajnbdhppaaQuiet
import Derived.Test.YtlmpkajnbdhppaaDet
namespace Go.Proofs.Ytlmpkajnbdhppaa
open Go.RowKit

def SzL (l : List Itm) : Prop := ∀ y ∈ l, Sz y
theorem feed_bad {l : List Itm} {k : Nat} (hk : k < l.length) (h : itmOk l[k] = false) : feedB l = false :=
  goodB_at hk (goodAt_bad (by rw [okBy_eq hk]; exact h))
theorem feed_twice {l : List Itm} {j k : Nat} (hj : j < k) (hk : k < l.length) (h : ((l[j]'(by omega)).key.toList == l[k].key.toList) = true) : feedB l = false :=
  goodB_at hk (goodAt_twice hk hj h)
def FdTo (l : List Itm) (k : Nat) : Prop := GoodTo (okBy itmOk l) (fun f => f.key.toList) l k
def FdFree (l : List Itm) (k : Nat) (hk : k < l.length) (j : Nat) : Prop := FreeOf (fun f : Itm => f.key.toList) l k hk j
theorem FdTo.step {l : List Itm} {k : Nat} (h : FdTo l k) (hk : k < l.length) (h1 : itmOk l[k] = true) (hf : FdFree l k hk k) : FdTo l (k + 1) :=
  h.succ (goodAt_yes hk (by rw [okBy_eq hk]; exact h1) hf)
/-- What the number of a key among the first k items says. -/
theorem take_no {l : List Itm} {k : Nat} (hk : k < l.length) : (keyNo (l.take k) l[k].key.toList = -1 ∧ FdFree l k hk k) ∨ ∃ j : Nat, j < k ∧ keyNo (l.take k) l[k].key.toList = j ∧ feedB l = false := by
  rcases keyNo_find (l.take k) l[k].key.toList with ⟨h1, _, _, h4⟩ | ⟨j, hj, h1, h2, _⟩
  · refine .inl ⟨h1, fun i hi hik => ?_⟩
    have := h4 i (by rw [List.length_take]; omega) (by rw [List.length_take]; omega)
    rw [List.getElem_take] at this
    exact this
  · have hjk : j < k := by rw [List.length_take] at hj; omega
    rw [List.getElem_take] at h2
    exact .inr ⟨j, hjk, h1, feed_twice hjk hk h2⟩

set_option maxHeartbeats 1600000 in
theorem i_itemNumber (v : Value) (l : List Itm) (key : ByteArray) (w : World) (h : Sl itmS w v l) :
    Calls Try.prog 38 #[v, .string key] w fun e w' => e = .returned (.int .i64 (keyNo l key.toList)) ∧ Below w.heap.size w w' := by
  have hm := h.len
  rcases Nat.eq_zero_or_pos l.length with h0 | h0
  · obtain rfl := List.eq_nil_of_length_eq_zero h0
    obtain ⟨a, cap, rfl, _⟩ := h
    rw [show keyNo [] key.toList = -1 from rfl]
    clear h0 hm
    go_enter Try.func38, Try.ntmps38
    go_wp2
    go_loop [9] (fun i => i = .int .i64 0) (fun _ => 0)
    case atStart => rfl
    case round =>
      obtain rfl := hrel
      go_wp2
      go_ret
      exact ⟨rfl, Below.refl _ _⟩
  · obtain ⟨b, off, cap, rfl, hcap, hbs, hc⟩ := SlItm.open h h0
    clear h
    go_enter Try.func38, Try.ntmps38
    go_wp2
    go_loopw [9] (fun i wr => ∃ k : Nat, k ≤ l.length ∧ i = .int .i64 k ∧ NoKey l key.toList k ∧ Below w.heap.size w wr) (fun i _ => l.length - (intOf i).toNat)
    case atStart => exact ⟨0, Nat.zero_le _, rfl, NoKey.zero _ _, Below.refl _ _⟩
    case round =>
      obtain ⟨wo, rfl⟩ : ∃ wo : World, wo = wr := ⟨_, rfl⟩
      obtain ⟨k, hk, rfl, hT, hB⟩ := hrel
      by_cases hlt : k < l.length
      · have c0 : wo.cell? ⟨b, off + k * 4, none⟩ = some (.string l[k].key) := (hB.cell (p := ⟨b, off + k * 4, none⟩) hbs).trans (hc k hlt).1
        have c1 : wo.cell? ⟨b, off + k * 4 + 1, none⟩ = some (.string l[k].title) := (hB.cell (p := ⟨b, off + k * 4 + 1, none⟩) hbs).trans (hc k hlt).2.1
        have c2 : wo.cell? ⟨b, off + k * 4 + 2, none⟩ = some (.string l[k].body) := (hB.cell (p := ⟨b, off + k * 4 + 2, none⟩) hbs).trans (hc k hlt).2.2.1
        have c3 : wo.cell? ⟨b, off + k * 4 + 3, none⟩ = some (.int .i64 l[k].day) := (hB.cell (p := ⟨b, off + k * 4 + 3, none⟩) hbs).trans (hc k hlt).2.2.2
        have hB3 : Below w.heap.size w (wo.alloc (.cells #[.string l[k].key, .string l[k].title, .string l[k].body, .int .i64 l[k].day] 30)) := below_trans hB (below1 _ _)
        cases he : (l[k].key.toList == key.toList)
        · have HT : Hid (NoKey l key.toList (k + 1)) := hT.succ hlt he
          clear hT hc
          go_wp2
          go_roundw
          case rel => exact ⟨k + 1, by omega, by go_num, HT.out, hB3⟩
          case measure => simp [intOf]; omega
        · have H : Hid (keyNo l key.toList = k) := keyNo_at hlt hT he
          clear hT hc
          go_wp2
          go_ret
          exact ⟨ret_int H.out.symm, hB3⟩
      · have H : Hid (keyNo l key.toList = -1) := by
          obtain rfl : k = l.length := by omega
          exact keyNo_none hT
        clear hT hc
        go_wp2
        go_ret
        exact ⟨ret_int H.out.symm, hB⟩

set_option maxHeartbeats 1600000 in
theorem i_FeedValid (v : Value) (l : List Itm) (w : World) (h : Sl itmS w v l) (hs : SzL l) :
    Calls Try.prog 11 #[v] w fun e w' => e = .returned (.bool (feedB l)) ∧ Below w.heap.size w w' := by
  have hm := h.len
  rcases Nat.eq_zero_or_pos l.length with h0 | h0
  · obtain rfl := List.eq_nil_of_length_eq_zero h0
    obtain ⟨a, cap, rfl, _⟩ := h
    rw [show feedB [] = true from rfl]
    clear h0 hm hs
    go_enter Try.func11, Try.ntmps11
    go_wp2
    go_loop [10] (fun i => i = .int .i64 0) (fun _ => 0)
    case atStart => rfl
    case round =>
      obtain rfl := hrel
      go_wp2
      go_ret
      exact ⟨rfl, Below.refl _ _⟩
  · obtain ⟨b, off, cap, hv, hcap, hbs, hc⟩ := SlItm.open h h0
    subst hv
    by_cases h6 : l.length ≤ 8
    · have hd8 : decide ((8 : Int) < (l.length : Int)) = false := by simp; omega
      go_enter Try.func11, Try.ntmps11
      go_wp2
      go_loopw [10] (fun i wr => ∃ k : Nat, k ≤ l.length ∧ i = .int .i64 k ∧ FdTo l k ∧ Below w.heap.size w wr) (fun i _ => l.length - (intOf i).toNat)
      case atStart => exact ⟨0, Nat.zero_le _, rfl, GoodTo.zero _ _ _, Below.refl _ _⟩
      case round =>
        obtain ⟨wo, rfl⟩ : ∃ wo : World, wo = wr := ⟨_, rfl⟩
        obtain ⟨k, hk, rfl, hT, hB⟩ := hrel
        by_cases hlt : k < l.length
        · have hsk : Sz l[k] := hs _ (List.getElem_mem hlt)
          have c0 : wo.cell? ⟨b, off + k * 4, none⟩ = some (.string l[k].key) := (hB.cell (p := ⟨b, off + k * 4, none⟩) hbs).trans (hc k hlt).1
          have c1 : wo.cell? ⟨b, off + k * 4 + 1, none⟩ = some (.string l[k].title) := (hB.cell (p := ⟨b, off + k * 4 + 1, none⟩) hbs).trans (hc k hlt).2.1
          have c2 : wo.cell? ⟨b, off + k * 4 + 2, none⟩ = some (.string l[k].body) := (hB.cell (p := ⟨b, off + k * 4 + 2, none⟩) hbs).trans (hc k hlt).2.2.1
          have c3 : wo.cell? ⟨b, off + k * 4 + 3, none⟩ = some (.int .i64 l[k].day) := (hB.cell (p := ⟨b, off + k * 4 + 3, none⟩) hbs).trans (hc k hlt).2.2.2
          have hB3 : Below w.heap.size w (wo.alloc (.cells #[.string l[k].key, .string l[k].title, .string l[k].body, .int .i64 l[k].day] 30)) := below_trans hB (below1 _ _)
          have w0 : (wo.alloc (.cells #[.string l[k].key, .string l[k].title, .string l[k].body, .int .i64 l[k].day] 30)).cell? ⟨wo.heap.size, 0, none⟩ = some (.string l[k].key) := by simp [go_sem]
          have w1 : (wo.alloc (.cells #[.string l[k].key, .string l[k].title, .string l[k].body, .int .i64 l[k].day] 30)).cell? ⟨wo.heap.size, 1, none⟩ = some (.string l[k].title) := by simp [go_sem]
          have w2 : (wo.alloc (.cells #[.string l[k].key, .string l[k].title, .string l[k].body, .int .i64 l[k].day] 30)).cell? ⟨wo.heap.size, 2, none⟩ = some (.string l[k].body) := by simp [go_sem]
          have w3 : (wo.alloc (.cells #[.string l[k].key, .string l[k].title, .string l[k].body, .int .i64 l[k].day] 30)).cell? ⟨wo.heap.size, 3, none⟩ = some (.int .i64 l[k].day) := by simp [go_sem]
          have mixed : Try.prog.follows Departure.mixedOrders = true := by kernel_rfl
          have e0 : (0 : Int) ≤ (k : Int) := by omega
          have e1 : (k : Int) ≤ (l.length : Int) := by omega
          have e2 : (l.length : Int) ≤ (cap : Int) := by omega
          have e3 : (k : Int) ≤ (cap : Int) := by omega
          go_wp2_with fail
          obtain ⟨wd, hwd⟩ : ∃ wd, wd = wo.alloc (.cells #[.string l[k].key, .string l[k].title, .string l[k].body, .int .i64 l[k].day] 30) := ⟨_, rfl⟩
          rw [← hwd] at hB3 w0 w1 w2 w3 ⊢
          have hD := hB3.drew
          clear hwd hc hs c0 c1 c2 c3
          cases hw : itmOk l[k]
          · have H : Hid (feedB l = false) := feed_bad hlt hw
            have HW := Lib.hid hw
            clear hT hw
            refine wp_region_typed (fun i _ v => v = ([.agg #[.string l[k].key, .string l[k].title, .string l[k].body, .int .i64 l[k].day], .bool false, .bool true, .bool true, undef, undef, undef, undef, undef, undef, undef, Value.bool true] : List Value).getD i undef) (fun _ => 0) (fun _ w' => Below wd.heap.size wd w') (fun _ _ => True) 0 (by kernel_rfl) 28 rfl (by kernel_rfl) (by decide) (Below.refl _ _).drew (fun _ _ _ _ _ h => h) ?_ ?_
            · refine ⟨?_, ?_, ?_, ?_, ?_, ?_, ?_, ?_, ?_, ?_, ?_, ?_, trivial⟩
              · intro B a' w' hB hW hF
                have h4 : a'.tmps[4]? = some (.pointer (some ⟨wo.heap.size, 0, none⟩)) := (hF.at 4 (by kernel_rfl)).trans rfl
                have k0 : w'.cell? ⟨wo.heap.size, 0, none⟩ = some (.string l[k].key) := keep_cell hW w0
                have k1 : w'.cell? ⟨wo.heap.size, 1, none⟩ = some (.string l[k].title) := keep_cell hW w1
                have k2 : w'.cell? ⟨wo.heap.size, 2, none⟩ = some (.string l[k].body) := keep_cell hW w2
                have k3 : w'.cell? ⟨wo.heap.size, 3, none⟩ = some (.int .i64 l[k].day) := keep_cell hW w3
                refine wpOp_step rfl (fun K hK => ?_)
                go_simp
                exact hK _ _ ⟨_, rfl, trivial, rfl, hW⟩
              · intro B a' w' hB hW hF
                have h15 : a'.tmps[15]? = some (.agg #[.string l[k].key, .string l[k].title, .string l[k].body, .int .i64 l[k].day]) := by obtain ⟨_, h, e⟩ := hF.val ⟨0, .data⟩ (by simp) rfl _ rfl; rw [h, show _ = (.agg #[.string l[k].key, .string l[k].title, .string l[k].body, .int .i64 l[k].day] : Value) from e]
                refine wpOp_step rfl (fun K hK => ?_)
                go_simp
                refine (i_ItemValid l[k] _ hsk).mono ?_
                rintro x w'' ⟨rfl, hb⟩
                rw [HW.out]
                exact hK _ _ ⟨_, rfl, trivial, rfl, below_trans hW hb⟩
              · intro B a' w' hB hW hF
                have h16 : a'.tmps[16]? = some (.bool false) := by obtain ⟨_, h, e⟩ := hF.val ⟨1, .data⟩ (by simp) rfl _ rfl; rw [h, show _ = (.bool false : Value) from e]
                refine wpOp_step rfl (fun K hK => ?_)
                go_simp
                exact hK _ _ ⟨_, rfl, trivial, rfl, hW⟩
              · intro B a' w' hB hW hF
                have h17 : a'.tmps[17]? = some (.bool true) := by obtain ⟨_, h, e⟩ := hF.val ⟨2, .data⟩ (by simp) rfl _ rfl; rw [h, show _ = (.bool true : Value) from e]
                refine wpOp_step rfl (fun K hK => ?_)
                go_simp
                exact hK _ _ ⟨_, rfl, trivial, rfl, hW⟩
              · intro B a' w' hB hW hF
                have hg : a'.tmps[18]? = some (.bool true) := by obtain ⟨_, h, e⟩ := hF.val ⟨3, .guard⟩ (by simp) rfl _ rfl; rw [h, show _ = (.bool true : Value) from e]
                refine wpOp_step rfl (fun K hK => ?_)
                rw [if_neg (wanted_no rfl (yielded_of rfl rfl hg) (by decide))]
                exact hK _ _ ⟨_, rfl, trivial, rfl, hW⟩
              · intro B a' w' hB hW hF
                have hg : a'.tmps[18]? = some (.bool true) := by obtain ⟨_, h, e⟩ := hF.val ⟨3, .guard⟩ (by simp) rfl _ rfl; rw [h, show _ = (.bool true : Value) from e]
                refine wpOp_step rfl (fun K hK => ?_)
                rw [if_neg (wanted_no rfl (yielded_of rfl rfl hg) (by decide))]
                exact hK _ _ ⟨_, rfl, trivial, rfl, hW⟩
              · intro B a' w' hB hW hF
                have hg : a'.tmps[18]? = some (.bool true) := by obtain ⟨_, h, e⟩ := hF.val ⟨3, .guard⟩ (by simp) rfl _ rfl; rw [h, show _ = (.bool true : Value) from e]
                refine wpOp_step rfl (fun K hK => ?_)
                rw [if_neg (wanted_no rfl (yielded_of rfl rfl hg) (by decide))]
                exact hK _ _ ⟨_, rfl, trivial, rfl, hW⟩
              · intro B a' w' hB hW hF
                have hg : a'.tmps[18]? = some (.bool true) := by obtain ⟨_, h, e⟩ := hF.val ⟨3, .guard⟩ (by simp) rfl _ rfl; rw [h, show _ = (.bool true : Value) from e]
                refine wpOp_step rfl (fun K hK => ?_)
                rw [if_neg (wanted_no rfl (yielded_of rfl rfl hg) (by decide))]
                exact hK _ _ ⟨_, rfl, trivial, rfl, hW⟩
              · intro B a' w' hB hW hF
                have hg : a'.tmps[18]? = some (.bool true) := by obtain ⟨_, h, e⟩ := hF.val ⟨3, .guard⟩ (by simp) rfl _ rfl; rw [h, show _ = (.bool true : Value) from e]
                refine wpOp_step rfl (fun K hK => ?_)
                rw [if_neg (wanted_no rfl (yielded_of rfl rfl hg) (by decide))]
                exact hK _ _ ⟨_, rfl, trivial, rfl, hW⟩
              · intro B a' w' hB hW hF
                have hg : a'.tmps[18]? = some (.bool true) := by obtain ⟨_, h, e⟩ := hF.val ⟨3, .guard⟩ (by simp) rfl _ rfl; rw [h, show _ = (.bool true : Value) from e]
                refine wpOp_step rfl (fun K hK => ?_)
                rw [if_neg (wanted_no rfl (yielded_of rfl rfl hg) (by decide))]
                exact hK _ _ ⟨_, rfl, trivial, rfl, hW⟩
              · intro B a' w' hB hW hF
                have hg : a'.tmps[18]? = some (.bool true) := by obtain ⟨_, h, e⟩ := hF.val ⟨3, .guard⟩ (by simp) rfl _ rfl; rw [h, show _ = (.bool true : Value) from e]
                refine wpOp_step rfl (fun K hK => ?_)
                rw [if_neg (wanted_no rfl (yielded_of rfl rfl hg) (by decide))]
                exact hK _ _ ⟨_, rfl, trivial, rfl, hW⟩
              · intro B a' w' hB hW hF
                have h18 : a'.tmps[18]? = some (.bool true) := by obtain ⟨_, h, e⟩ := hF.val ⟨3, .data⟩ (by simp) rfl _ rfl; rw [h, show _ = (.bool true : Value) from e]
                have h25 : a'.tmps[25]? = some (undef) := by obtain ⟨_, h, e⟩ := hF.val ⟨10, .data⟩ (by simp) rfl _ rfl; rw [h, show _ = (undef : Value) from e]
                refine wpOp_step rfl (fun K hK => ?_)
                go_simp
                exact hK _ _ ⟨_, rfl, trivial, rfl, hW⟩
            · intro a' w' hL hW
              have hd := hL.defers
              have hs := hL.size
              have h15 : a'.tmps[15]? = some (.agg #[.string l[k].key, .string l[k].title, .string l[k].body, .int .i64 l[k].day]) := by obtain ⟨_, h, e⟩ := hL.val 0 _ rfl; rw [h, show _ = (.agg #[.string l[k].key, .string l[k].title, .string l[k].body, .int .i64 l[k].day] : Value) from e]
              have h16 : a'.tmps[16]? = some (.bool false) := by obtain ⟨_, h, e⟩ := hL.val 1 _ rfl; rw [h, show _ = (.bool false : Value) from e]
              have h17 : a'.tmps[17]? = some (.bool true) := by obtain ⟨_, h, e⟩ := hL.val 2 _ rfl; rw [h, show _ = (.bool true : Value) from e]
              have h18 : a'.tmps[18]? = some (.bool true) := by obtain ⟨_, h, e⟩ := hL.val 3 _ rfl; rw [h, show _ = (.bool true : Value) from e]
              have h19 : a'.tmps[19]? = some (undef) := by obtain ⟨_, h, e⟩ := hL.val 4 _ rfl; rw [h, show _ = (undef : Value) from e]
              have h20 : a'.tmps[20]? = some (undef) := by obtain ⟨_, h, e⟩ := hL.val 5 _ rfl; rw [h, show _ = (undef : Value) from e]
              have h21 : a'.tmps[21]? = some (undef) := by obtain ⟨_, h, e⟩ := hL.val 6 _ rfl; rw [h, show _ = (undef : Value) from e]
              have h22 : a'.tmps[22]? = some (undef) := by obtain ⟨_, h, e⟩ := hL.val 7 _ rfl; rw [h, show _ = (undef : Value) from e]
              have h23 : a'.tmps[23]? = some (undef) := by obtain ⟨_, h, e⟩ := hL.val 8 _ rfl; rw [h, show _ = (undef : Value) from e]
              have h24 : a'.tmps[24]? = some (undef) := by obtain ⟨_, h, e⟩ := hL.val 9 _ rfl; rw [h, show _ = (undef : Value) from e]
              have h25 : a'.tmps[25]? = some (undef) := by obtain ⟨_, h, e⟩ := hL.val 10 _ rfl; rw [h, show _ = (undef : Value) from e]
              have h26 : a'.tmps[26]? = some (Value.bool true) := by obtain ⟨_, h, e⟩ := hL.val 11 _ rfl; rw [h, show _ = (Value.bool true : Value) from e]
              have hlit := act_lit (l := [_, _, _, _, _, _, _, _, _, _, _, _, _, _, _, _, _, _, _, _, _, _, _, _, _, _, _, _]) (hd.trans rfl) (by rw [hs]; rfl) (AllAt.cons ((hL.at 0 (by kernel_rfl)).trans rfl) (AllAt.cons ((hL.at 1 (by kernel_rfl)).trans rfl) (AllAt.cons ((hL.at 2 (by kernel_rfl)).trans rfl) (AllAt.cons ((hL.at 3 (by kernel_rfl)).trans rfl) (AllAt.cons ((hL.at 4 (by kernel_rfl)).trans rfl) (AllAt.cons ((hL.at 5 (by kernel_rfl)).trans rfl) (AllAt.cons ((hL.at 6 (by kernel_rfl)).trans rfl) (AllAt.cons ((hL.at 7 (by kernel_rfl)).trans rfl) (AllAt.cons ((hL.at 8 (by kernel_rfl)).trans rfl) (AllAt.cons ((hL.at 9 (by kernel_rfl)).trans rfl) (AllAt.cons ((hL.at 10 (by kernel_rfl)).trans rfl) (AllAt.cons ((hL.at 11 (by kernel_rfl)).trans rfl) (AllAt.cons ((hL.at 12 (by kernel_rfl)).trans rfl) (AllAt.cons ((hL.at 13 (by kernel_rfl)).trans rfl) (AllAt.cons ((hL.at 14 (by kernel_rfl)).trans rfl) (AllAt.cons h15 (AllAt.cons h16 (AllAt.cons h17 (AllAt.cons h18 (AllAt.cons h19 (AllAt.cons h20 (AllAt.cons h21 (AllAt.cons h22 (AllAt.cons h23 (AllAt.cons h24 (AllAt.cons h25 (AllAt.cons h26 (AllAt.cons ((hL.at 27 (by kernel_rfl)).trans rfl) AllAt.nil))))))))))))))))))))))))))))
              clear hL hd hs h15 h16 h17 h18 h19 h20 h21 h22 h23 h24 h25 h26
              subst hlit
              dsimp only [List.getElem_toArray, List.getElem_cons_zero, List.getElem_cons_succ]
              go_wp2_with fail
              go_ret
              exact ⟨ret_bool H.out.symm, below_trans hB3 hW⟩
          · have HW := Lib.hid hw
            have HT := Lib.hid hT
            clear hT hw
            rcases take_no hlt with ⟨h1, h2⟩ | ⟨j, hj, h1, h2⟩
            · have HF := Lib.hid (HT.out.step hlt HW.out h2)
              have H1 := Lib.hid h1
              clear h1 h2
              refine wp_region_typed (fun i _ v => v = ([.agg #[.string l[k].key, .string l[k].title, .string l[k].body, .int .i64 l[k].day], .bool true, .bool false, .bool false, .slice (some ⟨b, off, none⟩) l.length cap, .int .i64 (k : Int), .slice (some ⟨b, off, none⟩) k cap, .pointer (some ⟨wo.heap.size, 0, none⟩), .string l[k].key, .int .i64 (-1), .bool false, .bool false] : List Value).getD i undef) (fun _ => 0) (fun _ w' => Below wd.heap.size wd w') (fun _ _ => True) 0 (by kernel_rfl) 28 rfl (by kernel_rfl) (by decide) (Below.refl _ _).drew (fun _ _ _ _ _ h => h) ?_ ?_
              · refine ⟨?_, ?_, ?_, ?_, ?_, ?_, ?_, ?_, ?_, ?_, ?_, ?_, trivial⟩
                · intro B a' w' hB hW hF
                  have h4 : a'.tmps[4]? = some (.pointer (some ⟨wo.heap.size, 0, none⟩)) := (hF.at 4 (by kernel_rfl)).trans rfl
                  have k0 : w'.cell? ⟨wo.heap.size, 0, none⟩ = some (.string l[k].key) := keep_cell hW w0
                  have k1 : w'.cell? ⟨wo.heap.size, 1, none⟩ = some (.string l[k].title) := keep_cell hW w1
                  have k2 : w'.cell? ⟨wo.heap.size, 2, none⟩ = some (.string l[k].body) := keep_cell hW w2
                  have k3 : w'.cell? ⟨wo.heap.size, 3, none⟩ = some (.int .i64 l[k].day) := keep_cell hW w3
                  refine wpOp_step rfl (fun K hK => ?_)
                  go_simp
                  exact hK _ _ ⟨_, rfl, trivial, rfl, hW⟩
                · intro B a' w' hB hW hF
                  have h15 : a'.tmps[15]? = some (.agg #[.string l[k].key, .string l[k].title, .string l[k].body, .int .i64 l[k].day]) := by obtain ⟨_, h, e⟩ := hF.val ⟨0, .data⟩ (by simp) rfl _ rfl; rw [h, show _ = (.agg #[.string l[k].key, .string l[k].title, .string l[k].body, .int .i64 l[k].day] : Value) from e]
                  refine wpOp_step rfl (fun K hK => ?_)
                  go_simp
                  refine (i_ItemValid l[k] _ hsk).mono ?_
                  rintro x w'' ⟨rfl, hb⟩
                  rw [HW.out]
                  exact hK _ _ ⟨_, rfl, trivial, rfl, below_trans hW hb⟩
                · intro B a' w' hB hW hF
                  have h16 : a'.tmps[16]? = some (.bool true) := by obtain ⟨_, h, e⟩ := hF.val ⟨1, .data⟩ (by simp) rfl _ rfl; rw [h, show _ = (.bool true : Value) from e]
                  refine wpOp_step rfl (fun K hK => ?_)
                  go_simp
                  exact hK _ _ ⟨_, rfl, trivial, rfl, hW⟩
                · intro B a' w' hB hW hF
                  have h17 : a'.tmps[17]? = some (.bool false) := by obtain ⟨_, h, e⟩ := hF.val ⟨2, .data⟩ (by simp) rfl _ rfl; rw [h, show _ = (.bool false : Value) from e]
                  refine wpOp_step rfl (fun K hK => ?_)
                  go_simp
                  exact hK _ _ ⟨_, rfl, trivial, rfl, hW⟩
                · intro B a' w' hB hW hF
                  have hg : a'.tmps[18]? = some (.bool false) := by obtain ⟨_, h, e⟩ := hF.val ⟨3, .guard⟩ (by simp) rfl _ rfl; rw [h, show _ = (.bool false : Value) from e]
                  have h0 : a'.tmps[0]? = some (.slice (some ⟨b, off, none⟩) l.length cap) := (hF.at 0 (by kernel_rfl)).trans rfl
                  refine wpOp_step rfl (fun K hK => ?_)
                  rw [if_pos (wanted_yes rfl (yielded_of rfl rfl hg))]
                  go_simp
                  exact hK _ _ ⟨_, rfl, trivial, rfl, hW⟩
                · intro B a' w' hB hW hF
                  have hg : a'.tmps[18]? = some (.bool false) := by obtain ⟨_, h, e⟩ := hF.val ⟨3, .guard⟩ (by simp) rfl _ rfl; rw [h, show _ = (.bool false : Value) from e]
                  have h3 : a'.tmps[3]? = some (.int .i64 (k : Int)) := (hF.at 3 (by kernel_rfl)).trans rfl
                  refine wpOp_step rfl (fun K hK => ?_)
                  rw [if_pos (wanted_yes rfl (yielded_of rfl rfl hg))]
                  go_simp
                  exact hK _ _ ⟨_, rfl, trivial, rfl, hW⟩
                · intro B a' w' hB hW hF
                  have hg : a'.tmps[18]? = some (.bool false) := by obtain ⟨_, h, e⟩ := hF.val ⟨3, .guard⟩ (by simp) rfl _ rfl; rw [h, show _ = (.bool false : Value) from e]
                  have h19 : a'.tmps[19]? = some (.slice (some ⟨b, off, none⟩) l.length cap) := by obtain ⟨_, h, e⟩ := hF.val ⟨4, .data⟩ (by simp) rfl _ rfl; rw [h, show _ = (.slice (some ⟨b, off, none⟩) l.length cap : Value) from e]
                  have h20 : a'.tmps[20]? = some (.int .i64 (k : Int)) := by obtain ⟨_, h, e⟩ := hF.val ⟨5, .data⟩ (by simp) rfl _ rfl; rw [h, show _ = (.int .i64 (k : Int) : Value) from e]
                  refine wpOp_step rfl (fun K hK => ?_)
                  rw [if_pos (wanted_yes rfl (yielded_of rfl rfl hg))]
                  go_simp
                  exact hK _ _ ⟨_, rfl, trivial, rfl, hW⟩
                · intro B a' w' hB hW hF
                  have hg : a'.tmps[18]? = some (.bool false) := by obtain ⟨_, h, e⟩ := hF.val ⟨3, .guard⟩ (by simp) rfl _ rfl; rw [h, show _ = (.bool false : Value) from e]
                  have h4 : a'.tmps[4]? = some (.pointer (some ⟨wo.heap.size, 0, none⟩)) := (hF.at 4 (by kernel_rfl)).trans rfl
                  refine wpOp_step rfl (fun K hK => ?_)
                  rw [if_pos (wanted_yes rfl (yielded_of rfl rfl hg))]
                  go_simp
                  exact hK _ _ ⟨_, rfl, trivial, rfl, hW⟩
                · intro B a' w' hB hW hF
                  have hg : a'.tmps[18]? = some (.bool false) := by obtain ⟨_, h, e⟩ := hF.val ⟨3, .guard⟩ (by simp) rfl _ rfl; rw [h, show _ = (.bool false : Value) from e]
                  have h22 : a'.tmps[22]? = some (.pointer (some ⟨wo.heap.size, 0, none⟩)) := by obtain ⟨_, h, e⟩ := hF.val ⟨7, .data⟩ (by simp) rfl _ rfl; rw [h, show _ = (.pointer (some ⟨wo.heap.size, 0, none⟩) : Value) from e]
                  have k0 : w'.cell? ⟨wo.heap.size, 0, none⟩ = some (.string l[k].key) := keep_cell hW w0
                  refine wpOp_step rfl (fun K hK => ?_)
                  rw [if_pos (wanted_yes rfl (yielded_of rfl rfl hg))]
                  go_simp
                  exact hK _ _ ⟨_, rfl, trivial, rfl, hW⟩
                · intro B a' w' hB hW hF
                  have hg : a'.tmps[18]? = some (.bool false) := by obtain ⟨_, h, e⟩ := hF.val ⟨3, .guard⟩ (by simp) rfl _ rfl; rw [h, show _ = (.bool false : Value) from e]
                  have h21 : a'.tmps[21]? = some (.slice (some ⟨b, off, none⟩) k cap) := by obtain ⟨_, h, e⟩ := hF.val ⟨6, .data⟩ (by simp) rfl _ rfl; rw [h, show _ = (.slice (some ⟨b, off, none⟩) k cap : Value) from e]
                  have h23 : a'.tmps[23]? = some (.string l[k].key) := by obtain ⟨_, h, e⟩ := hF.val ⟨8, .data⟩ (by simp) rfl _ rfl; rw [h, show _ = (.string l[k].key : Value) from e]
                  refine wpOp_step rfl (fun K hK => ?_)
                  rw [if_pos (wanted_yes rfl (yielded_of rfl rfl hg))]
                  go_simp
                  refine (i_itemNumber _ (l.take k) l[k].key _ ((h.mono (below_trans hB3 hW)).take k (by omega))).mono ?_
                  rintro x w'' ⟨rfl, hb⟩
                  rw [H1.out]
                  exact hK _ _ ⟨_, rfl, trivial, rfl, below_trans hW hb⟩
                · intro B a' w' hB hW hF
                  have hg : a'.tmps[18]? = some (.bool false) := by obtain ⟨_, h, e⟩ := hF.val ⟨3, .guard⟩ (by simp) rfl _ rfl; rw [h, show _ = (.bool false : Value) from e]
                  have h24 : a'.tmps[24]? = some (.int .i64 (-1)) := by obtain ⟨_, h, e⟩ := hF.val ⟨9, .data⟩ (by simp) rfl _ rfl; rw [h, show _ = (.int .i64 (-1) : Value) from e]
                  refine wpOp_step rfl (fun K hK => ?_)
                  rw [if_pos (wanted_yes rfl (yielded_of rfl rfl hg))]
                  go_simp
                  exact hK _ _ ⟨_, rfl, trivial, rfl, hW⟩
                · intro B a' w' hB hW hF
                  have h18 : a'.tmps[18]? = some (.bool false) := by obtain ⟨_, h, e⟩ := hF.val ⟨3, .data⟩ (by simp) rfl _ rfl; rw [h, show _ = (.bool false : Value) from e]
                  have h25 : a'.tmps[25]? = some (.bool false) := by obtain ⟨_, h, e⟩ := hF.val ⟨10, .data⟩ (by simp) rfl _ rfl; rw [h, show _ = (.bool false : Value) from e]
                  refine wpOp_step rfl (fun K hK => ?_)
                  go_simp
                  exact hK _ _ ⟨_, rfl, trivial, rfl, hW⟩
              · intro a' w' hL hW
                have hd := hL.defers
                have hs := hL.size
                have h15 : a'.tmps[15]? = some (.agg #[.string l[k].key, .string l[k].title, .string l[k].body, .int .i64 l[k].day]) := by obtain ⟨_, h, e⟩ := hL.val 0 _ rfl; rw [h, show _ = (.agg #[.string l[k].key, .string l[k].title, .string l[k].body, .int .i64 l[k].day] : Value) from e]
                have h16 : a'.tmps[16]? = some (.bool true) := by obtain ⟨_, h, e⟩ := hL.val 1 _ rfl; rw [h, show _ = (.bool true : Value) from e]
                have h17 : a'.tmps[17]? = some (.bool false) := by obtain ⟨_, h, e⟩ := hL.val 2 _ rfl; rw [h, show _ = (.bool false : Value) from e]
                have h18 : a'.tmps[18]? = some (.bool false) := by obtain ⟨_, h, e⟩ := hL.val 3 _ rfl; rw [h, show _ = (.bool false : Value) from e]
                have h19 : a'.tmps[19]? = some (.slice (some ⟨b, off, none⟩) l.length cap) := by obtain ⟨_, h, e⟩ := hL.val 4 _ rfl; rw [h, show _ = (.slice (some ⟨b, off, none⟩) l.length cap : Value) from e]
                have h20 : a'.tmps[20]? = some (.int .i64 (k : Int)) := by obtain ⟨_, h, e⟩ := hL.val 5 _ rfl; rw [h, show _ = (.int .i64 (k : Int) : Value) from e]
                have h21 : a'.tmps[21]? = some (.slice (some ⟨b, off, none⟩) k cap) := by obtain ⟨_, h, e⟩ := hL.val 6 _ rfl; rw [h, show _ = (.slice (some ⟨b, off, none⟩) k cap : Value) from e]
                have h22 : a'.tmps[22]? = some (.pointer (some ⟨wo.heap.size, 0, none⟩)) := by obtain ⟨_, h, e⟩ := hL.val 7 _ rfl; rw [h, show _ = (.pointer (some ⟨wo.heap.size, 0, none⟩) : Value) from e]
                have h23 : a'.tmps[23]? = some (.string l[k].key) := by obtain ⟨_, h, e⟩ := hL.val 8 _ rfl; rw [h, show _ = (.string l[k].key : Value) from e]
                have h24 : a'.tmps[24]? = some (.int .i64 (-1)) := by obtain ⟨_, h, e⟩ := hL.val 9 _ rfl; rw [h, show _ = (.int .i64 (-1) : Value) from e]
                have h25 : a'.tmps[25]? = some (.bool false) := by obtain ⟨_, h, e⟩ := hL.val 10 _ rfl; rw [h, show _ = (.bool false : Value) from e]
                have h26 : a'.tmps[26]? = some (.bool false) := by obtain ⟨_, h, e⟩ := hL.val 11 _ rfl; rw [h, show _ = (.bool false : Value) from e]
                have hlit := act_lit (l := [_, _, _, _, _, _, _, _, _, _, _, _, _, _, _, _, _, _, _, _, _, _, _, _, _, _, _, _]) (hd.trans rfl) (by rw [hs]; rfl) (AllAt.cons ((hL.at 0 (by kernel_rfl)).trans rfl) (AllAt.cons ((hL.at 1 (by kernel_rfl)).trans rfl) (AllAt.cons ((hL.at 2 (by kernel_rfl)).trans rfl) (AllAt.cons ((hL.at 3 (by kernel_rfl)).trans rfl) (AllAt.cons ((hL.at 4 (by kernel_rfl)).trans rfl) (AllAt.cons ((hL.at 5 (by kernel_rfl)).trans rfl) (AllAt.cons ((hL.at 6 (by kernel_rfl)).trans rfl) (AllAt.cons ((hL.at 7 (by kernel_rfl)).trans rfl) (AllAt.cons ((hL.at 8 (by kernel_rfl)).trans rfl) (AllAt.cons ((hL.at 9 (by kernel_rfl)).trans rfl) (AllAt.cons ((hL.at 10 (by kernel_rfl)).trans rfl) (AllAt.cons ((hL.at 11 (by kernel_rfl)).trans rfl) (AllAt.cons ((hL.at 12 (by kernel_rfl)).trans rfl) (AllAt.cons ((hL.at 13 (by kernel_rfl)).trans rfl) (AllAt.cons ((hL.at 14 (by kernel_rfl)).trans rfl) (AllAt.cons h15 (AllAt.cons h16 (AllAt.cons h17 (AllAt.cons h18 (AllAt.cons h19 (AllAt.cons h20 (AllAt.cons h21 (AllAt.cons h22 (AllAt.cons h23 (AllAt.cons h24 (AllAt.cons h25 (AllAt.cons h26 (AllAt.cons ((hL.at 27 (by kernel_rfl)).trans rfl) AllAt.nil))))))))))))))))))))))))))))
                clear hL hd hs h15 h16 h17 h18 h19 h20 h21 h22 h23 h24 h25 h26
                subst hlit
                dsimp only [List.getElem_toArray, List.getElem_cons_zero, List.getElem_cons_succ]
                go_wp2_with fail
                go_roundw
                case rel => exact ⟨k + 1, by omega, by go_num, HF.out, below_trans hB3 hW⟩
                case measure => simp [intOf]; omega
            · have H1 := Lib.hid h1
              have H := Lib.hid h2
              have j0 : (0 : Int) ≤ (j : Int) := by omega
              clear h1 h2
              refine wp_region_typed (fun i _ v => v = ([.agg #[.string l[k].key, .string l[k].title, .string l[k].body, .int .i64 l[k].day], .bool true, .bool false, .bool false, .slice (some ⟨b, off, none⟩) l.length cap, .int .i64 (k : Int), .slice (some ⟨b, off, none⟩) k cap, .pointer (some ⟨wo.heap.size, 0, none⟩), .string l[k].key, .int .i64 (j : Int), .bool true, .bool true] : List Value).getD i undef) (fun _ => 0) (fun _ w' => Below wd.heap.size wd w') (fun _ _ => True) 0 (by kernel_rfl) 28 rfl (by kernel_rfl) (by decide) (Below.refl _ _).drew (fun _ _ _ _ _ h => h) ?_ ?_
              · refine ⟨?_, ?_, ?_, ?_, ?_, ?_, ?_, ?_, ?_, ?_, ?_, ?_, trivial⟩
                · intro B a' w' hB hW hF
                  have h4 : a'.tmps[4]? = some (.pointer (some ⟨wo.heap.size, 0, none⟩)) := (hF.at 4 (by kernel_rfl)).trans rfl
                  have k0 : w'.cell? ⟨wo.heap.size, 0, none⟩ = some (.string l[k].key) := keep_cell hW w0
                  have k1 : w'.cell? ⟨wo.heap.size, 1, none⟩ = some (.string l[k].title) := keep_cell hW w1
                  have k2 : w'.cell? ⟨wo.heap.size, 2, none⟩ = some (.string l[k].body) := keep_cell hW w2
                  have k3 : w'.cell? ⟨wo.heap.size, 3, none⟩ = some (.int .i64 l[k].day) := keep_cell hW w3
                  refine wpOp_step rfl (fun K hK => ?_)
                  go_simp
                  exact hK _ _ ⟨_, rfl, trivial, rfl, hW⟩
                · intro B a' w' hB hW hF
                  have h15 : a'.tmps[15]? = some (.agg #[.string l[k].key, .string l[k].title, .string l[k].body, .int .i64 l[k].day]) := by obtain ⟨_, h, e⟩ := hF.val ⟨0, .data⟩ (by simp) rfl _ rfl; rw [h, show _ = (.agg #[.string l[k].key, .string l[k].title, .string l[k].body, .int .i64 l[k].day] : Value) from e]
                  refine wpOp_step rfl (fun K hK => ?_)
                  go_simp
                  refine (i_ItemValid l[k] _ hsk).mono ?_
                  rintro x w'' ⟨rfl, hb⟩
                  rw [HW.out]
                  exact hK _ _ ⟨_, rfl, trivial, rfl, below_trans hW hb⟩
                · intro B a' w' hB hW hF
                  have h16 : a'.tmps[16]? = some (.bool true) := by obtain ⟨_, h, e⟩ := hF.val ⟨1, .data⟩ (by simp) rfl _ rfl; rw [h, show _ = (.bool true : Value) from e]
                  refine wpOp_step rfl (fun K hK => ?_)
                  go_simp
                  exact hK _ _ ⟨_, rfl, trivial, rfl, hW⟩
                · intro B a' w' hB hW hF
                  have h17 : a'.tmps[17]? = some (.bool false) := by obtain ⟨_, h, e⟩ := hF.val ⟨2, .data⟩ (by simp) rfl _ rfl; rw [h, show _ = (.bool false : Value) from e]
                  refine wpOp_step rfl (fun K hK => ?_)
                  go_simp
                  exact hK _ _ ⟨_, rfl, trivial, rfl, hW⟩
                · intro B a' w' hB hW hF
                  have hg : a'.tmps[18]? = some (.bool false) := by obtain ⟨_, h, e⟩ := hF.val ⟨3, .guard⟩ (by simp) rfl _ rfl; rw [h, show _ = (.bool false : Value) from e]
                  have h0 : a'.tmps[0]? = some (.slice (some ⟨b, off, none⟩) l.length cap) := (hF.at 0 (by kernel_rfl)).trans rfl
                  refine wpOp_step rfl (fun K hK => ?_)
                  rw [if_pos (wanted_yes rfl (yielded_of rfl rfl hg))]
                  go_simp
                  exact hK _ _ ⟨_, rfl, trivial, rfl, hW⟩
                · intro B a' w' hB hW hF
                  have hg : a'.tmps[18]? = some (.bool false) := by obtain ⟨_, h, e⟩ := hF.val ⟨3, .guard⟩ (by simp) rfl _ rfl; rw [h, show _ = (.bool false : Value) from e]
                  have h3 : a'.tmps[3]? = some (.int .i64 (k : Int)) := (hF.at 3 (by kernel_rfl)).trans rfl
                  refine wpOp_step rfl (fun K hK => ?_)
                  rw [if_pos (wanted_yes rfl (yielded_of rfl rfl hg))]
                  go_simp
                  exact hK _ _ ⟨_, rfl, trivial, rfl, hW⟩
                · intro B a' w' hB hW hF
                  have hg : a'.tmps[18]? = some (.bool false) := by obtain ⟨_, h, e⟩ := hF.val ⟨3, .guard⟩ (by simp) rfl _ rfl; rw [h, show _ = (.bool false : Value) from e]
                  have h19 : a'.tmps[19]? = some (.slice (some ⟨b, off, none⟩) l.length cap) := by obtain ⟨_, h, e⟩ := hF.val ⟨4, .data⟩ (by simp) rfl _ rfl; rw [h, show _ = (.slice (some ⟨b, off, none⟩) l.length cap : Value) from e]
                  have h20 : a'.tmps[20]? = some (.int .i64 (k : Int)) := by obtain ⟨_, h, e⟩ := hF.val ⟨5, .data⟩ (by simp) rfl _ rfl; rw [h, show _ = (.int .i64 (k : Int) : Value) from e]
                  refine wpOp_step rfl (fun K hK => ?_)
                  rw [if_pos (wanted_yes rfl (yielded_of rfl rfl hg))]
                  go_simp
                  exact hK _ _ ⟨_, rfl, trivial, rfl, hW⟩
                · intro B a' w' hB hW hF
                  have hg : a'.tmps[18]? = some (.bool false) := by obtain ⟨_, h, e⟩ := hF.val ⟨3, .guard⟩ (by simp) rfl _ rfl; rw [h, show _ = (.bool false : Value) from e]
                  have h4 : a'.tmps[4]? = some (.pointer (some ⟨wo.heap.size, 0, none⟩)) := (hF.at 4 (by kernel_rfl)).trans rfl
                  refine wpOp_step rfl (fun K hK => ?_)
                  rw [if_pos (wanted_yes rfl (yielded_of rfl rfl hg))]
                  go_simp
                  exact hK _ _ ⟨_, rfl, trivial, rfl, hW⟩
                · intro B a' w' hB hW hF
                  have hg : a'.tmps[18]? = some (.bool false) := by obtain ⟨_, h, e⟩ := hF.val ⟨3, .guard⟩ (by simp) rfl _ rfl; rw [h, show _ = (.bool false : Value) from e]
                  have h22 : a'.tmps[22]? = some (.pointer (some ⟨wo.heap.size, 0, none⟩)) := by obtain ⟨_, h, e⟩ := hF.val ⟨7, .data⟩ (by simp) rfl _ rfl; rw [h, show _ = (.pointer (some ⟨wo.heap.size, 0, none⟩) : Value) from e]
                  have k0 : w'.cell? ⟨wo.heap.size, 0, none⟩ = some (.string l[k].key) := keep_cell hW w0
                  refine wpOp_step rfl (fun K hK => ?_)
                  rw [if_pos (wanted_yes rfl (yielded_of rfl rfl hg))]
                  go_simp
                  exact hK _ _ ⟨_, rfl, trivial, rfl, hW⟩
                · intro B a' w' hB hW hF
                  have hg : a'.tmps[18]? = some (.bool false) := by obtain ⟨_, h, e⟩ := hF.val ⟨3, .guard⟩ (by simp) rfl _ rfl; rw [h, show _ = (.bool false : Value) from e]
                  have h21 : a'.tmps[21]? = some (.slice (some ⟨b, off, none⟩) k cap) := by obtain ⟨_, h, e⟩ := hF.val ⟨6, .data⟩ (by simp) rfl _ rfl; rw [h, show _ = (.slice (some ⟨b, off, none⟩) k cap : Value) from e]
                  have h23 : a'.tmps[23]? = some (.string l[k].key) := by obtain ⟨_, h, e⟩ := hF.val ⟨8, .data⟩ (by simp) rfl _ rfl; rw [h, show _ = (.string l[k].key : Value) from e]
                  refine wpOp_step rfl (fun K hK => ?_)
                  rw [if_pos (wanted_yes rfl (yielded_of rfl rfl hg))]
                  go_simp
                  refine (i_itemNumber _ (l.take k) l[k].key _ ((h.mono (below_trans hB3 hW)).take k (by omega))).mono ?_
                  rintro x w'' ⟨rfl, hb⟩
                  rw [H1.out]
                  exact hK _ _ ⟨_, rfl, trivial, rfl, below_trans hW hb⟩
                · intro B a' w' hB hW hF
                  have hg : a'.tmps[18]? = some (.bool false) := by obtain ⟨_, h, e⟩ := hF.val ⟨3, .guard⟩ (by simp) rfl _ rfl; rw [h, show _ = (.bool false : Value) from e]
                  have h24 : a'.tmps[24]? = some (.int .i64 (j : Int)) := by obtain ⟨_, h, e⟩ := hF.val ⟨9, .data⟩ (by simp) rfl _ rfl; rw [h, show _ = (.int .i64 (j : Int) : Value) from e]
                  refine wpOp_step rfl (fun K hK => ?_)
                  rw [if_pos (wanted_yes rfl (yielded_of rfl rfl hg))]
                  go_simp
                  exact hK _ _ ⟨_, rfl, trivial, rfl, hW⟩
                · intro B a' w' hB hW hF
                  have h18 : a'.tmps[18]? = some (.bool false) := by obtain ⟨_, h, e⟩ := hF.val ⟨3, .data⟩ (by simp) rfl _ rfl; rw [h, show _ = (.bool false : Value) from e]
                  have h25 : a'.tmps[25]? = some (.bool true) := by obtain ⟨_, h, e⟩ := hF.val ⟨10, .data⟩ (by simp) rfl _ rfl; rw [h, show _ = (.bool true : Value) from e]
                  refine wpOp_step rfl (fun K hK => ?_)
                  go_simp
                  exact hK _ _ ⟨_, rfl, trivial, rfl, hW⟩
              · intro a' w' hL hW
                have hd := hL.defers
                have hs := hL.size
                have h15 : a'.tmps[15]? = some (.agg #[.string l[k].key, .string l[k].title, .string l[k].body, .int .i64 l[k].day]) := by obtain ⟨_, h, e⟩ := hL.val 0 _ rfl; rw [h, show _ = (.agg #[.string l[k].key, .string l[k].title, .string l[k].body, .int .i64 l[k].day] : Value) from e]
                have h16 : a'.tmps[16]? = some (.bool true) := by obtain ⟨_, h, e⟩ := hL.val 1 _ rfl; rw [h, show _ = (.bool true : Value) from e]
                have h17 : a'.tmps[17]? = some (.bool false) := by obtain ⟨_, h, e⟩ := hL.val 2 _ rfl; rw [h, show _ = (.bool false : Value) from e]
                have h18 : a'.tmps[18]? = some (.bool false) := by obtain ⟨_, h, e⟩ := hL.val 3 _ rfl; rw [h, show _ = (.bool false : Value) from e]
                have h19 : a'.tmps[19]? = some (.slice (some ⟨b, off, none⟩) l.length cap) := by obtain ⟨_, h, e⟩ := hL.val 4 _ rfl; rw [h, show _ = (.slice (some ⟨b, off, none⟩) l.length cap : Value) from e]
                have h20 : a'.tmps[20]? = some (.int .i64 (k : Int)) := by obtain ⟨_, h, e⟩ := hL.val 5 _ rfl; rw [h, show _ = (.int .i64 (k : Int) : Value) from e]
                have h21 : a'.tmps[21]? = some (.slice (some ⟨b, off, none⟩) k cap) := by obtain ⟨_, h, e⟩ := hL.val 6 _ rfl; rw [h, show _ = (.slice (some ⟨b, off, none⟩) k cap : Value) from e]
                have h22 : a'.tmps[22]? = some (.pointer (some ⟨wo.heap.size, 0, none⟩)) := by obtain ⟨_, h, e⟩ := hL.val 7 _ rfl; rw [h, show _ = (.pointer (some ⟨wo.heap.size, 0, none⟩) : Value) from e]
                have h23 : a'.tmps[23]? = some (.string l[k].key) := by obtain ⟨_, h, e⟩ := hL.val 8 _ rfl; rw [h, show _ = (.string l[k].key : Value) from e]
                have h24 : a'.tmps[24]? = some (.int .i64 (j : Int)) := by obtain ⟨_, h, e⟩ := hL.val 9 _ rfl; rw [h, show _ = (.int .i64 (j : Int) : Value) from e]
                have h25 : a'.tmps[25]? = some (.bool true) := by obtain ⟨_, h, e⟩ := hL.val 10 _ rfl; rw [h, show _ = (.bool true : Value) from e]
                have h26 : a'.tmps[26]? = some (.bool true) := by obtain ⟨_, h, e⟩ := hL.val 11 _ rfl; rw [h, show _ = (.bool true : Value) from e]
                have hlit := act_lit (l := [_, _, _, _, _, _, _, _, _, _, _, _, _, _, _, _, _, _, _, _, _, _, _, _, _, _, _, _]) (hd.trans rfl) (by rw [hs]; rfl) (AllAt.cons ((hL.at 0 (by kernel_rfl)).trans rfl) (AllAt.cons ((hL.at 1 (by kernel_rfl)).trans rfl) (AllAt.cons ((hL.at 2 (by kernel_rfl)).trans rfl) (AllAt.cons ((hL.at 3 (by kernel_rfl)).trans rfl) (AllAt.cons ((hL.at 4 (by kernel_rfl)).trans rfl) (AllAt.cons ((hL.at 5 (by kernel_rfl)).trans rfl) (AllAt.cons ((hL.at 6 (by kernel_rfl)).trans rfl) (AllAt.cons ((hL.at 7 (by kernel_rfl)).trans rfl) (AllAt.cons ((hL.at 8 (by kernel_rfl)).trans rfl) (AllAt.cons ((hL.at 9 (by kernel_rfl)).trans rfl) (AllAt.cons ((hL.at 10 (by kernel_rfl)).trans rfl) (AllAt.cons ((hL.at 11 (by kernel_rfl)).trans rfl) (AllAt.cons ((hL.at 12 (by kernel_rfl)).trans rfl) (AllAt.cons ((hL.at 13 (by kernel_rfl)).trans rfl) (AllAt.cons ((hL.at 14 (by kernel_rfl)).trans rfl) (AllAt.cons h15 (AllAt.cons h16 (AllAt.cons h17 (AllAt.cons h18 (AllAt.cons h19 (AllAt.cons h20 (AllAt.cons h21 (AllAt.cons h22 (AllAt.cons h23 (AllAt.cons h24 (AllAt.cons h25 (AllAt.cons h26 (AllAt.cons ((hL.at 27 (by kernel_rfl)).trans rfl) AllAt.nil))))))))))))))))))))))))))))
                clear hL hd hs h15 h16 h17 h18 h19 h20 h21 h22 h23 h24 h25 h26
                subst hlit
                dsimp only [List.getElem_toArray, List.getElem_cons_zero, List.getElem_cons_succ]
                go_wp2_with fail
                go_ret
                exact ⟨ret_bool H.out.symm, below_trans hB3 hW⟩
        · have H : Hid (feedB l = true) := by
            obtain rfl : k = l.length := by omega
            exact goodB_yes h6 hT
          clear hT hc hs
          go_wp2
          go_ret
          exact ⟨ret_bool H.out.symm, hB⟩
    · rw [show feedB l = false from goodB_long (by omega)]
      clear hc hs h
      go_enter Try.func11, Try.ntmps11
      go_wp2
      go_ret
      exact ⟨rfl, Below.refl _ _⟩

set_option maxHeartbeats 1600000 in
theorem s_FeedValid (v : Value) (l : List Itm) (w : World) (h : Sl itmS w v l) (hs : SzL l) :
    Calls Try.prog 35 #[v] w fun e w' => e = .returned (.bool (feedB l)) ∧ Below w.heap.size w w' := by
  have hm := h.len
  rcases Nat.eq_zero_or_pos l.length with h0 | h0
  · obtain rfl := List.eq_nil_of_length_eq_zero h0
    obtain ⟨a, cap, rfl, _⟩ := h
    rw [show feedB [] = true from rfl]
    clear h0 hm hs
    go_enter Try.func35, Try.ntmps35
    go_wp2
    go_loop [3] (fun i => i = .int .i64 0) (fun _ => 0)
    case atStart => rfl
    case round =>
      obtain rfl := hrel
      go_wp2
      go_ret
      exact ⟨rfl, Below.refl _ _⟩
  · obtain ⟨b, off, cap, rfl, hcap, hbs, hc⟩ := SlItm.open h h0
    clear h
    go_enter Try.func35, Try.ntmps35
    go_wp2
    go_loopw [3] (fun i wr => ∃ k : Nat, k ≤ l.length ∧ i = .int .i64 k ∧ FdTo l k ∧ Below w.heap.size w wr) (fun i _ => l.length - (intOf i).toNat)
    case atStart => exact ⟨0, Nat.zero_le _, rfl, GoodTo.zero _ _ _, Below.refl _ _⟩
    case round =>
      obtain ⟨wo, rfl⟩ : ∃ wo : World, wo = wr := ⟨_, rfl⟩
      obtain ⟨k, hk, rfl, hT, hB⟩ := hrel
      by_cases hlt : k < l.length
      · have hsk : Sz l[k] := hs _ (List.getElem_mem hlt)
        have c0 : wo.cell? ⟨b, off + k * 4, none⟩ = some (.string l[k].key) := (hB.cell (p := ⟨b, off + k * 4, none⟩) hbs).trans (hc k hlt).1
        have c1 : wo.cell? ⟨b, off + k * 4 + 1, none⟩ = some (.string l[k].title) := (hB.cell (p := ⟨b, off + k * 4 + 1, none⟩) hbs).trans (hc k hlt).2.1
        have c2 : wo.cell? ⟨b, off + k * 4 + 2, none⟩ = some (.string l[k].body) := (hB.cell (p := ⟨b, off + k * 4 + 2, none⟩) hbs).trans (hc k hlt).2.2.1
        have c3 : wo.cell? ⟨b, off + k * 4 + 3, none⟩ = some (.int .i64 l[k].day) := (hB.cell (p := ⟨b, off + k * 4 + 3, none⟩) hbs).trans (hc k hlt).2.2.2
        cases hw : itmOk l[k]
        · have H : Hid (feedB l = false) := feed_bad hlt hw
          clear hc hs hT
          go_wp2_with fail
          refine (s_ItemValid l[k] _ hsk).mono ?_
          rintro e w1 ⟨rfl, hb1⟩
          rw [hw]
          go_wp2_with fail
          go_ret
          exact ⟨ret_bool H.out.symm, below_trans hB hb1⟩
        · have HW := Lib.hid hw
          have HT := Lib.hid hT
          clear hT hs
          go_wp2_with fail
          refine (s_ItemValid l[k] _ hsk).mono ?_
          rintro e w1 ⟨rfl, hb1⟩
          rw [hw]
          have hB0 := below_trans hB hb1
          clear hw c0 c1 c2 c3
          go_wp2_with fail
          go_loopw [4] (fun i wr => ∃ j : Nat, j ≤ k ∧ i = .int .i64 j ∧ FdFree l k hlt j ∧ Below w.heap.size w wr) (fun i _ => k - (intOf i).toNat)
          case atStart => exact ⟨0, Nat.zero_le _, rfl, FreeOf.zero _ _ _ _, hB0⟩
          case round =>
            obtain ⟨j, hj, rfl, hF, hB2⟩ := hrel
            by_cases hjk : j < k
            · have hjl : j < l.length := by omega
              have d0 : wr.cell? ⟨b, off + j * 4, none⟩ = some (.string l[j].key) := (hB2.cell (p := ⟨b, off + j * 4, none⟩) hbs).trans (hc j hjl).1
              have d1 : wr.cell? ⟨b, off + k * 4, none⟩ = some (.string l[k].key) := (hB2.cell (p := ⟨b, off + k * 4, none⟩) hbs).trans (hc k hlt).1
              have q0 : (0 : Int) ≤ (j : Int) := by omega
              have q1 : (j : Int) < (l.length : Int) := by omega
              have q2 : (0 : Int) ≤ (k : Int) := by omega
              have q3 : (k : Int) < (l.length : Int) := by omega
              clear hc
              cases he : (l[j].key.toList == l[k].key.toList)
              · have HF : Hid (FdFree l k hlt (j + 1)) := FreeOf.succ hF hjl he
                clear hF
                go_wp2
                go_quiet (fail)
                go_wp2
                go_roundw
                case rel => exact ⟨j + 1, by omega, by go_num, HF.out, belowN hB2 _⟩
                case measure => simp [intOf]; omega
              · have H : Hid (feedB l = false) := feed_twice hjk hlt he
                clear hF
                go_wp2
                go_quiet (fail)
                go_wp2
                go_ret
                exact ⟨ret_bool H.out.symm, belowN hB2 _⟩
            · have HT2 : FdTo l (k + 1) := by
                obtain rfl : j = k := by omega
                exact HT.out.step hlt HW.out hF
              clear hc hF
              go_wp2
              go_roundw
              case rel => exact ⟨k + 1, by omega, by go_num, HT2, hB2⟩
              case measure => simp [intOf]; omega
      · obtain rfl : k = l.length := by omega
        by_cases h6 : l.length ≤ 8
        · have H : Hid (feedB l = true) := goodB_yes h6 hT
          clear hT hc hs
          go_wp2
          go_ret
          exact ⟨ret_bool (by rw [H.out]; simp; omega), hB⟩
        · have H : Hid (feedB l = false) := goodB_long (by omega)
          clear hT hc hs
          go_wp2
          go_ret
          exact ⟨ret_bool (by rw [H.out]; simp; omega), hB⟩
end Go.Proofs.Ytlmpkajnbdhppaa
