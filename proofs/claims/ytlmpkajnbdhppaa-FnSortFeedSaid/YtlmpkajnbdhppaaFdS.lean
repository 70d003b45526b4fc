/- The walk of the reference's SortFeed: the items in their order. Condition: the slice reads as the list, texts are no longer than a machine holds. -/
import Derived.Test.YtlmpkajnbdhppaaFdI
import Derived.Test.YtlmpkajnbdhppaaChain
import Derived.Test.YtlmpkajnbdhppaaDet
namespace Go.Proofs.Ytlmpkajnbdhppaa
open Go.RowKit

set_option maxHeartbeats 800000 in
theorem s_l6Before (x y : Itm) (W : World) : Calls Try.prog 36 #[.agg #[.string x.key, .string x.title, .string x.body, .int .i64 x.day], .agg #[.string y.key, .string y.title, .string y.body, .int .i64 y.day]] W fun e w' => e = .returned (.bool (lessI x y)) ∧ Below W.heap.size W w' := by
  obtain ⟨xk, xt, xb, xd⟩ := x
  obtain ⟨yk, yt, yb, yd⟩ := y
  simp only
  have hb : Below W.heap.size W ((W.alloc (.cells #[.string xk, .string xt, .string xb, .int .i64 xd] 30)).alloc (.cells #[.string yk, .string yt, .string yb, .int .i64 yd] 30)) := below_trans (below1 _ _) (below1 _ _)
  by_cases h1 : yd < xd
  · rw [show lessI ⟨xk, xt, xb, xd⟩ ⟨yk, yt, yb, yd⟩ = true by simp [lessI, h1]]
    have d1 : decide (yd < xd) = true := decide_eq_true h1
    go_enter Try.func36, Try.ntmps36
    go_wp2
    go_ret
    exact ⟨rfl, hb⟩
  · have d1 : decide (yd < xd) = false := decide_eq_false h1
    by_cases h2 : xd = yd
    · rw [show lessI ⟨xk, xt, xb, xd⟩ ⟨yk, yt, yb, yd⟩ = Op.bytesLess xk.toList yk.toList by simp [lessI, h2]]
      have d2 : (xd == yd) = true := by simpa using h2
      clear h2
      go_enter Try.func36, Try.ntmps36
      go_wp2
      go_ret
      exact ⟨rfl, hb⟩
    · rw [show lessI ⟨xk, xt, xb, xd⟩ ⟨yk, yt, yb, yd⟩ = false by simp [lessI, h1, h2]]
      have d2 : (xd == yd) = false := by simpa using h2
      go_enter Try.func36, Try.ntmps36
      go_wp2
      go_ret
      exact ⟨rfl, hb⟩

set_option maxRecDepth 100000 in
set_option maxHeartbeats 6400000 in
theorem s_SortFeed (v : Value) (l : List Itm) (w : World) (h : Sl itmS w v l) (hs : SzL l) :
    Calls Try.prog 10 #[v] w (FSortRet l w) := by
  have hm := h.len
  obtain ⟨i0, hi, hz0, hz1, hz2⟩ := info_parts Try.infoItm
  rcases Nat.eq_zero_or_pos l.length with h0 | h0
  · obtain rfl := List.eq_nil_of_length_eq_zero h0
    obtain ⟨A, cap, rfl, _⟩ := h
    have hO : Hid ((w.alloc (.cells #[] 30)).ownsRow w.heap.size 30 4 (.slice (some ⟨w.heap.size, 0, none⟩) 0 0) 0 (itmS.cells [])) := World.ownsRow_lit _ _ _ (Nat.le_refl _) (by simp [maxLen]) (by simp)
    clear h0 hm hs
    go_enter Try.func10, Try.ntmps10
    go_wp2_with fail
    go_loop [3, 4] (fun V i => i = .int .i64 0 ∧ V = .slice (some ⟨w.heap.size, 0, none⟩) 0 0) (fun _ _ => 0)
    case atStart => exact ⟨rfl, rfl⟩
    case round =>
      obtain ⟨rfl, rfl⟩ := hrel
      go_wp2_with fail
      go_ret
      exact FSortRet.mk (FSrt.zero []).all hO.out (below1 _ _)
  · obtain ⟨b, off, cap, rfl, hcap, hbs, hc⟩ := SlItm.open h h0
    go_enter Try.func10, Try.ntmps10
    go_wp2_with fail
    go_loopw [3, 4] (fun V i wr => ∃ (k : Nat) (A : Option Addr) (c : Nat) (o : List Itm), k ≤ l.length ∧ i = .int .i64 k ∧ V = .slice A o.length c ∧ wr.ownsRow w.heap.size 30 4 (.slice A o.length c) o.length (itmS.cells o) ∧ FSrt l o k ∧ Below w.heap.size w wr) (fun _ i _ => l.length - (intOf i).toNat)
    case atStart => exact ⟨0, _, _, [], Nat.zero_le _, rfl, rfl, World.ownsRow_lit _ _ _ (Nat.le_refl _) (by simp [maxLen]) (by simp), FSrt.zero l, below1 _ _⟩
    case round =>
      obtain ⟨wo, rfl⟩ : ∃ wo : World, wo = wr := ⟨_, rfl⟩
      obtain ⟨k, A, c, o, hk, rfl, rfl, hown, hT, hB⟩ := hrel
      by_cases hlt : k < l.length
      · have q2 : (0 : Int) ≤ (k : Int) := by omega
        have q3 : (k : Int) < (l.length : Int) := by omega
        have hol : o.length ≤ l.length := by have := hT.1.length_eq; rw [List.length_take] at this; omega
        cases hf : feedB l
        · have hk0 : k = 0 := by
            rcases Nat.eq_zero_or_pos k with h | h
            · exact h
            · rw [hT.2.2 h] at hf; cases hf
          have ho0 : o = [] := by
            have := hT.1.length_eq
            rw [hk0] at this
            exact List.eq_nil_of_length_eq_zero (by simpa using this)
          have HS : Hid (FeedRel l o) := .inr ⟨hf, ho0⟩
          clear hk0 ho0 hT
          go_wp2_with fail
          refine (s_FeedValid _ l _ (h.mono hB) hs).mono ?_
          rintro e w1 ⟨rfl, hb1⟩
          rw [hf]
          have hown1 := owns_below hown hb1
          go_wp2_with fail
          go_ret
          exact FSortRet.mk HS.out hown1 (below_trans hB hb1)
        · have HF := Lib.hid hf
          have HT := Lib.hid hT
          have hl6 : l.length ≤ 8 := (goodB_iff.1 hf).1
          go_wp2_with fail
          refine (s_FeedValid _ l _ (h.mono hB) hs).mono ?_
          rintro e w1 ⟨rfl, hb1⟩
          rw [hf]
          have hB1 := below_trans hB hb1
          have hown1 := owns_below hown hb1
          clear hown hB hb1 hf hT
          go_wp2_with fail
          go_loopw [5] (fun i wr => ∃ a : Nat, a ≤ o.length ∧ i = .int .i64 a ∧ FGt l o k hlt a ∧ wr.ownsRow w.heap.size 30 4 (.slice A o.length c) o.length (itmS.cells o) ∧ Below w.heap.size w wr) (fun i _ => (intOf i).toNat)
          case atStart => exact ⟨o.length, Nat.le_refl _, rfl, fun i hi ha => absurd hi (by omega), hown1, hB1⟩
          case round =>
            clear hown1 hB1
            obtain ⟨a, ha, rfl, hG, hown2, hB2⟩ := hrel
            have d0 : wr.cell? ⟨b, off + k * 4, none⟩ = some (.string l[k].key) := (hB2.cell (p := ⟨b, off + k * 4, none⟩) hbs).trans (hc k hlt).1
            have d1 : wr.cell? ⟨b, off + k * 4 + 1, none⟩ = some (.string l[k].title) := (hB2.cell (p := ⟨b, off + k * 4 + 1, none⟩) hbs).trans (hc k hlt).2.1
            have d2 : wr.cell? ⟨b, off + k * 4 + 2, none⟩ = some (.string l[k].body) := (hB2.cell (p := ⟨b, off + k * 4 + 2, none⟩) hbs).trans (hc k hlt).2.2.1
            have d3 : wr.cell? ⟨b, off + k * 4 + 3, none⟩ = some (.int .i64 l[k].day) := (hB2.cell (p := ⟨b, off + k * 4 + 3, none⟩) hbs).trans (hc k hlt).2.2.2
            have mixed : Try.prog.follows Departure.mixedOrders = true := by kernel_rfl
            have hcc : o.length ≤ c ∧ c ≤ maxLen := by obtain ⟨_, _, e, h1, h2, _⟩ := Sl.of_owns (S := itmS) hown2; injection e with _ _ e; subst e; exact ⟨h1, h2⟩
            obtain ⟨hcc1, hcc2⟩ := hcc
            by_cases ha0 : a = 0
            · have HSrt : Hid (FSrt l (o.take a ++ l[k] :: o.drop a) (k + 1)) := HT.out.insert HF.out hlt ha hG (fun h0 => by omega)
              have g1 : decide ((0 : Int) < (a : Int)) = false := by simp; omega
              have g2 : decide (0 < a) = false := by simp; omega
              clear ha0 hG hc
              go_wp2_with fail
              refine wp_region_typed (fun i _ v => v = ([.int .i64 (a : Int), .bool false, .bool false, undef, undef, undef, undef, undef, undef, undef, undef, undef, undef, Value.bool false] : List Value).getD i undef) (fun _ => 0) (fun _ w' => Below wr.heap.size wr w') (fun _ _ => True) 0 (by kernel_rfl) 51 rfl (by kernel_rfl) (by decide) (Below.refl _ _).drew (fun _ _ _ _ _ h => h) ?_ ?_
              · refine ⟨?_, ?_, ?_, ?_, ?_, ?_, ?_, ?_, ?_, ?_, ?_, ?_, ?_, ?_, trivial⟩
                · intro B a' w' hB hW hF
                  have h5 : a'.tmps[5]? = some (.int .i64 (a : Int)) := (hF.at 5 (by kernel_rfl)).trans rfl
                  refine wpOp_step rfl (fun K hK => ?_)
                  go_simp
                  exact hK _ _ ⟨_, rfl, trivial, rfl, hW⟩
                · intro B a' w' hB hW hF
                  have h19 : a'.tmps[19]? = some (.int .i64 (a : Int)) := by obtain ⟨_, h, e⟩ := hF.val ⟨0, .data⟩ (by simp) rfl _ rfl; rw [h, show _ = (.int .i64 (a : Int) : Value) from e]
                  refine wpOp_step rfl (fun K hK => ?_)
                  go_simp
                  exact hK _ _ ⟨_, rfl, trivial, rfl, hW⟩
                · intro B a' w' hB hW hF
                  have h20 : a'.tmps[20]? = some (.bool false) := by obtain ⟨_, h, e⟩ := hF.val ⟨1, .data⟩ (by simp) rfl _ rfl; rw [h, show _ = (.bool false : Value) from e]
                  refine wpOp_step rfl (fun K hK => ?_)
                  go_simp
                  exact hK _ _ ⟨_, rfl, trivial, rfl, hW⟩
                · intro B a' w' hB hW hF
                  have hg : a'.tmps[21]? = some (.bool false) := by obtain ⟨_, h, e⟩ := hF.val ⟨2, .guard⟩ (by simp) rfl _ rfl; rw [h, show _ = (.bool false : Value) from e]
                  refine wpOp_step rfl (fun K hK => ?_)
                  rw [if_neg (wanted_no rfl (yielded_of rfl rfl hg) (by decide))]
                  exact hK _ _ ⟨_, rfl, trivial, rfl, hW⟩
                · intro B a' w' hB hW hF
                  have hg : a'.tmps[21]? = some (.bool false) := by obtain ⟨_, h, e⟩ := hF.val ⟨2, .guard⟩ (by simp) rfl _ rfl; rw [h, show _ = (.bool false : Value) from e]
                  refine wpOp_step rfl (fun K hK => ?_)
                  rw [if_neg (wanted_no rfl (yielded_of rfl rfl hg) (by decide))]
                  exact hK _ _ ⟨_, rfl, trivial, rfl, hW⟩
                · intro B a' w' hB hW hF
                  have hg : a'.tmps[21]? = some (.bool false) := by obtain ⟨_, h, e⟩ := hF.val ⟨2, .guard⟩ (by simp) rfl _ rfl; rw [h, show _ = (.bool false : Value) from e]
                  refine wpOp_step rfl (fun K hK => ?_)
                  rw [if_neg (wanted_no rfl (yielded_of rfl rfl hg) (by decide))]
                  exact hK _ _ ⟨_, rfl, trivial, rfl, hW⟩
                · intro B a' w' hB hW hF
                  have hg : a'.tmps[21]? = some (.bool false) := by obtain ⟨_, h, e⟩ := hF.val ⟨2, .guard⟩ (by simp) rfl _ rfl; rw [h, show _ = (.bool false : Value) from e]
                  refine wpOp_step rfl (fun K hK => ?_)
                  rw [if_neg (wanted_no rfl (yielded_of rfl rfl hg) (by decide))]
                  exact hK _ _ ⟨_, rfl, trivial, rfl, hW⟩
                · intro B a' w' hB hW hF
                  have hg : a'.tmps[21]? = some (.bool false) := by obtain ⟨_, h, e⟩ := hF.val ⟨2, .guard⟩ (by simp) rfl _ rfl; rw [h, show _ = (.bool false : Value) from e]
                  refine wpOp_step rfl (fun K hK => ?_)
                  rw [if_neg (wanted_no rfl (yielded_of rfl rfl hg) (by decide))]
                  exact hK _ _ ⟨_, rfl, trivial, rfl, hW⟩
                · intro B a' w' hB hW hF
                  have hg : a'.tmps[21]? = some (.bool false) := by obtain ⟨_, h, e⟩ := hF.val ⟨2, .guard⟩ (by simp) rfl _ rfl; rw [h, show _ = (.bool false : Value) from e]
                  refine wpOp_step rfl (fun K hK => ?_)
                  rw [if_neg (wanted_no rfl (yielded_of rfl rfl hg) (by decide))]
                  exact hK _ _ ⟨_, rfl, trivial, rfl, hW⟩
                · intro B a' w' hB hW hF
                  have hg : a'.tmps[21]? = some (.bool false) := by obtain ⟨_, h, e⟩ := hF.val ⟨2, .guard⟩ (by simp) rfl _ rfl; rw [h, show _ = (.bool false : Value) from e]
                  refine wpOp_step rfl (fun K hK => ?_)
                  rw [if_neg (wanted_no rfl (yielded_of rfl rfl hg) (by decide))]
                  exact hK _ _ ⟨_, rfl, trivial, rfl, hW⟩
                · intro B a' w' hB hW hF
                  have hg : a'.tmps[21]? = some (.bool false) := by obtain ⟨_, h, e⟩ := hF.val ⟨2, .guard⟩ (by simp) rfl _ rfl; rw [h, show _ = (.bool false : Value) from e]
                  refine wpOp_step rfl (fun K hK => ?_)
                  rw [if_neg (wanted_no rfl (yielded_of rfl rfl hg) (by decide))]
                  exact hK _ _ ⟨_, rfl, trivial, rfl, hW⟩
                · intro B a' w' hB hW hF
                  have hg : a'.tmps[21]? = some (.bool false) := by obtain ⟨_, h, e⟩ := hF.val ⟨2, .guard⟩ (by simp) rfl _ rfl; rw [h, show _ = (.bool false : Value) from e]
                  refine wpOp_step rfl (fun K hK => ?_)
                  rw [if_neg (wanted_no rfl (yielded_of rfl rfl hg) (by decide))]
                  exact hK _ _ ⟨_, rfl, trivial, rfl, hW⟩
                · intro B a' w' hB hW hF
                  have hg : a'.tmps[21]? = some (.bool false) := by obtain ⟨_, h, e⟩ := hF.val ⟨2, .guard⟩ (by simp) rfl _ rfl; rw [h, show _ = (.bool false : Value) from e]
                  refine wpOp_step rfl (fun K hK => ?_)
                  rw [if_neg (wanted_no rfl (yielded_of rfl rfl hg) (by decide))]
                  exact hK _ _ ⟨_, rfl, trivial, rfl, hW⟩
                · intro B a' w' hB hW hF
                  have h21 : a'.tmps[21]? = some (.bool false) := by obtain ⟨_, h, e⟩ := hF.val ⟨2, .data⟩ (by simp) rfl _ rfl; rw [h, show _ = (.bool false : Value) from e]
                  have h31 : a'.tmps[31]? = some (undef) := by obtain ⟨_, h, e⟩ := hF.val ⟨12, .data⟩ (by simp) rfl _ rfl; rw [h, show _ = (undef : Value) from e]
                  refine wpOp_step rfl (fun K hK => ?_)
                  go_simp
                  exact hK _ _ ⟨_, rfl, trivial, rfl, hW⟩
              · intro a' w' hL hW
                have hd := hL.defers
                have hs := hL.size
                have h19 : a'.tmps[19]? = some (.int .i64 (a : Int)) := by obtain ⟨_, h, e⟩ := hL.val 0 _ rfl; rw [h, show _ = (.int .i64 (a : Int) : Value) from e]
                have h20 : a'.tmps[20]? = some (.bool false) := by obtain ⟨_, h, e⟩ := hL.val 1 _ rfl; rw [h, show _ = (.bool false : Value) from e]
                have h21 : a'.tmps[21]? = some (.bool false) := by obtain ⟨_, h, e⟩ := hL.val 2 _ rfl; rw [h, show _ = (.bool false : Value) from e]
                have h22 : a'.tmps[22]? = some (undef) := by obtain ⟨_, h, e⟩ := hL.val 3 _ rfl; rw [h, show _ = (undef : Value) from e]
                have h23 : a'.tmps[23]? = some (undef) := by obtain ⟨_, h, e⟩ := hL.val 4 _ rfl; rw [h, show _ = (undef : Value) from e]
                have h24 : a'.tmps[24]? = some (undef) := by obtain ⟨_, h, e⟩ := hL.val 5 _ rfl; rw [h, show _ = (undef : Value) from e]
                have h25 : a'.tmps[25]? = some (undef) := by obtain ⟨_, h, e⟩ := hL.val 6 _ rfl; rw [h, show _ = (undef : Value) from e]
                have h26 : a'.tmps[26]? = some (undef) := by obtain ⟨_, h, e⟩ := hL.val 7 _ rfl; rw [h, show _ = (undef : Value) from e]
                have h27 : a'.tmps[27]? = some (undef) := by obtain ⟨_, h, e⟩ := hL.val 8 _ rfl; rw [h, show _ = (undef : Value) from e]
                have h28 : a'.tmps[28]? = some (undef) := by obtain ⟨_, h, e⟩ := hL.val 9 _ rfl; rw [h, show _ = (undef : Value) from e]
                have h29 : a'.tmps[29]? = some (undef) := by obtain ⟨_, h, e⟩ := hL.val 10 _ rfl; rw [h, show _ = (undef : Value) from e]
                have h30 : a'.tmps[30]? = some (undef) := by obtain ⟨_, h, e⟩ := hL.val 11 _ rfl; rw [h, show _ = (undef : Value) from e]
                have h31 : a'.tmps[31]? = some (undef) := by obtain ⟨_, h, e⟩ := hL.val 12 _ rfl; rw [h, show _ = (undef : Value) from e]
                have h32 : a'.tmps[32]? = some (Value.bool false) := by obtain ⟨_, h, e⟩ := hL.val 13 _ rfl; rw [h, show _ = (Value.bool false : Value) from e]
                have hlit := act_lit (l := [_, _, _, _, _, _, _, _, _, _, _, _, _, _, _, _, _, _, _, _, _, _, _, _, _, _, _, _, _, _, _, _, _, _, _, _, _, _, _, _, _, _, _, _, _, _, _, _, _, _, _]) (hd.trans rfl) (by rw [hs]; rfl) (AllAt.cons ((hL.at 0 (by kernel_rfl)).trans rfl) (AllAt.cons ((hL.at 1 (by kernel_rfl)).trans rfl) (AllAt.cons ((hL.at 2 (by kernel_rfl)).trans rfl) (AllAt.cons ((hL.at 3 (by kernel_rfl)).trans rfl) (AllAt.cons ((hL.at 4 (by kernel_rfl)).trans rfl) (AllAt.cons ((hL.at 5 (by kernel_rfl)).trans rfl) (AllAt.cons ((hL.at 6 (by kernel_rfl)).trans rfl) (AllAt.cons ((hL.at 7 (by kernel_rfl)).trans rfl) (AllAt.cons ((hL.at 8 (by kernel_rfl)).trans rfl) (AllAt.cons ((hL.at 9 (by kernel_rfl)).trans rfl) (AllAt.cons ((hL.at 10 (by kernel_rfl)).trans rfl) (AllAt.cons ((hL.at 11 (by kernel_rfl)).trans rfl) (AllAt.cons ((hL.at 12 (by kernel_rfl)).trans rfl) (AllAt.cons ((hL.at 13 (by kernel_rfl)).trans rfl) (AllAt.cons ((hL.at 14 (by kernel_rfl)).trans rfl) (AllAt.cons ((hL.at 15 (by kernel_rfl)).trans rfl) (AllAt.cons ((hL.at 16 (by kernel_rfl)).trans rfl) (AllAt.cons ((hL.at 17 (by kernel_rfl)).trans rfl) (AllAt.cons ((hL.at 18 (by kernel_rfl)).trans rfl) (AllAt.cons h19 (AllAt.cons h20 (AllAt.cons h21 (AllAt.cons h22 (AllAt.cons h23 (AllAt.cons h24 (AllAt.cons h25 (AllAt.cons h26 (AllAt.cons h27 (AllAt.cons h28 (AllAt.cons h29 (AllAt.cons h30 (AllAt.cons h31 (AllAt.cons h32 (AllAt.cons ((hL.at 33 (by kernel_rfl)).trans rfl) (AllAt.cons ((hL.at 34 (by kernel_rfl)).trans rfl) (AllAt.cons ((hL.at 35 (by kernel_rfl)).trans rfl) (AllAt.cons ((hL.at 36 (by kernel_rfl)).trans rfl) (AllAt.cons ((hL.at 37 (by kernel_rfl)).trans rfl) (AllAt.cons ((hL.at 38 (by kernel_rfl)).trans rfl) (AllAt.cons ((hL.at 39 (by kernel_rfl)).trans rfl) (AllAt.cons ((hL.at 40 (by kernel_rfl)).trans rfl) (AllAt.cons ((hL.at 41 (by kernel_rfl)).trans rfl) (AllAt.cons ((hL.at 42 (by kernel_rfl)).trans rfl) (AllAt.cons ((hL.at 43 (by kernel_rfl)).trans rfl) (AllAt.cons ((hL.at 44 (by kernel_rfl)).trans rfl) (AllAt.cons ((hL.at 45 (by kernel_rfl)).trans rfl) (AllAt.cons ((hL.at 46 (by kernel_rfl)).trans rfl) (AllAt.cons ((hL.at 47 (by kernel_rfl)).trans rfl) (AllAt.cons ((hL.at 48 (by kernel_rfl)).trans rfl) (AllAt.cons ((hL.at 49 (by kernel_rfl)).trans rfl) (AllAt.cons ((hL.at 50 (by kernel_rfl)).trans rfl) AllAt.nil)))))))))))))))))))))))))))))))))))))))))))))))))))
                clear hL hd hs h19 h20 h21 h22 h23 h24 h25 h26 h27 h28 h29 h30 h31 h32
                subst hlit
                dsimp only [List.getElem_toArray, List.getElem_cons_zero, List.getElem_cons_succ]
                go_wp2_with fail
                have hslo0 : Sl itmS wr (.slice A o.length c) o := Sl.of_owns hown2
                have hbW0 : b < wr.heap.size := Nat.lt_of_lt_of_le hbs hB2.size
                clear g1 g2
                obtain ⟨w2, hw2⟩ : ∃ w2, w2 = w' := ⟨_, rfl⟩
                have e0 : w2.cell? ⟨b, off + k * 4, none⟩ = some (.string l[k].key) := by rw [hw2]; exact keep_cell hW d0
                have e1 : w2.cell? ⟨b, off + k * 4 + 1, none⟩ = some (.string l[k].title) := by rw [hw2]; exact keep_cell hW d1
                have e2 : w2.cell? ⟨b, off + k * 4 + 2, none⟩ = some (.string l[k].body) := by rw [hw2]; exact keep_cell hW d2
                have e3 : w2.cell? ⟨b, off + k * 4 + 3, none⟩ = some (.int .i64 l[k].day) := by rw [hw2]; exact keep_cell hW d3
                have hB3 : Below w.heap.size w w2 := by rw [hw2]; exact below_trans hB2 hW
                have hslo : Sl itmS w2 (.slice A o.length c) o := by rw [hw2]; exact hslo0.mono hW
                have hbW : b < w2.heap.size := by rw [hw2]; exact Nat.lt_of_lt_of_le hbW0 hW.size
                rw [← hw2]
                clear hw2 d0 d1 d2 d3 hown2 hB2 hslo0 hbW0 hW
                have qa0 : (0 : Int) ≤ (a : Int) := by omega
                have qa1 : (a : Int) ≤ (o.length : Int) := by omega
                have qa2 : (o.length : Int) ≤ (c : Int) := by omega
                have qa3 : (a : Int) ≤ (c : Int) := by omega
                refine wp_region_typed_used 14 (fun i w v => KTy.T 30 itmS.sz w2.heap.size (([.nil0, .is (.slice A o.length c), .is (.int .i64 (a : Int)), .is (.slice A a c), .own ((0 + (o.take a).length)) (([] ++ itmS.cells (o.take a))), .is (.slice (some ⟨b, off, none⟩) l.length cap), .is (.int .i64 (k : Int)), .is (.pointer (some ⟨b, off + k * 4, none⟩)), .is (.agg #[.string l[k].key, .string l[k].title, .string l[k].body, .int .i64 l[k].day]), .one ((itmS.enc l[k]).toArray), .own (((0 + (o.take a).length) + ([l[k]]).length)) ((([] ++ itmS.cells (o.take a)) ++ itmS.cells ([l[k]]))), .is (.slice A o.length c), .is (.int .i64 (a : Int)), .is (.slice (if c = a then A else A.map (·.add (a * 4))) (o.length - a) (c - a))] : List KTy).getD i .any) w v) (fun i => ([4, 999, 999, 999, 10, 999, 999, 999, 999, 10, 999, 999, 999, 999] : List Nat).getD i 999) (fun w' => Below w2.heap.size w2 w') (RApp 30 4 10) (by kernel_rfl) 51 rfl (by decide) (by kernel_rfl) (by kernel_rfl) (by kernel_rfl) (by kernel_rfl) (Below.refl _ _).drew (tyApp (by kernel_rfl)) ?_ ?_
                · refine ⟨?_, ?_, ?_, ?_, ?_, ?_, ?_, ?_, ?_, ?_, ?_, ?_, ?_, ?_, trivial⟩
                  · intro a' w' hW hF
                    refine wpOp_step rfl (fun K hK => ?_)
                    go_simp
                    exact hK _ _ ⟨_, rfl, RApp.still (by decide) (World.grownBy_alloc _ _ _), ⟨w'.heap.size, rfl, hW.size, heap_alloc_new w' _⟩, hW.alloc hW.size _⟩
                  · intro a' w' hW hF
                    have h3 : a'.tmps[3]? = some (.slice A o.length c) := (hF.at 3 (by kernel_rfl)).trans rfl
                    refine wpOp_step rfl (fun K hK => ?_)
                    go_simp
                    exact hK _ _ ⟨_, rfl, RApp.still (by decide) (World.grownBy.refl _ _), rfl, hW⟩
                  · intro a' w' hW hF
                    have h5 : a'.tmps[5]? = some (.int .i64 (a : Int)) := (hF.at 5 (by kernel_rfl)).trans rfl
                    refine wpOp_step rfl (fun K hK => ?_)
                    go_simp
                    exact hK _ _ ⟨_, rfl, RApp.still (by decide) (World.grownBy.refl _ _), rfl, hW⟩
                  · intro a' w' hW hF
                    obtain ⟨_, h36, rfl⟩ := hF.val ⟨1, .data⟩ (by simp) rfl _ rfl
                    obtain ⟨_, h37, rfl⟩ := hF.val ⟨2, .data⟩ (by simp) rfl _ rfl
                    refine wpOp_step rfl (fun K hK => ?_)
                    go_simp
                    exact hK _ _ ⟨_, rfl, RApp.still (by decide) (World.grownBy.refl _ _), rfl, hW⟩
                  · intro a' w' hW hF
                    obtain ⟨_, h35, g35, rfl, hg35, hb35⟩ := hF.val ⟨0, .data⟩ (by simp) rfl _ rfl
                    obtain ⟨_, h38, rfl⟩ := hF.val ⟨3, .data⟩ (by simp) rfl _ rfl
                    refine wpOp_step rfl (fun K hK => ?_)
                    refine step_app_sl (S := itmS) rfl (.tmp 35) (.tmp 38) 23 rfl w2.heap.size 30 i0 (.agg #[.string ⟨#[]⟩, .string ⟨#[]⟩, .string ⟨#[]⟩, .int .i64 0]) 56 Try.underlying23 hi hz0 hz1 hz2 rfl _ (0) ([]) (getD_of h35) (nil0_own hg35 hb35) (o.take a) (by rw [show a'.eval (.tmp 38) = _ from getD_of h38]; exact Sl.take (hslo.mono hW) a ha) (by first | decide | (simp [maxLen]; omega)) (by first | decide | (simp; omega)) hW.size ?_
                    intro v' w'' hown hgrow hat
                    exact hK _ _ ⟨_, rfl, RApp.first hb35 hgrow, hown, hW.grown hgrow hW.size (fun j hj => by cases hj; exact hg35)⟩
                  · intro a' w' hW hF
                    have h0 : a'.tmps[0]? = some (.slice (some ⟨b, off, none⟩) l.length cap) := (hF.at 0 (by kernel_rfl)).trans rfl
                    refine wpOp_step rfl (fun K hK => ?_)
                    go_simp
                    exact hK _ _ ⟨_, rfl, RApp.still (by decide) (World.grownBy.refl _ _), rfl, hW⟩
                  · intro a' w' hW hF
                    have h4 : a'.tmps[4]? = some (.int .i64 (k : Int)) := (hF.at 4 (by kernel_rfl)).trans rfl
                    refine wpOp_step rfl (fun K hK => ?_)
                    go_simp
                    exact hK _ _ ⟨_, rfl, RApp.still (by decide) (World.grownBy.refl _ _), rfl, hW⟩
                  · intro a' w' hW hF
                    obtain ⟨_, h40, rfl⟩ := hF.val ⟨5, .data⟩ (by simp) rfl _ rfl
                    obtain ⟨_, h41, rfl⟩ := hF.val ⟨6, .data⟩ (by simp) rfl _ rfl
                    refine wpOp_step rfl (fun K hK => ?_)
                    go_simp
                    exact hK _ _ ⟨_, rfl, RApp.still (by decide) (World.grownBy.refl _ _), rfl, hW⟩
                  · intro a' w' hW hF
                    obtain ⟨_, h42, rfl⟩ := hF.val ⟨7, .data⟩ (by simp) rfl _ rfl
                    have c0 : w'.cell? ⟨b, off + k * 4, none⟩ = some (.string l[k].key) := (hW.cell (p := ⟨b, off + k * 4, none⟩) hbW).trans e0
                    have c1 : w'.cell? ⟨b, off + k * 4 + 1, none⟩ = some (.string l[k].title) := (hW.cell (p := ⟨b, off + k * 4 + 1, none⟩) hbW).trans e1
                    have c2 : w'.cell? ⟨b, off + k * 4 + 2, none⟩ = some (.string l[k].body) := (hW.cell (p := ⟨b, off + k * 4 + 2, none⟩) hbW).trans e2
                    have c3 : w'.cell? ⟨b, off + k * 4 + 3, none⟩ = some (.int .i64 l[k].day) := (hW.cell (p := ⟨b, off + k * 4 + 3, none⟩) hbW).trans e3
                    refine wpOp_step rfl (fun K hK => ?_)
                    go_simp
                    exact hK _ _ ⟨_, rfl, RApp.still (by decide) (World.grownBy.refl _ _), rfl, hW⟩
                  · intro a' w' hW hF
                    obtain ⟨_, h43, rfl⟩ := hF.val ⟨8, .data⟩ (by simp) rfl _ rfl
                    refine wpOp_step rfl (fun K hK => ?_)
                    go_simp
                    exact hK _ _ ⟨_, rfl, RApp.still (by decide) (World.grownBy_alloc _ _ _), ⟨w'.heap.size, rfl, by rw [List.size_toArray, itmS.len]; exact itmS.pos, heap_alloc_new w' _⟩, hW.alloc hW.size _⟩
                  · intro a' w' hW hF
                    obtain ⟨v39, h39, own39⟩ := hF.val ⟨4, .data⟩ (by simp) rfl _ rfl
                    obtain ⟨_, h44, g44, rfl, hc44, hb44⟩ := hF.val ⟨9, .data⟩ (by simp) rfl _ rfl
                    refine wpOp_step rfl (fun K hK => ?_)
                    refine step_app_sl (S := itmS) rfl (.tmp 39) (.tmp 44) 23 rfl w2.heap.size 30 i0 (.agg #[.string ⟨#[]⟩, .string ⟨#[]⟩, .string ⟨#[]⟩, .int .i64 0]) 56 Try.underlying23 hi hz0 hz1 hz2 rfl _ ((0 + (o.take a).length)) (([] ++ itmS.cells (o.take a))) (getD_of h39) own39 ([l[k]]) (by rw [show a'.eval (.tmp 44) = _ from getD_of h44]; exact one_sl (S := itmS) (x := l[k]) hb44) (by first | decide | (simp [maxLen]; omega)) (by first | decide | (simp; omega)) hW.size ?_
                    intro v' w'' hown hgrow hat
                    exact hK _ _ ⟨_, rfl, RApp.second (by decide), hown, hW.grown hgrow hW.size (fun j hj => (own39.lt j hj).1)⟩
                  · intro a' w' hW hF
                    have h3 : a'.tmps[3]? = some (.slice A o.length c) := (hF.at 3 (by kernel_rfl)).trans rfl
                    refine wpOp_step rfl (fun K hK => ?_)
                    go_simp
                    exact hK _ _ ⟨_, rfl, RApp.still (by decide) (World.grownBy.refl _ _), rfl, hW⟩
                  · intro a' w' hW hF
                    have h5 : a'.tmps[5]? = some (.int .i64 (a : Int)) := (hF.at 5 (by kernel_rfl)).trans rfl
                    refine wpOp_step rfl (fun K hK => ?_)
                    go_simp
                    exact hK _ _ ⟨_, rfl, RApp.still (by decide) (World.grownBy.refl _ _), rfl, hW⟩
                  · intro a' w' hW hF
                    obtain ⟨_, h46, rfl⟩ := hF.val ⟨11, .data⟩ (by simp) rfl _ rfl
                    obtain ⟨_, h47, rfl⟩ := hF.val ⟨12, .data⟩ (by simp) rfl _ rfl
                    refine wpOp_step rfl (fun K hK => ?_)
                    go_simp
                    exact hK _ _ ⟨_, rfl, RApp.still (by decide) (World.grownBy.refl _ _), rfl, hW⟩
                · intro a' w' hL hW
                  have hd := hL.defers
                  have hs := hL.size
                  obtain ⟨x35, h35⟩ := hL.some_at 35 (by show 35 < 51; decide)
                  obtain ⟨_, h36, rfl⟩ := hL.val 1 _ rfl (by decide)
                  obtain ⟨_, h37, rfl⟩ := hL.val 2 _ rfl (by decide)
                  obtain ⟨_, h38, rfl⟩ := hL.val 3 _ rfl (by decide)
                  obtain ⟨x39, h39⟩ := hL.some_at 39 (by show 39 < 51; decide)
                  obtain ⟨_, h40, rfl⟩ := hL.val 5 _ rfl (by decide)
                  obtain ⟨_, h41, rfl⟩ := hL.val 6 _ rfl (by decide)
                  obtain ⟨_, h42, rfl⟩ := hL.val 7 _ rfl (by decide)
                  obtain ⟨_, h43, rfl⟩ := hL.val 8 _ rfl (by decide)
                  obtain ⟨x44, h44⟩ := hL.some_at 44 (by show 44 < 51; decide)
                  obtain ⟨v45, h45, own45⟩ := hL.val 10 _ rfl (by decide)
                  obtain ⟨_, h46, rfl⟩ := hL.val 11 _ rfl (by decide)
                  obtain ⟨_, h47, rfl⟩ := hL.val 12 _ rfl (by decide)
                  obtain ⟨_, h48, rfl⟩ := hL.val 13 _ rfl (by decide)
                  have hlit := act_lit (l := [_, _, _, _, _, _, _, _, _, _, _, _, _, _, _, _, _, _, _, _, _, _, _, _, _, _, _, _, _, _, _, _, _, _, _, _, _, _, _, _, _, _, _, _, _, _, _, _, _, _, _]) (hd.trans rfl) (by rw [hs]; rfl) (AllAt.cons ((hL.at 0 (by kernel_rfl)).trans rfl) (AllAt.cons ((hL.at 1 (by kernel_rfl)).trans rfl) (AllAt.cons ((hL.at 2 (by kernel_rfl)).trans rfl) (AllAt.cons ((hL.at 3 (by kernel_rfl)).trans rfl) (AllAt.cons ((hL.at 4 (by kernel_rfl)).trans rfl) (AllAt.cons ((hL.at 5 (by kernel_rfl)).trans rfl) (AllAt.cons ((hL.at 6 (by kernel_rfl)).trans rfl) (AllAt.cons ((hL.at 7 (by kernel_rfl)).trans rfl) (AllAt.cons ((hL.at 8 (by kernel_rfl)).trans rfl) (AllAt.cons ((hL.at 9 (by kernel_rfl)).trans rfl) (AllAt.cons ((hL.at 10 (by kernel_rfl)).trans rfl) (AllAt.cons ((hL.at 11 (by kernel_rfl)).trans rfl) (AllAt.cons ((hL.at 12 (by kernel_rfl)).trans rfl) (AllAt.cons ((hL.at 13 (by kernel_rfl)).trans rfl) (AllAt.cons ((hL.at 14 (by kernel_rfl)).trans rfl) (AllAt.cons ((hL.at 15 (by kernel_rfl)).trans rfl) (AllAt.cons ((hL.at 16 (by kernel_rfl)).trans rfl) (AllAt.cons ((hL.at 17 (by kernel_rfl)).trans rfl) (AllAt.cons ((hL.at 18 (by kernel_rfl)).trans rfl) (AllAt.cons ((hL.at 19 (by kernel_rfl)).trans rfl) (AllAt.cons ((hL.at 20 (by kernel_rfl)).trans rfl) (AllAt.cons ((hL.at 21 (by kernel_rfl)).trans rfl) (AllAt.cons ((hL.at 22 (by kernel_rfl)).trans rfl) (AllAt.cons ((hL.at 23 (by kernel_rfl)).trans rfl) (AllAt.cons ((hL.at 24 (by kernel_rfl)).trans rfl) (AllAt.cons ((hL.at 25 (by kernel_rfl)).trans rfl) (AllAt.cons ((hL.at 26 (by kernel_rfl)).trans rfl) (AllAt.cons ((hL.at 27 (by kernel_rfl)).trans rfl) (AllAt.cons ((hL.at 28 (by kernel_rfl)).trans rfl) (AllAt.cons ((hL.at 29 (by kernel_rfl)).trans rfl) (AllAt.cons ((hL.at 30 (by kernel_rfl)).trans rfl) (AllAt.cons ((hL.at 31 (by kernel_rfl)).trans rfl) (AllAt.cons ((hL.at 32 (by kernel_rfl)).trans rfl) (AllAt.cons ((hL.at 33 (by kernel_rfl)).trans rfl) (AllAt.cons ((hL.at 34 (by kernel_rfl)).trans rfl) (AllAt.cons h35 (AllAt.cons h36 (AllAt.cons h37 (AllAt.cons h38 (AllAt.cons h39 (AllAt.cons h40 (AllAt.cons h41 (AllAt.cons h42 (AllAt.cons h43 (AllAt.cons h44 (AllAt.cons h45 (AllAt.cons h46 (AllAt.cons h47 (AllAt.cons h48 (AllAt.cons ((hL.at 49 (by kernel_rfl)).trans rfl) (AllAt.cons ((hL.at 50 (by kernel_rfl)).trans rfl) AllAt.nil)))))))))))))))))))))))))))))))))))))))))))))))))))
                  clear hL hd hs h35 h36 h37 h38 h39 h40 h41 h42 h43 h44 h45 h46 h47 h48
                  subst hlit
                  show wpOps _ _ _ [14, 15] _ _
                  rw [wpOps_cons]
                  refine wpOp_step rfl (fun K hK => ?_)
                  refine step_app_sl (S := itmS) rfl (.tmp 45) (.tmp 48) 23 rfl w2.heap.size 30 i0 (.agg #[.string ⟨#[]⟩, .string ⟨#[]⟩, .string ⟨#[]⟩, .int .i64 0]) 56 Try.underlying23 hi hz0 hz1 hz2 rfl v45 _ _ rfl own45 (o.drop a) ((hslo.mono hW).drop a ha) (by simp [maxLen]; omega) (by simp; omega) hW.size ?_
                  intro v' w'' hown hgrow hat
                  have hB4 : Below w.heap.size w w'' := (hB3.trans (hW.mono hB3.size)).grown hgrow (Nat.le_trans hB3.size hW.size) (fun j hj => Nat.le_trans hB3.size (own45.lt j hj).1)
                  have hlen : 0 + (o.take a).length + [l[k]].length + (o.drop a).length = (o.take a ++ l[k] :: o.drop a).length := by simp; omega
                  have hcel : [] ++ itmS.cells (o.take a) ++ itmS.cells [l[k]] ++ itmS.cells (o.drop a) = itmS.cells (o.take a ++ l[k] :: o.drop a) := by
                    rw [List.nil_append, ← itmS.cells_append, ← itmS.cells_append, List.append_assoc]; rfl
                  rw [hlen, hcel] at hown
                  have hown' := owns_base hown hB3.size
                  clear hown hlen hcel hgrow hat own45 hW
                  generalize o.take a ++ l[k] :: o.drop a = o' at *
                  obtain ⟨A', c', hv'⟩ : ∃ A' c', v' = .slice A' o'.length c' := by
                    rcases hown'.2 with ⟨e, h0⟩ | ⟨g, cap, cur, e, _⟩
                    · exact ⟨none, 0, by rw [e, h0]⟩
                    · exact ⟨_, _, e⟩
                  subst hv'
                  refine hK _ _ ?_
                  rw [wpOps_cons]
                  refine wpOp_step rfl (fun K hK => ?_)
                  go_simp
                  refine hK _ _ ?_
                  simp only [wpOps]
                  go_wp2_with fail
                  go_roundw
                  case rel => exact ⟨k + 1, A', c', o', by omega, by go_num, rfl, hown', HSrt.out, hB4⟩
                  case measure => simp [intOf]; omega
            · have hap : 0 < a := by omega
              obtain ⟨g, cap', hv, hg1, hg2⟩ := hown2.form (by omega)
              injection hv with hv1 _ hv3
              subst hv1; subst hv3
              have pc : ∀ f, f < 4 → wr.cell? ⟨g, (a - 1) * 4 + f, none⟩ = (itmS.enc (o[a - 1]'(by omega)))[f]? := fun f hf => by
                rw [hown2.cellAt _ (by omega)]; exact itmS.cells_at o (a - 1) (by omega) f hf
              have p0 : wr.cell? ⟨g, (a - 1) * 4, none⟩ = some (.string (o[a - 1]'(by omega)).key) := pc 0 (by omega)
              have p1 : wr.cell? ⟨g, (a - 1) * 4 + 1, none⟩ = some (.string (o[a - 1]'(by omega)).title) := pc 1 (by omega)
              have p2 : wr.cell? ⟨g, (a - 1) * 4 + 2, none⟩ = some (.string (o[a - 1]'(by omega)).body) := pc 2 (by omega)
              have p3 : wr.cell? ⟨g, (a - 1) * 4 + 3, none⟩ = some (.int .i64 (o[a - 1]'(by omega)).day) := pc 3 (by omega)
              obtain ⟨y, hy⟩ : ∃ y, y = o[a - 1]'(by omega) := ⟨_, rfl⟩
              rw [← hy] at p0 p1 p2 p3
              have HY := Lib.hid hy
              have f1 : IntKind.i64.wrap ((a : Int) - 1) = (a : Int) - 1 := IntWalk.i64_in _ (by omega)
              have f2 : (0 : Int) ≤ (a : Int) - 1 := by omega
              have f3 : (a : Int) - 1 < (o.length : Int) := by omega
              have f4 : ((a : Int) - 1).toNat = a - 1 := by omega
              have f5 : decide ((0 : Int) < (a : Int)) = true := by simp; omega
              have f6 : decide (0 < a) = true := by simp; omega
              have f7 : (1 : Int) ≤ (a : Int) := by omega
              have f8 : (a : Int) < (o.length : Int) + 1 := by omega
              clear pc hy hc
              cases hless : lessI l[k] y
              · have HL := Lib.hid hless
                have HSrt : Hid (FSrt l (o.take a ++ l[k] :: o.drop a) (k + 1)) := HT.out.insert HF.out hlt ha hG (fun _ => by rw [← HY.out]; exact hless)
                clear hG hless ha0
                go_wp2_with fail
                refine wp_region_typed (fun i _ v => v = ([.int .i64 (a : Int), .bool true, .bool true, .slice (some ⟨b, off, none⟩) l.length cap, .int .i64 (k : Int), .pointer (some ⟨b, off + k * 4, none⟩), .agg #[.string l[k].key, .string l[k].title, .string l[k].body, .int .i64 l[k].day], .slice (some ⟨g, 0, none⟩) o.length c, .int .i64 (a : Int), .int .i64 ((a : Int) - 1), .pointer (some ⟨g, (a - 1) * 4, none⟩), .agg #[.string y.key, .string y.title, .string y.body, .int .i64 y.day], .bool false, .bool false] : List Value).getD i undef) (fun _ => 0) (fun _ w' => Below wr.heap.size wr w') (fun _ _ => True) 0 (by kernel_rfl) 51 rfl (by kernel_rfl) (by decide) (Below.refl _ _).drew (fun _ _ _ _ _ h => h) ?_ ?_
                · refine ⟨?_, ?_, ?_, ?_, ?_, ?_, ?_, ?_, ?_, ?_, ?_, ?_, ?_, ?_, trivial⟩
                  · intro B a' w' hB hW hF
                    have h5 : a'.tmps[5]? = some (.int .i64 (a : Int)) := (hF.at 5 (by kernel_rfl)).trans rfl
                    refine wpOp_step rfl (fun K hK => ?_)
                    go_simp
                    exact hK _ _ ⟨_, rfl, trivial, rfl, hW⟩
                  · intro B a' w' hB hW hF
                    have h19 : a'.tmps[19]? = some (.int .i64 (a : Int)) := by obtain ⟨_, h, e⟩ := hF.val ⟨0, .data⟩ (by simp) rfl _ rfl; rw [h, show _ = (.int .i64 (a : Int) : Value) from e]
                    refine wpOp_step rfl (fun K hK => ?_)
                    go_simp
                    exact hK _ _ ⟨_, rfl, trivial, rfl, hW⟩
                  · intro B a' w' hB hW hF
                    have h20 : a'.tmps[20]? = some (.bool true) := by obtain ⟨_, h, e⟩ := hF.val ⟨1, .data⟩ (by simp) rfl _ rfl; rw [h, show _ = (.bool true : Value) from e]
                    refine wpOp_step rfl (fun K hK => ?_)
                    go_simp
                    exact hK _ _ ⟨_, rfl, trivial, rfl, hW⟩
                  · intro B a' w' hB hW hF
                    have hg : a'.tmps[21]? = some (.bool true) := by obtain ⟨_, h, e⟩ := hF.val ⟨2, .guard⟩ (by simp) rfl _ rfl; rw [h, show _ = (.bool true : Value) from e]
                    have h0 : a'.tmps[0]? = some (.slice (some ⟨b, off, none⟩) l.length cap) := (hF.at 0 (by kernel_rfl)).trans rfl
                    refine wpOp_step rfl (fun K hK => ?_)
                    rw [if_pos (wanted_yes rfl (yielded_of rfl rfl hg))]
                    go_simp
                    exact hK _ _ ⟨_, rfl, trivial, rfl, hW⟩
                  · intro B a' w' hB hW hF
                    have hg : a'.tmps[21]? = some (.bool true) := by obtain ⟨_, h, e⟩ := hF.val ⟨2, .guard⟩ (by simp) rfl _ rfl; rw [h, show _ = (.bool true : Value) from e]
                    have h4 : a'.tmps[4]? = some (.int .i64 (k : Int)) := (hF.at 4 (by kernel_rfl)).trans rfl
                    refine wpOp_step rfl (fun K hK => ?_)
                    rw [if_pos (wanted_yes rfl (yielded_of rfl rfl hg))]
                    go_simp
                    exact hK _ _ ⟨_, rfl, trivial, rfl, hW⟩
                  · intro B a' w' hB hW hF
                    have hg : a'.tmps[21]? = some (.bool true) := by obtain ⟨_, h, e⟩ := hF.val ⟨2, .guard⟩ (by simp) rfl _ rfl; rw [h, show _ = (.bool true : Value) from e]
                    have h22 : a'.tmps[22]? = some (.slice (some ⟨b, off, none⟩) l.length cap) := by obtain ⟨_, h, e⟩ := hF.val ⟨3, .data⟩ (by simp) rfl _ rfl; rw [h, show _ = (.slice (some ⟨b, off, none⟩) l.length cap : Value) from e]
                    have h23 : a'.tmps[23]? = some (.int .i64 (k : Int)) := by obtain ⟨_, h, e⟩ := hF.val ⟨4, .data⟩ (by simp) rfl _ rfl; rw [h, show _ = (.int .i64 (k : Int) : Value) from e]
                    refine wpOp_step rfl (fun K hK => ?_)
                    rw [if_pos (wanted_yes rfl (yielded_of rfl rfl hg))]
                    go_simp
                    exact hK _ _ ⟨_, rfl, trivial, rfl, hW⟩
                  · intro B a' w' hB hW hF
                    have hg : a'.tmps[21]? = some (.bool true) := by obtain ⟨_, h, e⟩ := hF.val ⟨2, .guard⟩ (by simp) rfl _ rfl; rw [h, show _ = (.bool true : Value) from e]
                    have h24 : a'.tmps[24]? = some (.pointer (some ⟨b, off + k * 4, none⟩)) := by obtain ⟨_, h, e⟩ := hF.val ⟨5, .data⟩ (by simp) rfl _ rfl; rw [h, show _ = (.pointer (some ⟨b, off + k * 4, none⟩) : Value) from e]
                    have k0 : w'.cell? ⟨b, off + k * 4, none⟩ = some (.string l[k].key) := keep_cell hW d0
                    have k1 : w'.cell? ⟨b, off + k * 4 + 1, none⟩ = some (.string l[k].title) := keep_cell hW d1
                    have k2 : w'.cell? ⟨b, off + k * 4 + 2, none⟩ = some (.string l[k].body) := keep_cell hW d2
                    have k3 : w'.cell? ⟨b, off + k * 4 + 3, none⟩ = some (.int .i64 l[k].day) := keep_cell hW d3
                    refine wpOp_step rfl (fun K hK => ?_)
                    rw [if_pos (wanted_yes rfl (yielded_of rfl rfl hg))]
                    go_simp
                    exact hK _ _ ⟨_, rfl, trivial, rfl, hW⟩
                  · intro B a' w' hB hW hF
                    have hg : a'.tmps[21]? = some (.bool true) := by obtain ⟨_, h, e⟩ := hF.val ⟨2, .guard⟩ (by simp) rfl _ rfl; rw [h, show _ = (.bool true : Value) from e]
                    have h3 : a'.tmps[3]? = some (.slice (some ⟨g, 0, none⟩) o.length c) := (hF.at 3 (by kernel_rfl)).trans rfl
                    refine wpOp_step rfl (fun K hK => ?_)
                    rw [if_pos (wanted_yes rfl (yielded_of rfl rfl hg))]
                    go_simp
                    exact hK _ _ ⟨_, rfl, trivial, rfl, hW⟩
                  · intro B a' w' hB hW hF
                    have hg : a'.tmps[21]? = some (.bool true) := by obtain ⟨_, h, e⟩ := hF.val ⟨2, .guard⟩ (by simp) rfl _ rfl; rw [h, show _ = (.bool true : Value) from e]
                    have h5 : a'.tmps[5]? = some (.int .i64 (a : Int)) := (hF.at 5 (by kernel_rfl)).trans rfl
                    refine wpOp_step rfl (fun K hK => ?_)
                    rw [if_pos (wanted_yes rfl (yielded_of rfl rfl hg))]
                    go_simp
                    exact hK _ _ ⟨_, rfl, trivial, rfl, hW⟩
                  · intro B a' w' hB hW hF
                    have hg : a'.tmps[21]? = some (.bool true) := by obtain ⟨_, h, e⟩ := hF.val ⟨2, .guard⟩ (by simp) rfl _ rfl; rw [h, show _ = (.bool true : Value) from e]
                    have h27 : a'.tmps[27]? = some (.int .i64 (a : Int)) := by obtain ⟨_, h, e⟩ := hF.val ⟨8, .data⟩ (by simp) rfl _ rfl; rw [h, show _ = (.int .i64 (a : Int) : Value) from e]
                    refine wpOp_step rfl (fun K hK => ?_)
                    rw [if_pos (wanted_yes rfl (yielded_of rfl rfl hg))]
                    go_simp
                    exact hK _ _ ⟨_, rfl, trivial, rfl, hW⟩
                  · intro B a' w' hB hW hF
                    have hg : a'.tmps[21]? = some (.bool true) := by obtain ⟨_, h, e⟩ := hF.val ⟨2, .guard⟩ (by simp) rfl _ rfl; rw [h, show _ = (.bool true : Value) from e]
                    have h26 : a'.tmps[26]? = some (.slice (some ⟨g, 0, none⟩) o.length c) := by obtain ⟨_, h, e⟩ := hF.val ⟨7, .data⟩ (by simp) rfl _ rfl; rw [h, show _ = (.slice (some ⟨g, 0, none⟩) o.length c : Value) from e]
                    have h28 : a'.tmps[28]? = some (.int .i64 ((a : Int) - 1)) := by obtain ⟨_, h, e⟩ := hF.val ⟨9, .data⟩ (by simp) rfl _ rfl; rw [h, show _ = (.int .i64 ((a : Int) - 1) : Value) from e]
                    refine wpOp_step rfl (fun K hK => ?_)
                    rw [if_pos (wanted_yes rfl (yielded_of rfl rfl hg))]
                    go_simp
                    exact hK _ _ ⟨_, rfl, trivial, rfl, hW⟩
                  · intro B a' w' hB hW hF
                    have hg : a'.tmps[21]? = some (.bool true) := by obtain ⟨_, h, e⟩ := hF.val ⟨2, .guard⟩ (by simp) rfl _ rfl; rw [h, show _ = (.bool true : Value) from e]
                    have h29 : a'.tmps[29]? = some (.pointer (some ⟨g, (a - 1) * 4, none⟩)) := by obtain ⟨_, h, e⟩ := hF.val ⟨10, .data⟩ (by simp) rfl _ rfl; rw [h, show _ = (.pointer (some ⟨g, (a - 1) * 4, none⟩) : Value) from e]
                    have y0 : w'.cell? ⟨g, (a - 1) * 4, none⟩ = some (.string y.key) := keep_cell hW p0
                    have y1 : w'.cell? ⟨g, (a - 1) * 4 + 1, none⟩ = some (.string y.title) := keep_cell hW p1
                    have y2 : w'.cell? ⟨g, (a - 1) * 4 + 2, none⟩ = some (.string y.body) := keep_cell hW p2
                    have y3 : w'.cell? ⟨g, (a - 1) * 4 + 3, none⟩ = some (.int .i64 y.day) := keep_cell hW p3
                    refine wpOp_step rfl (fun K hK => ?_)
                    rw [if_pos (wanted_yes rfl (yielded_of rfl rfl hg))]
                    go_simp
                    exact hK _ _ ⟨_, rfl, trivial, rfl, hW⟩
                  · intro B a' w' hB hW hF
                    have hg : a'.tmps[21]? = some (.bool true) := by obtain ⟨_, h, e⟩ := hF.val ⟨2, .guard⟩ (by simp) rfl _ rfl; rw [h, show _ = (.bool true : Value) from e]
                    have h25 : a'.tmps[25]? = some (.agg #[.string l[k].key, .string l[k].title, .string l[k].body, .int .i64 l[k].day]) := by obtain ⟨_, h, e⟩ := hF.val ⟨6, .data⟩ (by simp) rfl _ rfl; rw [h, show _ = (.agg #[.string l[k].key, .string l[k].title, .string l[k].body, .int .i64 l[k].day] : Value) from e]
                    have h30 : a'.tmps[30]? = some (.agg #[.string y.key, .string y.title, .string y.body, .int .i64 y.day]) := by obtain ⟨_, h, e⟩ := hF.val ⟨11, .data⟩ (by simp) rfl _ rfl; rw [h, show _ = (.agg #[.string y.key, .string y.title, .string y.body, .int .i64 y.day] : Value) from e]
                    refine wpOp_step rfl (fun K hK => ?_)
                    rw [if_pos (wanted_yes rfl (yielded_of rfl rfl hg))]
                    go_simp
                    refine (s_l6Before l[k] y _).mono ?_
                    rintro e w'' ⟨rfl, hb⟩
                    rw [HL.out]
                    exact hK _ _ ⟨_, rfl, trivial, rfl, below_trans hW hb⟩
                  · intro B a' w' hB hW hF
                    have h21 : a'.tmps[21]? = some (.bool true) := by obtain ⟨_, h, e⟩ := hF.val ⟨2, .data⟩ (by simp) rfl _ rfl; rw [h, show _ = (.bool true : Value) from e]
                    have h31 : a'.tmps[31]? = some (.bool false) := by obtain ⟨_, h, e⟩ := hF.val ⟨12, .data⟩ (by simp) rfl _ rfl; rw [h, show _ = (.bool false : Value) from e]
                    refine wpOp_step rfl (fun K hK => ?_)
                    go_simp
                    exact hK _ _ ⟨_, rfl, trivial, rfl, hW⟩
                · intro a' w' hL hW
                  have hd := hL.defers
                  have hs := hL.size
                  have h19 : a'.tmps[19]? = some (.int .i64 (a : Int)) := by obtain ⟨_, h, e⟩ := hL.val 0 _ rfl; rw [h, show _ = (.int .i64 (a : Int) : Value) from e]
                  have h20 : a'.tmps[20]? = some (.bool true) := by obtain ⟨_, h, e⟩ := hL.val 1 _ rfl; rw [h, show _ = (.bool true : Value) from e]
                  have h21 : a'.tmps[21]? = some (.bool true) := by obtain ⟨_, h, e⟩ := hL.val 2 _ rfl; rw [h, show _ = (.bool true : Value) from e]
                  have h22 : a'.tmps[22]? = some (.slice (some ⟨b, off, none⟩) l.length cap) := by obtain ⟨_, h, e⟩ := hL.val 3 _ rfl; rw [h, show _ = (.slice (some ⟨b, off, none⟩) l.length cap : Value) from e]
                  have h23 : a'.tmps[23]? = some (.int .i64 (k : Int)) := by obtain ⟨_, h, e⟩ := hL.val 4 _ rfl; rw [h, show _ = (.int .i64 (k : Int) : Value) from e]
                  have h24 : a'.tmps[24]? = some (.pointer (some ⟨b, off + k * 4, none⟩)) := by obtain ⟨_, h, e⟩ := hL.val 5 _ rfl; rw [h, show _ = (.pointer (some ⟨b, off + k * 4, none⟩) : Value) from e]
                  have h25 : a'.tmps[25]? = some (.agg #[.string l[k].key, .string l[k].title, .string l[k].body, .int .i64 l[k].day]) := by obtain ⟨_, h, e⟩ := hL.val 6 _ rfl; rw [h, show _ = (.agg #[.string l[k].key, .string l[k].title, .string l[k].body, .int .i64 l[k].day] : Value) from e]
                  have h26 : a'.tmps[26]? = some (.slice (some ⟨g, 0, none⟩) o.length c) := by obtain ⟨_, h, e⟩ := hL.val 7 _ rfl; rw [h, show _ = (.slice (some ⟨g, 0, none⟩) o.length c : Value) from e]
                  have h27 : a'.tmps[27]? = some (.int .i64 (a : Int)) := by obtain ⟨_, h, e⟩ := hL.val 8 _ rfl; rw [h, show _ = (.int .i64 (a : Int) : Value) from e]
                  have h28 : a'.tmps[28]? = some (.int .i64 ((a : Int) - 1)) := by obtain ⟨_, h, e⟩ := hL.val 9 _ rfl; rw [h, show _ = (.int .i64 ((a : Int) - 1) : Value) from e]
                  have h29 : a'.tmps[29]? = some (.pointer (some ⟨g, (a - 1) * 4, none⟩)) := by obtain ⟨_, h, e⟩ := hL.val 10 _ rfl; rw [h, show _ = (.pointer (some ⟨g, (a - 1) * 4, none⟩) : Value) from e]
                  have h30 : a'.tmps[30]? = some (.agg #[.string y.key, .string y.title, .string y.body, .int .i64 y.day]) := by obtain ⟨_, h, e⟩ := hL.val 11 _ rfl; rw [h, show _ = (.agg #[.string y.key, .string y.title, .string y.body, .int .i64 y.day] : Value) from e]
                  have h31 : a'.tmps[31]? = some (.bool false) := by obtain ⟨_, h, e⟩ := hL.val 12 _ rfl; rw [h, show _ = (.bool false : Value) from e]
                  have h32 : a'.tmps[32]? = some (.bool false) := by obtain ⟨_, h, e⟩ := hL.val 13 _ rfl; rw [h, show _ = (.bool false : Value) from e]
                  have hlit := act_lit (l := [_, _, _, _, _, _, _, _, _, _, _, _, _, _, _, _, _, _, _, _, _, _, _, _, _, _, _, _, _, _, _, _, _, _, _, _, _, _, _, _, _, _, _, _, _, _, _, _, _, _, _]) (hd.trans rfl) (by rw [hs]; rfl) (AllAt.cons ((hL.at 0 (by kernel_rfl)).trans rfl) (AllAt.cons ((hL.at 1 (by kernel_rfl)).trans rfl) (AllAt.cons ((hL.at 2 (by kernel_rfl)).trans rfl) (AllAt.cons ((hL.at 3 (by kernel_rfl)).trans rfl) (AllAt.cons ((hL.at 4 (by kernel_rfl)).trans rfl) (AllAt.cons ((hL.at 5 (by kernel_rfl)).trans rfl) (AllAt.cons ((hL.at 6 (by kernel_rfl)).trans rfl) (AllAt.cons ((hL.at 7 (by kernel_rfl)).trans rfl) (AllAt.cons ((hL.at 8 (by kernel_rfl)).trans rfl) (AllAt.cons ((hL.at 9 (by kernel_rfl)).trans rfl) (AllAt.cons ((hL.at 10 (by kernel_rfl)).trans rfl) (AllAt.cons ((hL.at 11 (by kernel_rfl)).trans rfl) (AllAt.cons ((hL.at 12 (by kernel_rfl)).trans rfl) (AllAt.cons ((hL.at 13 (by kernel_rfl)).trans rfl) (AllAt.cons ((hL.at 14 (by kernel_rfl)).trans rfl) (AllAt.cons ((hL.at 15 (by kernel_rfl)).trans rfl) (AllAt.cons ((hL.at 16 (by kernel_rfl)).trans rfl) (AllAt.cons ((hL.at 17 (by kernel_rfl)).trans rfl) (AllAt.cons ((hL.at 18 (by kernel_rfl)).trans rfl) (AllAt.cons h19 (AllAt.cons h20 (AllAt.cons h21 (AllAt.cons h22 (AllAt.cons h23 (AllAt.cons h24 (AllAt.cons h25 (AllAt.cons h26 (AllAt.cons h27 (AllAt.cons h28 (AllAt.cons h29 (AllAt.cons h30 (AllAt.cons h31 (AllAt.cons h32 (AllAt.cons ((hL.at 33 (by kernel_rfl)).trans rfl) (AllAt.cons ((hL.at 34 (by kernel_rfl)).trans rfl) (AllAt.cons ((hL.at 35 (by kernel_rfl)).trans rfl) (AllAt.cons ((hL.at 36 (by kernel_rfl)).trans rfl) (AllAt.cons ((hL.at 37 (by kernel_rfl)).trans rfl) (AllAt.cons ((hL.at 38 (by kernel_rfl)).trans rfl) (AllAt.cons ((hL.at 39 (by kernel_rfl)).trans rfl) (AllAt.cons ((hL.at 40 (by kernel_rfl)).trans rfl) (AllAt.cons ((hL.at 41 (by kernel_rfl)).trans rfl) (AllAt.cons ((hL.at 42 (by kernel_rfl)).trans rfl) (AllAt.cons ((hL.at 43 (by kernel_rfl)).trans rfl) (AllAt.cons ((hL.at 44 (by kernel_rfl)).trans rfl) (AllAt.cons ((hL.at 45 (by kernel_rfl)).trans rfl) (AllAt.cons ((hL.at 46 (by kernel_rfl)).trans rfl) (AllAt.cons ((hL.at 47 (by kernel_rfl)).trans rfl) (AllAt.cons ((hL.at 48 (by kernel_rfl)).trans rfl) (AllAt.cons ((hL.at 49 (by kernel_rfl)).trans rfl) (AllAt.cons ((hL.at 50 (by kernel_rfl)).trans rfl) AllAt.nil)))))))))))))))))))))))))))))))))))))))))))))))))))
                  clear hL hd hs h19 h20 h21 h22 h23 h24 h25 h26 h27 h28 h29 h30 h31 h32
                  subst hlit
                  dsimp only [List.getElem_toArray, List.getElem_cons_zero, List.getElem_cons_succ]
                  go_wp2_with fail
                  obtain ⟨A, hAA⟩ : ∃ A : Option Addr, A = some ⟨g, 0, none⟩ := ⟨_, rfl⟩
                  rw [← hAA] at hown2 ⊢
                  clear hAA
                  have hslo0 : Sl itmS wr (.slice A o.length c) o := Sl.of_owns hown2
                  have hbW0 : b < wr.heap.size := Nat.lt_of_lt_of_le hbs hB2.size
                  clear f1 f2 f3 f4 f5 f6 f7 f8 p0 p1 p2 p3
                  obtain ⟨w2, hw2⟩ : ∃ w2, w2 = w' := ⟨_, rfl⟩
                  have e0 : w2.cell? ⟨b, off + k * 4, none⟩ = some (.string l[k].key) := by rw [hw2]; exact keep_cell hW d0
                  have e1 : w2.cell? ⟨b, off + k * 4 + 1, none⟩ = some (.string l[k].title) := by rw [hw2]; exact keep_cell hW d1
                  have e2 : w2.cell? ⟨b, off + k * 4 + 2, none⟩ = some (.string l[k].body) := by rw [hw2]; exact keep_cell hW d2
                  have e3 : w2.cell? ⟨b, off + k * 4 + 3, none⟩ = some (.int .i64 l[k].day) := by rw [hw2]; exact keep_cell hW d3
                  have hB3 : Below w.heap.size w w2 := by rw [hw2]; exact below_trans hB2 hW
                  have hslo : Sl itmS w2 (.slice A o.length c) o := by rw [hw2]; exact hslo0.mono hW
                  have hbW : b < w2.heap.size := by rw [hw2]; exact Nat.lt_of_lt_of_le hbW0 hW.size
                  rw [← hw2]
                  clear hw2 d0 d1 d2 d3 hown2 hB2 hslo0 hbW0 hW
                  have qa0 : (0 : Int) ≤ (a : Int) := by omega
                  have qa1 : (a : Int) ≤ (o.length : Int) := by omega
                  have qa2 : (o.length : Int) ≤ (c : Int) := by omega
                  have qa3 : (a : Int) ≤ (c : Int) := by omega
                  refine wp_region_typed_used 14 (fun i w v => KTy.T 30 itmS.sz w2.heap.size (([.nil0, .is (.slice A o.length c), .is (.int .i64 (a : Int)), .is (.slice A a c), .own ((0 + (o.take a).length)) (([] ++ itmS.cells (o.take a))), .is (.slice (some ⟨b, off, none⟩) l.length cap), .is (.int .i64 (k : Int)), .is (.pointer (some ⟨b, off + k * 4, none⟩)), .is (.agg #[.string l[k].key, .string l[k].title, .string l[k].body, .int .i64 l[k].day]), .one ((itmS.enc l[k]).toArray), .own (((0 + (o.take a).length) + ([l[k]]).length)) ((([] ++ itmS.cells (o.take a)) ++ itmS.cells ([l[k]]))), .is (.slice A o.length c), .is (.int .i64 (a : Int)), .is (.slice (if c = a then A else A.map (·.add (a * 4))) (o.length - a) (c - a))] : List KTy).getD i .any) w v) (fun i => ([4, 999, 999, 999, 10, 999, 999, 999, 999, 10, 999, 999, 999, 999] : List Nat).getD i 999) (fun w' => Below w2.heap.size w2 w') (RApp 30 4 10) (by kernel_rfl) 51 rfl (by decide) (by kernel_rfl) (by kernel_rfl) (by kernel_rfl) (by kernel_rfl) (Below.refl _ _).drew (tyApp (by kernel_rfl)) ?_ ?_
                  · refine ⟨?_, ?_, ?_, ?_, ?_, ?_, ?_, ?_, ?_, ?_, ?_, ?_, ?_, ?_, trivial⟩
                    · intro a' w' hW hF
                      refine wpOp_step rfl (fun K hK => ?_)
                      go_simp
                      exact hK _ _ ⟨_, rfl, RApp.still (by decide) (World.grownBy_alloc _ _ _), ⟨w'.heap.size, rfl, hW.size, heap_alloc_new w' _⟩, hW.alloc hW.size _⟩
                    · intro a' w' hW hF
                      have h3 : a'.tmps[3]? = some (.slice A o.length c) := (hF.at 3 (by kernel_rfl)).trans rfl
                      refine wpOp_step rfl (fun K hK => ?_)
                      go_simp
                      exact hK _ _ ⟨_, rfl, RApp.still (by decide) (World.grownBy.refl _ _), rfl, hW⟩
                    · intro a' w' hW hF
                      have h5 : a'.tmps[5]? = some (.int .i64 (a : Int)) := (hF.at 5 (by kernel_rfl)).trans rfl
                      refine wpOp_step rfl (fun K hK => ?_)
                      go_simp
                      exact hK _ _ ⟨_, rfl, RApp.still (by decide) (World.grownBy.refl _ _), rfl, hW⟩
                    · intro a' w' hW hF
                      obtain ⟨_, h36, rfl⟩ := hF.val ⟨1, .data⟩ (by simp) rfl _ rfl
                      obtain ⟨_, h37, rfl⟩ := hF.val ⟨2, .data⟩ (by simp) rfl _ rfl
                      refine wpOp_step rfl (fun K hK => ?_)
                      go_simp
                      exact hK _ _ ⟨_, rfl, RApp.still (by decide) (World.grownBy.refl _ _), rfl, hW⟩
                    · intro a' w' hW hF
                      obtain ⟨_, h35, g35, rfl, hg35, hb35⟩ := hF.val ⟨0, .data⟩ (by simp) rfl _ rfl
                      obtain ⟨_, h38, rfl⟩ := hF.val ⟨3, .data⟩ (by simp) rfl _ rfl
                      refine wpOp_step rfl (fun K hK => ?_)
                      refine step_app_sl (S := itmS) rfl (.tmp 35) (.tmp 38) 23 rfl w2.heap.size 30 i0 (.agg #[.string ⟨#[]⟩, .string ⟨#[]⟩, .string ⟨#[]⟩, .int .i64 0]) 56 Try.underlying23 hi hz0 hz1 hz2 rfl _ (0) ([]) (getD_of h35) (nil0_own hg35 hb35) (o.take a) (by rw [show a'.eval (.tmp 38) = _ from getD_of h38]; exact Sl.take (hslo.mono hW) a ha) (by first | decide | (simp [maxLen]; omega)) (by first | decide | (simp; omega)) hW.size ?_
                      intro v' w'' hown hgrow hat
                      exact hK _ _ ⟨_, rfl, RApp.first hb35 hgrow, hown, hW.grown hgrow hW.size (fun j hj => by cases hj; exact hg35)⟩
                    · intro a' w' hW hF
                      have h0 : a'.tmps[0]? = some (.slice (some ⟨b, off, none⟩) l.length cap) := (hF.at 0 (by kernel_rfl)).trans rfl
                      refine wpOp_step rfl (fun K hK => ?_)
                      go_simp
                      exact hK _ _ ⟨_, rfl, RApp.still (by decide) (World.grownBy.refl _ _), rfl, hW⟩
                    · intro a' w' hW hF
                      have h4 : a'.tmps[4]? = some (.int .i64 (k : Int)) := (hF.at 4 (by kernel_rfl)).trans rfl
                      refine wpOp_step rfl (fun K hK => ?_)
                      go_simp
                      exact hK _ _ ⟨_, rfl, RApp.still (by decide) (World.grownBy.refl _ _), rfl, hW⟩
                    · intro a' w' hW hF
                      obtain ⟨_, h40, rfl⟩ := hF.val ⟨5, .data⟩ (by simp) rfl _ rfl
                      obtain ⟨_, h41, rfl⟩ := hF.val ⟨6, .data⟩ (by simp) rfl _ rfl
                      refine wpOp_step rfl (fun K hK => ?_)
                      go_simp
                      exact hK _ _ ⟨_, rfl, RApp.still (by decide) (World.grownBy.refl _ _), rfl, hW⟩
                    · intro a' w' hW hF
                      obtain ⟨_, h42, rfl⟩ := hF.val ⟨7, .data⟩ (by simp) rfl _ rfl
                      have c0 : w'.cell? ⟨b, off + k * 4, none⟩ = some (.string l[k].key) := (hW.cell (p := ⟨b, off + k * 4, none⟩) hbW).trans e0
                      have c1 : w'.cell? ⟨b, off + k * 4 + 1, none⟩ = some (.string l[k].title) := (hW.cell (p := ⟨b, off + k * 4 + 1, none⟩) hbW).trans e1
                      have c2 : w'.cell? ⟨b, off + k * 4 + 2, none⟩ = some (.string l[k].body) := (hW.cell (p := ⟨b, off + k * 4 + 2, none⟩) hbW).trans e2
                      have c3 : w'.cell? ⟨b, off + k * 4 + 3, none⟩ = some (.int .i64 l[k].day) := (hW.cell (p := ⟨b, off + k * 4 + 3, none⟩) hbW).trans e3
                      refine wpOp_step rfl (fun K hK => ?_)
                      go_simp
                      exact hK _ _ ⟨_, rfl, RApp.still (by decide) (World.grownBy.refl _ _), rfl, hW⟩
                    · intro a' w' hW hF
                      obtain ⟨_, h43, rfl⟩ := hF.val ⟨8, .data⟩ (by simp) rfl _ rfl
                      refine wpOp_step rfl (fun K hK => ?_)
                      go_simp
                      exact hK _ _ ⟨_, rfl, RApp.still (by decide) (World.grownBy_alloc _ _ _), ⟨w'.heap.size, rfl, by rw [List.size_toArray, itmS.len]; exact itmS.pos, heap_alloc_new w' _⟩, hW.alloc hW.size _⟩
                    · intro a' w' hW hF
                      obtain ⟨v39, h39, own39⟩ := hF.val ⟨4, .data⟩ (by simp) rfl _ rfl
                      obtain ⟨_, h44, g44, rfl, hc44, hb44⟩ := hF.val ⟨9, .data⟩ (by simp) rfl _ rfl
                      refine wpOp_step rfl (fun K hK => ?_)
                      refine step_app_sl (S := itmS) rfl (.tmp 39) (.tmp 44) 23 rfl w2.heap.size 30 i0 (.agg #[.string ⟨#[]⟩, .string ⟨#[]⟩, .string ⟨#[]⟩, .int .i64 0]) 56 Try.underlying23 hi hz0 hz1 hz2 rfl _ ((0 + (o.take a).length)) (([] ++ itmS.cells (o.take a))) (getD_of h39) own39 ([l[k]]) (by rw [show a'.eval (.tmp 44) = _ from getD_of h44]; exact one_sl (S := itmS) (x := l[k]) hb44) (by first | decide | (simp [maxLen]; omega)) (by first | decide | (simp; omega)) hW.size ?_
                      intro v' w'' hown hgrow hat
                      exact hK _ _ ⟨_, rfl, RApp.second (by decide), hown, hW.grown hgrow hW.size (fun j hj => (own39.lt j hj).1)⟩
                    · intro a' w' hW hF
                      have h3 : a'.tmps[3]? = some (.slice A o.length c) := (hF.at 3 (by kernel_rfl)).trans rfl
                      refine wpOp_step rfl (fun K hK => ?_)
                      go_simp
                      exact hK _ _ ⟨_, rfl, RApp.still (by decide) (World.grownBy.refl _ _), rfl, hW⟩
                    · intro a' w' hW hF
                      have h5 : a'.tmps[5]? = some (.int .i64 (a : Int)) := (hF.at 5 (by kernel_rfl)).trans rfl
                      refine wpOp_step rfl (fun K hK => ?_)
                      go_simp
                      exact hK _ _ ⟨_, rfl, RApp.still (by decide) (World.grownBy.refl _ _), rfl, hW⟩
                    · intro a' w' hW hF
                      obtain ⟨_, h46, rfl⟩ := hF.val ⟨11, .data⟩ (by simp) rfl _ rfl
                      obtain ⟨_, h47, rfl⟩ := hF.val ⟨12, .data⟩ (by simp) rfl _ rfl
                      refine wpOp_step rfl (fun K hK => ?_)
                      go_simp
                      exact hK _ _ ⟨_, rfl, RApp.still (by decide) (World.grownBy.refl _ _), rfl, hW⟩
                  · intro a' w' hL hW
                    have hd := hL.defers
                    have hs := hL.size
                    obtain ⟨x35, h35⟩ := hL.some_at 35 (by show 35 < 51; decide)
                    obtain ⟨_, h36, rfl⟩ := hL.val 1 _ rfl (by decide)
                    obtain ⟨_, h37, rfl⟩ := hL.val 2 _ rfl (by decide)
                    obtain ⟨_, h38, rfl⟩ := hL.val 3 _ rfl (by decide)
                    obtain ⟨x39, h39⟩ := hL.some_at 39 (by show 39 < 51; decide)
                    obtain ⟨_, h40, rfl⟩ := hL.val 5 _ rfl (by decide)
                    obtain ⟨_, h41, rfl⟩ := hL.val 6 _ rfl (by decide)
                    obtain ⟨_, h42, rfl⟩ := hL.val 7 _ rfl (by decide)
                    obtain ⟨_, h43, rfl⟩ := hL.val 8 _ rfl (by decide)
                    obtain ⟨x44, h44⟩ := hL.some_at 44 (by show 44 < 51; decide)
                    obtain ⟨v45, h45, own45⟩ := hL.val 10 _ rfl (by decide)
                    obtain ⟨_, h46, rfl⟩ := hL.val 11 _ rfl (by decide)
                    obtain ⟨_, h47, rfl⟩ := hL.val 12 _ rfl (by decide)
                    obtain ⟨_, h48, rfl⟩ := hL.val 13 _ rfl (by decide)
                    have hlit := act_lit (l := [_, _, _, _, _, _, _, _, _, _, _, _, _, _, _, _, _, _, _, _, _, _, _, _, _, _, _, _, _, _, _, _, _, _, _, _, _, _, _, _, _, _, _, _, _, _, _, _, _, _, _]) (hd.trans rfl) (by rw [hs]; rfl) (AllAt.cons ((hL.at 0 (by kernel_rfl)).trans rfl) (AllAt.cons ((hL.at 1 (by kernel_rfl)).trans rfl) (AllAt.cons ((hL.at 2 (by kernel_rfl)).trans rfl) (AllAt.cons ((hL.at 3 (by kernel_rfl)).trans rfl) (AllAt.cons ((hL.at 4 (by kernel_rfl)).trans rfl) (AllAt.cons ((hL.at 5 (by kernel_rfl)).trans rfl) (AllAt.cons ((hL.at 6 (by kernel_rfl)).trans rfl) (AllAt.cons ((hL.at 7 (by kernel_rfl)).trans rfl) (AllAt.cons ((hL.at 8 (by kernel_rfl)).trans rfl) (AllAt.cons ((hL.at 9 (by kernel_rfl)).trans rfl) (AllAt.cons ((hL.at 10 (by kernel_rfl)).trans rfl) (AllAt.cons ((hL.at 11 (by kernel_rfl)).trans rfl) (AllAt.cons ((hL.at 12 (by kernel_rfl)).trans rfl) (AllAt.cons ((hL.at 13 (by kernel_rfl)).trans rfl) (AllAt.cons ((hL.at 14 (by kernel_rfl)).trans rfl) (AllAt.cons ((hL.at 15 (by kernel_rfl)).trans rfl) (AllAt.cons ((hL.at 16 (by kernel_rfl)).trans rfl) (AllAt.cons ((hL.at 17 (by kernel_rfl)).trans rfl) (AllAt.cons ((hL.at 18 (by kernel_rfl)).trans rfl) (AllAt.cons ((hL.at 19 (by kernel_rfl)).trans rfl) (AllAt.cons ((hL.at 20 (by kernel_rfl)).trans rfl) (AllAt.cons ((hL.at 21 (by kernel_rfl)).trans rfl) (AllAt.cons ((hL.at 22 (by kernel_rfl)).trans rfl) (AllAt.cons ((hL.at 23 (by kernel_rfl)).trans rfl) (AllAt.cons ((hL.at 24 (by kernel_rfl)).trans rfl) (AllAt.cons ((hL.at 25 (by kernel_rfl)).trans rfl) (AllAt.cons ((hL.at 26 (by kernel_rfl)).trans rfl) (AllAt.cons ((hL.at 27 (by kernel_rfl)).trans rfl) (AllAt.cons ((hL.at 28 (by kernel_rfl)).trans rfl) (AllAt.cons ((hL.at 29 (by kernel_rfl)).trans rfl) (AllAt.cons ((hL.at 30 (by kernel_rfl)).trans rfl) (AllAt.cons ((hL.at 31 (by kernel_rfl)).trans rfl) (AllAt.cons ((hL.at 32 (by kernel_rfl)).trans rfl) (AllAt.cons ((hL.at 33 (by kernel_rfl)).trans rfl) (AllAt.cons ((hL.at 34 (by kernel_rfl)).trans rfl) (AllAt.cons h35 (AllAt.cons h36 (AllAt.cons h37 (AllAt.cons h38 (AllAt.cons h39 (AllAt.cons h40 (AllAt.cons h41 (AllAt.cons h42 (AllAt.cons h43 (AllAt.cons h44 (AllAt.cons h45 (AllAt.cons h46 (AllAt.cons h47 (AllAt.cons h48 (AllAt.cons ((hL.at 49 (by kernel_rfl)).trans rfl) (AllAt.cons ((hL.at 50 (by kernel_rfl)).trans rfl) AllAt.nil)))))))))))))))))))))))))))))))))))))))))))))))))))
                    clear hL hd hs h35 h36 h37 h38 h39 h40 h41 h42 h43 h44 h45 h46 h47 h48
                    subst hlit
                    show wpOps _ _ _ [14, 15] _ _
                    rw [wpOps_cons]
                    refine wpOp_step rfl (fun K hK => ?_)
                    refine step_app_sl (S := itmS) rfl (.tmp 45) (.tmp 48) 23 rfl w2.heap.size 30 i0 (.agg #[.string ⟨#[]⟩, .string ⟨#[]⟩, .string ⟨#[]⟩, .int .i64 0]) 56 Try.underlying23 hi hz0 hz1 hz2 rfl v45 _ _ rfl own45 (o.drop a) ((hslo.mono hW).drop a ha) (by simp [maxLen]; omega) (by simp; omega) hW.size ?_
                    intro v' w'' hown hgrow hat
                    have hB4 : Below w.heap.size w w'' := (hB3.trans (hW.mono hB3.size)).grown hgrow (Nat.le_trans hB3.size hW.size) (fun j hj => Nat.le_trans hB3.size (own45.lt j hj).1)
                    have hlen : 0 + (o.take a).length + [l[k]].length + (o.drop a).length = (o.take a ++ l[k] :: o.drop a).length := by simp; omega
                    have hcel : [] ++ itmS.cells (o.take a) ++ itmS.cells [l[k]] ++ itmS.cells (o.drop a) = itmS.cells (o.take a ++ l[k] :: o.drop a) := by
                      rw [List.nil_append, ← itmS.cells_append, ← itmS.cells_append, List.append_assoc]; rfl
                    rw [hlen, hcel] at hown
                    have hown' := owns_base hown hB3.size
                    clear hown hlen hcel hgrow hat own45 hW
                    generalize o.take a ++ l[k] :: o.drop a = o' at *
                    obtain ⟨A', c', hv'⟩ : ∃ A' c', v' = .slice A' o'.length c' := by
                      rcases hown'.2 with ⟨e, h0⟩ | ⟨g, cap, cur, e, _⟩
                      · exact ⟨none, 0, by rw [e, h0]⟩
                      · exact ⟨_, _, e⟩
                    subst hv'
                    refine hK _ _ ?_
                    rw [wpOps_cons]
                    refine wpOp_step rfl (fun K hK => ?_)
                    go_simp
                    refine hK _ _ ?_
                    simp only [wpOps]
                    go_wp2_with fail
                    go_roundw
                    case rel => exact ⟨k + 1, A', c', o', by omega, by go_num, rfl, hown', HSrt.out, hB4⟩
                    case measure => simp [intOf]; omega
              · have HL := Lib.hid hless
                have HG2 : Hid (FGt l o k hlt (a - 1)) := fun i hi hai => by
                  by_cases e : i = a - 1
                  · subst e; rw [← HY.out]; exact hless
                  · exact hG i hi (by omega)
                clear hG hless ha0
                go_wp2_with fail
                refine wp_region_typed (fun i _ v => v = ([.int .i64 (a : Int), .bool true, .bool true, .slice (some ⟨b, off, none⟩) l.length cap, .int .i64 (k : Int), .pointer (some ⟨b, off + k * 4, none⟩), .agg #[.string l[k].key, .string l[k].title, .string l[k].body, .int .i64 l[k].day], .slice (some ⟨g, 0, none⟩) o.length c, .int .i64 (a : Int), .int .i64 ((a : Int) - 1), .pointer (some ⟨g, (a - 1) * 4, none⟩), .agg #[.string y.key, .string y.title, .string y.body, .int .i64 y.day], .bool true, .bool true] : List Value).getD i undef) (fun _ => 0) (fun _ w' => Below wr.heap.size wr w') (fun _ _ => True) 0 (by kernel_rfl) 51 rfl (by kernel_rfl) (by decide) (Below.refl _ _).drew (fun _ _ _ _ _ h => h) ?_ ?_
                · refine ⟨?_, ?_, ?_, ?_, ?_, ?_, ?_, ?_, ?_, ?_, ?_, ?_, ?_, ?_, trivial⟩
                  · intro B a' w' hB hW hF
                    have h5 : a'.tmps[5]? = some (.int .i64 (a : Int)) := (hF.at 5 (by kernel_rfl)).trans rfl
                    refine wpOp_step rfl (fun K hK => ?_)
                    go_simp
                    exact hK _ _ ⟨_, rfl, trivial, rfl, hW⟩
                  · intro B a' w' hB hW hF
                    have h19 : a'.tmps[19]? = some (.int .i64 (a : Int)) := by obtain ⟨_, h, e⟩ := hF.val ⟨0, .data⟩ (by simp) rfl _ rfl; rw [h, show _ = (.int .i64 (a : Int) : Value) from e]
                    refine wpOp_step rfl (fun K hK => ?_)
                    go_simp
                    exact hK _ _ ⟨_, rfl, trivial, rfl, hW⟩
                  · intro B a' w' hB hW hF
                    have h20 : a'.tmps[20]? = some (.bool true) := by obtain ⟨_, h, e⟩ := hF.val ⟨1, .data⟩ (by simp) rfl _ rfl; rw [h, show _ = (.bool true : Value) from e]
                    refine wpOp_step rfl (fun K hK => ?_)
                    go_simp
                    exact hK _ _ ⟨_, rfl, trivial, rfl, hW⟩
                  · intro B a' w' hB hW hF
                    have hg : a'.tmps[21]? = some (.bool true) := by obtain ⟨_, h, e⟩ := hF.val ⟨2, .guard⟩ (by simp) rfl _ rfl; rw [h, show _ = (.bool true : Value) from e]
                    have h0 : a'.tmps[0]? = some (.slice (some ⟨b, off, none⟩) l.length cap) := (hF.at 0 (by kernel_rfl)).trans rfl
                    refine wpOp_step rfl (fun K hK => ?_)
                    rw [if_pos (wanted_yes rfl (yielded_of rfl rfl hg))]
                    go_simp
                    exact hK _ _ ⟨_, rfl, trivial, rfl, hW⟩
                  · intro B a' w' hB hW hF
                    have hg : a'.tmps[21]? = some (.bool true) := by obtain ⟨_, h, e⟩ := hF.val ⟨2, .guard⟩ (by simp) rfl _ rfl; rw [h, show _ = (.bool true : Value) from e]
                    have h4 : a'.tmps[4]? = some (.int .i64 (k : Int)) := (hF.at 4 (by kernel_rfl)).trans rfl
                    refine wpOp_step rfl (fun K hK => ?_)
                    rw [if_pos (wanted_yes rfl (yielded_of rfl rfl hg))]
                    go_simp
                    exact hK _ _ ⟨_, rfl, trivial, rfl, hW⟩
                  · intro B a' w' hB hW hF
                    have hg : a'.tmps[21]? = some (.bool true) := by obtain ⟨_, h, e⟩ := hF.val ⟨2, .guard⟩ (by simp) rfl _ rfl; rw [h, show _ = (.bool true : Value) from e]
                    have h22 : a'.tmps[22]? = some (.slice (some ⟨b, off, none⟩) l.length cap) := by obtain ⟨_, h, e⟩ := hF.val ⟨3, .data⟩ (by simp) rfl _ rfl; rw [h, show _ = (.slice (some ⟨b, off, none⟩) l.length cap : Value) from e]
                    have h23 : a'.tmps[23]? = some (.int .i64 (k : Int)) := by obtain ⟨_, h, e⟩ := hF.val ⟨4, .data⟩ (by simp) rfl _ rfl; rw [h, show _ = (.int .i64 (k : Int) : Value) from e]
                    refine wpOp_step rfl (fun K hK => ?_)
                    rw [if_pos (wanted_yes rfl (yielded_of rfl rfl hg))]
                    go_simp
                    exact hK _ _ ⟨_, rfl, trivial, rfl, hW⟩
                  · intro B a' w' hB hW hF
                    have hg : a'.tmps[21]? = some (.bool true) := by obtain ⟨_, h, e⟩ := hF.val ⟨2, .guard⟩ (by simp) rfl _ rfl; rw [h, show _ = (.bool true : Value) from e]
                    have h24 : a'.tmps[24]? = some (.pointer (some ⟨b, off + k * 4, none⟩)) := by obtain ⟨_, h, e⟩ := hF.val ⟨5, .data⟩ (by simp) rfl _ rfl; rw [h, show _ = (.pointer (some ⟨b, off + k * 4, none⟩) : Value) from e]
                    have k0 : w'.cell? ⟨b, off + k * 4, none⟩ = some (.string l[k].key) := keep_cell hW d0
                    have k1 : w'.cell? ⟨b, off + k * 4 + 1, none⟩ = some (.string l[k].title) := keep_cell hW d1
                    have k2 : w'.cell? ⟨b, off + k * 4 + 2, none⟩ = some (.string l[k].body) := keep_cell hW d2
                    have k3 : w'.cell? ⟨b, off + k * 4 + 3, none⟩ = some (.int .i64 l[k].day) := keep_cell hW d3
                    refine wpOp_step rfl (fun K hK => ?_)
                    rw [if_pos (wanted_yes rfl (yielded_of rfl rfl hg))]
                    go_simp
                    exact hK _ _ ⟨_, rfl, trivial, rfl, hW⟩
                  · intro B a' w' hB hW hF
                    have hg : a'.tmps[21]? = some (.bool true) := by obtain ⟨_, h, e⟩ := hF.val ⟨2, .guard⟩ (by simp) rfl _ rfl; rw [h, show _ = (.bool true : Value) from e]
                    have h3 : a'.tmps[3]? = some (.slice (some ⟨g, 0, none⟩) o.length c) := (hF.at 3 (by kernel_rfl)).trans rfl
                    refine wpOp_step rfl (fun K hK => ?_)
                    rw [if_pos (wanted_yes rfl (yielded_of rfl rfl hg))]
                    go_simp
                    exact hK _ _ ⟨_, rfl, trivial, rfl, hW⟩
                  · intro B a' w' hB hW hF
                    have hg : a'.tmps[21]? = some (.bool true) := by obtain ⟨_, h, e⟩ := hF.val ⟨2, .guard⟩ (by simp) rfl _ rfl; rw [h, show _ = (.bool true : Value) from e]
                    have h5 : a'.tmps[5]? = some (.int .i64 (a : Int)) := (hF.at 5 (by kernel_rfl)).trans rfl
                    refine wpOp_step rfl (fun K hK => ?_)
                    rw [if_pos (wanted_yes rfl (yielded_of rfl rfl hg))]
                    go_simp
                    exact hK _ _ ⟨_, rfl, trivial, rfl, hW⟩
                  · intro B a' w' hB hW hF
                    have hg : a'.tmps[21]? = some (.bool true) := by obtain ⟨_, h, e⟩ := hF.val ⟨2, .guard⟩ (by simp) rfl _ rfl; rw [h, show _ = (.bool true : Value) from e]
                    have h27 : a'.tmps[27]? = some (.int .i64 (a : Int)) := by obtain ⟨_, h, e⟩ := hF.val ⟨8, .data⟩ (by simp) rfl _ rfl; rw [h, show _ = (.int .i64 (a : Int) : Value) from e]
                    refine wpOp_step rfl (fun K hK => ?_)
                    rw [if_pos (wanted_yes rfl (yielded_of rfl rfl hg))]
                    go_simp
                    exact hK _ _ ⟨_, rfl, trivial, rfl, hW⟩
                  · intro B a' w' hB hW hF
                    have hg : a'.tmps[21]? = some (.bool true) := by obtain ⟨_, h, e⟩ := hF.val ⟨2, .guard⟩ (by simp) rfl _ rfl; rw [h, show _ = (.bool true : Value) from e]
                    have h26 : a'.tmps[26]? = some (.slice (some ⟨g, 0, none⟩) o.length c) := by obtain ⟨_, h, e⟩ := hF.val ⟨7, .data⟩ (by simp) rfl _ rfl; rw [h, show _ = (.slice (some ⟨g, 0, none⟩) o.length c : Value) from e]
                    have h28 : a'.tmps[28]? = some (.int .i64 ((a : Int) - 1)) := by obtain ⟨_, h, e⟩ := hF.val ⟨9, .data⟩ (by simp) rfl _ rfl; rw [h, show _ = (.int .i64 ((a : Int) - 1) : Value) from e]
                    refine wpOp_step rfl (fun K hK => ?_)
                    rw [if_pos (wanted_yes rfl (yielded_of rfl rfl hg))]
                    go_simp
                    exact hK _ _ ⟨_, rfl, trivial, rfl, hW⟩
                  · intro B a' w' hB hW hF
                    have hg : a'.tmps[21]? = some (.bool true) := by obtain ⟨_, h, e⟩ := hF.val ⟨2, .guard⟩ (by simp) rfl _ rfl; rw [h, show _ = (.bool true : Value) from e]
                    have h29 : a'.tmps[29]? = some (.pointer (some ⟨g, (a - 1) * 4, none⟩)) := by obtain ⟨_, h, e⟩ := hF.val ⟨10, .data⟩ (by simp) rfl _ rfl; rw [h, show _ = (.pointer (some ⟨g, (a - 1) * 4, none⟩) : Value) from e]
                    have y0 : w'.cell? ⟨g, (a - 1) * 4, none⟩ = some (.string y.key) := keep_cell hW p0
                    have y1 : w'.cell? ⟨g, (a - 1) * 4 + 1, none⟩ = some (.string y.title) := keep_cell hW p1
                    have y2 : w'.cell? ⟨g, (a - 1) * 4 + 2, none⟩ = some (.string y.body) := keep_cell hW p2
                    have y3 : w'.cell? ⟨g, (a - 1) * 4 + 3, none⟩ = some (.int .i64 y.day) := keep_cell hW p3
                    refine wpOp_step rfl (fun K hK => ?_)
                    rw [if_pos (wanted_yes rfl (yielded_of rfl rfl hg))]
                    go_simp
                    exact hK _ _ ⟨_, rfl, trivial, rfl, hW⟩
                  · intro B a' w' hB hW hF
                    have hg : a'.tmps[21]? = some (.bool true) := by obtain ⟨_, h, e⟩ := hF.val ⟨2, .guard⟩ (by simp) rfl _ rfl; rw [h, show _ = (.bool true : Value) from e]
                    have h25 : a'.tmps[25]? = some (.agg #[.string l[k].key, .string l[k].title, .string l[k].body, .int .i64 l[k].day]) := by obtain ⟨_, h, e⟩ := hF.val ⟨6, .data⟩ (by simp) rfl _ rfl; rw [h, show _ = (.agg #[.string l[k].key, .string l[k].title, .string l[k].body, .int .i64 l[k].day] : Value) from e]
                    have h30 : a'.tmps[30]? = some (.agg #[.string y.key, .string y.title, .string y.body, .int .i64 y.day]) := by obtain ⟨_, h, e⟩ := hF.val ⟨11, .data⟩ (by simp) rfl _ rfl; rw [h, show _ = (.agg #[.string y.key, .string y.title, .string y.body, .int .i64 y.day] : Value) from e]
                    refine wpOp_step rfl (fun K hK => ?_)
                    rw [if_pos (wanted_yes rfl (yielded_of rfl rfl hg))]
                    go_simp
                    refine (s_l6Before l[k] y _).mono ?_
                    rintro e w'' ⟨rfl, hb⟩
                    rw [HL.out]
                    exact hK _ _ ⟨_, rfl, trivial, rfl, below_trans hW hb⟩
                  · intro B a' w' hB hW hF
                    have h21 : a'.tmps[21]? = some (.bool true) := by obtain ⟨_, h, e⟩ := hF.val ⟨2, .data⟩ (by simp) rfl _ rfl; rw [h, show _ = (.bool true : Value) from e]
                    have h31 : a'.tmps[31]? = some (.bool true) := by obtain ⟨_, h, e⟩ := hF.val ⟨12, .data⟩ (by simp) rfl _ rfl; rw [h, show _ = (.bool true : Value) from e]
                    refine wpOp_step rfl (fun K hK => ?_)
                    go_simp
                    exact hK _ _ ⟨_, rfl, trivial, rfl, hW⟩
                · intro a' w' hL hW
                  have hd := hL.defers
                  have hs := hL.size
                  have h19 : a'.tmps[19]? = some (.int .i64 (a : Int)) := by obtain ⟨_, h, e⟩ := hL.val 0 _ rfl; rw [h, show _ = (.int .i64 (a : Int) : Value) from e]
                  have h20 : a'.tmps[20]? = some (.bool true) := by obtain ⟨_, h, e⟩ := hL.val 1 _ rfl; rw [h, show _ = (.bool true : Value) from e]
                  have h21 : a'.tmps[21]? = some (.bool true) := by obtain ⟨_, h, e⟩ := hL.val 2 _ rfl; rw [h, show _ = (.bool true : Value) from e]
                  have h22 : a'.tmps[22]? = some (.slice (some ⟨b, off, none⟩) l.length cap) := by obtain ⟨_, h, e⟩ := hL.val 3 _ rfl; rw [h, show _ = (.slice (some ⟨b, off, none⟩) l.length cap : Value) from e]
                  have h23 : a'.tmps[23]? = some (.int .i64 (k : Int)) := by obtain ⟨_, h, e⟩ := hL.val 4 _ rfl; rw [h, show _ = (.int .i64 (k : Int) : Value) from e]
                  have h24 : a'.tmps[24]? = some (.pointer (some ⟨b, off + k * 4, none⟩)) := by obtain ⟨_, h, e⟩ := hL.val 5 _ rfl; rw [h, show _ = (.pointer (some ⟨b, off + k * 4, none⟩) : Value) from e]
                  have h25 : a'.tmps[25]? = some (.agg #[.string l[k].key, .string l[k].title, .string l[k].body, .int .i64 l[k].day]) := by obtain ⟨_, h, e⟩ := hL.val 6 _ rfl; rw [h, show _ = (.agg #[.string l[k].key, .string l[k].title, .string l[k].body, .int .i64 l[k].day] : Value) from e]
                  have h26 : a'.tmps[26]? = some (.slice (some ⟨g, 0, none⟩) o.length c) := by obtain ⟨_, h, e⟩ := hL.val 7 _ rfl; rw [h, show _ = (.slice (some ⟨g, 0, none⟩) o.length c : Value) from e]
                  have h27 : a'.tmps[27]? = some (.int .i64 (a : Int)) := by obtain ⟨_, h, e⟩ := hL.val 8 _ rfl; rw [h, show _ = (.int .i64 (a : Int) : Value) from e]
                  have h28 : a'.tmps[28]? = some (.int .i64 ((a : Int) - 1)) := by obtain ⟨_, h, e⟩ := hL.val 9 _ rfl; rw [h, show _ = (.int .i64 ((a : Int) - 1) : Value) from e]
                  have h29 : a'.tmps[29]? = some (.pointer (some ⟨g, (a - 1) * 4, none⟩)) := by obtain ⟨_, h, e⟩ := hL.val 10 _ rfl; rw [h, show _ = (.pointer (some ⟨g, (a - 1) * 4, none⟩) : Value) from e]
                  have h30 : a'.tmps[30]? = some (.agg #[.string y.key, .string y.title, .string y.body, .int .i64 y.day]) := by obtain ⟨_, h, e⟩ := hL.val 11 _ rfl; rw [h, show _ = (.agg #[.string y.key, .string y.title, .string y.body, .int .i64 y.day] : Value) from e]
                  have h31 : a'.tmps[31]? = some (.bool true) := by obtain ⟨_, h, e⟩ := hL.val 12 _ rfl; rw [h, show _ = (.bool true : Value) from e]
                  have h32 : a'.tmps[32]? = some (.bool true) := by obtain ⟨_, h, e⟩ := hL.val 13 _ rfl; rw [h, show _ = (.bool true : Value) from e]
                  have hlit := act_lit (l := [_, _, _, _, _, _, _, _, _, _, _, _, _, _, _, _, _, _, _, _, _, _, _, _, _, _, _, _, _, _, _, _, _, _, _, _, _, _, _, _, _, _, _, _, _, _, _, _, _, _, _]) (hd.trans rfl) (by rw [hs]; rfl) (AllAt.cons ((hL.at 0 (by kernel_rfl)).trans rfl) (AllAt.cons ((hL.at 1 (by kernel_rfl)).trans rfl) (AllAt.cons ((hL.at 2 (by kernel_rfl)).trans rfl) (AllAt.cons ((hL.at 3 (by kernel_rfl)).trans rfl) (AllAt.cons ((hL.at 4 (by kernel_rfl)).trans rfl) (AllAt.cons ((hL.at 5 (by kernel_rfl)).trans rfl) (AllAt.cons ((hL.at 6 (by kernel_rfl)).trans rfl) (AllAt.cons ((hL.at 7 (by kernel_rfl)).trans rfl) (AllAt.cons ((hL.at 8 (by kernel_rfl)).trans rfl) (AllAt.cons ((hL.at 9 (by kernel_rfl)).trans rfl) (AllAt.cons ((hL.at 10 (by kernel_rfl)).trans rfl) (AllAt.cons ((hL.at 11 (by kernel_rfl)).trans rfl) (AllAt.cons ((hL.at 12 (by kernel_rfl)).trans rfl) (AllAt.cons ((hL.at 13 (by kernel_rfl)).trans rfl) (AllAt.cons ((hL.at 14 (by kernel_rfl)).trans rfl) (AllAt.cons ((hL.at 15 (by kernel_rfl)).trans rfl) (AllAt.cons ((hL.at 16 (by kernel_rfl)).trans rfl) (AllAt.cons ((hL.at 17 (by kernel_rfl)).trans rfl) (AllAt.cons ((hL.at 18 (by kernel_rfl)).trans rfl) (AllAt.cons h19 (AllAt.cons h20 (AllAt.cons h21 (AllAt.cons h22 (AllAt.cons h23 (AllAt.cons h24 (AllAt.cons h25 (AllAt.cons h26 (AllAt.cons h27 (AllAt.cons h28 (AllAt.cons h29 (AllAt.cons h30 (AllAt.cons h31 (AllAt.cons h32 (AllAt.cons ((hL.at 33 (by kernel_rfl)).trans rfl) (AllAt.cons ((hL.at 34 (by kernel_rfl)).trans rfl) (AllAt.cons ((hL.at 35 (by kernel_rfl)).trans rfl) (AllAt.cons ((hL.at 36 (by kernel_rfl)).trans rfl) (AllAt.cons ((hL.at 37 (by kernel_rfl)).trans rfl) (AllAt.cons ((hL.at 38 (by kernel_rfl)).trans rfl) (AllAt.cons ((hL.at 39 (by kernel_rfl)).trans rfl) (AllAt.cons ((hL.at 40 (by kernel_rfl)).trans rfl) (AllAt.cons ((hL.at 41 (by kernel_rfl)).trans rfl) (AllAt.cons ((hL.at 42 (by kernel_rfl)).trans rfl) (AllAt.cons ((hL.at 43 (by kernel_rfl)).trans rfl) (AllAt.cons ((hL.at 44 (by kernel_rfl)).trans rfl) (AllAt.cons ((hL.at 45 (by kernel_rfl)).trans rfl) (AllAt.cons ((hL.at 46 (by kernel_rfl)).trans rfl) (AllAt.cons ((hL.at 47 (by kernel_rfl)).trans rfl) (AllAt.cons ((hL.at 48 (by kernel_rfl)).trans rfl) (AllAt.cons ((hL.at 49 (by kernel_rfl)).trans rfl) (AllAt.cons ((hL.at 50 (by kernel_rfl)).trans rfl) AllAt.nil)))))))))))))))))))))))))))))))))))))))))))))))))))
                  clear hL hd hs h19 h20 h21 h22 h23 h24 h25 h26 h27 h28 h29 h30 h31 h32
                  subst hlit
                  dsimp only [List.getElem_toArray, List.getElem_cons_zero, List.getElem_cons_succ]
                  have hown3 := owns_below hown2 hW
                  have hB3 := below_trans hB2 hW
                  go_wp2_with fail
                  go_roundw
                  case rel => exact ⟨a - 1, by omega, by go_num, HG2.out, hown3, hB3⟩
                  case measure => simp [intOf]; omega
      · have HS : Hid (FeedRel l o) := by
          obtain rfl : k = l.length := by omega
          exact hT.all
        clear hT hc
        go_wp2_with fail
        go_ret
        exact FSortRet.mk HS.out hown hB
end Go.Proofs.Ytlmpkajnbdhppaa
