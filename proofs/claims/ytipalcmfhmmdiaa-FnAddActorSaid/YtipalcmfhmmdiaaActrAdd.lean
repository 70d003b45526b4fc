/- The walk of the program's AddActor. Condition: the slice reads as the list, texts are no longer than a machine holds. -/
import Derived.Test.YtipalcmfhmmdiaaActrA
namespace Go.Proofs.Ytipalcmfhmmdiaa
open Go.RowKit

def AddRet (l : List Actr) (x : Actr) (w : World) (e : Ending) (w' : World) : Prop := ∃ v out ok, e = .returned (.tuple #[v, .bool ok]) ∧ AddRel l x out ok ∧ w'.ownsRow w.heap.size 33 actrS.sz v out.length (actrS.cells out) ∧ Below w.heap.size w w'
theorem AddRet.mk {l out : List Actr} {x : Actr} {ok : Bool} {w w' : World} {v : Value} (hr : AddRel l x out ok) (ho : w'.ownsRow w.heap.size 33 actrS.sz v out.length (actrS.cells out)) (hb : Below w.heap.size w w') : AddRet l x w (.returned (.tuple #[v, .bool ok])) w' := ⟨v, out, ok, rfl, hr, ho, hb⟩
theorem owns_base {w : World} {base base' : Nat} {e : TypeId} {size : Nat} {v : Value} {n : Nat} {xs : List Value} (h : w.ownsRow base' e size v n xs) (hb : base ≤ base') : w.ownsRow base e size v n xs := by
  rcases h with ⟨h1, h2 | ⟨g, cap, cur, h3, h4, h5⟩⟩
  · exact ⟨h1, .inl h2⟩
  · exact ⟨h1, .inr ⟨g, cap, cur, h3, Nat.le_trans hb h4, h5⟩⟩

set_option maxHeartbeats 3200000 in
theorem i_AddActor (v : Value) (l : List Actr) (x : Actr) (w : World) (h : Sl actrS w v l) (hs : FeedSizes l) (hb : l.length ≤ 1048576) (h1 : x.name.size ≤ 140737488355328) (h2 : x.feed.size ≤ 140737488355328) :
    Calls Try.prog 20 #[v, .agg #[.string x.name, .string x.feed, .int .i64 x.sign]] w (AddRet l x w) := by
  obtain ⟨A, c, rfl⟩ : ∃ A c, v = .slice A l.length c := by obtain ⟨a, c, h, _⟩ := h; exact ⟨a, c, h⟩
  have hB0 : Below w.heap.size w (w.alloc (.cells #[.string x.name, .string x.feed, .int .i64 x.sign] 33)) := below1 _ _
  cases ha : actorsB l
  · have HR : Hid (AddRel l x [] false) := .inl ⟨ha, rfl, rfl⟩
    go_enter Try.func20, Try.ntmps20
    go_wp2_with fail
    refine (i_ActorsValid _ l _ (h.mono hB0) hs).mono ?_
    rintro e w1 ⟨rfl, hb1⟩
    rw [ha]
    go_wp2_with fail
    go_ret2
    exact AddRet.mk HR.out (World.ownsRow_nil _ _ _ _) (below_trans hB0 hb1)
  · have HA := Lib.hid ha
    go_enter Try.func20, Try.ntmps20
    go_wp2_with fail
    refine (i_ActorsValid _ l _ (h.mono hB0) hs).mono ?_
    rintro e w1 ⟨rfl, hb1⟩
    rw [ha]
    clear ha
    have c0 : w1.cell? ⟨w.heap.size, 0, none⟩ = some (.string x.name) := keep_cell hb1 (by simp)
    have c1 : w1.cell? ⟨w.heap.size, 1, none⟩ = some (.string x.feed) := keep_cell hb1 (by simp)
    have c2 : w1.cell? ⟨w.heap.size, 2, none⟩ = some (.int .i64 x.sign) := keep_cell hb1 (by simp)
    have hB1 := below_trans hB0 hb1
    clear hb1
    go_wp2_with fail
    go_loopw [6] (fun i wr => ∃ n : Nat, n ≤ l.length ∧ i = .int .i64 n ∧ LessTo l x.name n ∧ wr.cell? ⟨w.heap.size, 0, none⟩ = some (.string x.name) ∧ wr.cell? ⟨w.heap.size, 1, none⟩ = some (.string x.feed) ∧ wr.cell? ⟨w.heap.size, 2, none⟩ = some (.int .i64 x.sign) ∧ Below w.heap.size w wr) (fun i _ => l.length - (intOf i).toNat)
    case atStart => exact ⟨0, Nat.zero_le _, rfl, LessTo.zero _ _, c0, c1, c2, hB1⟩
    case round =>
      clear c0 c1 c2 hB1 hB0
      obtain ⟨n, hn, rfl, hT, c0, c1, c2, hB⟩ := hrel
      have q0 : (0 : Int) ≤ (n : Int) := by omega
      by_cases hlt : n < l.length
      · obtain ⟨b, off, cap, hv, hcap, hbs, hc⟩ := SlActr.open h (by omega)
        injection hv with hv1 _ hv3
        subst hv1; subst hv3
        have d0 : wr.cell? ⟨b, off + n * 3, none⟩ = some (.string l[n].name) := (hB.cell (p := ⟨b, off + n * 3, none⟩) hbs).trans (hc n hlt).1
        have q1 : (n : Int) < (l.length : Int) := by omega
        clear hc
        cases hl : Op.bytesLess l[n].name.toList x.name.toList
        · have HT : Hid (AtRel l x.name n) := ⟨hn, hT, fun _ => hl⟩
          clear hT
          go_wp2_with fail
          go_quiet (fail)
          obtain ⟨A, hA⟩ : ∃ A : Option Addr, A = some ⟨b, off, none⟩ := ⟨_, rfl⟩
          rw [← hA] at h ⊢
          have c0 : (wr.drewN nq).cell? ⟨w.heap.size, 0, none⟩ = some (.string x.name) := c0
          have c1 : (wr.drewN nq).cell? ⟨w.heap.size, 1, none⟩ = some (.string x.feed) := c1
          have c2 : (wr.drewN nq).cell? ⟨w.heap.size, 2, none⟩ = some (.int .i64 x.sign) := c2
          have hB2 : Below w.heap.size w (wr.drewN nq) := belowN hB nq
          clear hA hB d0
          generalize wr.drewN nq = w2 at *
          go_wp2_with fail
          refine (with_Actor A c l x n _ (h.mono hB2) hb hn).mono ?_
          rintro e w3 ⟨v3, rfl, hown3, hb3⟩
          have hB3 := below_trans hB2 hb3
          have hown3' := owns_base hown3 hB2.size
          clear hown3
          cases hm : actorsB (insAt l x n)
          · have HR : Hid (AddRel l x l false) := .inr ⟨HA.out, n, HT.out, .inr ⟨hm, rfl, rfl⟩⟩
            go_wp2_with fail
            refine (i_ActorsValid _ (insAt l x n) _ (Sl.of_owns hown3') (insAt_sizes hs h1 h2)).mono ?_
            rintro e w4 ⟨rfl, hb4⟩
            rw [hm]
            have hB4 := below_trans hB3 hb4
            clear hown3'
            go_wp2_with fail
            refine (copy_Actor _ l _ (h.mono hB4) hb).mono ?_
            rintro e w5 ⟨v5, rfl, hown5, hb5⟩
            have hB5 := below_trans hB4 hb5
            have hown5' := owns_base hown5 hB4.size
            clear hown5
            go_wp2_with fail
            go_ret2
            exact AddRet.mk HR.out hown5' hB5
          · have HR : Hid (AddRel l x (insAt l x n) true) := .inr ⟨HA.out, n, HT.out, .inl ⟨hm, rfl, rfl⟩⟩
            go_wp2_with fail
            refine (i_ActorsValid _ (insAt l x n) _ (Sl.of_owns hown3') (insAt_sizes hs h1 h2)).mono ?_
            rintro e w4 ⟨rfl, hb4⟩
            rw [hm]
            have hB4 := below_trans hB3 hb4
            have hown4 := owns_below hown3' hb4
            clear hown3'
            go_wp2_with fail
            go_ret2
            exact AddRet.mk HR.out hown4 hB4
        · have HT : Hid (LessTo l x.name (n + 1)) := hT.succ hlt hl
          clear hT
          go_wp2_with fail
          go_quiet (fail)
          go_wp2_with fail
          go_roundw
          case rel => exact ⟨n + 1, by omega, by go_num, HT.out, c0, c1, c2, belowN hB _⟩
          case measure => simp [intOf]; omega
      · have HT : Hid (AtRel l x.name n) := ⟨hn, hT, fun h => absurd h hlt⟩
        have g1 : decide ((n : Int) < (l.length : Int)) = false := by simp; omega
        have g2 : decide (n < l.length) = false := by simp; omega
        clear hT hlt
        go_wp2_with fail
        go_quiet (fail)
        have c0 : (wr.drewN nq).cell? ⟨w.heap.size, 0, none⟩ = some (.string x.name) := c0
        have c1 : (wr.drewN nq).cell? ⟨w.heap.size, 1, none⟩ = some (.string x.feed) := c1
        have c2 : (wr.drewN nq).cell? ⟨w.heap.size, 2, none⟩ = some (.int .i64 x.sign) := c2
        have hB2 : Below w.heap.size w (wr.drewN nq) := belowN hB nq
        clear hB g1 g2
        generalize wr.drewN nq = w2 at *
        go_wp2_with fail
        refine (with_Actor A c l x n _ (h.mono hB2) hb hn).mono ?_
        rintro e w3 ⟨v3, rfl, hown3, hb3⟩
        have hB3 := below_trans hB2 hb3
        have hown3' := owns_base hown3 hB2.size
        clear hown3
        cases hm : actorsB (insAt l x n)
        · have HR : Hid (AddRel l x l false) := .inr ⟨HA.out, n, HT.out, .inr ⟨hm, rfl, rfl⟩⟩
          go_wp2_with fail
          refine (i_ActorsValid _ (insAt l x n) _ (Sl.of_owns hown3') (insAt_sizes hs h1 h2)).mono ?_
          rintro e w4 ⟨rfl, hb4⟩
          rw [hm]
          have hB4 := below_trans hB3 hb4
          clear hown3'
          go_wp2_with fail
          refine (copy_Actor _ l _ (h.mono hB4) hb).mono ?_
          rintro e w5 ⟨v5, rfl, hown5, hb5⟩
          have hB5 := below_trans hB4 hb5
          have hown5' := owns_base hown5 hB4.size
          clear hown5
          go_wp2_with fail
          go_ret2
          exact AddRet.mk HR.out hown5' hB5
        · have HR : Hid (AddRel l x (insAt l x n) true) := .inr ⟨HA.out, n, HT.out, .inl ⟨hm, rfl, rfl⟩⟩
          go_wp2_with fail
          refine (i_ActorsValid _ (insAt l x n) _ (Sl.of_owns hown3') (insAt_sizes hs h1 h2)).mono ?_
          rintro e w4 ⟨rfl, hb4⟩
          rw [hm]
          have hB4 := below_trans hB3 hb4
          have hown4 := owns_below hown3' hb4
          clear hown3'
          go_wp2_with fail
          go_ret2
          exact AddRet.mk HR.out hown4 hB4
end Go.Proofs.Ytipalcmfhmmdiaa
