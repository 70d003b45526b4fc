/- The walks of the program's and the reference's ItemWith. Condition: the slice reads as the list, texts are no longer than a machine holds. -/
import Derived.Test.YtlmpkajnbdhppaaFeedV
namespace Go.Proofs.Ytlmpkajnbdhppaa
open Go.RowKit

/-- A block of the call's own whose cells are known and may be written. -/
def Res (w : World) (b : Nat) (A : List Value) : Prop := b < w.heap.size ∧ ∀ i v, A[i]? = some v → w.cell? ⟨b, i, none⟩ = some v ∧ w.frozen? ⟨b, i, none⟩ = false
theorem Res.mono {w w' : World} {b : Nat} {A : List Value} (h : Res w b A) (hb : Below w.heap.size w w') : Res w' b A :=
  ⟨Nat.lt_of_lt_of_le h.1 hb.size, fun i v hi => ⟨keep_cell hb (h.2 i v hi).1, (hb.frozen (p := ⟨b, i, none⟩) h.1).trans (h.2 i v hi).2⟩⟩
theorem Res.four {w : World} {b : Nat} {a0 a1 a2 a3 : Value} (h : Res w b [a0, a1, a2, a3]) : (w.cell? ⟨b, 0, none⟩ = some a0 ∧ w.cell? ⟨b, 1, none⟩ = some a1 ∧ w.cell? ⟨b, 2, none⟩ = some a2 ∧ w.cell? ⟨b, 3, none⟩ = some a3) ∧ (w.frozen? ⟨b, 0, none⟩ = false ∧ w.frozen? ⟨b, 1, none⟩ = false ∧ w.frozen? ⟨b, 2, none⟩ = false ∧ w.frozen? ⟨b, 3, none⟩ = false) ∧ b < w.heap.size :=
  ⟨⟨(h.2 0 _ rfl).1, (h.2 1 _ rfl).1, (h.2 2 _ rfl).1, (h.2 3 _ rfl).1⟩, ⟨(h.2 0 _ rfl).2, (h.2 1 _ rfl).2, (h.2 2 _ rfl).2, (h.2 3 _ rfl).2⟩, h.1⟩
theorem Res.new (w : World) (a0 a1 a2 a3 : Value) (t : TypeId) : Res (w.alloc (.cells #[a0, a1, a2, a3] t)) w.heap.size [a0, a1, a2, a3] :=
  ⟨by simp, fun i v hi => by
    match i with
    | 0 => simp at hi; subst hi; simp [go_sem]
    | 1 => simp at hi; subst hi; simp [go_sem]
    | 2 => simp at hi; subst hi; simp [go_sem]
    | 3 => simp at hi; subst hi; simp [go_sem]
    | i + 4 => simp at hi⟩
theorem set4 {W : World} {b : Nat} {u0 u1 u2 u3 : Value} (v0 v1 v2 v3 : Value) (h0 : W.cell? ⟨b, 0, none⟩ = some u0) (h1 : W.cell? ⟨b, 1, none⟩ = some u1) (h2 : W.cell? ⟨b, 2, none⟩ = some u2) (h3 : W.cell? ⟨b, 3, none⟩ = some u3) :
    let W' := (((W.setCell ⟨b, 0, none⟩ v0).setCell ⟨b, 1, none⟩ v1).setCell ⟨b, 2, none⟩ v2).setCell ⟨b, 3, none⟩ v3
    W'.cell? ⟨b, 0, none⟩ = some v0 ∧ W'.cell? ⟨b, 1, none⟩ = some v1 ∧ W'.cell? ⟨b, 2, none⟩ = some v2 ∧ W'.cell? ⟨b, 3, none⟩ = some v3 := by
  have o : ∀ (X : World) (i j : Nat) (v : Value), i ≠ j → (X.setCell ⟨b, i, none⟩ v).cell? ⟨b, j, none⟩ = X.cell? ⟨b, j, none⟩ := fun X i j v hij => World.cell?_setCell_other _ _ _ _ (fun e => hij (congrArg Addr.off e))
  refine ⟨?_, ?_, ?_, ?_⟩
  · rw [o _ 3 0 _ (by decide), o _ 2 0 _ (by decide), o _ 1 0 _ (by decide)]
    exact World.cell?_setCell_same _ _ _ h0
  · rw [o _ 3 1 _ (by decide), o _ 2 1 _ (by decide)]
    exact World.cell?_setCell_same _ _ _ (by rw [o _ 0 1 _ (by decide)]; exact h1)
  · rw [o _ 3 2 _ (by decide)]
    exact World.cell?_setCell_same _ _ _ (by rw [o _ 1 2 _ (by decide), o _ 0 2 _ (by decide)]; exact h2)
  · exact World.cell?_setCell_same _ _ _ (by rw [o _ 2 3 _ (by decide), o _ 1 3 _ (by decide), o _ 0 3 _ (by decide)]; exact h3)
theorem resItm {fn : Func} {slot b : Nat} (hr : fn.results = #[.cell slot 30]) (tmps : Array Value) (W : World) (ht : tmps[slot]? = some (.pointer (some ⟨b, 0, none⟩))) {a0 a1 a2 a3 : Value}
    (h0 : W.cell? ⟨b, 0, none⟩ = some a0) (h1 : W.cell? ⟨b, 1, none⟩ = some a1) (h2 : W.cell? ⟨b, 2, none⟩ = some a2) (h3 : W.cell? ⟨b, 3, none⟩ = some a3) :
    (results fn tmps).run Try.prog W = .ok (.agg #[a0, a1, a2, a3]) W := by
  simp [results, hr, go_sem, ht, h0, h1, h2, h3]
theorem resItmB {fn : Func} {slot bs b : Nat} (hr : fn.results = #[.cell slot 30, .tmp bs]) (tmps : Array Value) (W : World) (ht : tmps[slot]? = some (.pointer (some ⟨b, 0, none⟩))) {a0 a1 a2 a3 : Value}
    (h0 : W.cell? ⟨b, 0, none⟩ = some a0) (h1 : W.cell? ⟨b, 1, none⟩ = some a1) (h2 : W.cell? ⟨b, 2, none⟩ = some a2) (h3 : W.cell? ⟨b, 3, none⟩ = some a3) :
    (results fn tmps).run Try.prog W = .ok (.tuple #[.agg #[a0, a1, a2, a3], tmps.getD bs undef]) W := by
  simp [results, hr, go_sem, ht, h0, h1, h2, h3]
/-- An item as a value; the zero value. -/
def itmV (y : Itm) : Value := .agg #[.string y.key, .string y.title, .string y.body, .int .i64 y.day]
def noItm : Itm := ⟨⟨#[]⟩, ⟨#[]⟩, ⟨#[]⟩, 0⟩
def WithRet (o : Option Itm) (w : World) (e : Ending) (w' : World) : Prop := e = .returned (.tuple #[itmV (o.getD noItm), .bool o.isSome]) ∧ Below w.heap.size w w'
theorem WithRet.no {w w' : World} (hb : Below w.heap.size w w') : WithRet none w (.returned (.tuple #[.agg #[.string ⟨#[]⟩, .string ⟨#[]⟩, .string ⟨#[]⟩, .int .i64 0], .bool false])) w' := ⟨rfl, hb⟩
theorem WithRet.yes {w w' : World} (y : Itm) (hb : Below w.heap.size w w') : WithRet (some y) w (.returned (.tuple #[.agg #[.string y.key, .string y.title, .string y.body, .int .i64 y.day], .bool true])) w' := ⟨rfl, hb⟩
def FedTo (l : List Itm) (k : Nat) : Prop := 0 < k → feedB l = true
theorem with_bad {l : List Itm} {k : List UInt8} (h : feedB l = false) : withL l k = none := by unfold withL; rw [h]; rfl
theorem with_ok {l : List Itm} {k : List UInt8} (h : feedB l = true) : withL l k = l.find? (keyB k) := by unfold withL; rw [h]; rfl

set_option maxHeartbeats 1600000 in
theorem i_ItemWith (v : Value) (l : List Itm) (key : ByteArray) (w : World) (h : Sl itmS w v l) (hs : SzL l) :
    Calls Try.prog 18 #[v, .string key] w (WithRet (withL l key.toList) w) := by
  cases hf : feedB l
  · rw [with_bad hf]
    have HF := Lib.hid hf
    have h1 := h.mono (below1 w (.cells #[.string ⟨#[]⟩, .string ⟨#[]⟩, .string ⟨#[]⟩, .int .i64 0] 30))
    have R0 := Res.new w (.string ⟨#[]⟩) (.string ⟨#[]⟩) (.string ⟨#[]⟩) (.int .i64 0) 30
    clear hf
    go_enter Try.func18, Try.ntmps18
    go_wp2_with fail
    refine (i_FeedValid _ l _ h1 hs).mono ?_
    rintro e w1 ⟨rfl, hb1⟩
    rw [HF.out]
    have bz := below_trans (below1 _ _) hb1
    obtain ⟨⟨r0, r1, r2, r3⟩, ⟨f0, f1, f2, f3⟩, hlt⟩ := (R0.mono hb1).four
    have HP := Lib.hid (set4 (.string ⟨#[]⟩) (.string ⟨#[]⟩) (.string ⟨#[]⟩) (.int .i64 0) r0 r1 r2 r3)
    clear hb1
    go_wp2
    clear r0 r1 r2 r3 f0 f1 f2 f3
    obtain ⟨P0, P1, P2, P3⟩ := HP.out
    exact bodyPost_ret (resItmB Try.results18 _ _ rfl P0 P1 P2 P3) rfl (WithRet.no (by repeat (first | (with_reducible exact bz) | (with_reducible refine Below.setCell ?_ (by simp) _))))
  · rw [with_ok hf]
    have HF := Lib.hid hf
    have h1 := h.mono (below1 w (.cells #[.string ⟨#[]⟩, .string ⟨#[]⟩, .string ⟨#[]⟩, .int .i64 0] 30))
    have R0 := Res.new w (.string ⟨#[]⟩) (.string ⟨#[]⟩) (.string ⟨#[]⟩) (.int .i64 0) 30
    clear hf
    rcases keyNo_find l key.toList with ⟨n1, _, n3, _⟩ | ⟨j, hj, n1, _, _, n3, _⟩
    · have N1 := Lib.hid n1
      rw [n3]
      clear n1 n3
      go_enter Try.func18, Try.ntmps18
      go_wp2_with fail
      refine (i_FeedValid _ l _ h1 hs).mono ?_
      rintro e w1 ⟨rfl, hb1⟩
      rw [HF.out]
      have h2 := h1.mono hb1
      have R1 := R0.mono hb1
      have bz := below_trans (below1 _ _) hb1
      clear hb1 h1 R0
      go_wp2_with fail
      refine (i_itemNumber _ l key _ h2).mono ?_
      rintro e w2 ⟨rfl, hb2⟩
      rw [N1.out]
      obtain ⟨⟨r0, r1, r2, r3⟩, ⟨f0, f1, f2, f3⟩, hlt⟩ := (R1.mono hb2).four
      have HP := Lib.hid (set4 (.string ⟨#[]⟩) (.string ⟨#[]⟩) (.string ⟨#[]⟩) (.int .i64 0) r0 r1 r2 r3)
      replace bz := below_trans bz hb2
      clear hb2 R1 h2
      go_wp2
      clear r0 r1 r2 r3 f0 f1 f2 f3
      obtain ⟨P0, P1, P2, P3⟩ := HP.out
      exact bodyPost_ret (resItmB Try.results18 _ _ rfl P0 P1 P2 P3) rfl (WithRet.no (by repeat (first | (with_reducible exact bz) | (with_reducible refine Below.setCell ?_ (by simp) _))))
    · have N1 := Lib.hid n1
      rw [n3]
      clear n1 n3
      obtain ⟨b, off, cap, hv, hcap, hbs, hc⟩ := SlItm.open h (by omega)
      subst hv
      obtain ⟨hc0, hc1, hc2, hc3⟩ := hc j hj
      have q0 : (0 : Int) ≤ (j : Int) := by omega
      have q1 : (j : Int) < (l.length : Int) := by omega
      clear hc
      go_enter Try.func18, Try.ntmps18
      go_wp2_with fail
      refine (i_FeedValid _ l _ h1 hs).mono ?_
      rintro e w1 ⟨rfl, hb1⟩
      rw [HF.out]
      have h2 := h1.mono hb1
      have R1 := R0.mono hb1
      have bz := below_trans (below1 _ _) hb1
      clear hb1 h1 R0
      go_wp2_with fail
      refine (i_itemNumber _ l key _ h2).mono ?_
      rintro e w2 ⟨rfl, hb2⟩
      rw [N1.out]
      obtain ⟨⟨r0, r1, r2, r3⟩, ⟨f0, f1, f2, f3⟩, hlt⟩ := (R1.mono hb2).four
      replace bz := below_trans bz hb2
      have d0 := keep_cell bz hc0
      have d1 := keep_cell bz hc1
      have d2 := keep_cell bz hc2
      have d3 := keep_cell bz hc3
      have HP := Lib.hid (set4 (.string l[j].key) (.string l[j].title) (.string l[j].body) (.int .i64 l[j].day) r0 r1 r2 r3)
      clear hb2 R1 h2 hc0 hc1 hc2 hc3 h
      go_wp2
      clear r0 r1 r2 r3 f0 f1 f2 f3
      obtain ⟨P0, P1, P2, P3⟩ := HP.out
      exact bodyPost_ret (resItmB Try.results18 _ _ rfl P0 P1 P2 P3) rfl (WithRet.yes _ (by repeat (first | (with_reducible exact bz) | (with_reducible refine Below.setCell ?_ (by simp) _))))

set_option maxHeartbeats 1600000 in
theorem s_ItemWith (v : Value) (l : List Itm) (key : ByteArray) (w : World) (h : Sl itmS w v l) (hs : SzL l) :
    Calls Try.prog 43 #[v, .string key] w (WithRet (withL l key.toList) w) := by
  have hm := h.len
  obtain ⟨A, cap, rfl⟩ : ∃ A cap, v = .slice A l.length cap := by obtain ⟨a, c, h, _⟩ := h; exact ⟨a, c, h⟩
  have R0 := Res.new w (.string ⟨#[]⟩) (.string ⟨#[]⟩) (.string ⟨#[]⟩) (.int .i64 0) 30
  go_enter Try.func43, Try.ntmps43
  go_wp2_with fail
  go_loopw [6] (fun i wr => ∃ k : Nat, k ≤ l.length ∧ i = .int .i64 k ∧ NoKey l key.toList k ∧ FedTo l k ∧ Res wr w.heap.size [.string ⟨#[]⟩, .string ⟨#[]⟩, .string ⟨#[]⟩, .int .i64 0] ∧ Below w.heap.size w wr) (fun i _ => l.length - (intOf i).toNat)
  case atStart => exact ⟨0, Nat.zero_le _, rfl, NoKey.zero _ _, fun h => absurd h (by omega), R0, below1 _ _⟩
  case round =>
    obtain ⟨wo, rfl⟩ : ∃ wo : World, wo = wr := ⟨_, rfl⟩
    obtain ⟨k, hk, rfl, hN, hF0, hR, hB⟩ := hrel
    clear R0
    have q0 : (0 : Int) ≤ (k : Int) := by omega
    by_cases hlt : k < l.length
    · have q1 : (k : Int) < (l.length : Int) := by omega
      have q2 : decide ((k : Int) < (l.length : Int)) = true := by simp; omega
      cases hf : feedB l
      · have H : Hid (withL l key.toList = none) := with_bad hf
        have HF := Lib.hid hf
        clear hf hN hF0
        go_wp2_with fail
        refine (s_FeedValid _ l _ (h.mono hB) hs).mono ?_
        rintro e w1 ⟨rfl, hb1⟩
        rw [HF.out]
        obtain ⟨⟨r0, r1, r2, r3⟩, ⟨f0, f1, f2, f3⟩, hlt0⟩ := (hR.mono hb1).four
        have HP := Lib.hid (set4 (.string ⟨#[]⟩) (.string ⟨#[]⟩) (.string ⟨#[]⟩) (.int .i64 0) r0 r1 r2 r3)
        have bz := below_trans hB hb1
        clear hb1 hR hB
        go_wp2
        clear r0 r1 r2 r3 f0 f1 f2 f3
        obtain ⟨P0, P1, P2, P3⟩ := HP.out
        rw [H.out]
        exact bodyPost_ret (resItmB Try.results43 _ _ rfl P0 P1 P2 P3) rfl (WithRet.no (by repeat (first | (with_reducible exact bz) | (with_reducible refine Below.setCell ?_ (by simp) _))))
      · have HF := Lib.hid hf
        have HN := Lib.hid hN
        clear hf hN hF0
        obtain ⟨b, off, c', hv, hcap, hbs, hc⟩ := SlItm.open h (by omega)
        injection hv with hv1 _ hv3
        subst hv1; subst hv3
        obtain ⟨hc0, hc1, hc2, hc3⟩ := hc k hlt
        clear hc
        go_wp2_with fail
        refine (s_FeedValid _ l _ (h.mono hB) hs).mono ?_
        rintro e w1 ⟨rfl, hb1⟩
        rw [HF.out]
        have R1 := hR.mono hb1
        obtain ⟨⟨r0, r1, r2, r3⟩, ⟨f0, f1, f2, f3⟩, hlt0⟩ := R1.four
        have bz := below_trans hB hb1
        have d0 := keep_cell bz hc0
        have d1 := keep_cell bz hc1
        have d2 := keep_cell bz hc2
        have d3 := keep_cell bz hc3
        clear hb1 hR hB hc0 hc1 hc2 hc3
        cases he : (l[k].key.toList == key.toList)
        · have HN2 := Lib.hid (HN.out.succ hlt he)
          clear r0 r1 r2 r3 f0 f1 f2 f3 d1 d2 d3
          go_wp2
          go_roundw
          case rel => exact ⟨k + 1, by omega, by go_num, HN2.out, fun _ => HF.out, R1, bz⟩
          case measure => simp [intOf]; omega
        · have H : Hid (withL l key.toList = some l[k]) := (with_ok HF.out).trans (find_at hlt HN.out he)
          have HP := Lib.hid (set4 (.string l[k].key) (.string l[k].title) (.string l[k].body) (.int .i64 l[k].day) r0 r1 r2 r3)
          clear R1
          go_wp2
          clear r0 r1 r2 r3 f0 f1 f2 f3
          obtain ⟨P0, P1, P2, P3⟩ := HP.out
          rw [H.out]
          exact bodyPost_ret (resItmB Try.results43 _ _ rfl P0 P1 P2 P3) rfl (WithRet.yes _ (by repeat (first | (with_reducible exact bz) | (with_reducible refine Below.setCell ?_ (by simp) _))))
    · have q1 : ¬ (k : Int) < (l.length : Int) := by omega
      have q2 : decide ((k : Int) < (l.length : Int)) = false := by simp; omega
      have H : Hid (withL l key.toList = none) := by
        obtain rfl : k = l.length := by omega
        unfold withL
        rw [find_none hN]; split <;> rfl
      obtain ⟨⟨r0, r1, r2, r3⟩, ⟨f0, f1, f2, f3⟩, hlt0⟩ := hR.four
      have HP := Lib.hid (set4 (.string ⟨#[]⟩) (.string ⟨#[]⟩) (.string ⟨#[]⟩) (.int .i64 0) r0 r1 r2 r3)
      clear hR hN hF0
      go_wp2
      clear r0 r1 r2 r3 f0 f1 f2 f3
      obtain ⟨P0, P1, P2, P3⟩ := HP.out
      rw [H.out]
      exact bodyPost_ret (resItmB Try.results43 _ _ rfl P0 P1 P2 P3) rfl (WithRet.no (by repeat (first | (with_reducible exact hB) | (with_reducible refine Below.setCell ?_ (by simp) _))))
end Go.Proofs.Ytlmpkajnbdhppaa
