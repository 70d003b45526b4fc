/- FnAddActor: for every input the law returns true, and each argument reads afterwards as it read before. No condition. -/
import Derived.Test.YtipalcmfhmmdiaaRows
import Derived.WalkKit
import Derived.ProofKit
import Derived.OpenShut
import Derived.ChangeOld
import Derived.Below
import Derived.Test.YtipalcmfhmmdiaaOpen
import Derived.Test.YtipalcmfhmmdiaaTypes
import Derived.Test.YtipalcmfhmmdiaaActrAdS
import Derived.Test.YtipalcmfhmmdiaaActrN
import Derived.Test.YtipalcmfhmmdiaaDrawAs
import Derived.Test.YtipalcmfhmmdiaaSameActor
import Derived.Test.YtipalcmfhmmdiaaAlive
import Derived.Test.YtipalcmfhmmdiaaChain
import Derived.Test.YtipalcmfhmmdiaaDet
namespace Go.Proofs.Ytipalcmfhmmdiaa.fnAddActor
open Go.ChangeShapes Go.WideShapes Go.ChangeAt Go.RowKit
open Go.ChangeMaps (open_string shut_string)
set_option linter.unusedVariables false

theorem own : ownKnob Try.prog.godebug = none := by kernel_rfl
theorem laidOut : laidOutB Try.prog = true := by kernel_rfl

theorem openByte {H : Type} {enc : TypeId × Value → H} {w : World} (fuel : Nat) (cs : List Value) (x : DataW H × List MemPlace) (h : DataW.trod enc Try.prog w 0 (fun _ => true) true fuel 5 cs = some x) : ∃ y : UInt8, cs = byteS.enc y ∧ True := by
  obtain ⟨s, rfl, _, hb⟩ := DataW.trod_int Try.underlying5 h
  have := bounds_u8 hb
  exact ⟨UInt8.ofNat s.toNat, by simp [byteS]; omega, trivial⟩

theorem same_len (v1 v2 : Value) (l1 l2 : List Actr) (w : World) (h1 : Sl actrS w v1 l1) (h2 : Sl actrS w v2 l2) (hne : ((l1.length : Int) != (l2.length : Int)) = true) :
    Calls Try.prog 22 #[v1, v2] w fun e w' => e = .returned (.bool false) ∧ Below w.heap.size w w' := by
  obtain ⟨A1, c1, rfl⟩ : ∃ A c, v1 = .slice A l1.length c := by obtain ⟨a, c, h, _⟩ := h1; exact ⟨a, c, h⟩
  obtain ⟨A2, c2, rfl⟩ : ∃ A c, v2 = .slice A l2.length c := by obtain ⟨a, c, h, _⟩ := h2; exact ⟨a, c, h⟩
  clear h1 h2
  go_enter Try.func22, Try.ntmps22
  go_wp2
  go_ret
  exact ⟨rfl, Below.refl _ _⟩
theorem ins_at (l : List Actr) (a : Actr) (n : Nat) (hn : n ≤ l.length) : (insAt l a n)[n]? = some a := by
  unfold insAt
  rw [List.getElem?_append_right (by simp; omega)]
  simp [Nat.min_eq_left hn]
theorem ins_low (l : List Actr) (a : Actr) (n j : Nat) (hn : n ≤ l.length) (hj : j < n) : (insAt l a n)[j]? = l[j]? := by
  unfold insAt
  rw [List.getElem?_append_left (by simp; omega), List.getElem?_take, if_pos hj]
theorem mid_out (a : Actr) : ∀ (p r : List Actr), (p ++ a :: r).take p.length ++ (p ++ a :: r).drop (p.length + 1) = p ++ r
  | [], r => by simp
  | y :: p, r => by simp [mid_out a p r]
theorem ins_back (l : List Actr) (a : Actr) (n : Nat) (hn : n ≤ l.length) : (insAt l a n).take n ++ (insAt l a n).drop (n + 1) = l := by
  have h := mid_out a (l.take n) (l.drop n)
  rw [List.length_take, Nat.min_eq_left hn, List.take_append_drop] at h
  exact h
theorem less_ne {x y : List UInt8} (h : Op.bytesLess x y = true) : (x == y) = false := by
  cases e : (x == y)
  · rfl
  · have : x = y := by simpa using e
    rw [this, less_irr] at h; cases h
/-- The place of the added one. -/
theorem add_at {l x : List Actr} {a : Actr} (h : AddRel l a x true) : ∃ n, n ≤ l.length ∧ x.length = l.length + 1 ∧ x[n]? = some a ∧ x.take n ++ x.drop (n + 1) = l ∧ actorsB x = true ∧ namedM x a.name = n ∧ ∀ x2 ok, AddRel x a x2 ok → ok = false := by
  rcases h with ⟨_, _, h⟩ | ⟨h1, n, hn, ⟨h2, rfl, _⟩ | ⟨_, _, h⟩⟩
  · cases h
  · obtain ⟨k1, k2, k3⟩ := hn
    have hl := insAt_len l a n
    have ha := ins_at l a n k1
    have hnx : n < (insAt l a n).length := by omega
    have hax : (insAt l a n)[n] = a := by rw [List.getElem?_eq_getElem hnx] at ha; exact Option.some.inj ha
    have hlow : ∀ j (hj : j < (insAt l a n).length), j < n → Op.bytesLess (insAt l a n)[j].name.toList a.name.toList = true := fun j hj hjn => by
      have e := ins_low l a n j k1 hjn
      rw [List.getElem?_eq_getElem hj, List.getElem?_eq_getElem (by omega)] at e
      rw [Option.some.inj e]
      exact k2 j (by omega) hjn
    refine ⟨n, k1, hl, ha, ins_back l a n k1, h2, ?_, ?_⟩
    · exact named_hit h2 hnx (fun j hj hjn => less_ne (hlow j hj hjn)) (by rw [hax]; simp)
    · intro x2 ok h
      rcases h with ⟨h, _⟩ | ⟨_, m, hm, ⟨h3, _⟩ | ⟨_, _, h⟩⟩
      · rw [h2] at h; cases h
      · exfalso
        have hm2 : m = n := AtRel.eq hm ⟨by omega, fun j hj hjn => hlow j hj hjn, fun h => by rw [hax]; exact less_irr _⟩
        subst hm2
        have hl2 := insAt_len (insAt l a m) a m
        have e1 := ins_at (insAt l a m) a m (by omega)
        have hm1 : m < (insAt (insAt l a m) a m).length := by omega
        have hm3 : m + 1 < (insAt (insAt l a m) a m).length := by omega
        have e2 : (insAt (insAt l a m) a m)[m + 1]? = some a := by
          have : (insAt (insAt l a m) a m)[m + 1]? = (insAt l a m)[m]? := by
            conv => lhs; unfold insAt
            rw [List.getElem?_append_right (by simp; omega)]
            simp only [List.length_take]
            rw [Nat.min_eq_left (by rw [← insAt]; omega), show m + 1 - m = 0 + 1 by omega, List.getElem?_cons_succ, List.getElem?_drop]
            rfl
          rw [this, ha]
        rw [List.getElem?_eq_getElem hm1] at e1
        rw [List.getElem?_eq_getElem hm3] at e2
        have := actors_asc (l := insAt (insAt l a m) a m) (k := m + 1) (by omega) hm3 (by
          show Op.bytesLess ((insAt (insAt l a m) a m)[m]).name.toList _ = false
          rw [Option.some.inj e1, Option.some.inj e2]; exact less_irr _)
        rw [this] at h3; cases h3
      · exact h
  · cases h

set_option maxHeartbeats 6400000 in
theorem walk (v0 : Value) (l0 : List UInt8) (w : World) (w0 : Sl byteS w v0 l0) (x0 : ∀ y ∈ l0, True) :
    Calls Try.prog 7 #[v0] w fun e w' => e = .returned (.bool true) ∧ Below w.heap.size w w' := by
  obtain ⟨aa, cap, rfl⟩ : ∃ aa cap, v0 = .slice aa l0.length cap := by obtain ⟨a, c, h, _⟩ := w0; exact ⟨a, c, h⟩
  obtain ⟨i0, hi, hz0, hz1, hz2⟩ := info_parts Try.infoActr
  by_cases hlen : l0.length ≤ 1048576
  rotate_left
  · go_enter Try.func7, Try.ntmps7
    go_wp2_with fail
    go_ret
    exact ⟨rfl, Below.refl _ _⟩
  go_enter Try.func7, Try.ntmps7
  go_wp2_with fail
  refine (draw_AddActor _ l0 _ w0).mono ?_
  rintro e w1 ⟨vl, l, a, rfl, hda, ho, hdr, hsl, hB⟩
  have hz := dr_sizes hdr
  have h1 : a.name.size ≤ 140737488355328 := by have := hda.1; omega
  have h2 : a.feed.size ≤ 140737488355328 := by have := hda.2.1; omega
  have s1 := hsl.mono (below1 w1 (.cells #[.string a.name, .string a.feed, .int .i64 a.sign] 33))
  have b1 := below_trans hB (below1 w1 (.cells #[.string a.name, .string a.feed, .int .i64 a.sign] 33))
  clear hsl hB hda hdr
  go_wp2_with fail
  refine (i_AddActor _ l a _ s1 hz (by omega) h1 h2).mono ?_
  rintro e w2 ⟨vx, x, ok, rfl, hrx, ox, hb2⟩
  have c0 : w2.cell? ⟨w1.heap.size, 0, none⟩ = some (.string a.name) := keep_cell hb2 (by simp [go_sem])
  have c1 : w2.cell? ⟨w1.heap.size, 1, none⟩ = some (.string a.feed) := keep_cell hb2 (by simp [go_sem])
  have c2 : w2.cell? ⟨w1.heap.size, 2, none⟩ = some (.int .i64 a.sign) := keep_cell hb2 (by simp [go_sem])
  have tx : Sl actrS w2 vx x := Sl.of_owns ox
  have s2 := s1.mono hb2
  have b2 := below_trans b1 hb2
  clear s1 b1 hb2 ox
  go_wp2_with fail
  refine (s_AddActor _ l a _ s2 hz (by omega) h1 h2).mono ?_
  rintro e w3 ⟨vy, y, fine, rfl, hry, oy, hb3⟩
  obtain ⟨rfl, rfl⟩ := hrx.eq hry
  have ty : Sl actrS w3 vy x := Sl.of_owns oy
  replace c0 := keep_cell hb3 c0
  replace c1 := keep_cell hb3 c1
  replace c2 := keep_cell hb3 c2
  have tx3 := tx.mono hb3
  have s3 := s2.mono hb3
  have b3 := below_trans b2 hb3
  clear tx s2 b2 hb3 oy hry
  go_wp2_with fail
  refine (same_Actor _ _ x _ tx3 ty).mono ?_
  rintro e w4 ⟨rfl, hb4⟩
  replace c0 := keep_cell hb4 c0
  replace c1 := keep_cell hb4 c1
  replace c2 := keep_cell hb4 c2
  have tx4 := tx3.mono hb4
  have s4 := s3.mono hb4
  have b4 := below_trans b3 hb4
  have hxl := hrx.len
  clear tx3 s3 b3 hb4 ty
  cases ok
  · obtain ⟨A, c, rfl⟩ : ∃ A c, vx = .slice A x.length c := by obtain ⟨a, c, h, _⟩ := tx4; exact ⟨a, c, h⟩
    rcases hrx with ⟨hl, rfl, _⟩ | ⟨hl, n, _, ⟨_, _, h⟩ | ⟨_, rfl, _⟩⟩
    · have hl0 : l ≠ [] := fun e => by rw [e] at hl; exact absurd hl (by decide)
      have hn : (((([] : List Actr).length : Nat) : Int) != (l.length : Int)) = true := by
        have : 0 < l.length := List.length_pos_iff.2 hl0
        simp; omega
      clear hl hl0
      go_wp2_with fail
      refine (same_len _ _ [] l _ tx4 s4 hn).mono ?_
      rintro e w5 ⟨rfl, hb5⟩
      have b5 := below_trans b4 hb5
      clear hn
      go_wp2_with (first | (go_at_call 15; refine (alive_any _).mono ?_; rintro e w' ⟨rfl, rfl⟩))
      go_ret
      exact ⟨rfl, b5⟩
    · cases h
    · go_wp2_with fail
      refine (same_Actor _ _ x _ tx4 s4).mono ?_
      rintro e w5 ⟨rfl, hb5⟩
      have b5 := below_trans b4 hb5
      go_wp2_with (first | (go_at_call 15; refine (alive_any _).mono ?_; rintro e w' ⟨rfl, rfl⟩))
      go_ret
      exact ⟨rfl, b5⟩
  · obtain ⟨n, hn, hxl2, hxn, hback, hxv, hnm, hagain⟩ := add_at hrx
    have HV := Lib.hid hxv
    have HM := Lib.hid hnm
    have HA := Lib.hid hagain
    have HBk := Lib.hid hback
    have hzx : FeedSizes x := by
      rcases hrx with ⟨_, _, h⟩ | ⟨_, m, _, ⟨_, rfl, _⟩ | ⟨_, _, h⟩⟩
      · cases h
      · exact insAt_sizes hz h1 h2
      · cases h
    obtain ⟨A, c, rfl⟩ : ∃ A c, vx = .slice A x.length c := by obtain ⟨a, c, h, _⟩ := tx4; exact ⟨a, c, h⟩
    have hnx : n < x.length := by omega
    have hxa : x[n] = a := by rw [List.getElem?_eq_getElem hnx] at hxn; exact Option.some.inj hxn
    clear hrx hxv hnm hagain hback hxl2
    go_wp2_with fail
    refine (i_ActorNamed _ x a.name _ tx4 hzx).mono ?_
    rintro e w5 ⟨rfl, hb5⟩
    rw [HM.out]
    replace c0 := keep_cell hb5 c0
    replace c1 := keep_cell hb5 c1
    replace c2 := keep_cell hb5 c2
    have tx5 := tx4.mono hb5
    have s5 := s4.mono hb5
    have b5 := below_trans b4 hb5
    clear tx4 s4 b4 hb5
    go_wp2_with fail
    refine (i_AddActor _ x a _ tx5 hzx (by omega) h1 h2).mono ?_
    rintro e w6 ⟨v6, x6, ok6, rfl, hr6, o6, hb6⟩
    obtain rfl := HA.out _ _ hr6
    replace c0 := keep_cell hb6 c0
    replace c1 := keep_cell hb6 c1
    replace c2 := keep_cell hb6 c2
    have tx6 := tx5.mono hb6
    have s6 := s5.mono hb6
    have b6 := below_trans b5 hb6
    clear tx5 s5 b5 hb6 o6 hr6
    obtain ⟨b, off, c', hv, hcap, hbs, hc⟩ := SlActr.open tx6 (by omega)
    injection hv with hv1 _ hv3
    subst hv1; subst hv3
    obtain ⟨d0, d1, d2⟩ := hc n hnx
    rw [hxa] at d0 d1 d2
    have hmx : c ≤ maxLen := by obtain ⟨_, _, e, _, h2, _⟩ := tx6; injection e with _ _ e; subst e; exact h2
    have q0 : (0 : Int) ≤ (n : Int) := by omega
    have q1 : (n : Int) < (x.length : Int) := by omega
    have q2 : (n : Int) ≤ (x.length : Int) := by omega
    have q3 : (x.length : Int) ≤ (c : Int) := by omega
    have q4 : (n : Int) + 1 ≤ (x.length : Int) := by omega
    have q5 : IntKind.i64.wrap ((n : Int) + 1) = (n : Int) + 1 := IntWalk.i64_in _ (by omega)
    have q6 : ((n : Int) + 1).toNat = n + 1 := by omega
    have q7 : (0 : Int) ≤ (n : Int) + 1 := by omega
    have q8 : (n : Int) ≤ (c : Int) := by omega
    have q9 : (n : Int) + 1 ≤ (c : Int) := by omega
    have hbx : w1.heap.size < w6.heap.size := World.block_lt_of_cell? w6 _ c0
    clear hc hxn hxa
    · go_wp2_with fail
      have sdrop : ∀ {u : World}, Below w6.heap.size w6 u → Sl actrS u (.slice (if c = n + 1 then some ⟨b, off, none⟩ else some ⟨b, off + (n + 1) * 3, none⟩) (x.length - (n + 1)) (c - (n + 1))) (x.drop (n + 1)) := fun hW => by
        have := Sl.drop (tx6.mono hW) (n + 1) (by omega)
        simpa [actrS, Addr.add_lit] using this
      refine wp_region_typed_used 26 (fun i w v => KTy.T 33 actrS.sz w6.heap.size (([.is (.slice (some ⟨b, off, none⟩) x.length c), .is (.bool true), .is (.bool true), .is (.slice (some ⟨b, off, none⟩) x.length c), .is (.int .i64 (n : Int)), .is (.pointer (some ⟨b, off + n * 3, none⟩)), .is (.agg #[.string a.name, .string a.feed, .int .i64 a.sign]), .is (.agg #[.string a.name, .string a.feed, .int .i64 a.sign]), .is (.bool true), .is (.bool true), .is (.bool true), .is (.bool false), .is (.bool true), .is (.bool true), .is (.bool true), .nil0, .is (.slice (some ⟨b, off, none⟩) x.length c), .is (.int .i64 (n : Int)), .is (.slice (some ⟨b, off, none⟩) n c), .own ((0 + (x.take n).length)) (([] ++ actrS.cells (x.take n))), .is (.slice (some ⟨b, off, none⟩) x.length c), .is (.int .i64 (n : Int)), .is (.int .i64 ((n : Int) + 1)), .is (.slice (if c = n + 1 then some ⟨b, off, none⟩ else some ⟨b, off + (n + 1) * 3, none⟩) (x.length - (n + 1)) (c - (n + 1))), .own (((0 + (x.take n).length) + (x.drop (n + 1)).length)) ((([] ++ actrS.cells (x.take n)) ++ actrS.cells (x.drop (n + 1)))), .is (vl)] : List KTy).getD i .any) w v) (fun i => ([999, 999, 999, 999, 999, 999, 999, 999, 999, 999, 999, 999, 999, 999, 999, 19, 999, 999, 999, 24, 999, 999, 999, 999, 999, 999] : List Nat).getD i 999) (fun w' => Below w6.heap.size w6 w') (RApp 33 19 24) (by kernel_rfl) 100 rfl (by decide) (by kernel_rfl) (by kernel_rfl) (by kernel_rfl) (by kernel_rfl) (Below.refl _ _).drew (tyApp (by kernel_rfl)) ?_ ?_
      · refine ⟨?_, ?_, ?_, ?_, ?_, ?_, ?_, ?_, ?_, ?_, ?_, ?_, ?_, ?_, ?_, ?_, ?_, ?_, ?_, ?_, ?_, ?_, ?_, ?_, ?_, ?_, trivial⟩
        · intro a' w' hW hF
          have h5 : a'.tmps[5]? = some (.slice (some ⟨b, off, none⟩) x.length c) := (hF.at 5 (by kernel_rfl)).trans rfl
          refine wpOp_step rfl (fun K hK => ?_)
          go_simp
          exact hK _ _ ⟨_, rfl, RApp.still (by decide) (World.grownBy.refl _ _), rfl, hW⟩
        · intro a' w' hW hF
          obtain ⟨_, h72, rfl⟩ := hF.val ⟨0, .data⟩ (by simp) rfl _ rfl
          refine wpOp_step rfl (fun K hK => ?_)
          go_simp
          refine (i_ActorsValid _ x _ (tx6.mono hW) hzx).mono ?_
          rintro e w'' ⟨rfl, hb⟩
          rw [HV.out]
          exact hK _ _ ⟨_, rfl, RApp.still (by decide) (grown_below hb _), rfl, below_trans hW hb⟩
        · intro a' w' hW hF
          obtain ⟨_, h73, rfl⟩ := hF.val ⟨1, .data⟩ (by simp) rfl _ rfl
          refine wpOp_step rfl (fun K hK => ?_)
          go_simp
          exact hK _ _ ⟨_, rfl, RApp.still (by decide) (World.grownBy.refl _ _), rfl, hW⟩
        · intro a' w' hW hF
          obtain ⟨_, hg, rfl⟩ := hF.val ⟨2, .guard⟩ (by simp) rfl _ rfl
          have h5 : a'.tmps[5]? = some (.slice (some ⟨b, off, none⟩) x.length c) := (hF.at 5 (by kernel_rfl)).trans rfl
          refine wpOp_step rfl (fun K hK => ?_)
          rw [if_pos (wanted_yes rfl (yielded_of rfl rfl hg))]
          go_simp
          exact hK _ _ ⟨_, rfl, RApp.still (by decide) (World.grownBy.refl _ _), rfl, hW⟩
        · intro a' w' hW hF
          obtain ⟨_, hg, rfl⟩ := hF.val ⟨2, .guard⟩ (by simp) rfl _ rfl
          have h9 : a'.tmps[9]? = some (.int .i64 (n : Int)) := (hF.at 9 (by kernel_rfl)).trans rfl
          refine wpOp_step rfl (fun K hK => ?_)
          rw [if_pos (wanted_yes rfl (yielded_of rfl rfl hg))]
          go_simp
          exact hK _ _ ⟨_, rfl, RApp.still (by decide) (World.grownBy.refl _ _), rfl, hW⟩
        · intro a' w' hW hF
          obtain ⟨_, hg, rfl⟩ := hF.val ⟨2, .guard⟩ (by simp) rfl _ rfl
          obtain ⟨_, h75, rfl⟩ := hF.val ⟨3, .data⟩ (by simp) rfl _ rfl
          obtain ⟨_, h76, rfl⟩ := hF.val ⟨4, .data⟩ (by simp) rfl _ rfl
          refine wpOp_step rfl (fun K hK => ?_)
          rw [if_pos (wanted_yes rfl (yielded_of rfl rfl hg))]
          go_simp
          exact hK _ _ ⟨_, rfl, RApp.still (by decide) (World.grownBy.refl _ _), rfl, hW⟩
        · intro a' w' hW hF
          obtain ⟨_, hg, rfl⟩ := hF.val ⟨2, .guard⟩ (by simp) rfl _ rfl
          obtain ⟨_, h77, rfl⟩ := hF.val ⟨5, .data⟩ (by simp) rfl _ rfl
          have k0 : w'.cell? ⟨b, off + n * 3, none⟩ = some (.string a.name) := keep_cell hW d0
          have k1 : w'.cell? ⟨b, off + n * 3 + 1, none⟩ = some (.string a.feed) := keep_cell hW d1
          have k2 : w'.cell? ⟨b, off + n * 3 + 2, none⟩ = some (.int .i64 a.sign) := keep_cell hW d2
          refine wpOp_step rfl (fun K hK => ?_)
          rw [if_pos (wanted_yes rfl (yielded_of rfl rfl hg))]
          go_simp
          exact hK _ _ ⟨_, rfl, RApp.still (by decide) (World.grownBy.refl _ _), rfl, hW⟩
        · intro a' w' hW hF
          obtain ⟨_, hg, rfl⟩ := hF.val ⟨2, .guard⟩ (by simp) rfl _ rfl
          have h4 : a'.tmps[4]? = some (.pointer (some ⟨w1.heap.size, 0, none⟩)) := (hF.at 4 (by kernel_rfl)).trans rfl
          have k0 : w'.cell? ⟨w1.heap.size, 0, none⟩ = some (.string a.name) := keep_cell hW c0
          have k1 : w'.cell? ⟨w1.heap.size, 1, none⟩ = some (.string a.feed) := keep_cell hW c1
          have k2 : w'.cell? ⟨w1.heap.size, 2, none⟩ = some (.int .i64 a.sign) := keep_cell hW c2
          refine wpOp_step rfl (fun K hK => ?_)
          rw [if_pos (wanted_yes rfl (yielded_of rfl rfl hg))]
          go_simp
          exact hK _ _ ⟨_, rfl, RApp.still (by decide) (World.grownBy.refl _ _), rfl, hW⟩
        · intro a' w' hW hF
          obtain ⟨_, hg, rfl⟩ := hF.val ⟨2, .guard⟩ (by simp) rfl _ rfl
          obtain ⟨_, h78, rfl⟩ := hF.val ⟨6, .data⟩ (by simp) rfl _ rfl
          obtain ⟨_, h79, rfl⟩ := hF.val ⟨7, .data⟩ (by simp) rfl _ rfl
          refine wpOp_step rfl (fun K hK => ?_)
          rw [if_pos (wanted_yes rfl (yielded_of rfl rfl hg))]
          go_simp
          exact hK _ _ ⟨_, rfl, RApp.still (by decide) (World.grownBy.refl _ _), rfl, hW⟩
        · intro a' w' hW hF
          obtain ⟨_, h74, rfl⟩ := hF.val ⟨2, .data⟩ (by simp) rfl _ rfl
          obtain ⟨_, h80, rfl⟩ := hF.val ⟨8, .data⟩ (by simp) rfl _ rfl
          refine wpOp_step rfl (fun K hK => ?_)
          go_simp
          exact hK _ _ ⟨_, rfl, RApp.still (by decide) (World.grownBy.refl _ _), rfl, hW⟩
        · intro a' w' hW hF
          obtain ⟨_, h81, rfl⟩ := hF.val ⟨9, .data⟩ (by simp) rfl _ rfl
          refine wpOp_step rfl (fun K hK => ?_)
          go_simp
          exact hK _ _ ⟨_, rfl, RApp.still (by decide) (World.grownBy.refl _ _), rfl, hW⟩
        · intro a' w' hW hF
          obtain ⟨_, hg, rfl⟩ := hF.val ⟨10, .guard⟩ (by simp) rfl _ rfl
          have h11 : a'.tmps[11]? = some (.bool false) := (hF.at 11 (by kernel_rfl)).trans rfl
          refine wpOp_step rfl (fun K hK => ?_)
          rw [if_pos (wanted_yes rfl (yielded_of rfl rfl hg))]
          go_simp
          exact hK _ _ ⟨_, rfl, RApp.still (by decide) (World.grownBy.refl _ _), rfl, hW⟩
        · intro a' w' hW hF
          obtain ⟨_, hg, rfl⟩ := hF.val ⟨10, .guard⟩ (by simp) rfl _ rfl
          obtain ⟨_, h83, rfl⟩ := hF.val ⟨11, .data⟩ (by simp) rfl _ rfl
          refine wpOp_step rfl (fun K hK => ?_)
          rw [if_pos (wanted_yes rfl (yielded_of rfl rfl hg))]
          go_simp
          exact hK _ _ ⟨_, rfl, RApp.still (by decide) (World.grownBy.refl _ _), rfl, hW⟩
        · intro a' w' hW hF
          obtain ⟨_, h82, rfl⟩ := hF.val ⟨10, .data⟩ (by simp) rfl _ rfl
          obtain ⟨_, h84, rfl⟩ := hF.val ⟨12, .data⟩ (by simp) rfl _ rfl
          refine wpOp_step rfl (fun K hK => ?_)
          go_simp
          exact hK _ _ ⟨_, rfl, RApp.still (by decide) (World.grownBy.refl _ _), rfl, hW⟩
        · intro a' w' hW hF
          obtain ⟨_, h85, rfl⟩ := hF.val ⟨13, .data⟩ (by simp) rfl _ rfl
          refine wpOp_step rfl (fun K hK => ?_)
          go_simp
          exact hK _ _ ⟨_, rfl, RApp.still (by decide) (World.grownBy.refl _ _), rfl, hW⟩
        · intro a' w' hW hF
          obtain ⟨_, hg, rfl⟩ := hF.val ⟨14, .guard⟩ (by simp) rfl _ rfl
          refine wpOp_step rfl (fun K hK => ?_)
          rw [if_pos (wanted_yes rfl (yielded_of rfl rfl hg))]
          go_simp
          exact hK _ _ ⟨_, rfl, RApp.still (by decide) (World.grownBy_alloc _ _ _), ⟨w'.heap.size, rfl, hW.size, heap_alloc_new w' _⟩, hW.alloc hW.size _⟩
        · intro a' w' hW hF
          obtain ⟨_, hg, rfl⟩ := hF.val ⟨14, .guard⟩ (by simp) rfl _ rfl
          have h5 : a'.tmps[5]? = some (.slice (some ⟨b, off, none⟩) x.length c) := (hF.at 5 (by kernel_rfl)).trans rfl
          refine wpOp_step rfl (fun K hK => ?_)
          rw [if_pos (wanted_yes rfl (yielded_of rfl rfl hg))]
          go_simp
          exact hK _ _ ⟨_, rfl, RApp.still (by decide) (World.grownBy.refl _ _), rfl, hW⟩
        · intro a' w' hW hF
          obtain ⟨_, hg, rfl⟩ := hF.val ⟨14, .guard⟩ (by simp) rfl _ rfl
          have h9 : a'.tmps[9]? = some (.int .i64 (n : Int)) := (hF.at 9 (by kernel_rfl)).trans rfl
          refine wpOp_step rfl (fun K hK => ?_)
          rw [if_pos (wanted_yes rfl (yielded_of rfl rfl hg))]
          go_simp
          exact hK _ _ ⟨_, rfl, RApp.still (by decide) (World.grownBy.refl _ _), rfl, hW⟩
        · intro a' w' hW hF
          obtain ⟨_, hg, rfl⟩ := hF.val ⟨14, .guard⟩ (by simp) rfl _ rfl
          obtain ⟨_, h88, rfl⟩ := hF.val ⟨16, .data⟩ (by simp) rfl _ rfl
          obtain ⟨_, h89, rfl⟩ := hF.val ⟨17, .data⟩ (by simp) rfl _ rfl
          refine wpOp_step rfl (fun K hK => ?_)
          rw [if_pos (wanted_yes rfl (yielded_of rfl rfl hg))]
          go_simp
          exact hK _ _ ⟨_, rfl, RApp.still (by decide) (World.grownBy.refl _ _), rfl, hW⟩
        · intro a' w' hW hF
          obtain ⟨_, hg, rfl⟩ := hF.val ⟨14, .guard⟩ (by simp) rfl _ rfl
          obtain ⟨_, h87, g87, rfl, hg87, hb87⟩ := hF.val ⟨15, .data⟩ (by simp) rfl _ rfl
          obtain ⟨_, h90, rfl⟩ := hF.val ⟨18, .data⟩ (by simp) rfl _ rfl
          refine wpOp_step rfl (fun K hK => ?_)
          refine step_app_slg (S := actrS) (wanted_yes rfl (yielded_of rfl rfl hg)) (.tmp 87) (.tmp 90) 25 rfl w6.heap.size 33 i0 (.agg #[.string ⟨#[]⟩, .string ⟨#[]⟩, .int .i64 0]) 40 Try.underlying25 hi hz0 hz1 hz2 rfl _ (0) ([]) (getD_of h87) (nil0_own hg87 hb87) (x.take n) (by rw [show a'.eval (.tmp 90) = _ from getD_of h90]; exact Sl.take (tx6.mono hW) n (by omega)) (by first | decide | (simp [maxLen]; omega)) (by first | decide | (simp; omega)) hW.size ?_
          intro v' w'' hown hgrow hat
          exact hK _ _ ⟨_, rfl, RApp.first hb87 hgrow, hown, hW.grown hgrow hW.size (fun j hj => by cases hj; exact hg87)⟩
        · intro a' w' hW hF
          obtain ⟨_, hg, rfl⟩ := hF.val ⟨14, .guard⟩ (by simp) rfl _ rfl
          have h5 : a'.tmps[5]? = some (.slice (some ⟨b, off, none⟩) x.length c) := (hF.at 5 (by kernel_rfl)).trans rfl
          refine wpOp_step rfl (fun K hK => ?_)
          rw [if_pos (wanted_yes rfl (yielded_of rfl rfl hg))]
          go_simp
          exact hK _ _ ⟨_, rfl, RApp.still (by decide) (World.grownBy.refl _ _), rfl, hW⟩
        · intro a' w' hW hF
          obtain ⟨_, hg, rfl⟩ := hF.val ⟨14, .guard⟩ (by simp) rfl _ rfl
          have h9 : a'.tmps[9]? = some (.int .i64 (n : Int)) := (hF.at 9 (by kernel_rfl)).trans rfl
          refine wpOp_step rfl (fun K hK => ?_)
          rw [if_pos (wanted_yes rfl (yielded_of rfl rfl hg))]
          go_simp
          exact hK _ _ ⟨_, rfl, RApp.still (by decide) (World.grownBy.refl _ _), rfl, hW⟩
        · intro a' w' hW hF
          obtain ⟨_, hg, rfl⟩ := hF.val ⟨14, .guard⟩ (by simp) rfl _ rfl
          obtain ⟨_, h93, rfl⟩ := hF.val ⟨21, .data⟩ (by simp) rfl _ rfl
          refine wpOp_step rfl (fun K hK => ?_)
          rw [if_pos (wanted_yes rfl (yielded_of rfl rfl hg))]
          go_simp
          exact hK _ _ ⟨_, rfl, RApp.still (by decide) (World.grownBy.refl _ _), rfl, hW⟩
        · intro a' w' hW hF
          obtain ⟨_, hg, rfl⟩ := hF.val ⟨14, .guard⟩ (by simp) rfl _ rfl
          obtain ⟨_, h92, rfl⟩ := hF.val ⟨20, .data⟩ (by simp) rfl _ rfl
          obtain ⟨_, h94, rfl⟩ := hF.val ⟨22, .data⟩ (by simp) rfl _ rfl
          refine wpOp_step rfl (fun K hK => ?_)
          rw [if_pos (wanted_yes rfl (yielded_of rfl rfl hg))]
          go_simp
          exact hK _ _ ⟨_, rfl, RApp.still (by decide) (World.grownBy.refl _ _), rfl, hW⟩
        · intro a' w' hW hF
          obtain ⟨_, hg, rfl⟩ := hF.val ⟨14, .guard⟩ (by simp) rfl _ rfl
          obtain ⟨v91, h91, own91⟩ := hF.val ⟨19, .data⟩ (by simp) rfl _ rfl
          obtain ⟨_, h95, rfl⟩ := hF.val ⟨23, .data⟩ (by simp) rfl _ rfl
          refine wpOp_step rfl (fun K hK => ?_)
          refine step_app_slg (S := actrS) (wanted_yes rfl (yielded_of rfl rfl hg)) (.tmp 91) (.tmp 95) 25 rfl w6.heap.size 33 i0 (.agg #[.string ⟨#[]⟩, .string ⟨#[]⟩, .int .i64 0]) 40 Try.underlying25 hi hz0 hz1 hz2 rfl _ ((0 + (x.take n).length)) (([] ++ actrS.cells (x.take n))) (getD_of h91) own91 (x.drop (n + 1)) (by rw [show a'.eval (.tmp 95) = _ from getD_of h95]; exact sdrop hW) (by first | decide | (simp [maxLen]; omega)) (by first | decide | (simp; omega)) hW.size ?_
          intro v' w'' hown hgrow hat
          exact hK _ _ ⟨_, rfl, RApp.second (by decide), hown, hW.grown hgrow hW.size (fun j hj => (own91.lt j hj).1)⟩
        · intro a' w' hW hF
          obtain ⟨_, hg, rfl⟩ := hF.val ⟨14, .guard⟩ (by simp) rfl _ rfl
          have h3 : a'.tmps[3]? = some (vl) := (hF.at 3 (by kernel_rfl)).trans rfl
          refine wpOp_step rfl (fun K hK => ?_)
          rw [if_pos (wanted_yes rfl (yielded_of rfl rfl hg))]
          go_simp
          exact hK _ _ ⟨_, rfl, RApp.still (by decide) (World.grownBy.refl _ _), rfl, hW⟩
      · intro a' w' hL hW
        have hd := hL.defers
        have hs := hL.size
        obtain ⟨_, h72, rfl⟩ := hL.val 0 _ rfl (by decide)
        obtain ⟨_, h73, rfl⟩ := hL.val 1 _ rfl (by decide)
        obtain ⟨_, h74, rfl⟩ := hL.val 2 _ rfl (by decide)
        obtain ⟨_, h75, rfl⟩ := hL.val 3 _ rfl (by decide)
        obtain ⟨_, h76, rfl⟩ := hL.val 4 _ rfl (by decide)
        obtain ⟨_, h77, rfl⟩ := hL.val 5 _ rfl (by decide)
        obtain ⟨_, h78, rfl⟩ := hL.val 6 _ rfl (by decide)
        obtain ⟨_, h79, rfl⟩ := hL.val 7 _ rfl (by decide)
        obtain ⟨_, h80, rfl⟩ := hL.val 8 _ rfl (by decide)
        obtain ⟨_, h81, rfl⟩ := hL.val 9 _ rfl (by decide)
        obtain ⟨_, h82, rfl⟩ := hL.val 10 _ rfl (by decide)
        obtain ⟨_, h83, rfl⟩ := hL.val 11 _ rfl (by decide)
        obtain ⟨_, h84, rfl⟩ := hL.val 12 _ rfl (by decide)
        obtain ⟨_, h85, rfl⟩ := hL.val 13 _ rfl (by decide)
        obtain ⟨_, h86, rfl⟩ := hL.val 14 _ rfl (by decide)
        obtain ⟨x87, h87⟩ := hL.some_at 87 (by show 87 < 100; decide)
        obtain ⟨_, h88, rfl⟩ := hL.val 16 _ rfl (by decide)
        obtain ⟨_, h89, rfl⟩ := hL.val 17 _ rfl (by decide)
        obtain ⟨_, h90, rfl⟩ := hL.val 18 _ rfl (by decide)
        obtain ⟨x91, h91⟩ := hL.some_at 91 (by show 91 < 100; decide)
        obtain ⟨_, h92, rfl⟩ := hL.val 20 _ rfl (by decide)
        obtain ⟨_, h93, rfl⟩ := hL.val 21 _ rfl (by decide)
        obtain ⟨_, h94, rfl⟩ := hL.val 22 _ rfl (by decide)
        obtain ⟨_, h95, rfl⟩ := hL.val 23 _ rfl (by decide)
        obtain ⟨v96, h96, own96⟩ := hL.val 24 _ rfl (by decide)
        obtain ⟨_, h97, rfl⟩ := hL.val 25 _ rfl (by decide)
        have hlit := act_lit (l := [_, _, _, _, _, _, _, _, _, _, _, _, _, _, _, _, _, _, _, _, _, _, _, _, _, _, _, _, _, _, _, _, _, _, _, _, _, _, _, _, _, _, _, _, _, _, _, _, _, _, _, _, _, _, _, _, _, _, _, _, _, _, _, _, _, _, _, _, _, _, _, _, _, _, _, _, _, _, _, _, _, _, _, _, _, _, _, _, _, _, _, _, _, _, _, _, _, _, _, _]) (hd.trans rfl) (by rw [hs]; rfl) (AllAt.cons ((hL.at 0 (by kernel_rfl)).trans rfl) (AllAt.cons ((hL.at 1 (by kernel_rfl)).trans rfl) (AllAt.cons ((hL.at 2 (by kernel_rfl)).trans rfl) (AllAt.cons ((hL.at 3 (by kernel_rfl)).trans rfl) (AllAt.cons ((hL.at 4 (by kernel_rfl)).trans rfl) (AllAt.cons ((hL.at 5 (by kernel_rfl)).trans rfl) (AllAt.cons ((hL.at 6 (by kernel_rfl)).trans rfl) (AllAt.cons ((hL.at 7 (by kernel_rfl)).trans rfl) (AllAt.cons ((hL.at 8 (by kernel_rfl)).trans rfl) (AllAt.cons ((hL.at 9 (by kernel_rfl)).trans rfl) (AllAt.cons ((hL.at 10 (by kernel_rfl)).trans rfl) (AllAt.cons ((hL.at 11 (by kernel_rfl)).trans rfl) (AllAt.cons ((hL.at 12 (by kernel_rfl)).trans rfl) (AllAt.cons ((hL.at 13 (by kernel_rfl)).trans rfl) (AllAt.cons ((hL.at 14 (by kernel_rfl)).trans rfl) (AllAt.cons ((hL.at 15 (by kernel_rfl)).trans rfl) (AllAt.cons ((hL.at 16 (by kernel_rfl)).trans rfl) (AllAt.cons ((hL.at 17 (by kernel_rfl)).trans rfl) (AllAt.cons ((hL.at 18 (by kernel_rfl)).trans rfl) (AllAt.cons ((hL.at 19 (by kernel_rfl)).trans rfl) (AllAt.cons ((hL.at 20 (by kernel_rfl)).trans rfl) (AllAt.cons ((hL.at 21 (by kernel_rfl)).trans rfl) (AllAt.cons ((hL.at 22 (by kernel_rfl)).trans rfl) (AllAt.cons ((hL.at 23 (by kernel_rfl)).trans rfl) (AllAt.cons ((hL.at 24 (by kernel_rfl)).trans rfl) (AllAt.cons ((hL.at 25 (by kernel_rfl)).trans rfl) (AllAt.cons ((hL.at 26 (by kernel_rfl)).trans rfl) (AllAt.cons ((hL.at 27 (by kernel_rfl)).trans rfl) (AllAt.cons ((hL.at 28 (by kernel_rfl)).trans rfl) (AllAt.cons ((hL.at 29 (by kernel_rfl)).trans rfl) (AllAt.cons ((hL.at 30 (by kernel_rfl)).trans rfl) (AllAt.cons ((hL.at 31 (by kernel_rfl)).trans rfl) (AllAt.cons ((hL.at 32 (by kernel_rfl)).trans rfl) (AllAt.cons ((hL.at 33 (by kernel_rfl)).trans rfl) (AllAt.cons ((hL.at 34 (by kernel_rfl)).trans rfl) (AllAt.cons ((hL.at 35 (by kernel_rfl)).trans rfl) (AllAt.cons ((hL.at 36 (by kernel_rfl)).trans rfl) (AllAt.cons ((hL.at 37 (by kernel_rfl)).trans rfl) (AllAt.cons ((hL.at 38 (by kernel_rfl)).trans rfl) (AllAt.cons ((hL.at 39 (by kernel_rfl)).trans rfl) (AllAt.cons ((hL.at 40 (by kernel_rfl)).trans rfl) (AllAt.cons ((hL.at 41 (by kernel_rfl)).trans rfl) (AllAt.cons ((hL.at 42 (by kernel_rfl)).trans rfl) (AllAt.cons ((hL.at 43 (by kernel_rfl)).trans rfl) (AllAt.cons ((hL.at 44 (by kernel_rfl)).trans rfl) (AllAt.cons ((hL.at 45 (by kernel_rfl)).trans rfl) (AllAt.cons ((hL.at 46 (by kernel_rfl)).trans rfl) (AllAt.cons ((hL.at 47 (by kernel_rfl)).trans rfl) (AllAt.cons ((hL.at 48 (by kernel_rfl)).trans rfl) (AllAt.cons ((hL.at 49 (by kernel_rfl)).trans rfl) (AllAt.cons ((hL.at 50 (by kernel_rfl)).trans rfl) (AllAt.cons ((hL.at 51 (by kernel_rfl)).trans rfl) (AllAt.cons ((hL.at 52 (by kernel_rfl)).trans rfl) (AllAt.cons ((hL.at 53 (by kernel_rfl)).trans rfl) (AllAt.cons ((hL.at 54 (by kernel_rfl)).trans rfl) (AllAt.cons ((hL.at 55 (by kernel_rfl)).trans rfl) (AllAt.cons ((hL.at 56 (by kernel_rfl)).trans rfl) (AllAt.cons ((hL.at 57 (by kernel_rfl)).trans rfl) (AllAt.cons ((hL.at 58 (by kernel_rfl)).trans rfl) (AllAt.cons ((hL.at 59 (by kernel_rfl)).trans rfl) (AllAt.cons ((hL.at 60 (by kernel_rfl)).trans rfl) (AllAt.cons ((hL.at 61 (by kernel_rfl)).trans rfl) (AllAt.cons ((hL.at 62 (by kernel_rfl)).trans rfl) (AllAt.cons ((hL.at 63 (by kernel_rfl)).trans rfl) (AllAt.cons ((hL.at 64 (by kernel_rfl)).trans rfl) (AllAt.cons ((hL.at 65 (by kernel_rfl)).trans rfl) (AllAt.cons ((hL.at 66 (by kernel_rfl)).trans rfl) (AllAt.cons ((hL.at 67 (by kernel_rfl)).trans rfl) (AllAt.cons ((hL.at 68 (by kernel_rfl)).trans rfl) (AllAt.cons ((hL.at 69 (by kernel_rfl)).trans rfl) (AllAt.cons ((hL.at 70 (by kernel_rfl)).trans rfl) (AllAt.cons ((hL.at 71 (by kernel_rfl)).trans rfl) (AllAt.cons h72 (AllAt.cons h73 (AllAt.cons h74 (AllAt.cons h75 (AllAt.cons h76 (AllAt.cons h77 (AllAt.cons h78 (AllAt.cons h79 (AllAt.cons h80 (AllAt.cons h81 (AllAt.cons h82 (AllAt.cons h83 (AllAt.cons h84 (AllAt.cons h85 (AllAt.cons h86 (AllAt.cons h87 (AllAt.cons h88 (AllAt.cons h89 (AllAt.cons h90 (AllAt.cons h91 (AllAt.cons h92 (AllAt.cons h93 (AllAt.cons h94 (AllAt.cons h95 (AllAt.cons h96 (AllAt.cons h97 (AllAt.cons ((hL.at 98 (by kernel_rfl)).trans rfl) (AllAt.cons ((hL.at 99 (by kernel_rfl)).trans rfl) AllAt.nil))))))))))))))))))))))))))))))))))))))))))))))))))))))))))))))))))))))))))))))))))))))))))))))))))))
        clear hL hd hs h72 h73 h74 h75 h76 h77 h78 h79 h80 h81 h82 h83 h84 h85 h86 h87 h88 h89 h90 h91 h92 h93 h94 h95 h96 h97
        subst hlit
        have s96 : Sl actrS w' v96 l := by
          refine Sl.of_owns (base := w6.heap.size) (e := 33) ?_
          have h := own96
          have e1 : 0 + (x.take n).length + (x.drop (n + 1)).length = l.length := by
            conv => rhs; rw [← HBk.out]
            rw [List.length_append]; omega
          have e2 : [] ++ actrS.cells (x.take n) ++ actrS.cells (x.drop (n + 1)) = actrS.cells l := by
            conv => rhs; rw [← HBk.out]
            rw [List.nil_append, actrS.cells_append]
          rw [← e1, ← e2]
          exact h
        have sl := s6.mono hW
        have b7 := below_trans b6 hW
        clear own96 sdrop
        show wpOps _ _ _ [26, 27, 28] _ _
        rw [wpOps_cons]
        refine wpOp_step rfl (fun K hK => ?_)
        go_simp
        refine (same_Actor _ _ l _ s96 sl).mono ?_
        rintro e w8 ⟨rfl, hb8⟩
        refine hK _ _ ?_
        rw [wpOps_cons]
        refine wpOp_step rfl (fun K hK => ?_)
        go_simp
        refine hK _ _ ?_
        rw [wpOps_cons]
        refine wpOp_step rfl (fun K hK => ?_)
        go_simp
        refine hK _ _ ?_
        simp only [wpOps]
        go_wp2_with fail
        all_goals (go_ret; exact ⟨rfl, below_trans b7 hb8⟩)

set_option maxRecDepth 100000 in
theorem lifted (os : Os) (started : os.Started) (H : Type) (enc : TypeId × Value → H) :
    ReturnsInHanded {} Try.checked os 7 .any (Rows.fnAddActorSpec.pre6 enc Try.prog Try.f7 Rows.fnAddActorRow.domain false) (Rows.fnAddActorSpec.post enc Try.prog Try.f7 false true false false) := by
  refine returnsInHanded_of_change (C := Try.checked) own started (by kernel_rfl) Try.func7
    (ChangeSpec.witness6 (enc := enc) (C := Try.checked) false ⟨#[], #[.slice none 0 0], []⟩ 8 (by kernel_rfl) (by kernel_rfl) (by kernel_rfl) (by kernel_rfl)) ?_
  intro W base args ds gs before hval0 hW hcnd _
  have hval : ∀ (j : Nat) t v, Try.f7.params[j]? = some t → args[j]? = some v → Value.okWide Try.prog W .any base t v := hval0
  have hW' := hW
  obtain ⟨p, q, hA0, hV, rfl, hfz, hnd⟩ := hW
  have hA : DataW.TrodAll enc Try.prog W 0 (fun _ => true) true Try.f7.params.toList args.toList ds p := hA0
  rw [Try.params7] at hA hval
  obtain ⟨v0, vs0, d0, ds0, p0, q0, hargs, rfl, rfl, h0, r0⟩ := trodAll_cons hA
  obtain ⟨rfl, rfl, rfl⟩ := trodAll_nil r0
  obtain rfl : args = #[v0] := by cases args; simp_all
  obtain ⟨rfl, rfl⟩ := trodVars_none hV
  have k0 := h0
  have lt0 : ∀ x ∈ p0, x.block < W.heap.size := by obtain ⟨m, hm⟩ := k0; exact DataW.trod_lt m _ _ _ hm
  obtain ⟨aa0, len0, cap0, rfl⟩ := okWide_slice Try.underlying29 (hval 0 29 v0 rfl rfl)
  obtain ⟨l0, w0, x0⟩ : ∃ l, Sl byteS W (.slice aa0 len0 cap0) l ∧ ∀ y ∈ l, True := by obtain ⟨fuel, hf⟩ := h0; exact open_rows byteS (fun y => True) Try.underlying29 (by kernel_rfl) openByte hf
  clear hA0 hval0
  refine (walk _ l0 W w0 x0).mono fun e W' ⟨he, bel⟩ => ?_
  subst he
  exact ⟨_, rfl, _, _, _, [], _, [], hW', trodAll_mk1 (shut_bool Try.underlying4 _), (trodAll_cons_mk (Below.trod laidOut (by kernel_rfl) (of_decide_eq_true (by kernel_rfl)) k0 bel lt0) trodAll_mk0), rfl, bel.frame _, fun h => by cases h⟩

theorem over : Rows.fnAddActorRow.holds Try.pinned (OpenSpec.ofChange Rows.fnAddActorSpec) :=
  OpenClaim.holds_of_wide 7 Try.f7 rfl rfl rfl rfl rfl rfl rfl ⟨rfl, rfl, rfl, rfl, rfl⟩ rfl rfl rfl rfl rfl (by kernel_rfl) Try.func7 (by kernel_rfl)
    (of_decide_eq_true (by kernel_rfl)) (by unfold Func.isWrapper; first | (rw [if_pos (by decide +kernel)]; kernel_rfl) | (rw [if_neg (by decide +kernel)]; exact ⟨rfl, rfl⟩))
    (fun os started H enc _ => lifted os started H enc)

theorem proved : Rows.FnAddActorSaid := over
end Go.Proofs.Ytipalcmfhmmdiaa.fnAddActor
