/- FnSortFeed: for every input the law returns true, and each argument reads afterwards as it read before. No condition. -/
import Derived.Test.YtlmpkajnbdhppaaRows
import Derived.WalkKit
import Derived.ProofKit
import Derived.OpenShut
import Derived.ChangeOld
import Derived.Below
import Derived.Test.YtlmpkajnbdhppaaOpen
import Derived.Test.YtlmpkajnbdhppaaTypes
import Derived.Test.YtlmpkajnbdhppaaFdS
import Derived.Test.YtlmpkajnbdhppaaNewI
import Derived.Test.YtlmpkajnbdhppaaDrawGg
import Derived.Test.YtlmpkajnbdhppaaSameItem
import Derived.Test.YtlmpkajnbdhppaaAlive
namespace Go.Proofs.Ytlmpkajnbdhppaa.fnSortFeed
open Go.ChangeShapes Go.WideShapes Go.ChangeAt Go.RowKit
open Go.ChangeMaps (open_string shut_string)
set_option linter.unusedVariables false

theorem own : ownKnob Try.prog.godebug = none := by kernel_rfl
theorem laidOut : laidOutB Try.prog = true := by kernel_rfl

theorem openByte {H : Type} {enc : TypeId × Value → H} {w : World} (fuel : Nat) (cs : List Value) (x : DataW H × List MemPlace) (h : DataW.trod enc Try.prog w 0 (fun _ => true) true fuel 5 cs = some x) : ∃ y : UInt8, cs = byteS.enc y ∧ True := by
  obtain ⟨s, rfl, _, hb⟩ := DataW.trod_int Try.underlying5 h
  have := bounds_u8 hb
  exact ⟨UInt8.ofNat s.toNat, by simp [byteS]; omega, trivial⟩

theorem feed_less {x : List Itm} (hp : x.Pairwise fun x y => lessI x y = true) (k : Nat) (h0 : 0 < k) (h : k < x.length) : lessI (x[k - 1]'(by omega)) x[k] = true := List.pairwise_iff_getElem.1 hp (k - 1) k (by omega) h (by omega)

set_option maxHeartbeats 6400000 in
theorem walk (v0 : Value) (l0 : List UInt8) (w : World) (w0 : Sl byteS w v0 l0) (x0 : ∀ y ∈ l0, True) :
    Calls Try.prog 3 #[v0] w fun e w' => e = .returned (.bool true) ∧ Below w.heap.size w w' := by
  obtain ⟨aa, cap, rfl⟩ : ∃ aa cap, v0 = .slice aa l0.length cap := by obtain ⟨a, c, h, _⟩ := w0; exact ⟨a, c, h⟩
  by_cases hlen : l0.length ≤ 1048576
  rotate_left
  · go_enter Try.func3, Try.ntmps3
    go_wp2_with fail
    go_ret
    exact ⟨rfl, Below.refl _ _⟩
  go_enter Try.func3, Try.ntmps3
  go_wp2_with fail
  refine (draw_SortFeed _ l0 _ w0).mono ?_
  rintro e w1 ⟨v, o, rfl, ho, hdr, hsl, hB⟩
  go_wp2_with fail
  refine (i_SortFeed _ o _ hsl (dr_szl hdr)).mono ?_
  rintro e w2 ⟨vx, x, rfl, hrx, ox, hb1⟩
  have hx2 : Sl itmS w2 vx x := Sl.of_owns ox
  have hl2 := hsl.mono hb1
  have b2 := below_trans hB hb1
  obtain ⟨A', c', rfl⟩ : ∃ A' c', vx = .slice A' x.length c' := by obtain ⟨a, c, h, _⟩ := hx2; exact ⟨a, c, h⟩
  obtain ⟨A, c, rfl⟩ : ∃ A c, v = .slice A o.length c := by obtain ⟨a, c, h, _⟩ := hl2; exact ⟨a, c, h⟩
  clear ox hsl hB hb1
  go_wp2_with fail
  refine (s_SortFeed _ o _ hl2 (dr_szl hdr)).mono ?_
  rintro e w3 ⟨vy, y, rfl, hry, oy, hb2⟩
  have hxy : y = x := by
    rcases hrx with ⟨h1, p1, s1⟩ | ⟨h1, rfl⟩ <;> rcases hry with ⟨h2, p2, s2⟩ | ⟨h2, rfl⟩
    · exact sorted_unique (fun _ _ => lessI_asymm) (p2.trans p1.symm) s2 s1
    · rw [h1] at h2; cases h2
    · rw [h1] at h2; cases h2
    · rfl
  subst hxy
  have hy3 : Sl itmS w3 vy y := Sl.of_owns oy
  have hx3 := hx2.mono hb2
  have hl3 := hl2.mono hb2
  have b3 := below_trans b2 hb2
  clear oy hry hx2 hl2 b2 hb2
  go_wp2_with fail
  refine (same_Item _ _ y _ hx3 hy3).mono ?_
  rintro e w4 ⟨rfl, hb3⟩
  have hx4 := hx3.mono hb3
  have hl4 := hl3.mono hb3
  have b4 := below_trans b3 hb3
  clear hy3 hx3 hl3 b3 hb3
  go_wp2_with fail
  refine (i_FeedValid _ o _ hl4 (dr_szl hdr)).mono ?_
  rintro e w5 ⟨rfl, hb4⟩
  have hx5 := hx4.mono hb4
  have hl5 := hl4.mono hb4
  have b5 := below_trans b4 hb4
  clear hx4 hl4 b4 hb4
  cases hf : feedB o
  · obtain rfl := feed_none hrx hf
    go_wp2_with (first | (go_at_call 12; refine (alive_any _).mono ?_; rintro e w' ⟨rfl, rfl⟩))
    go_ret
    exact ⟨rfl, b5⟩
  obtain ⟨hp, hsd⟩ := feed_parts hrx hf
  have HA : Hid (FeedRel y y) := feed_again hrx hf
  have HN := Lib.hid (feed_new hrx hf)
  have hxl : y.length = o.length := hp.length_eq
  have hdx : ∀ z ∈ y, DrItm z := fun z hz => hdr z (hp.mem_iff.1 hz)
  have hless := Lib.hid (feed_less hsd)
  have hy7 : y.length ≤ 7 := by omega
  have HL := Lib.hid hxl
  clear hf hrx hp hsd hxl
  go_wp2_with fail
  go_loopw [5] (fun i wr => ∃ k : Nat, 1 ≤ k ∧ k ≤ y.length + 1 ∧ i = .int .i64 k ∧ Below w5.heap.size w5 wr) (fun i _ => y.length + 1 - (intOf i).toNat)
  case atStart => exact ⟨1, by omega, by omega, rfl, Below.refl _ _⟩
  case round =>
    obtain ⟨wp, rfl⟩ : ∃ wp : World, wp = wr := ⟨_, rfl⟩
    obtain ⟨k, hk1, hk2, rfl, hB⟩ := hrel
    by_cases hlt : k < y.length
    · obtain ⟨b, off, cc, hv, hcap, hbs, hc⟩ := SlItm.open hx5 (by omega)
      injection hv with hv1 _ hv3
      subst hv1; subst hv3
      have hl := hless.out k (by omega) hlt
      obtain ⟨a0, a1, a2, a3⟩ := hc k hlt
      obtain ⟨p0, p1, p2, p3⟩ := hc (k - 1) (by omega)
      generalize y[k] = yk at hl a0 a1 a2 a3
      generalize y[k - 1]'(by omega) = yp at hl p0 p1 p2 p3
      have c0 := keep_cell hB a0
      have c3 := keep_cell hB a3
      have d0 := keep_cell hB p0
      have d3 := keep_cell hB p3
      have q0 : (0 : Int) ≤ (k : Int) := by omega
      have q1 : (k : Int) < (y.length : Int) := by omega
      have q2 : IntKind.i64.wrap ((k : Int) - 1) = (k : Int) - 1 := IntWalk.i64_in _ (by omega)
      have q3 : (0 : Int) ≤ (k : Int) - 1 := by omega
      have q4 : (k : Int) - 1 < (y.length : Int) := by omega
      have q5 : ((k : Int) - 1).toNat = k - 1 := by omega
      have q6 : (1 : Int) ≤ (k : Int) := by omega
      have q7 : (k : Int) < (y.length : Int) + 1 := by omega
      rw [lessI_iff] at hl
      clear hc a0 a1 a2 a3 p0 p1 p2 p3
      rcases hl with hl | ⟨hl, hl2⟩
      · have g1 : decide (yp.day < yk.day) = false := by simp; omega
        have g2 : (yk.day == yp.day) = false := by simp; omega
        have g3 : ¬ yp.day < yk.day := by omega
        have g4 : ¬ yk.day = yp.day := by omega
        clear hl
        go_wp2_with fail
        go_quiet (fail)
        go_wp2_with fail
        go_roundw
        case rel => exact ⟨k + 1, by omega, by omega, by go_num, belowN hB _⟩
        case measure => simp [intOf]; omega
      · have g1 : decide (yp.day < yk.day) = false := by simp; omega
        have g2 : (yk.day == yp.day) = true := by simp; omega
        have g4 : (Op.bytesLess yk.key.toList yp.key.toList || yk.key.toList == yp.key.toList) = false := by rw [less_not, hl2]; rfl
        clear hl hl2
        go_wp2_with fail
        go_quiet (fail)
        go_wp2_with fail
        go_roundw
        case rel => exact ⟨k + 1, by omega, by omega, by go_num, belowN hB _⟩
        case measure => simp [intOf]; omega
    · have q1 : ¬ (k : Int) < (y.length : Int) := by omega
      have q3 : ((y.length : Int) == (o.length : Int)) = true := by have := HL.out; simp; omega
      have hx7 := hx5.mono hB
      have hl7 := hl5.mono hB
      have bp := below_trans b5 hB
      clear hx5 hl5 b5 hB
      go_wp2_with fail
      refine (i_NewItems _ _ y o _ hx7 hl7 (dr_szl hdx) (dr_szl hdr)).mono ?_
      rintro e w8 ⟨vn, rfl, on, hb8⟩
      rw [HN.out] at on
      obtain ⟨A8, c8, rfl⟩ : ∃ A c, vn = .slice A 0 c := by
        have h := Sl.of_owns (S := itmS) on
        obtain ⟨a, c, h, _⟩ := h
        exact ⟨a, c, h⟩
      have hx8 := hx7.mono hb8
      replace bp := below_trans bp hb8
      clear on hx7 hl7 hb8
      go_wp2_with fail
      refine (i_SortFeed _ y _ hx8 (dr_szl hdx)).mono ?_
      rintro e w10 ⟨v10, x10, rfl, hr10, o10, hb10⟩
      have hxy : x10 = y := by
        rcases HA.out with ⟨h1, p1, s1⟩ | ⟨h1, h3⟩ <;> rcases hr10 with ⟨h2, p2, s2⟩ | ⟨h2, h4⟩
        · exact sorted_unique (fun _ _ => lessI_asymm) (p2.trans p1.symm) s2 s1
        · rw [h1] at h2; cases h2
        · rw [h1] at h2; cases h2
        · rw [h3, h4]
      have s10 : Sl itmS w10 v10 y := by rw [← hxy]; exact Sl.of_owns o10
      have hx10 := hx8.mono hb10
      replace bp := below_trans bp hb10
      clear o10 hr10 hx8 hb10 hxy
      go_wp2_with fail
      refine (same_Item _ _ y _ s10 hx10).mono ?_
      rintro e w11 ⟨rfl, hb11⟩
      replace bp := below_trans bp hb11
      go_wp2_with fail
      go_ret
      exact ⟨rfl, bp⟩

set_option maxRecDepth 100000 in
theorem lifted (os : Os) (started : os.Started) (H : Type) (enc : TypeId × Value → H) :
    ReturnsInHanded {} Try.checked os 3 .any (Rows.fnSortFeedSpec.pre6 enc Try.prog Try.f3 Rows.fnSortFeedRow.domain false) (Rows.fnSortFeedSpec.post enc Try.prog Try.f3 false true false false) := by
  refine returnsInHanded_of_change (C := Try.checked) own started (by kernel_rfl) Try.func3
    (ChangeSpec.witness6 (enc := enc) (C := Try.checked) false ⟨#[], #[.slice none 0 0], []⟩ 8 (by kernel_rfl) (by kernel_rfl) (by kernel_rfl) (by kernel_rfl)) ?_
  intro W base args ds gs before hval0 hW hcnd _
  have hval : ∀ (j : Nat) t v, Try.f3.params[j]? = some t → args[j]? = some v → Value.okWide Try.prog W .any base t v := hval0
  have hW' := hW
  obtain ⟨p, q, hA0, hV, rfl, hfz, hnd⟩ := hW
  have hA : DataW.TrodAll enc Try.prog W 0 (fun _ => true) true Try.f3.params.toList args.toList ds p := hA0
  rw [Try.params3] at hA hval
  obtain ⟨v0, vs0, d0, ds0, p0, q0, hargs, rfl, rfl, h0, r0⟩ := trodAll_cons hA
  obtain ⟨rfl, rfl, rfl⟩ := trodAll_nil r0
  obtain rfl : args = #[v0] := by cases args; simp_all
  obtain ⟨rfl, rfl⟩ := trodVars_none hV
  have k0 := h0
  have lt0 : ∀ x ∈ p0, x.block < W.heap.size := by obtain ⟨m, hm⟩ := k0; exact DataW.trod_lt m _ _ _ hm
  obtain ⟨aa0, len0, cap0, rfl⟩ := okWide_slice Try.underlying22 (hval 0 22 v0 rfl rfl)
  obtain ⟨l0, w0, x0⟩ : ∃ l, Sl byteS W (.slice aa0 len0 cap0) l ∧ ∀ y ∈ l, True := by obtain ⟨fuel, hf⟩ := h0; exact open_rows byteS (fun y => True) Try.underlying22 (by kernel_rfl) openByte hf
  clear hA0 hval0
  refine (walk _ l0 W w0 x0).mono fun e W' ⟨he, bel⟩ => ?_
  subst he
  exact ⟨_, rfl, _, _, _, [], _, [], hW', trodAll_mk1 (shut_bool Try.underlying4 _), (trodAll_cons_mk (Below.trod laidOut (by kernel_rfl) (of_decide_eq_true (by kernel_rfl)) k0 bel lt0) trodAll_mk0), rfl, bel.frame _, fun h => by cases h⟩

theorem over : Rows.fnSortFeedRow.holds Try.pinned (OpenSpec.ofChange Rows.fnSortFeedSpec) :=
  OpenClaim.holds_of_wide 3 Try.f3 rfl rfl rfl rfl rfl rfl rfl ⟨rfl, rfl, rfl, rfl, rfl⟩ rfl rfl rfl rfl rfl (by kernel_rfl) Try.func3 (by kernel_rfl)
    (of_decide_eq_true (by kernel_rfl)) (by unfold Func.isWrapper; first | (rw [if_pos (by decide +kernel)]; kernel_rfl) | (rw [if_neg (by decide +kernel)]; exact ⟨rfl, rfl⟩))
    (fun os started H enc _ => lifted os started H enc)

theorem proved : Rows.FnSortFeedSaid := over
end Go.Proofs.Ytlmpkajnbdhppaa.fnSortFeed
