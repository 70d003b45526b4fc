/- The walk of the reference's drawing function for two feeds. No condition. -/
import Derived.Test.YtlmpkajnbdhppaaDrawFd
import Derived.Test.YtlmpkajnbdhppaaOwn
import Derived.Test.YtlmpkajnbdhppaaMrgI
namespace Go.Proofs.Ytlmpkajnbdhppaa
open Go.RowKit

def BothRet (rb B : Nat) (w : World) (e : Ending) (w' : World) : Prop :=
  ∃ va oa vb ob, e = .returned (.tuple #[va, vb]) ∧ oa.length ≤ 7 ∧ ob.length ≤ 9 ∧ (∀ y ∈ oa, DrItm y) ∧ (∀ y ∈ ob, DrItm y) ∧ Sl itmS w' va oa ∧ Sl itmS w' vb ob ∧ Rd w' rb B ∧ Ex (· = rb) w w'
theorem BothRet.mk {rb B : Nat} {w w' : World} {va vb : Value} {oa ob : List Itm} (h1 : oa.length ≤ 7) (h2 : ob.length ≤ 9) (h3 : ∀ y ∈ oa, DrItm y) (h4 : ∀ y ∈ ob, DrItm y) (h5 : Sl itmS w' va oa) (h6 : Sl itmS w' vb ob) (h7 : Rd w' rb B) (h8 : Ex (· = rb) w w') : BothRet rb B w (.returned (.tuple #[va, vb])) w' := ⟨va, oa, vb, ob, rfl, h1, h2, h3, h4, h5, h6, h7, h8⟩
theorem set_grown (w : World) (g i : Nat) (v : Value) : w.grownBy (w.setCell ⟨g, i, none⟩ v) (some g) := ⟨rfl, rfl, rfl, by simp, fun k _ hne => heap_setCell_other w ⟨g, i, none⟩ k v (fun e => hne (by rw [e]))⟩

set_option maxHeartbeats 6400000 in
theorem both_any (rb B0 : Nat) (n : Int) (w : World) (hR0 : Rd w rb B0) (hB : B0 ≤ 900000) (n1 : 0 ≤ n) (n2 : n ≤ 1000000) :
    Calls Try.prog 40 #[.pointer (some ⟨rb, 0, none⟩), .int .i64 n] w (BothRet rb (B0 + 230) w) := by
  obtain ⟨i0, hi, hz0, hz1, hz2⟩ := info_parts Try.infoItm
  have hrb : rb < w.heap.size := hR0.lt
  go_enter Try.func40, Try.ntmps40
  go_wp2_with fail
  refine (feed_any rb B0 n _ hR0 hB n1 n2).mono ?_
  rintro e wb ⟨va, oa, rfl, ha7, hda, owna, hRb, hEb⟩
  obtain ⟨A, c, rfl⟩ : ∃ A c, va = .slice A oa.length c := own_form owna
  have hown : (wb.alloc (.cells #[] 30)).ownsRow wb.heap.size 30 itmS.sz (.slice (some ⟨wb.heap.size, 0, none⟩) 0 0) 0 (itmS.cells []) := Try.emptyItm wb
  have hR1 : Rd (wb.alloc (.cells #[] 30)) rb (B0 + 160) := hRb.below (below1 _ _)
  have hE1 : Ex (· = rb) wb (wb.alloc (.cells #[] 30)) := (Ex.refl _ _).alloc _
  have hw1 : IntKind.i64.wrap ((oa.length : Int) - 1) = (oa.length : Int) - 1 := IntWalk.i64_in _ (by omega)
  have hrbb : rb < wb.heap.size := hRb.lt
  go_wp2_with fail
  go_loopw [7, 8] (fun V K wr => ∃ (j : Int) (o : List Itm) (uV : Value), uV = V ∧ K = .int .i64 j ∧ -1 ≤ j ∧ j < oa.length ∧ o.length ≤ 7 ∧ (o.length : Int) + j ≤ 6 ∧ (∀ y ∈ o, DrItm y) ∧ wr.ownsRow wb.heap.size 30 itmS.sz uV o.length (itmS.cells o) ∧ Rd wr rb (B0 + 160 + 2 * (6 - j).toNat) ∧ Ex (· = rb) wb wr) (fun _ K _ => (intOf K + 1).toNat)
  case atStart => exact ⟨_, [], _, rfl, rfl, by omega, by omega, by simp, by simp; omega, fun y hy => (by cases hy), hown, hR1.mono (by omega), hE1⟩
  case round =>
    clear hown hR1 hE1 hw1
    obtain ⟨wo, rfl⟩ : ∃ wo : World, wo = wr := ⟨_, rfl⟩
    obtain ⟨j, o, uV, rfl, rfl, hj1, hj2, ho7, hoj, hdr, hown, hR, hE⟩ := hrel
    by_cases hj : 0 ≤ j
    · obtain ⟨i, rfl⟩ := Int.eq_ofNat_of_zero_le hj
      have hio : i < oa.length := by omega
      have own2 := own_ex owna hrb hE
      obtain ⟨b, off, cc, hv, hcap, hbs, hc⟩ := SlItm.open (Sl.of_owns (S := itmS) own2) (by omega)
      injection hv with hv1 _ hv3
      subst hv1; subst hv3
      obtain ⟨c0, c1, c2, c3⟩ := hc i hio
      have q0 : (0 : Int) ≤ (i : Int) := by omega
      have q1 : (i : Int) < (oa.length : Int) := by omega
      have q2 : IntKind.i64.wrap ((i : Int) - 1) = (i : Int) - 1 := IntWalk.i64_in _ (by omega)
      have hdi : DrItm oa[i] := hda _ (List.getElem_mem hio)
      have hlow : ∀ k, uV.ownBlock = some k → k < wo.heap.size := fun k hk => (hown.lt k hk).2
      clear hc own2
      go_wp2_with fail
      obtain ⟨w1, hw1⟩ : ∃ w1, w1 = wo.alloc (.cells #[.string oa[i].key, .string oa[i].title, .string oa[i].body, .int .i64 oa[i].day] 30) := ⟨_, rfl⟩
      have hwo : w1.heap.size = wo.heap.size + 1 := by rw [hw1, World.size_alloc]
      have K := Bx.of_block (W := wb) (t := 30) (l := [.string oa[i].key, .string oa[i].title, .string oa[i].body, .int .i64 oa[i].day]) (g := wo.heap.size) (w := w1) (rb := rb) (by rw [hw1]; exact hR.below (below1 _ _)) (by rw [hw1]; exact hE.alloc _) hE.size (by have := hE.size; omega) (by rw [hw1]; exact heap_alloc_new _ _) nob4
      replace hown : w1.ownsRow wb.heap.size 30 itmS.sz uV o.length (itmS.cells o) := by rw [hw1]; exact hown.alloc _
      rw [← hw1]
      clear hw1 hR hE c0 c1 c2 c3
      refine (pick_any rb _ 4 _ K.rd (by omega) (by omega)).mono ?_
      rintro e w2 ⟨x, rfl, hx, hR2, hE2⟩
      replace K := K.step hR2 hE2
      replace hown := own_ex hown hrbb hE2
      have hlt2 : w1.heap.size ≤ w2.heap.size := hE2.size
      clear hR2 hE2 hx
      have hz0' := hz0
      by_cases hx : x = 0
      · subst hx
        have K2 := K.set 1 (by simp) (.string ⟨#[111, 116, 104, 101, 114]⟩) (by intro c h; cases h)
        have hown2 : (w2.setCell ⟨wo.heap.size, 1, none⟩ (.string ⟨#[111, 116, 104, 101, 114]⟩)).ownsRow wb.heap.size 30 itmS.sz uV o.length (itmS.cells o) := kept_low hown hlow (set_grown _ _ _ _) (fun k hk => by cases hk; exact Nat.le_refl _)
        dsimp only [List.set] at K2
        obtain ⟨⟨r0, r1, r2, r3⟩, ⟨f0, f1, f2, f3⟩⟩ := K.four
        replace hown := hown2
        clear hown2
        have K := K2
        clear K2
        go_wp2_with fail
        refine (pick_any rb _ 4 _ K.rd (by omega) (by omega)).mono ?_
        rintro e w3 ⟨z, rfl, hz, hR3, hE3⟩
        replace K := K.step hR3 hE3
        replace hown := own_ex hown hrbb hE3
        have hz0 := hz.1
        clear hR3 hE3 hz
        by_cases hzz : 0 < z
        · obtain ⟨⟨r0, r1, r2, r3⟩, -⟩ := K.four
          have hdy : DrItm ⟨oa[i].key, ⟨#[111, 116, 104, 101, 114]⟩, oa[i].body, oa[i].day⟩ := ⟨hdi.1, by show 5 ≤ 100; omega, hdi.2.2⟩
          go_wp2_with (at_builtin; refine wpList_app_sl (S := itmS) rfl _ _ 23 rfl wb.heap.size 30 i0 (.agg #[.string ⟨#[]⟩, .string ⟨#[]⟩, .string ⟨#[]⟩, .int .i64 0]) 56 Try.underlying23 hi hz0' hz1 hz2 rfl _ _ _ rfl (hown.alloc _) [Itm.mk oa[i].key ⟨#[111, 116, 104, 101, 114]⟩ oa[i].body oa[i].day] (one_sl (S := itmS) (x := Itm.mk oa[i].key ⟨#[111, 116, 104, 101, 114]⟩ oa[i].body oa[i].day) (heap_alloc_new _ _)) (by simp [maxLen]; omega) (by simp; omega) (by have := K.ex.size; rw [World.size_alloc]; omega) ?_; intro v7 w7 hown7 hgrow7 hat7; clear hat7)
          have hrow := fun g hg => (hown.lt g hg).1
          have hE8 := ex_grown (K.ex.alloc _) hgrow7 hrow
          have hR8 := (K.rd.below (below1 _ _)).grown hgrow7 (fun g hg => Nat.lt_of_lt_of_le hrbb (hrow g hg))
          go_roundw
          case rel => exact ⟨(i : Int) - 1, o ++ [Itm.mk oa[i].key ⟨#[111, 116, 104, 101, 114]⟩ oa[i].body oa[i].day], _, rfl, rfl, by omega, by omega, by simp; omega, by simp; omega, dr_snoc hdr hdy, by rw [List.length_append, itmS.cells_append]; exact hown7, hR8.mono (by omega), hE8⟩
          case measure => simp [intOf]
        · obtain rfl : z = 0 := by omega
          go_wp2_with fail
          go_roundw
          case rel => exact ⟨(i : Int) - 1, o, _, rfl, rfl, by omega, by omega, ho7, by omega, hdr, hown, K.rd.mono (by omega), K.ex⟩
          case measure => simp [intOf]
      · have hx2 : (x == 0) = false := by simpa using hx
        go_wp2_with fail
        refine (pick_any rb _ 4 _ K.rd (by omega) (by omega)).mono ?_
        rintro e w3 ⟨z, rfl, hz, hR3, hE3⟩
        replace K := K.step hR3 hE3
        replace hown := own_ex hown hrbb hE3
        have hz0 := hz.1
        clear hR3 hE3 hz
        by_cases hzz : 0 < z
        · obtain ⟨⟨r0, r1, r2, r3⟩, -⟩ := K.four
          have hdy : DrItm ⟨oa[i].key, oa[i].title, oa[i].body, oa[i].day⟩ := hdi
          go_wp2_with (at_builtin; refine wpList_app_sl (S := itmS) rfl _ _ 23 rfl wb.heap.size 30 i0 (.agg #[.string ⟨#[]⟩, .string ⟨#[]⟩, .string ⟨#[]⟩, .int .i64 0]) 56 Try.underlying23 hi hz0' hz1 hz2 rfl _ _ _ rfl (hown.alloc _) [Itm.mk oa[i].key oa[i].title oa[i].body oa[i].day] (one_sl (S := itmS) (x := Itm.mk oa[i].key oa[i].title oa[i].body oa[i].day) (heap_alloc_new _ _)) (by simp [maxLen]; omega) (by simp; omega) (by have := K.ex.size; rw [World.size_alloc]; omega) ?_; intro v7 w7 hown7 hgrow7 hat7; clear hat7)
          have hrow := fun g hg => (hown.lt g hg).1
          have hE8 := ex_grown (K.ex.alloc _) hgrow7 hrow
          have hR8 := (K.rd.below (below1 _ _)).grown hgrow7 (fun g hg => Nat.lt_of_lt_of_le hrbb (hrow g hg))
          go_roundw
          case rel => exact ⟨(i : Int) - 1, o ++ [Itm.mk oa[i].key oa[i].title oa[i].body oa[i].day], _, rfl, rfl, by omega, by omega, by simp; omega, by simp; omega, dr_snoc hdr hdy, by rw [List.length_append, itmS.cells_append]; exact hown7, hR8.mono (by omega), hE8⟩
          case measure => simp [intOf]
        · obtain rfl : z = 0 := by omega
          go_wp2_with fail
          go_roundw
          case rel => exact ⟨(i : Int) - 1, o, _, rfl, rfl, by omega, by omega, ho7, by omega, hdr, hown, K.rd.mono (by omega), K.ex⟩
          case measure => simp [intOf]
    · obtain rfl : j = -1 := by omega
      replace hR := hR.mono (show B0 + 160 + 2 * (6 - (-1 : Int)).toNat ≤ B0 + 174 by omega)
      clear hj hj1 hj2 hoj
      go_wp2_with fail
      refine (pick_any rb _ 3 _ hR (by omega) (by omega)).mono ?_
      rintro e w1 ⟨k0, rfl, hk0, hR1, hE1⟩
      obtain ⟨k1, rfl⟩ := Int.eq_ofNat_of_zero_le hk0.1
      have hk5 : k1 ≤ 2 := by have := hk0.2.1 (by decide); omega
      replace hown := own_ex hown hrbb hE1
      replace hE := hE.trans hE1
      clear hE1 hk0 hR
      go_wp2_with fail
      go_loopw [7, 10] (fun V K wr => ∃ (k : Nat) (o : List Itm) (uV : Value), uV = V ∧ K = .int .i64 (k : Int) ∧ k ≤ 2 ∧ o.length + k ≤ 9 ∧ (∀ y ∈ o, DrItm y) ∧ wr.ownsRow wb.heap.size 30 itmS.sz uV o.length (itmS.cells o) ∧ Rd wr rb (B0 + 175 + 21 * (2 - k)) ∧ Ex (· = rb) wb wr) (fun _ K _ => (intOf K).toNat)
      case atStart => exact ⟨k1, o, _, rfl, rfl, hk5, by omega, hdr, hown, hR1.mono (by omega), hE⟩
      case round =>
        clear hown hR1 hE hk5 hdr ho7
        obtain ⟨k, o, uV, rfl, rfl, hk, hlen, hdr, hown, hR, hE⟩ := hrel
        by_cases hk0 : k = 0
        · subst hk0
          have own2 := own_ex owna hrb hE
          go_wp2_with fail
          go_ret2
          exact BothRet.mk ha7 (by omega) (by assumption) hdr (Sl.of_owns (S := itmS) own2) (Sl.of_owns (S := itmS) hown) (hR.mono (by omega)) (hEb.trans hE)
        · have q0 : (0 : Int) < (k : Int) := by omega
          have q1 : decide ((0 : Int) < (k : Int)) = true := by simp; omega
          have q2 : IntKind.i64.wrap ((k : Int) - 1) = (k : Int) - 1 := IntWalk.i64_in _ (by omega)
          have q3 : decide (0 < k) = true := by simp; omega
          go_wp2_with fail
          refine (item_any rb _ 0 _ hR (by omega) (by omega) (by omega)).mono ?_
          rintro e w4 ⟨y, rfl, hy, hR4, hE4⟩
          have hown4 := own_ex hown hrbb hE4
          have hE5 := hE.trans hE4
          have hlow : ∀ k, uV.ownBlock = some k → k < w4.heap.size := fun k hk => (hown4.lt k hk).2
          have hrb4 : rb < w4.heap.size := hR4.lt
          clear hown hR hE hE4
          go_wp2_with fail
          have K := (Bx.of_block (W := wb) (t := 30) (l := [.string y.key, .string y.title, .string y.body, .int .i64 y.day]) (g := w4.heap.size) (w := w4.alloc (.cells #[.string y.key, .string y.title, .string y.body, .int .i64 y.day] 30)) (rb := rb) (hR4.below (below1 _ _)) (hE5.alloc _) hE5.size (by omega) (heap_alloc_new _ _) nob4).below (below1 _ (.cells #[.string ⟨#[110, 49]⟩, .string ⟨#[110, 50]⟩, .string ⟨#[110, 51]⟩] 9))
          have hown5 := (hown4.alloc (.cells #[.string y.key, .string y.title, .string y.body, .int .i64 y.day] 30)).alloc (.cells #[.string ⟨#[110, 49]⟩, .string ⟨#[110, 50]⟩, .string ⟨#[110, 51]⟩] 9)
          refine (pick_any rb _ 3 _ K.rd (by omega) (by omega)).mono ?_
          rintro e w6 ⟨x, rfl, hx, hR6, hE6⟩
          have hne4 : w4.heap.size + 1 ≠ rb := by omega
          have cell : ∀ j, j < 3 → ∃ t : ByteArray, t.size ≤ 2 ∧ w6.cell? ⟨w4.heap.size + 1, j, none⟩ = some (.string t) := fun j hj => by
            match j, hj with
            | 0, _ => exact ⟨⟨#[110, 49]⟩, Nat.le_refl _, hE6.cell (p := ⟨w4.heap.size + 1, 0, none⟩) hne4 (by simp [go_sem])⟩
            | 1, _ => exact ⟨⟨#[110, 50]⟩, Nat.le_refl _, hE6.cell (p := ⟨w4.heap.size + 1, 1, none⟩) hne4 (by simp [go_sem])⟩
            | 2, _ => exact ⟨⟨#[110, 51]⟩, Nat.le_refl _, hE6.cell (p := ⟨w4.heap.size + 1, 2, none⟩) hne4 (by simp [go_sem])⟩
          obtain ⟨j, rfl⟩ := Int.eq_ofNat_of_zero_le hx.1
          have hj3 : j < 3 := by have := hx.2.1 (by decide); omega
          have hj4 : (j : Int) < 3 := by omega
          have hj5 : (0 : Int) ≤ (j : Int) := by omega
          obtain ⟨s, hs, hcs⟩ := cell j hj3
          have K1 := K.step hR6 hE6
          have hown6 := own_ex hown5 hrbb hE6
          clear K hown5 hown4 hR4 hE5 hR6 hE6 hx cell
          have K2 := K1.set 0 (by simp) (.string s) (by intro c h; cases h)
          dsimp only [List.set] at K2
          obtain ⟨⟨r0, r1, r2, r3⟩, ⟨f0, f1, f2, f3⟩⟩ := K1.four
          have hown7 : (w6.setCell ⟨w4.heap.size, 0, none⟩ (.string s)).ownsRow wb.heap.size 30 itmS.sz uV o.length (itmS.cells o) := kept_low hown6 hlow (set_grown _ _ _ _) (fun k hk => by cases hk; exact Nat.le_refl _)
          obtain ⟨y', hy'⟩ : ∃ y' : Itm, y' = ⟨s, y.title, y.body, y.day⟩ := ⟨_, rfl⟩
          have hdy : DrItm y' := by rw [hy']; exact ⟨by show s.size ≤ 9; omega, hy.2⟩
          have K3 := K2
          rw [show ([.string s, .string y.title, .string y.body, .int .i64 y.day] : List Value) = [.string y'.key, .string y'.title, .string y'.body, .int .i64 y'.day] by rw [hy']] at K3
          clear K1 K2 hown6 hy' hne4
          go_upto_region 16 with (fail)
          obtain ⟨w5, hw5⟩ : ∃ w5, w5 = w6.setCell ⟨w4.heap.size, 0, none⟩ (.string s) := ⟨_, rfl⟩
          rw [← hw5] at K3 hown7 ⊢
          obtain ⟨⟨d0, d1, d2, d3⟩, -⟩ := K3.four
          have hbx := K3.lt
          have hown5 := hown7
          have hR5 := K3.rd
          have hE6 := K3.ex
          clear hw5 hown7 K3 r0 r1 r2 r3 f0 f1 f2 f3 hcs
          have hsl : Sl itmS w5 uV o := Sl.of_owns hown5
          refine wp_region_typed_used 6 (fun i w v => KTy.T 30 itmS.sz w5.heap.size (([.nil0, .is (uV), .own ((0 + (o).length)) (([] ++ itmS.cells (o))), .is (.agg #[.string y'.key, .string y'.title, .string y'.body, .int .i64 y'.day]), .one ((itmS.enc y').toArray), .own (((0 + (o).length) + ([y']).length)) ((([] ++ itmS.cells (o)) ++ itmS.cells ([y'])))] : List KTy).getD i .any) w v) (fun i => ([2, 999, 5, 999, 5, 999] : List Nat).getD i 999) (fun w' => Below w5.heap.size w5 w') (RApp 30 2 5) (by kernel_rfl) 65 rfl (by decide) (by kernel_rfl) (by kernel_rfl) (by kernel_rfl) (by kernel_rfl) (Below.refl _ _).drew (tyApp (by kernel_rfl)) ?_ ?_
          · refine ⟨?_, ?_, ?_, ?_, ?_, ?_, trivial⟩
            · intro a' w' hW hF
              refine wpOp_step rfl (fun K hK => ?_)
              go_simp
              exact hK _ _ ⟨_, rfl, RApp.still (by decide) (World.grownBy_alloc _ _ _), ⟨w'.heap.size, rfl, hW.size, heap_alloc_new w' _⟩, hW.alloc hW.size _⟩
            · intro a' w' hW hF
              have h7 : a'.tmps[7]? = some (uV) := (hF.at 7 (by kernel_rfl)).trans rfl
              refine wpOp_step rfl (fun K hK => ?_)
              go_simp
              exact hK _ _ ⟨_, rfl, RApp.still (by decide) (World.grownBy.refl _ _), rfl, hW⟩
            · intro a' w' hW hF
              obtain ⟨_, h52, g52, rfl, hg52, hb52⟩ := hF.val ⟨0, .data⟩ (by simp) rfl _ rfl
              obtain ⟨_, h53, rfl⟩ := hF.val ⟨1, .data⟩ (by simp) rfl _ rfl
              refine wpOp_step rfl (fun K hK => ?_)
              refine step_app_sl (S := itmS) rfl (.tmp 52) (.tmp 53) 23 rfl w5.heap.size 30 i0 (.agg #[.string ⟨#[]⟩, .string ⟨#[]⟩, .string ⟨#[]⟩, .int .i64 0]) 56 Try.underlying23 hi hz0 hz1 hz2 rfl _ (0) ([]) (getD_of h52) (nil0_own hg52 hb52) (o) (by rw [show a'.eval (.tmp 53) = _ from getD_of h53]; exact hsl.mono hW) (by first | decide | (simp [maxLen]; omega)) (by first | decide | (simp; omega)) hW.size ?_
              intro v' w'' hown hgrow hat
              exact hK _ _ ⟨_, rfl, RApp.first hb52 hgrow, hown, hW.grown hgrow hW.size (fun j hj => by cases hj; exact hg52)⟩
            · intro a' w' hW hF
              have h11 : a'.tmps[11]? = some (.pointer (some ⟨w4.heap.size, 0, none⟩)) := (hF.at 11 (by kernel_rfl)).trans rfl
              have k0 : w'.cell? ⟨w4.heap.size, 0, none⟩ = some (.string y'.key) := (hW.cell (p := ⟨w4.heap.size, 0, none⟩) hbx).trans d0
              have k1 : w'.cell? ⟨w4.heap.size, 1, none⟩ = some (.string y'.title) := (hW.cell (p := ⟨w4.heap.size, 1, none⟩) hbx).trans d1
              have k2 : w'.cell? ⟨w4.heap.size, 2, none⟩ = some (.string y'.body) := (hW.cell (p := ⟨w4.heap.size, 2, none⟩) hbx).trans d2
              have k3 : w'.cell? ⟨w4.heap.size, 3, none⟩ = some (.int .i64 y'.day) := (hW.cell (p := ⟨w4.heap.size, 3, none⟩) hbx).trans d3
              refine wpOp_step rfl (fun K hK => ?_)
              go_simp
              exact hK _ _ ⟨_, rfl, RApp.still (by decide) (World.grownBy.refl _ _), rfl, hW⟩
            · intro a' w' hW hF
              obtain ⟨_, h55, rfl⟩ := hF.val ⟨3, .data⟩ (by simp) rfl _ rfl
              refine wpOp_step rfl (fun K hK => ?_)
              go_simp
              exact hK _ _ ⟨_, rfl, RApp.still (by decide) (World.grownBy_alloc _ _ _), ⟨w'.heap.size, rfl, by rw [List.size_toArray, itmS.len]; exact itmS.pos, heap_alloc_new w' _⟩, hW.alloc hW.size _⟩
            · intro a' w' hW hF
              obtain ⟨v54, h54, own54⟩ := hF.val ⟨2, .data⟩ (by simp) rfl _ rfl
              obtain ⟨_, h56, g56, rfl, hc56, hb56⟩ := hF.val ⟨4, .data⟩ (by simp) rfl _ rfl
              refine wpOp_step rfl (fun K hK => ?_)
              refine step_app_sl (S := itmS) rfl (.tmp 54) (.tmp 56) 23 rfl w5.heap.size 30 i0 (.agg #[.string ⟨#[]⟩, .string ⟨#[]⟩, .string ⟨#[]⟩, .int .i64 0]) 56 Try.underlying23 hi hz0 hz1 hz2 rfl _ ((0 + (o).length)) (([] ++ itmS.cells (o))) (getD_of h54) own54 ([y']) (by rw [show a'.eval (.tmp 56) = _ from getD_of h56]; exact one_sl (S := itmS) (x := y') hb56) (by first | decide | (simp [maxLen]; omega)) (by first | decide | (simp; omega)) hW.size ?_
              intro v' w'' hown hgrow hat
              exact hK _ _ ⟨_, rfl, RApp.second (by decide), hown, hW.grown hgrow hW.size (fun j hj => (own54.lt j hj).1)⟩
          · intro a' w' hL hW
            have hd := hL.defers
            have hs := hL.size
            obtain ⟨x52, h52⟩ := hL.some_at 52 (by show 52 < 65; decide)
            obtain ⟨_, h53, rfl⟩ := hL.val 1 _ rfl (by decide)
            obtain ⟨x54, h54⟩ := hL.some_at 54 (by show 54 < 65; decide)
            obtain ⟨_, h55, rfl⟩ := hL.val 3 _ rfl (by decide)
            obtain ⟨x56, h56⟩ := hL.some_at 56 (by show 56 < 65; decide)
            obtain ⟨v57, h57, own57⟩ := hL.val 5 _ rfl (by decide)
            have hlit := act_lit (l := [_, _, _, _, _, _, _, _, _, _, _, _, _, _, _, _, _, _, _, _, _, _, _, _, _, _, _, _, _, _, _, _, _, _, _, _, _, _, _, _, _, _, _, _, _, _, _, _, _, _, _, _, _, _, _, _, _, _, _, _, _, _, _, _, _]) (hd.trans rfl) (by rw [hs]; rfl) (AllAt.cons ((hL.at 0 (by kernel_rfl)).trans rfl) (AllAt.cons ((hL.at 1 (by kernel_rfl)).trans rfl) (AllAt.cons ((hL.at 2 (by kernel_rfl)).trans rfl) (AllAt.cons ((hL.at 3 (by kernel_rfl)).trans rfl) (AllAt.cons ((hL.at 4 (by kernel_rfl)).trans rfl) (AllAt.cons ((hL.at 5 (by kernel_rfl)).trans rfl) (AllAt.cons ((hL.at 6 (by kernel_rfl)).trans rfl) (AllAt.cons ((hL.at 7 (by kernel_rfl)).trans rfl) (AllAt.cons ((hL.at 8 (by kernel_rfl)).trans rfl) (AllAt.cons ((hL.at 9 (by kernel_rfl)).trans rfl) (AllAt.cons ((hL.at 10 (by kernel_rfl)).trans rfl) (AllAt.cons ((hL.at 11 (by kernel_rfl)).trans rfl) (AllAt.cons ((hL.at 12 (by kernel_rfl)).trans rfl) (AllAt.cons ((hL.at 13 (by kernel_rfl)).trans rfl) (AllAt.cons ((hL.at 14 (by kernel_rfl)).trans rfl) (AllAt.cons ((hL.at 15 (by kernel_rfl)).trans rfl) (AllAt.cons ((hL.at 16 (by kernel_rfl)).trans rfl) (AllAt.cons ((hL.at 17 (by kernel_rfl)).trans rfl) (AllAt.cons ((hL.at 18 (by kernel_rfl)).trans rfl) (AllAt.cons ((hL.at 19 (by kernel_rfl)).trans rfl) (AllAt.cons ((hL.at 20 (by kernel_rfl)).trans rfl) (AllAt.cons ((hL.at 21 (by kernel_rfl)).trans rfl) (AllAt.cons ((hL.at 22 (by kernel_rfl)).trans rfl) (AllAt.cons ((hL.at 23 (by kernel_rfl)).trans rfl) (AllAt.cons ((hL.at 24 (by kernel_rfl)).trans rfl) (AllAt.cons ((hL.at 25 (by kernel_rfl)).trans rfl) (AllAt.cons ((hL.at 26 (by kernel_rfl)).trans rfl) (AllAt.cons ((hL.at 27 (by kernel_rfl)).trans rfl) (AllAt.cons ((hL.at 28 (by kernel_rfl)).trans rfl) (AllAt.cons ((hL.at 29 (by kernel_rfl)).trans rfl) (AllAt.cons ((hL.at 30 (by kernel_rfl)).trans rfl) (AllAt.cons ((hL.at 31 (by kernel_rfl)).trans rfl) (AllAt.cons ((hL.at 32 (by kernel_rfl)).trans rfl) (AllAt.cons ((hL.at 33 (by kernel_rfl)).trans rfl) (AllAt.cons ((hL.at 34 (by kernel_rfl)).trans rfl) (AllAt.cons ((hL.at 35 (by kernel_rfl)).trans rfl) (AllAt.cons ((hL.at 36 (by kernel_rfl)).trans rfl) (AllAt.cons ((hL.at 37 (by kernel_rfl)).trans rfl) (AllAt.cons ((hL.at 38 (by kernel_rfl)).trans rfl) (AllAt.cons ((hL.at 39 (by kernel_rfl)).trans rfl) (AllAt.cons ((hL.at 40 (by kernel_rfl)).trans rfl) (AllAt.cons ((hL.at 41 (by kernel_rfl)).trans rfl) (AllAt.cons ((hL.at 42 (by kernel_rfl)).trans rfl) (AllAt.cons ((hL.at 43 (by kernel_rfl)).trans rfl) (AllAt.cons ((hL.at 44 (by kernel_rfl)).trans rfl) (AllAt.cons ((hL.at 45 (by kernel_rfl)).trans rfl) (AllAt.cons ((hL.at 46 (by kernel_rfl)).trans rfl) (AllAt.cons ((hL.at 47 (by kernel_rfl)).trans rfl) (AllAt.cons ((hL.at 48 (by kernel_rfl)).trans rfl) (AllAt.cons ((hL.at 49 (by kernel_rfl)).trans rfl) (AllAt.cons ((hL.at 50 (by kernel_rfl)).trans rfl) (AllAt.cons ((hL.at 51 (by kernel_rfl)).trans rfl) (AllAt.cons h52 (AllAt.cons h53 (AllAt.cons h54 (AllAt.cons h55 (AllAt.cons h56 (AllAt.cons h57 (AllAt.cons ((hL.at 58 (by kernel_rfl)).trans rfl) (AllAt.cons ((hL.at 59 (by kernel_rfl)).trans rfl) (AllAt.cons ((hL.at 60 (by kernel_rfl)).trans rfl) (AllAt.cons ((hL.at 61 (by kernel_rfl)).trans rfl) (AllAt.cons ((hL.at 62 (by kernel_rfl)).trans rfl) (AllAt.cons ((hL.at 63 (by kernel_rfl)).trans rfl) (AllAt.cons ((hL.at 64 (by kernel_rfl)).trans rfl) AllAt.nil)))))))))))))))))))))))))))))))))))))))))))))))))))))))))))))))))
            clear hL hd hs h52 h53 h54 h55 h56 h57
            subst hlit
            have hsn : Sl itmS w' v57 (o ++ [y']) := Sl.of_owns (by
              have o25 : w'.ownsRow w5.heap.size 30 itmS.sz v57 (0 + o.length + [y'].length) ([] ++ itmS.cells o ++ itmS.cells [y']) := own57
              rw [List.length_append, itmS.cells_append]; simpa using o25)
            show wpOps _ _ _ [6] _ _
            rw [wpOps_cons]
            refine wpOp_step rfl (fun K hK => ?_)
            go_simp
            refine (s_FeedValid _ (o ++ [y']) _ hsn (dr_szl (dr_snoc hdr hdy))).mono ?_
            rintro e w7 ⟨rfl, hb6⟩
            refine hK _ _ ?_
            simp only [wpOps]
            have hB6 : Below w5.heap.size w5 w7 := below_trans hW hb6
            have hown6 := owns_below hown5 hB6
            have hR6 := hR5.below hB6
            have hE7 := hE6.trans (Ex.of_below hB6)
            have e0 := keep_cell hB6 d0
            have e1 := keep_cell hB6 d1
            have e2 := keep_cell hB6 d2
            have e3 := keep_cell hB6 d3
            clear hown5 hR5 hE6 d0 d1 d2 d3 hsl hsn own57 hW hb6 hB6
            cases hf : feedB (o ++ [y'])
            · go_wp2_with fail
              go_roundw
              case rel => exact ⟨k - 1, o, _, rfl, by go_num, by omega, by omega, hdr, hown6, hR6.mono (by omega), hE7⟩
              case measure => simp [intOf]; omega
            · go_wp2_with (at_builtin; refine wpList_app_sl (S := itmS) rfl _ _ 23 rfl wb.heap.size 30 i0 (.agg #[.string ⟨#[]⟩, .string ⟨#[]⟩, .string ⟨#[]⟩, .int .i64 0]) 56 Try.underlying23 hi hz0 hz1 hz2 rfl _ _ _ rfl (hown6.alloc _) [y'] (one_sl (S := itmS) (x := y') (heap_alloc_new _ _)) (by simp [maxLen]; omega) (by simp; omega) (by have := hE7.size; rw [World.size_alloc]; omega) ?_; intro v8 w8 hown8 hgrow8 hat8; clear hat8)
              have hrow := fun g hg => (hown6.lt g hg).1
              have hE8 := ex_grown (hE7.alloc _) hgrow8 hrow
              have hR8 := (hR6.below (below1 _ _)).grown hgrow8 (fun g hg => Nat.lt_of_lt_of_le hrbb (hrow g hg))
              go_roundw
              case rel => exact ⟨k - 1, o ++ [y'], _, rfl, by go_num, by omega, by simp; omega, dr_snoc hdr hdy, by rw [List.length_append, itmS.cells_append]; exact hown8, hR8.mono (by omega), hE8⟩
              case measure => simp [intOf]; omega
end Go.Proofs.Ytlmpkajnbdhppaa
