/- The walk of the reference's SortFields: the fields in the order of their names. Condition: the slice reads as the list, texts are no longer than a machine holds. -/
import Derived.Test.YtemjonibpachbaaDoorFldI
import Derived.Test.YtemjonibpachbaaDoorChain
namespace Go.Proofs.YtemjonibpachbaaDoor
open Go.RowKit

/-- The first k fields in the order of their names. -/
def SrtTo (l o : List Fld) (k : Nat) : Prop := o.Perm (l.take k) ∧ o.Pairwise lessF ∧ (0 < k → fieldsB l = true)
/-- From a on, all stand behind field k. -/
def GtFrom (l o : List Fld) (k : Nat) (hk : k < l.length) (a : Nat) : Prop := ∀ i (h : i < o.length), a ≤ i → lessF l[k] o[i]
theorem SrtTo.zero (l : List Fld) : SrtTo l [] 0 := ⟨by simp, List.Pairwise.nil, fun h => absurd h (by omega)⟩
theorem SrtTo.insert {l o : List Fld} {k a : Nat} (h : SrtTo l o k) (hf : fieldsB l = true) (hk : k < l.length) (ha : a ≤ o.length) (hg : GtFrom l o k hk a)
    (hl : ∀ (h0 : 0 < a), Op.bytesLess l[k].name.toList (o[a - 1]'(by omega)).name.toList = false) : SrtTo l (o.take a ++ l[k] :: o.drop a) (k + 1) := by
  obtain ⟨hp, hs, -⟩ := h
  refine ⟨?_, ?_, fun _ => hf⟩
  · rw [List.take_succ_eq_append_getElem hk]
    refine List.perm_middle.trans (List.Perm.trans (List.Perm.cons _ ?_) (List.perm_append_singleton _ _).symm)
    rw [List.take_append_drop]; exact hp
  · rw [List.pairwise_append, List.pairwise_cons]
    have hlen := hp.length_eq
    have hmem : ∀ y ∈ o, y.name.toList ≠ l[k].name.toList := fun y hy e => by
      have hy2 := hp.subset hy
      obtain ⟨j, hj, rfl⟩ := List.mem_take_iff_getElem.1 hy2
      exact (goodB_iff.1 hf).2.2 j k (by omega) hk e
    have hlow : ∀ y ∈ o.take a, lessF y l[k] := fun y hy => by
      obtain ⟨j, hj, rfl⟩ := List.mem_take_iff_getElem.1 hy
      have h0 : 0 < a := by omega
      have hb := hl h0
      have h1 : lessF (o[a - 1]'(by omega)) l[k] := less_total (fun e => hmem _ (List.getElem_mem _) e.symm) hb
      by_cases e : j = a - 1
      · subst e; exact h1
      · exact less_trans (List.pairwise_iff_getElem.1 hs j (a - 1) (by omega) (by omega) (by omega)) h1
    have hhigh : ∀ y ∈ o.drop a, lessF l[k] y := fun y hy => by
      obtain ⟨j, hj, rfl⟩ := List.getElem_of_mem hy
      rw [List.length_drop] at hj
      rw [List.getElem_drop]
      exact hg _ (by omega) (by omega)
    refine ⟨hs.sublist (List.take_sublist _ _), ⟨hhigh, hs.sublist (List.drop_sublist _ _)⟩, fun x hx y hy => ?_⟩
    rcases List.mem_cons.1 hy with rfl | hy
    · exact hlow x hx
    · exact less_trans (hlow x hx) (hhigh y hy)
theorem SrtTo.all {l o : List Fld} (h : SrtTo l o l.length) : SortRel l o := by
  obtain ⟨hp, hs, hf⟩ := h
  rw [List.take_length] at hp
  rcases Nat.eq_zero_or_pos l.length with h0 | h0
  · obtain rfl := List.eq_nil_of_length_eq_zero h0
    exact .inl ⟨rfl, hp, hs⟩
  · exact .inl ⟨hf h0, hp, hs⟩

set_option maxHeartbeats 3200000 in
theorem s_SortFields (v : Value) (l : List Fld) (w : World) (h : Sl fldS w v l) (hs : ∀ y ∈ l, y.name.size ≤ 140737488355328) :
    Calls Tryd.prog 23 #[v] w (SortRet l w) := by
  have hm := h.len
  obtain ⟨i0, hi, hz0, hz1, hz2⟩ := info_parts Tryd.infoFld
  rcases Nat.eq_zero_or_pos l.length with h0 | h0
  · obtain rfl := List.eq_nil_of_length_eq_zero h0
    obtain ⟨A, cap, rfl, _⟩ := h
    have hO : Hid ((w.alloc (.cells #[] 41)).ownsRow w.heap.size 41 2 (.slice (some ⟨w.heap.size, 0, none⟩) 0 0) 0 (fldS.cells [])) := World.ownsRow_lit _ _ _ (Nat.le_refl _) (by simp [maxLen]) (by simp)
    clear h0 hm hs
    go_enter Tryd.func23, Tryd.ntmps23
    go_wp2_with fail
    go_loop [3, 4] (fun V i => i = .int .i64 0 ∧ V = .slice (some ⟨w.heap.size, 0, none⟩) 0 0) (fun _ _ => 0)
    case atStart => exact ⟨rfl, rfl⟩
    case round =>
      obtain ⟨rfl, rfl⟩ := hrel
      go_wp2_with fail
      go_ret
      exact SortRet.mk (SrtTo.zero []).all hO.out (below1 _ _)
  · obtain ⟨b, off, cap, rfl, hcap, hbs, hc⟩ := SlFld.open h h0
    go_enter Tryd.func23, Tryd.ntmps23
    go_wp2_with fail
    go_loopw [3, 4] (fun V i wr => ∃ (k : Nat) (A : Option Addr) (c : Nat) (o : List Fld), k ≤ l.length ∧ i = .int .i64 k ∧ V = .slice A o.length c ∧ wr.ownsRow w.heap.size 41 2 (.slice A o.length c) o.length (fldS.cells o) ∧ SrtTo l o k ∧ Below w.heap.size w wr) (fun _ i _ => l.length - (intOf i).toNat)
    case atStart => exact ⟨0, _, _, [], Nat.zero_le _, rfl, rfl, World.ownsRow_lit _ _ _ (Nat.le_refl _) (by simp [maxLen]) (by simp), SrtTo.zero l, below1 _ _⟩
    case round =>
      obtain ⟨wo, rfl⟩ : ∃ wo : World, wo = wr := ⟨_, rfl⟩
      obtain ⟨k, A, c, o, hk, rfl, rfl, hown, hT, hB⟩ := hrel
      by_cases hlt : k < l.length
      · have q2 : (0 : Int) ≤ (k : Int) := by omega
        have q3 : (k : Int) < (l.length : Int) := by omega
        have hol : o.length ≤ l.length := by have := hT.1.length_eq; rw [List.length_take] at this; omega
        cases hf : fieldsB l
        · have hk0 : k = 0 := by
            rcases Nat.eq_zero_or_pos k with h | h
            · exact h
            · rw [hT.2.2 h] at hf; cases hf
          have ho0 : o = [] := by
            have := hT.1.length_eq
            rw [hk0] at this
            exact List.eq_nil_of_length_eq_zero (by simpa using this)
          have HS : Hid (SortRel l o) := .inr ⟨hf, ho0⟩
          clear hk0 ho0 hT
          go_wp2_with fail
          refine (s_FieldsValid _ l _ (h.mono hB) hs).mono ?_
          rintro e w1 ⟨rfl, hb1⟩
          rw [hf]
          have hown1 := owns_below hown hb1
          go_wp2_with fail
          go_ret
          exact SortRet.mk HS.out hown1 (below_trans hB hb1)
        · have HF := Lib.hid hf
          have HT := Lib.hid hT
          have hl6 : l.length ≤ 6 := (goodB_iff.1 hf).1
          go_wp2_with fail
          refine (s_FieldsValid _ l _ (h.mono hB) hs).mono ?_
          rintro e w1 ⟨rfl, hb1⟩
          rw [hf]
          have hB1 := below_trans hB hb1
          have hown1 := owns_below hown hb1
          clear hown hB hb1 hf hT
          go_wp2_with fail
          go_loopw [5] (fun i wr => ∃ a : Nat, a ≤ o.length ∧ i = .int .i64 a ∧ GtFrom l o k hlt a ∧ wr.ownsRow w.heap.size 41 2 (.slice A o.length c) o.length (fldS.cells o) ∧ Below w.heap.size w wr) (fun i _ => (intOf i).toNat)
          case atStart => exact ⟨o.length, Nat.le_refl _, rfl, fun i hi ha => absurd hi (by omega), hown1, hB1⟩
          case round =>
            obtain ⟨a, ha, rfl, hG, hown2, hB2⟩ := hrel
            have d0 : wr.cell? ⟨b, off + k * 2, none⟩ = some (.string l[k].name) := (hB2.cell (p := ⟨b, off + k * 2, none⟩) hbs).trans (hc k hlt).1
            have d1 : wr.cell? ⟨b, off + k * 2 + 1, none⟩ = some (.int .i64 l[k].val) := (hB2.cell (p := ⟨b, off + k * 2 + 1, none⟩) hbs).trans (hc k hlt).2
            obtain ⟨a2, hA⟩ : ∃ a2, Hid (a2 = a - 1) := ⟨_, rfl⟩
            by_cases hgo : ∃ h0 : 0 < a, Op.bytesLess l[k].name.toList (o[a - 1]'(by omega)).name.toList = true
            · obtain ⟨a0, hless⟩ := hgo
              obtain ⟨g, cap', hv, hg1, hg2⟩ := hown2.form (by omega)
              injection hv with hv1 _ hv3
              subst hv1; subst hv3
              have p0 : wr.cell? ⟨g, (a - 1) * 2, none⟩ = some (.string (o[a - 1]'(by omega)).name) := by
                rw [hown2.cellAt _ (by omega)]; exact (fldS.cells_at o (a - 1) (by omega) 0 (by decide)).trans rfl
              have e1 : IntKind.i64.wrap ((a : Int) - 1) = (a : Int) - 1 := IntWalk.i64_in _ (by omega)
              have e2 : (0 : Int) ≤ (a : Int) - 1 := by omega
              have e3 : (a : Int) - 1 < (o.length : Int) := by omega
              have e4 : ((a : Int) - 1).toNat = a - 1 := by omega
              have e5 : decide ((0 : Int) < (a : Int)) = true := by simp; omega
              have e6 : decide (0 < a) = true := by simp; omega
              have e7 : (1 : Int) ≤ (a : Int) := by omega
              have e8 : (a : Int) < (o.length : Int) + 1 := by omega
              have HG2 : Hid (GtFrom l o k hlt (a - 1)) := fun i hi hai => by
                by_cases e : i = a - 1
                · subst e; exact hless
                · exact hG i hi (by omega)
              clear hG hc
              go_wp2_with fail
              go_quiet (fail)
              go_wp2_with fail
              go_roundw
              case rel => exact ⟨a - 1, by omega, by go_num, HG2.out, hown2, belowN hB2 _⟩
              case measure => simp [intOf]; omega
            · have HL : Hid (∀ (h0 : 0 < a), Op.bytesLess l[k].name.toList (o[a - 1]'(by omega)).name.toList = false) := fun h0 => by
                cases hb : Op.bytesLess l[k].name.toList (o[a - 1]'(by omega)).name.toList
                · rfl
                · exact absurd ⟨h0, hb⟩ hgo
              have hcc : o.length ≤ c ∧ c ≤ maxLen := by obtain ⟨_, _, e, h1, h2, _⟩ := Sl.of_owns (S := fldS) hown2; injection e with _ _ e; subst e; exact ⟨h1, h2⟩
              have HSrt : Hid (SrtTo l (o.take a ++ l[k] :: o.drop a) (k + 1)) := HT.out.insert HF.out hlt ha hG HL.out
              obtain ⟨hcc1, hcc2⟩ := hcc
              clear hG
              by_cases ha0 : a = 0
              · have g1 : decide ((0 : Int) < (a : Int)) = false := by simp; omega
                have g2 : decide (0 < a) = false := by simp; omega
                clear ha0 hgo hc
                go_wp2_with fail
                go_quiet (fail)
                go_wp2_with fail
                have hslo0 : Sl fldS wr (.slice A o.length c) o := Sl.of_owns hown2
                have hbW0 : b < wr.heap.size := Nat.lt_of_lt_of_le hbs hB2.size
                clear g1 g2
                obtain ⟨w2, hw2⟩ : ∃ w2, w2 = wr.drewN nq := ⟨_, rfl⟩
                have e0 : w2.cell? ⟨b, off + k * 2, none⟩ = some (.string l[k].name) := by rw [hw2]; exact d0
                have e1 : w2.cell? ⟨b, off + k * 2 + 1, none⟩ = some (.int .i64 l[k].val) := by rw [hw2]; exact d1
                have hB3 : Below w.heap.size w w2 := by rw [hw2]; exact belowN hB2 _
                have hslo : Sl fldS w2 (.slice A o.length c) o := by rw [hw2]; exact hslo0
                have hbW : b < w2.heap.size := by rw [hw2]; exact hbW0
                rw [← hw2]
                clear hw2 d0 d1 hown2 hB2 hslo0 hbW0
                have qa0 : (0 : Int) ≤ (a : Int) := by omega
                have qa1 : (a : Int) ≤ (o.length : Int) := by omega
                have qa2 : (o.length : Int) ≤ (c : Int) := by omega
                have qa3 : (a : Int) ≤ (c : Int) := by omega
                refine wp_region_typed_used 14 (fun i w v => KTy.T 41 fldS.sz w2.heap.size (([.nil0, .is (.slice A o.length c), .is (.int .i64 (a : Int)), .is (.slice A a c), .own ((0 + (o.take a).length)) (([] ++ fldS.cells (o.take a))), .is (.slice (some ⟨b, off, none⟩) l.length cap), .is (.int .i64 (k : Int)), .is (.pointer (some ⟨b, off + k * 2, none⟩)), .is (.agg #[.string l[k].name, .int .i64 l[k].val]), .one ((fldS.enc l[k]).toArray), .own (((0 + (o.take a).length) + ([l[k]]).length)) ((([] ++ fldS.cells (o.take a)) ++ fldS.cells ([l[k]]))), .is (.slice A o.length c), .is (.int .i64 (a : Int)), .is (.slice (if c = a then A else A.map (·.add (a * 2))) (o.length - a) (c - a))] : List KTy).getD i .any) w v) (fun i => ([4, 999, 999, 999, 10, 999, 999, 999, 999, 10, 999, 999, 999, 999] : List Nat).getD i 999) (fun w' => Below w2.heap.size w2 w') (RApp 41 4 10) (by kernel_rfl) 53 rfl (by decide) (by kernel_rfl) (by kernel_rfl) (by kernel_rfl) (by kernel_rfl) (Below.refl _ _).drew (tyApp (by kernel_rfl)) ?_ ?_
                · refine ⟨?_, ?_, ?_, ?_, ?_, ?_, ?_, ?_, ?_, ?_, ?_, ?_, ?_, ?_, trivial⟩
                  · intro a' w' hW hF
                    refine wpOp_step rfl (fun K hK => ?_)
                    go_simp
                    exact hK _ _ ⟨_, rfl, RApp.still (by decide) (World.grownBy_alloc _ _ _), ⟨w'.heap.size, rfl, hW.size, heap_alloc_new w' _⟩, hW.alloc hW.size _⟩
                  · intro a' w' hW hF
                    have h3 : a'.tmps[3]? = some (.slice A o.length c) := (hF.at 3 (by kernel_rfl)).trans rfl
                    refine wpOp_step rfl (fun K hK => ?_)
                    go_simp
                    exact hK _ _ ⟨_, rfl, RApp.still (by decide) (World.grownBy.refl _ _), rfl, hW⟩
                  · intro a' w' hW hF
                    have h5 : a'.tmps[5]? = some (.int .i64 (a : Int)) := (hF.at 5 (by kernel_rfl)).trans rfl
                    refine wpOp_step rfl (fun K hK => ?_)
                    go_simp
                    exact hK _ _ ⟨_, rfl, RApp.still (by decide) (World.grownBy.refl _ _), rfl, hW⟩
                  · intro a' w' hW hF
                    obtain ⟨_, h38, rfl⟩ := hF.val ⟨1, .data⟩ (by simp) rfl _ rfl
                    obtain ⟨_, h39, rfl⟩ := hF.val ⟨2, .data⟩ (by simp) rfl _ rfl
                    refine wpOp_step rfl (fun K hK => ?_)
                    go_simp
                    exact hK _ _ ⟨_, rfl, RApp.still (by decide) (World.grownBy.refl _ _), rfl, hW⟩
                  · intro a' w' hW hF
                    obtain ⟨_, h37, g37, rfl, hg37, hb37⟩ := hF.val ⟨0, .data⟩ (by simp) rfl _ rfl
                    obtain ⟨_, h40, rfl⟩ := hF.val ⟨3, .data⟩ (by simp) rfl _ rfl
                    refine wpOp_step rfl (fun K hK => ?_)
                    refine step_app_sl (S := fldS) rfl (.tmp 37) (.tmp 40) 23 rfl w2.heap.size 41 i0 (.agg #[.string ⟨#[]⟩, .int .i64 0]) 24 Tryd.underlying23 hi hz0 hz1 hz2 rfl _ (0) ([]) (getD_of h37) (nil0_own hg37 hb37) (o.take a) (by rw [show a'.eval (.tmp 40) = _ from getD_of h40]; exact Sl.take (hslo.mono hW) a ha) (by first | decide | (simp [maxLen]; omega)) (by first | decide | (simp; omega)) hW.size ?_
                    intro v' w'' hown hgrow hat
                    exact hK _ _ ⟨_, rfl, RApp.first hb37 hgrow, hown, hW.grown hgrow hW.size (fun j hj => by cases hj; exact hg37)⟩
                  · intro a' w' hW hF
                    have h0 : a'.tmps[0]? = some (.slice (some ⟨b, off, none⟩) l.length cap) := (hF.at 0 (by kernel_rfl)).trans rfl
                    refine wpOp_step rfl (fun K hK => ?_)
                    go_simp
                    exact hK _ _ ⟨_, rfl, RApp.still (by decide) (World.grownBy.refl _ _), rfl, hW⟩
                  · intro a' w' hW hF
                    have h4 : a'.tmps[4]? = some (.int .i64 (k : Int)) := (hF.at 4 (by kernel_rfl)).trans rfl
                    refine wpOp_step rfl (fun K hK => ?_)
                    go_simp
                    exact hK _ _ ⟨_, rfl, RApp.still (by decide) (World.grownBy.refl _ _), rfl, hW⟩
                  · intro a' w' hW hF
                    obtain ⟨_, h42, rfl⟩ := hF.val ⟨5, .data⟩ (by simp) rfl _ rfl
                    obtain ⟨_, h43, rfl⟩ := hF.val ⟨6, .data⟩ (by simp) rfl _ rfl
                    refine wpOp_step rfl (fun K hK => ?_)
                    go_simp
                    exact hK _ _ ⟨_, rfl, RApp.still (by decide) (World.grownBy.refl _ _), rfl, hW⟩
                  · intro a' w' hW hF
                    obtain ⟨_, h44, rfl⟩ := hF.val ⟨7, .data⟩ (by simp) rfl _ rfl
                    have c0 : w'.cell? ⟨b, off + k * 2, none⟩ = some (.string l[k].name) := (hW.cell (p := ⟨b, off + k * 2, none⟩) hbW).trans e0
                    have c1 : w'.cell? ⟨b, off + k * 2 + 1, none⟩ = some (.int .i64 l[k].val) := (hW.cell (p := ⟨b, off + k * 2 + 1, none⟩) hbW).trans e1
                    refine wpOp_step rfl (fun K hK => ?_)
                    go_simp
                    exact hK _ _ ⟨_, rfl, RApp.still (by decide) (World.grownBy.refl _ _), rfl, hW⟩
                  · intro a' w' hW hF
                    obtain ⟨_, h45, rfl⟩ := hF.val ⟨8, .data⟩ (by simp) rfl _ rfl
                    refine wpOp_step rfl (fun K hK => ?_)
                    go_simp
                    exact hK _ _ ⟨_, rfl, RApp.still (by decide) (World.grownBy_alloc _ _ _), ⟨w'.heap.size, rfl, by rw [List.size_toArray, fldS.len]; exact fldS.pos, heap_alloc_new w' _⟩, hW.alloc hW.size _⟩
                  · intro a' w' hW hF
                    obtain ⟨v41, h41, own41⟩ := hF.val ⟨4, .data⟩ (by simp) rfl _ rfl
                    obtain ⟨_, h46, g46, rfl, hc46, hb46⟩ := hF.val ⟨9, .data⟩ (by simp) rfl _ rfl
                    refine wpOp_step rfl (fun K hK => ?_)
                    refine step_app_sl (S := fldS) rfl (.tmp 41) (.tmp 46) 23 rfl w2.heap.size 41 i0 (.agg #[.string ⟨#[]⟩, .int .i64 0]) 24 Tryd.underlying23 hi hz0 hz1 hz2 rfl _ ((0 + (o.take a).length)) (([] ++ fldS.cells (o.take a))) (getD_of h41) own41 ([l[k]]) (by rw [show a'.eval (.tmp 46) = _ from getD_of h46]; exact one_sl (S := fldS) (x := l[k]) hb46) (by first | decide | (simp [maxLen]; omega)) (by first | decide | (simp; omega)) hW.size ?_
                    intro v' w'' hown hgrow hat
                    exact hK _ _ ⟨_, rfl, RApp.second (by decide), hown, hW.grown hgrow hW.size (fun j hj => (own41.lt j hj).1)⟩
                  · intro a' w' hW hF
                    have h3 : a'.tmps[3]? = some (.slice A o.length c) := (hF.at 3 (by kernel_rfl)).trans rfl
                    refine wpOp_step rfl (fun K hK => ?_)
                    go_simp
                    exact hK _ _ ⟨_, rfl, RApp.still (by decide) (World.grownBy.refl _ _), rfl, hW⟩
                  · intro a' w' hW hF
                    have h5 : a'.tmps[5]? = some (.int .i64 (a : Int)) := (hF.at 5 (by kernel_rfl)).trans rfl
                    refine wpOp_step rfl (fun K hK => ?_)
                    go_simp
                    exact hK _ _ ⟨_, rfl, RApp.still (by decide) (World.grownBy.refl _ _), rfl, hW⟩
                  · intro a' w' hW hF
                    obtain ⟨_, h48, rfl⟩ := hF.val ⟨11, .data⟩ (by simp) rfl _ rfl
                    obtain ⟨_, h49, rfl⟩ := hF.val ⟨12, .data⟩ (by simp) rfl _ rfl
                    refine wpOp_step rfl (fun K hK => ?_)
                    go_simp
                    exact hK _ _ ⟨_, rfl, RApp.still (by decide) (World.grownBy.refl _ _), rfl, hW⟩
                · intro a' w' hL hW
                  have hd := hL.defers
                  have hs := hL.size
                  obtain ⟨x37, h37⟩ := hL.some_at 37 (by show 37 < 53; decide)
                  obtain ⟨_, h38, rfl⟩ := hL.val 1 _ rfl (by decide)
                  obtain ⟨_, h39, rfl⟩ := hL.val 2 _ rfl (by decide)
                  obtain ⟨_, h40, rfl⟩ := hL.val 3 _ rfl (by decide)
                  obtain ⟨x41, h41⟩ := hL.some_at 41 (by show 41 < 53; decide)
                  obtain ⟨_, h42, rfl⟩ := hL.val 5 _ rfl (by decide)
                  obtain ⟨_, h43, rfl⟩ := hL.val 6 _ rfl (by decide)
                  obtain ⟨_, h44, rfl⟩ := hL.val 7 _ rfl (by decide)
                  obtain ⟨_, h45, rfl⟩ := hL.val 8 _ rfl (by decide)
                  obtain ⟨x46, h46⟩ := hL.some_at 46 (by show 46 < 53; decide)
                  obtain ⟨v47, h47, own47⟩ := hL.val 10 _ rfl (by decide)
                  obtain ⟨_, h48, rfl⟩ := hL.val 11 _ rfl (by decide)
                  obtain ⟨_, h49, rfl⟩ := hL.val 12 _ rfl (by decide)
                  obtain ⟨_, h50, rfl⟩ := hL.val 13 _ rfl (by decide)
                  have hlit := act_lit (l := [_, _, _, _, _, _, _, _, _, _, _, _, _, _, _, _, _, _, _, _, _, _, _, _, _, _, _, _, _, _, _, _, _, _, _, _, _, _, _, _, _, _, _, _, _, _, _, _, _, _, _, _, _]) (hd.trans rfl) (by rw [hs]; rfl) (AllAt.cons ((hL.at 0 (by kernel_rfl)).trans rfl) (AllAt.cons ((hL.at 1 (by kernel_rfl)).trans rfl) (AllAt.cons ((hL.at 2 (by kernel_rfl)).trans rfl) (AllAt.cons ((hL.at 3 (by kernel_rfl)).trans rfl) (AllAt.cons ((hL.at 4 (by kernel_rfl)).trans rfl) (AllAt.cons ((hL.at 5 (by kernel_rfl)).trans rfl) (AllAt.cons ((hL.at 6 (by kernel_rfl)).trans rfl) (AllAt.cons ((hL.at 7 (by kernel_rfl)).trans rfl) (AllAt.cons ((hL.at 8 (by kernel_rfl)).trans rfl) (AllAt.cons ((hL.at 9 (by kernel_rfl)).trans rfl) (AllAt.cons ((hL.at 10 (by kernel_rfl)).trans rfl) (AllAt.cons ((hL.at 11 (by kernel_rfl)).trans rfl) (AllAt.cons ((hL.at 12 (by kernel_rfl)).trans rfl) (AllAt.cons ((hL.at 13 (by kernel_rfl)).trans rfl) (AllAt.cons ((hL.at 14 (by kernel_rfl)).trans rfl) (AllAt.cons ((hL.at 15 (by kernel_rfl)).trans rfl) (AllAt.cons ((hL.at 16 (by kernel_rfl)).trans rfl) (AllAt.cons ((hL.at 17 (by kernel_rfl)).trans rfl) (AllAt.cons ((hL.at 18 (by kernel_rfl)).trans rfl) (AllAt.cons ((hL.at 19 (by kernel_rfl)).trans rfl) (AllAt.cons ((hL.at 20 (by kernel_rfl)).trans rfl) (AllAt.cons ((hL.at 21 (by kernel_rfl)).trans rfl) (AllAt.cons ((hL.at 22 (by kernel_rfl)).trans rfl) (AllAt.cons ((hL.at 23 (by kernel_rfl)).trans rfl) (AllAt.cons ((hL.at 24 (by kernel_rfl)).trans rfl) (AllAt.cons ((hL.at 25 (by kernel_rfl)).trans rfl) (AllAt.cons ((hL.at 26 (by kernel_rfl)).trans rfl) (AllAt.cons ((hL.at 27 (by kernel_rfl)).trans rfl) (AllAt.cons ((hL.at 28 (by kernel_rfl)).trans rfl) (AllAt.cons ((hL.at 29 (by kernel_rfl)).trans rfl) (AllAt.cons ((hL.at 30 (by kernel_rfl)).trans rfl) (AllAt.cons ((hL.at 31 (by kernel_rfl)).trans rfl) (AllAt.cons ((hL.at 32 (by kernel_rfl)).trans rfl) (AllAt.cons ((hL.at 33 (by kernel_rfl)).trans rfl) (AllAt.cons ((hL.at 34 (by kernel_rfl)).trans rfl) (AllAt.cons ((hL.at 35 (by kernel_rfl)).trans rfl) (AllAt.cons ((hL.at 36 (by kernel_rfl)).trans rfl) (AllAt.cons h37 (AllAt.cons h38 (AllAt.cons h39 (AllAt.cons h40 (AllAt.cons h41 (AllAt.cons h42 (AllAt.cons h43 (AllAt.cons h44 (AllAt.cons h45 (AllAt.cons h46 (AllAt.cons h47 (AllAt.cons h48 (AllAt.cons h49 (AllAt.cons h50 (AllAt.cons ((hL.at 51 (by kernel_rfl)).trans rfl) (AllAt.cons ((hL.at 52 (by kernel_rfl)).trans rfl) AllAt.nil)))))))))))))))))))))))))))))))))))))))))))))))))))))
                  clear hL hd hs h37 h38 h39 h40 h41 h42 h43 h44 h45 h46 h47 h48 h49 h50
                  subst hlit
                  show wpOps _ _ _ [14, 15] _ _
                  rw [wpOps_cons]
                  refine wpOp_step rfl (fun K hK => ?_)
                  refine step_app_sl (S := fldS) rfl (.tmp 47) (.tmp 50) 23 rfl w2.heap.size 41 i0 (.agg #[.string ⟨#[]⟩, .int .i64 0]) 24 Tryd.underlying23 hi hz0 hz1 hz2 rfl v47 _ _ rfl own47 (o.drop a) ((hslo.mono hW).drop a ha) (by simp [maxLen]; omega) (by simp; omega) hW.size ?_
                  intro v' w'' hown hgrow hat
                  have hB4 : Below w.heap.size w w'' := (hB3.trans (hW.mono hB3.size)).grown hgrow (Nat.le_trans hB3.size hW.size) (fun j hj => Nat.le_trans hB3.size (own47.lt j hj).1)
                  have hlen : 0 + (o.take a).length + [l[k]].length + (o.drop a).length = (o.take a ++ l[k] :: o.drop a).length := by simp; omega
                  have hcel : [] ++ fldS.cells (o.take a) ++ fldS.cells [l[k]] ++ fldS.cells (o.drop a) = fldS.cells (o.take a ++ l[k] :: o.drop a) := by
                    rw [List.nil_append, ← fldS.cells_append, ← fldS.cells_append, List.append_assoc]; rfl
                  rw [hlen, hcel] at hown
                  have hown' := owns_base hown hB3.size
                  clear hown hlen hcel hgrow hat own47 hW
                  generalize o.take a ++ l[k] :: o.drop a = o' at *
                  obtain ⟨A', c', hv'⟩ : ∃ A' c', v' = .slice A' o'.length c' := by
                    rcases hown'.2 with ⟨e, h0⟩ | ⟨g, cap, cur, e, _⟩
                    · exact ⟨none, 0, by rw [e, h0]⟩
                    · exact ⟨_, _, e⟩
                  subst hv'
                  refine hK _ _ ?_
                  rw [wpOps_cons]
                  refine wpOp_step rfl (fun K hK => ?_)
                  go_simp
                  refine hK _ _ ?_
                  simp only [wpOps]
                  go_wp2_with fail
                  go_roundw
                  case rel => exact ⟨k + 1, A', c', o', by omega, by go_num, rfl, hown', HSrt.out, hB4⟩
                  case measure => simp [intOf]; omega
              · have ha1 : 0 < a := by omega
                have hless : Op.bytesLess l[k].name.toList (o[a - 1]'(by omega)).name.toList = false := HL.out ha1
                obtain ⟨g, cap', hv, hg1, hg2⟩ := hown2.form (by omega)
                injection hv with hv1 _ hv3
                subst hv1; subst hv3
                have p0 : wr.cell? ⟨g, (a - 1) * 2, none⟩ = some (.string (o[a - 1]'(by omega)).name) := by
                  rw [hown2.cellAt _ (by omega)]; exact (fldS.cells_at o (a - 1) (by omega) 0 (by decide)).trans rfl
                have f1 : IntKind.i64.wrap ((a : Int) - 1) = (a : Int) - 1 := IntWalk.i64_in _ (by omega)
                have f2 : (0 : Int) ≤ (a : Int) - 1 := by omega
                have f3 : (a : Int) - 1 < (o.length : Int) := by omega
                have f4 : ((a : Int) - 1).toNat = a - 1 := by omega
                have f5 : decide ((0 : Int) < (a : Int)) = true := by simp; omega
                have f6 : decide (0 < a) = true := by simp; omega
                have f7 : (1 : Int) ≤ (a : Int) := by omega
                have f8 : (a : Int) < (o.length : Int) + 1 := by omega
                clear hgo hc ha0
                go_wp2_with fail
                go_quiet (fail)
                go_wp2_with fail
                obtain ⟨A, hAA⟩ : ∃ A : Option Addr, A = some ⟨g, 0, none⟩ := ⟨_, rfl⟩
                rw [← hAA] at hown2 ⊢
                clear hAA
                have hslo0 : Sl fldS wr (.slice A o.length c) o := Sl.of_owns hown2
                have hbW0 : b < wr.heap.size := Nat.lt_of_lt_of_le hbs hB2.size
                clear f1 f2 f3 f4 f5 f6 f7 f8 p0 hless
                obtain ⟨w2, hw2⟩ : ∃ w2, w2 = wr.drewN nq := ⟨_, rfl⟩
                have e0 : w2.cell? ⟨b, off + k * 2, none⟩ = some (.string l[k].name) := by rw [hw2]; exact d0
                have e1 : w2.cell? ⟨b, off + k * 2 + 1, none⟩ = some (.int .i64 l[k].val) := by rw [hw2]; exact d1
                have hB3 : Below w.heap.size w w2 := by rw [hw2]; exact belowN hB2 _
                have hslo : Sl fldS w2 (.slice A o.length c) o := by rw [hw2]; exact hslo0
                have hbW : b < w2.heap.size := by rw [hw2]; exact hbW0
                rw [← hw2]
                clear hw2 d0 d1 hown2 hB2 hslo0 hbW0
                have qa0 : (0 : Int) ≤ (a : Int) := by omega
                have qa1 : (a : Int) ≤ (o.length : Int) := by omega
                have qa2 : (o.length : Int) ≤ (c : Int) := by omega
                have qa3 : (a : Int) ≤ (c : Int) := by omega
                refine wp_region_typed_used 14 (fun i w v => KTy.T 41 fldS.sz w2.heap.size (([.nil0, .is (.slice A o.length c), .is (.int .i64 (a : Int)), .is (.slice A a c), .own ((0 + (o.take a).length)) (([] ++ fldS.cells (o.take a))), .is (.slice (some ⟨b, off, none⟩) l.length cap), .is (.int .i64 (k : Int)), .is (.pointer (some ⟨b, off + k * 2, none⟩)), .is (.agg #[.string l[k].name, .int .i64 l[k].val]), .one ((fldS.enc l[k]).toArray), .own (((0 + (o.take a).length) + ([l[k]]).length)) ((([] ++ fldS.cells (o.take a)) ++ fldS.cells ([l[k]]))), .is (.slice A o.length c), .is (.int .i64 (a : Int)), .is (.slice (if c = a then A else A.map (·.add (a * 2))) (o.length - a) (c - a))] : List KTy).getD i .any) w v) (fun i => ([4, 999, 999, 999, 10, 999, 999, 999, 999, 10, 999, 999, 999, 999] : List Nat).getD i 999) (fun w' => Below w2.heap.size w2 w') (RApp 41 4 10) (by kernel_rfl) 53 rfl (by decide) (by kernel_rfl) (by kernel_rfl) (by kernel_rfl) (by kernel_rfl) (Below.refl _ _).drew (tyApp (by kernel_rfl)) ?_ ?_
                · refine ⟨?_, ?_, ?_, ?_, ?_, ?_, ?_, ?_, ?_, ?_, ?_, ?_, ?_, ?_, trivial⟩
                  · intro a' w' hW hF
                    refine wpOp_step rfl (fun K hK => ?_)
                    go_simp
                    exact hK _ _ ⟨_, rfl, RApp.still (by decide) (World.grownBy_alloc _ _ _), ⟨w'.heap.size, rfl, hW.size, heap_alloc_new w' _⟩, hW.alloc hW.size _⟩
                  · intro a' w' hW hF
                    have h3 : a'.tmps[3]? = some (.slice A o.length c) := (hF.at 3 (by kernel_rfl)).trans rfl
                    refine wpOp_step rfl (fun K hK => ?_)
                    go_simp
                    exact hK _ _ ⟨_, rfl, RApp.still (by decide) (World.grownBy.refl _ _), rfl, hW⟩
                  · intro a' w' hW hF
                    have h5 : a'.tmps[5]? = some (.int .i64 (a : Int)) := (hF.at 5 (by kernel_rfl)).trans rfl
                    refine wpOp_step rfl (fun K hK => ?_)
                    go_simp
                    exact hK _ _ ⟨_, rfl, RApp.still (by decide) (World.grownBy.refl _ _), rfl, hW⟩
                  · intro a' w' hW hF
                    obtain ⟨_, h38, rfl⟩ := hF.val ⟨1, .data⟩ (by simp) rfl _ rfl
                    obtain ⟨_, h39, rfl⟩ := hF.val ⟨2, .data⟩ (by simp) rfl _ rfl
                    refine wpOp_step rfl (fun K hK => ?_)
                    go_simp
                    exact hK _ _ ⟨_, rfl, RApp.still (by decide) (World.grownBy.refl _ _), rfl, hW⟩
                  · intro a' w' hW hF
                    obtain ⟨_, h37, g37, rfl, hg37, hb37⟩ := hF.val ⟨0, .data⟩ (by simp) rfl _ rfl
                    obtain ⟨_, h40, rfl⟩ := hF.val ⟨3, .data⟩ (by simp) rfl _ rfl
                    refine wpOp_step rfl (fun K hK => ?_)
                    refine step_app_sl (S := fldS) rfl (.tmp 37) (.tmp 40) 23 rfl w2.heap.size 41 i0 (.agg #[.string ⟨#[]⟩, .int .i64 0]) 24 Tryd.underlying23 hi hz0 hz1 hz2 rfl _ (0) ([]) (getD_of h37) (nil0_own hg37 hb37) (o.take a) (by rw [show a'.eval (.tmp 40) = _ from getD_of h40]; exact Sl.take (hslo.mono hW) a ha) (by first | decide | (simp [maxLen]; omega)) (by first | decide | (simp; omega)) hW.size ?_
                    intro v' w'' hown hgrow hat
                    exact hK _ _ ⟨_, rfl, RApp.first hb37 hgrow, hown, hW.grown hgrow hW.size (fun j hj => by cases hj; exact hg37)⟩
                  · intro a' w' hW hF
                    have h0 : a'.tmps[0]? = some (.slice (some ⟨b, off, none⟩) l.length cap) := (hF.at 0 (by kernel_rfl)).trans rfl
                    refine wpOp_step rfl (fun K hK => ?_)
                    go_simp
                    exact hK _ _ ⟨_, rfl, RApp.still (by decide) (World.grownBy.refl _ _), rfl, hW⟩
                  · intro a' w' hW hF
                    have h4 : a'.tmps[4]? = some (.int .i64 (k : Int)) := (hF.at 4 (by kernel_rfl)).trans rfl
                    refine wpOp_step rfl (fun K hK => ?_)
                    go_simp
                    exact hK _ _ ⟨_, rfl, RApp.still (by decide) (World.grownBy.refl _ _), rfl, hW⟩
                  · intro a' w' hW hF
                    obtain ⟨_, h42, rfl⟩ := hF.val ⟨5, .data⟩ (by simp) rfl _ rfl
                    obtain ⟨_, h43, rfl⟩ := hF.val ⟨6, .data⟩ (by simp) rfl _ rfl
                    refine wpOp_step rfl (fun K hK => ?_)
                    go_simp
                    exact hK _ _ ⟨_, rfl, RApp.still (by decide) (World.grownBy.refl _ _), rfl, hW⟩
                  · intro a' w' hW hF
                    obtain ⟨_, h44, rfl⟩ := hF.val ⟨7, .data⟩ (by simp) rfl _ rfl
                    have c0 : w'.cell? ⟨b, off + k * 2, none⟩ = some (.string l[k].name) := (hW.cell (p := ⟨b, off + k * 2, none⟩) hbW).trans e0
                    have c1 : w'.cell? ⟨b, off + k * 2 + 1, none⟩ = some (.int .i64 l[k].val) := (hW.cell (p := ⟨b, off + k * 2 + 1, none⟩) hbW).trans e1
                    refine wpOp_step rfl (fun K hK => ?_)
                    go_simp
                    exact hK _ _ ⟨_, rfl, RApp.still (by decide) (World.grownBy.refl _ _), rfl, hW⟩
                  · intro a' w' hW hF
                    obtain ⟨_, h45, rfl⟩ := hF.val ⟨8, .data⟩ (by simp) rfl _ rfl
                    refine wpOp_step rfl (fun K hK => ?_)
                    go_simp
                    exact hK _ _ ⟨_, rfl, RApp.still (by decide) (World.grownBy_alloc _ _ _), ⟨w'.heap.size, rfl, by rw [List.size_toArray, fldS.len]; exact fldS.pos, heap_alloc_new w' _⟩, hW.alloc hW.size _⟩
                  · intro a' w' hW hF
                    obtain ⟨v41, h41, own41⟩ := hF.val ⟨4, .data⟩ (by simp) rfl _ rfl
                    obtain ⟨_, h46, g46, rfl, hc46, hb46⟩ := hF.val ⟨9, .data⟩ (by simp) rfl _ rfl
                    refine wpOp_step rfl (fun K hK => ?_)
                    refine step_app_sl (S := fldS) rfl (.tmp 41) (.tmp 46) 23 rfl w2.heap.size 41 i0 (.agg #[.string ⟨#[]⟩, .int .i64 0]) 24 Tryd.underlying23 hi hz0 hz1 hz2 rfl _ ((0 + (o.take a).length)) (([] ++ fldS.cells (o.take a))) (getD_of h41) own41 ([l[k]]) (by rw [show a'.eval (.tmp 46) = _ from getD_of h46]; exact one_sl (S := fldS) (x := l[k]) hb46) (by first | decide | (simp [maxLen]; omega)) (by first | decide | (simp; omega)) hW.size ?_
                    intro v' w'' hown hgrow hat
                    exact hK _ _ ⟨_, rfl, RApp.second (by decide), hown, hW.grown hgrow hW.size (fun j hj => (own41.lt j hj).1)⟩
                  · intro a' w' hW hF
                    have h3 : a'.tmps[3]? = some (.slice A o.length c) := (hF.at 3 (by kernel_rfl)).trans rfl
                    refine wpOp_step rfl (fun K hK => ?_)
                    go_simp
                    exact hK _ _ ⟨_, rfl, RApp.still (by decide) (World.grownBy.refl _ _), rfl, hW⟩
                  · intro a' w' hW hF
                    have h5 : a'.tmps[5]? = some (.int .i64 (a : Int)) := (hF.at 5 (by kernel_rfl)).trans rfl
                    refine wpOp_step rfl (fun K hK => ?_)
                    go_simp
                    exact hK _ _ ⟨_, rfl, RApp.still (by decide) (World.grownBy.refl _ _), rfl, hW⟩
                  · intro a' w' hW hF
                    obtain ⟨_, h48, rfl⟩ := hF.val ⟨11, .data⟩ (by simp) rfl _ rfl
                    obtain ⟨_, h49, rfl⟩ := hF.val ⟨12, .data⟩ (by simp) rfl _ rfl
                    refine wpOp_step rfl (fun K hK => ?_)
                    go_simp
                    exact hK _ _ ⟨_, rfl, RApp.still (by decide) (World.grownBy.refl _ _), rfl, hW⟩
                · intro a' w' hL hW
                  have hd := hL.defers
                  have hs := hL.size
                  obtain ⟨x37, h37⟩ := hL.some_at 37 (by show 37 < 53; decide)
                  obtain ⟨_, h38, rfl⟩ := hL.val 1 _ rfl (by decide)
                  obtain ⟨_, h39, rfl⟩ := hL.val 2 _ rfl (by decide)
                  obtain ⟨_, h40, rfl⟩ := hL.val 3 _ rfl (by decide)
                  obtain ⟨x41, h41⟩ := hL.some_at 41 (by show 41 < 53; decide)
                  obtain ⟨_, h42, rfl⟩ := hL.val 5 _ rfl (by decide)
                  obtain ⟨_, h43, rfl⟩ := hL.val 6 _ rfl (by decide)
                  obtain ⟨_, h44, rfl⟩ := hL.val 7 _ rfl (by decide)
                  obtain ⟨_, h45, rfl⟩ := hL.val 8 _ rfl (by decide)
                  obtain ⟨x46, h46⟩ := hL.some_at 46 (by show 46 < 53; decide)
                  obtain ⟨v47, h47, own47⟩ := hL.val 10 _ rfl (by decide)
                  obtain ⟨_, h48, rfl⟩ := hL.val 11 _ rfl (by decide)
                  obtain ⟨_, h49, rfl⟩ := hL.val 12 _ rfl (by decide)
                  obtain ⟨_, h50, rfl⟩ := hL.val 13 _ rfl (by decide)
                  have hlit := act_lit (l := [_, _, _, _, _, _, _, _, _, _, _, _, _, _, _, _, _, _, _, _, _, _, _, _, _, _, _, _, _, _, _, _, _, _, _, _, _, _, _, _, _, _, _, _, _, _, _, _, _, _, _, _, _]) (hd.trans rfl) (by rw [hs]; rfl) (AllAt.cons ((hL.at 0 (by kernel_rfl)).trans rfl) (AllAt.cons ((hL.at 1 (by kernel_rfl)).trans rfl) (AllAt.cons ((hL.at 2 (by kernel_rfl)).trans rfl) (AllAt.cons ((hL.at 3 (by kernel_rfl)).trans rfl) (AllAt.cons ((hL.at 4 (by kernel_rfl)).trans rfl) (AllAt.cons ((hL.at 5 (by kernel_rfl)).trans rfl) (AllAt.cons ((hL.at 6 (by kernel_rfl)).trans rfl) (AllAt.cons ((hL.at 7 (by kernel_rfl)).trans rfl) (AllAt.cons ((hL.at 8 (by kernel_rfl)).trans rfl) (AllAt.cons ((hL.at 9 (by kernel_rfl)).trans rfl) (AllAt.cons ((hL.at 10 (by kernel_rfl)).trans rfl) (AllAt.cons ((hL.at 11 (by kernel_rfl)).trans rfl) (AllAt.cons ((hL.at 12 (by kernel_rfl)).trans rfl) (AllAt.cons ((hL.at 13 (by kernel_rfl)).trans rfl) (AllAt.cons ((hL.at 14 (by kernel_rfl)).trans rfl) (AllAt.cons ((hL.at 15 (by kernel_rfl)).trans rfl) (AllAt.cons ((hL.at 16 (by kernel_rfl)).trans rfl) (AllAt.cons ((hL.at 17 (by kernel_rfl)).trans rfl) (AllAt.cons ((hL.at 18 (by kernel_rfl)).trans rfl) (AllAt.cons ((hL.at 19 (by kernel_rfl)).trans rfl) (AllAt.cons ((hL.at 20 (by kernel_rfl)).trans rfl) (AllAt.cons ((hL.at 21 (by kernel_rfl)).trans rfl) (AllAt.cons ((hL.at 22 (by kernel_rfl)).trans rfl) (AllAt.cons ((hL.at 23 (by kernel_rfl)).trans rfl) (AllAt.cons ((hL.at 24 (by kernel_rfl)).trans rfl) (AllAt.cons ((hL.at 25 (by kernel_rfl)).trans rfl) (AllAt.cons ((hL.at 26 (by kernel_rfl)).trans rfl) (AllAt.cons ((hL.at 27 (by kernel_rfl)).trans rfl) (AllAt.cons ((hL.at 28 (by kernel_rfl)).trans rfl) (AllAt.cons ((hL.at 29 (by kernel_rfl)).trans rfl) (AllAt.cons ((hL.at 30 (by kernel_rfl)).trans rfl) (AllAt.cons ((hL.at 31 (by kernel_rfl)).trans rfl) (AllAt.cons ((hL.at 32 (by kernel_rfl)).trans rfl) (AllAt.cons ((hL.at 33 (by kernel_rfl)).trans rfl) (AllAt.cons ((hL.at 34 (by kernel_rfl)).trans rfl) (AllAt.cons ((hL.at 35 (by kernel_rfl)).trans rfl) (AllAt.cons ((hL.at 36 (by kernel_rfl)).trans rfl) (AllAt.cons h37 (AllAt.cons h38 (AllAt.cons h39 (AllAt.cons h40 (AllAt.cons h41 (AllAt.cons h42 (AllAt.cons h43 (AllAt.cons h44 (AllAt.cons h45 (AllAt.cons h46 (AllAt.cons h47 (AllAt.cons h48 (AllAt.cons h49 (AllAt.cons h50 (AllAt.cons ((hL.at 51 (by kernel_rfl)).trans rfl) (AllAt.cons ((hL.at 52 (by kernel_rfl)).trans rfl) AllAt.nil)))))))))))))))))))))))))))))))))))))))))))))))))))))
                  clear hL hd hs h37 h38 h39 h40 h41 h42 h43 h44 h45 h46 h47 h48 h49 h50
                  subst hlit
                  show wpOps _ _ _ [14, 15] _ _
                  rw [wpOps_cons]
                  refine wpOp_step rfl (fun K hK => ?_)
                  refine step_app_sl (S := fldS) rfl (.tmp 47) (.tmp 50) 23 rfl w2.heap.size 41 i0 (.agg #[.string ⟨#[]⟩, .int .i64 0]) 24 Tryd.underlying23 hi hz0 hz1 hz2 rfl v47 _ _ rfl own47 (o.drop a) ((hslo.mono hW).drop a ha) (by simp [maxLen]; omega) (by simp; omega) hW.size ?_
                  intro v' w'' hown hgrow hat
                  have hB4 : Below w.heap.size w w'' := (hB3.trans (hW.mono hB3.size)).grown hgrow (Nat.le_trans hB3.size hW.size) (fun j hj => Nat.le_trans hB3.size (own47.lt j hj).1)
                  have hlen : 0 + (o.take a).length + [l[k]].length + (o.drop a).length = (o.take a ++ l[k] :: o.drop a).length := by simp; omega
                  have hcel : [] ++ fldS.cells (o.take a) ++ fldS.cells [l[k]] ++ fldS.cells (o.drop a) = fldS.cells (o.take a ++ l[k] :: o.drop a) := by
                    rw [List.nil_append, ← fldS.cells_append, ← fldS.cells_append, List.append_assoc]; rfl
                  rw [hlen, hcel] at hown
                  have hown' := owns_base hown hB3.size
                  clear hown hlen hcel hgrow hat own47 hW
                  generalize o.take a ++ l[k] :: o.drop a = o' at *
                  obtain ⟨A', c', hv'⟩ : ∃ A' c', v' = .slice A' o'.length c' := by
                    rcases hown'.2 with ⟨e, h0⟩ | ⟨g, cap, cur, e, _⟩
                    · exact ⟨none, 0, by rw [e, h0]⟩
                    · exact ⟨_, _, e⟩
                  subst hv'
                  refine hK _ _ ?_
                  rw [wpOps_cons]
                  refine wpOp_step rfl (fun K hK => ?_)
                  go_simp
                  refine hK _ _ ?_
                  simp only [wpOps]
                  go_wp2_with fail
                  go_roundw
                  case rel => exact ⟨k + 1, A', c', o', by omega, by go_num, rfl, hown', HSrt.out, hB4⟩
                  case measure => simp [intOf]; omega
      · have HS : Hid (SortRel l o) := by
          obtain rfl : k = l.length := by omega
          exact hT.all
        clear hT hc
        go_wp2_with fail
        go_ret
        exact SortRet.mk HS.out hown hB
end Go.Proofs.YtemjonibpachbaaDoor
