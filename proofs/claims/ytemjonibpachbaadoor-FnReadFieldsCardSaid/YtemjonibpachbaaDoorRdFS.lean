/- The walk of the reference's ReadFields. Condition: the text is no longer than a machine holds. -/
import Derived.Test.YtemjonibpachbaaDoorRdFI
import Derived.Test.YtemjonibpachbaaDoorChain
namespace Go.Proofs.YtemjonibpachbaaDoor
open Go.RowKit

/-- The reader stands ahead of part k. -/
def AtP (l : List UInt8) (P : List (List UInt8)) (k at_ : Nat) : Prop := (at_ = l.length + 1 ∧ k = P.length) ∨ (at_ ≤ l.length ∧ k < P.length ∧ l.drop at_ = Lib.join (P.drop k) [59])
theorem AtP.zero (l : List UInt8) : AtP l (parts 59 l) 0 0 := .inr ⟨Nat.zero_le _, by have := parts_ne 59 l; exact List.length_pos_iff.2 this, by rw [List.drop_zero, List.drop_zero, join_parts]⟩
theorem AtP.open {l : List UInt8} {P : List (List UInt8)} {k a : Nat} (h : AtP l P k a) (hlt : a < l.length) : ∃ hk : k < P.length,
    (∀ j, j < P[k].length → l.getD (a + j) 0 = P[k].getD j 0) ∧ a + P[k].length ≤ l.length ∧ (a + P[k].length < l.length → l.getD (a + P[k].length) 0 = 59) ∧
    (l.drop a).take P[k].length = P[k] ∧ AtP l P (k + 1) (a + P[k].length + 1) := by
  rcases h with ⟨h, _⟩ | ⟨h1, hk, h2⟩
  · omega
  · refine ⟨hk, ?_⟩
    rw [List.drop_eq_getElem_cons hk] at h2
    by_cases hl : k + 1 < P.length
    · have e : l.drop a = P[k] ++ (59 :: Lib.join (P.drop (k + 1)) [59]) := by
        rw [h2, List.drop_eq_getElem_cons hl, join_two]; rfl
      have hlen : a + P[k].length + 1 + (Lib.join (P.drop (k + 1)) [59]).length = l.length := by
        have := congrArg List.length e
        simp only [List.length_drop, List.length_append, List.length_cons] at this
        omega
      have hat : ∀ j, l.getD (a + j) 0 = (l.drop a).getD j 0 := fun j => by simp [List.getD]
      refine ⟨fun j hj => ?_, by omega, fun _ => ?_, by rw [e]; simp, .inr ⟨by omega, hl, ?_⟩⟩
      · rw [hat, e]; simp [List.getD, List.getElem?_append_left hj]
      · rw [hat, e]; simp [List.getD]
      · rw [show a + P[k].length + 1 = a + (P[k].length + 1) by omega, ← List.drop_drop, e]
        simp
    · have e : l.drop a = P[k] := by
        rw [h2, List.drop_eq_nil_of_le (by omega), Lib.join_one]
      have hlen : a + P[k].length = l.length := by
        have := congrArg List.length e
        simp only [List.length_drop] at this
        omega
      have hat : ∀ j, l.getD (a + j) 0 = (l.drop a).getD j 0 := fun j => by simp [List.getD]
      refine ⟨fun j _ => ?_, by omega, fun h => by omega, by rw [e]; simp, .inl ⟨by omega, by omega⟩⟩
      rw [hat, e]
theorem fields_perm {o x : List Fld} (h : fieldsB o = true) (hp : x.Perm o) : fieldsB x = true := by
  have hg := goodB_iff.1 h
  have hd : x.Pairwise fun a b => a.name.toList ≠ b.name.toList := (hp.pairwise_iff (fun h e => h e.symm)).2 (fields_apart h)
  refine goodB_iff.2 ⟨by rw [hp.length_eq]; exact hg.1, fun k hk => ?_, fun j k hj hk => ?_⟩
  · obtain ⟨j, hj, e⟩ := List.getElem_of_mem (hp.subset (List.getElem_mem hk))
    have h2 := hg.2.1 j hj
    simp only [okBy] at h2 ⊢
    simp [hk, ← e]
    simpa [hj] using h2
  · exact List.pairwise_iff_getElem.1 hd j k (by omega) hk hj
theorem rd_fin {s : ByteArray} {o x : List Fld} {k : Nat} (hr : RdTo (parts 59 s.data.toList) o k) (hk : k ≤ (parts 59 s.data.toList).length) (hv : fieldsB o = true) (hx : SortRel o x) (ht : fieldsT x = s) : TxtOf s o := by
  rcases hx with ⟨_, hp, hs⟩ | ⟨h, _⟩
  · have hT : TxtOf s x := ⟨fields_perm hv hp, hs, by rw [← ht]; rfl⟩
    by_cases e : x = []
    · subst e
      obtain rfl := List.nil_perm.1 hp
      exact hT
    · have h1 := rd_same hr (txt_parts hT e) (fun j hj => txt_at hT hj) hk
      have hl := hp.length_eq
      have h2 : o = x := by
        rw [h1, List.take_of_length_le]
        rw [h1, List.length_take] at hl; omega
      rw [h2]; exact hT
  · rw [hv] at h; cases h
theorem rd_fail {s : ByteArray} {o x : List Fld} {k a : Nat} (hr : RdTo (parts 59 s.data.toList) o k) (hA : AtP s.data.toList (parts 59 s.data.toList) k a) (ha : s.data.toList.length ≤ a) (hx : SortRel o x) (hn : fieldsB o = true → fieldsT x ≠ s) : ∀ y, ¬ TxtOf s y := fun y hy => by
  have done : o = y → False := fun e => by
    subst e
    refine hn hy.1 ?_
    have := hx.eq (.inl ⟨hy.1, List.Perm.refl _, hy.2.1⟩)
    rw [this]
    exact (fields_done hy.2.2.symm).symm
  by_cases e : y = []
  · subst e
    have hs : s.data.toList = [] := List.eq_nil_of_length_eq_zero (by rw [size_len]; exact txt_nil hy)
    refine done ?_
    rcases Nat.eq_zero_or_pos k with hk | hk
    · exact List.eq_nil_of_length_eq_zero (by rw [hr.1, hk])
    · obtain ⟨m, e2, _, _⟩ := hr.2 0 (by rw [hs]; simp [parts]) (by rw [hr.1]; exact hk)
      simp only [hs, parts, List.getElem_cons_zero] at e2
      exact absurd e2 (by simp)
  · have ep := txt_parts hy e
    have hk : k ≤ (parts 59 s.data.toList).length := by rcases hA with ⟨_, h⟩ | ⟨_, h, _⟩ <;> omega
    have h1 := rd_same hr ep (fun j hj => txt_at hy hj) hk
    rcases hA with ⟨_, h⟩ | ⟨_, h, h2⟩
    · rw [ep, List.length_map] at h
      exact done (by rw [h1, h, List.take_length])
    · rw [List.drop_eq_nil_of_le ha, List.drop_eq_getElem_cons h, Lib.join_cons] at h2
      have h3 : (parts 59 s.data.toList)[k] = [] := (List.append_eq_nil_iff.1 h2.symm).1
      have hk2 : k < y.length := by rw [ep, List.length_map] at h; exact h
      have e2 : (parts 59 s.data.toList)[k] = partL y[k] := by simp only [ep, List.getElem_map]
      obtain ⟨m, e3, _, _⟩ := txt_at hy hk2
      rw [h3] at e2
      rw [← e2] at e3
      exact absurd e3 (by simp)
theorem ext_part (s : ByteArray) (a b : Nat) : (s.extract a b).data.toList = (s.data.toList.drop a).take (b - a) := by
  rw [ByteArray.data_extract, Array.toList_extract]
theorem part_of {s : ByteArray} {p : List UInt8} {a i sg en : Nat} {v : Int} (h : (s.data.toList.drop a).take p.length = p) (hi : i < p.length) (h1 : p.getD i 0 = 61) (h2 : ∀ j, j < i → p.getD j 0 ≠ 61)
    (hsg : sg = a + i) (hen : en = a + p.length) (hv : MarkIs (s.extract (sg + 1) en).data.toList v) : PartIs p ⟨s.extract a sg, v⟩ := by
  have e1 : (s.extract a sg).data.toList = p.take i := by
    rw [ext_part, hsg, show a + i - a = i by omega]
    conv => rhs; rw [← h]
    rw [List.take_take, Nat.min_eq_left (by omega)]
  have e2 : (s.extract (sg + 1) en).data.toList = p.drop (i + 1) := by
    rw [ext_part, hsg, hen, show a + i + 1 = a + (i + 1) by omega, show a + p.length - (a + (i + 1)) = p.length - (i + 1) by omega]
    conv => rhs; rw [← h]
    rw [List.drop_take, List.drop_drop]
  exact ⟨_, by show p = (s.extract a sg).data.toList ++ _; rw [e1, e2]; exact cut_first hi h1, by show _ ∉ (s.extract a sg).data.toList; rw [e1]; exact mem_take_first h2, hv⟩

set_option maxRecDepth 100000 in
set_option maxHeartbeats 6400000 in
theorem s_ReadFields (s : ByteArray) (w : World) (hs : s.size < 4294967281) : Calls Tryd.prog 15 #[.string s] w (RdRet s w) := by
  obtain ⟨i0, hi, hz0, hz1, hz2⟩ := info_parts Tryd.infoFld
  have hO : Hid ((w.alloc (.cells #[] 41)).ownsRow w.heap.size 41 2 (.slice (some ⟨w.heap.size, 0, none⟩) 0 0) 0 (fldS.cells [])) := World.ownsRow_lit _ _ _ (Nat.le_refl _) (by simp [maxLen]) (by simp)
  go_enter Tryd.func15, Tryd.ntmps15
  go_wp2_with fail
  go_loopw [4, 5] (fun R I wr => ∃ (k a : Nat) (A : Option Addr) (c : Nat) (o : List Fld), a ≤ s.size + 1 ∧ I = .int .i64 a ∧ R = .slice A o.length c ∧ wr.ownsRow w.heap.size 41 2 (.slice A o.length c) o.length (fldS.cells o) ∧ RdTo (parts 59 s.data.toList) o k ∧ AtP s.data.toList (parts 59 s.data.toList) k a ∧ (∀ y ∈ o, y.name.size ≤ 140737488355328) ∧ Below w.heap.size w wr) (fun _ I _ => s.size + 1 - (intOf I).toNat)
  case atStart => exact ⟨0, 0, _, _, [], Nat.zero_le _, rfl, rfl, hO.out, RdTo.zero _, AtP.zero _, fun y hy => (by cases hy), below1 _ _⟩
  case round =>
    obtain ⟨wo, rfl⟩ : ∃ wo : World, wo = wr := ⟨_, rfl⟩
    obtain ⟨k, a, A, c, o, ha, rfl, rfl, hown, hR, hAt, hN, hB⟩ := hrel
    have hln := size_len s
    have hpc := parts_count 59 s.data.toList
    have hok : o.length ≤ 4294967281 := by
      have := hR.1
      rcases hAt with ⟨_, h⟩ | ⟨_, h, _⟩ <;> omega
    by_cases hlt : a < s.size
    · obtain ⟨hk, f1, f2, f3, f4, f5⟩ := hAt.open (by omega)
      obtain ⟨p, hp⟩ : ∃ p, Hid (p = (parts 59 s.data.toList)[k]) := ⟨_, Lib.hid rfl⟩
      rw [← hp.out] at f1 f2 f3 f4 f5
      have hfree : ∀ j, j < p.length → s.data.toList.getD (a + j) 0 ≠ 59 := fun j hj e => by
        have h1 := parts_free 59 s.data.toList _ (List.getElem_mem hk)
        rw [← hp.out] at h1
        rw [f1 j hj, getD_lt hj] at e
        exact h1 (e ▸ List.getElem_mem hj)
      obtain ⟨en, hen⟩ : ∃ en, Hid (en = a + p.length) := ⟨_, Lib.hid rfl⟩
      have g1 : en ≤ s.size := by rw [hen.out]; omega
      have g2 : a ≤ en := by rw [hen.out]; omega
      have g3 : ∀ (h : en < s.size), s[en].toNat = 59 := fun h => by
        have := f3 (by rw [← hen.out]; omega)
        rw [← hen.out, sget h] at this
        rw [this]; rfl
      have g4 : ∀ j (_ : a ≤ j) (h1 : j < en) (h2 : j < s.size), s[j].toNat ≠ 59 := fun j h0 h1 h2 e => by
        have := hfree (j - a) (by rw [hen.out] at h1; omega)
        rw [show a + (j - a) = j by omega, sget h2] at this
        exact this (by rw [← UInt8.toNat_inj]; exact e)
      clear hfree hln hpc
      have q0 : (0 : Int) ≤ (a : Int) := by omega
      have q1 : (a : Int) < (s.size : Int) := by omega
      have HAll := Lib.hid (show (∀ j, j < p.length → s.data.toList.getD (a + j) 0 = p.getD j 0) ∧ (s.data.toList.drop a).take p.length = p ∧ AtP s.data.toList (parts 59 s.data.toList) (k + 1) (en + 1) ∧ RdTo (parts 59 s.data.toList) o k ∧ k < (parts 59 s.data.toList).length from ⟨f1, f4, by rw [hen.out]; exact f5, hR, hk⟩)
      clear f1 f2 f3 f4 f5 hR hAt
      go_wp2_with fail
      go_loop [6] (fun E => ∃ j : Nat, a ≤ j ∧ j ≤ en ∧ E = .int .i64 j) (fun E => en - (intOf E).toNat)
      case atStart => exact ⟨a, Nat.le_refl _, g2, rfl⟩
      case round =>
        obtain ⟨j, ja, je, rfl⟩ := hrel
        by_cases hj : j < en
        · have j1 : (j : Int) < (s.size : Int) := by omega
          have j2 : j < s.size := by omega
          have j3 := g4 j ja hj j2
          have j4 : (0 : Int) ≤ (j : Int) := by omega
          go_wp2
          all_goals first | (exfalso; simp at *; omega) | skip
          go_round
          case rel => exact ⟨j + 1, by omega, by omega, by go_num⟩
          case measure => simp [intOf]; omega
        · have hje : en = j := by omega
          subst hje
          by_cases he : en < s.size
          · have e1 : (en : Int) < (s.size : Int) := by omega
            have e2 := g3 he
            have e3 : (0 : Int) ≤ (en : Int) := by omega
            rcases first_of p 61 with ⟨_, hno⟩ | ⟨i, _, i1, i2, i3⟩
            · have n4 : ∀ j (_ : a ≤ j) (h1 : j < en) (h2 : j < s.size), s[j].toNat ≠ 61 := fun j h0 h1 h2 e => by
                rw [hen.out] at h1
                have h3 := HAll.out.1 (j - a) (by omega)
                rw [show a + (j - a) = j by omega, sget h2, getD_lt (by omega)] at h3
                exact hno (by rw [show (61 : UInt8) = s[j] from by rw [← UInt8.toNat_inj]; exact e.symm, h3]; exact List.getElem_mem _)
              have HN : Hid (∀ x, ¬ TxtOf s x) := no_sign (by omega) HAll.out.2.2.2.2 (by rw [← hp.out]; exact hno)
              clear hno
              go_wp2_with fail
              go_loop [7] (fun E => ∃ j : Nat, a ≤ j ∧ j ≤ en ∧ E = .int .i64 j) (fun E => en - (intOf E).toNat)
              case atStart => exact ⟨a, Nat.le_refl _, g2, rfl⟩
              case round =>
                obtain ⟨j, ja, je, rfl⟩ := hrel
                by_cases hj : j < en
                · have j0 : (j : Int) < (en : Int) := by omega
                  have j1 : (j : Int) < (s.size : Int) := by omega
                  have j2 : j < s.size := by omega
                  have j3 := n4 j ja hj j2
                  have j4 : (0 : Int) ≤ (j : Int) := by omega
                  go_wp2
                  all_goals first | (exfalso; simp at *; omega) | skip
                  go_round
                  case rel => exact ⟨j + 1, by omega, by omega, by go_num⟩
                  case measure => simp [intOf]; omega
                · have hje : en = j := by omega
                  subst hje
                  have HO2 : Hid ((wo.alloc (.cells #[] 41)).ownsRow wo.heap.size 41 2 (.slice (some ⟨wo.heap.size, 0, none⟩) 0 0) 0 (fldS.cells [])) := World.ownsRow_lit _ _ _ (Nat.le_refl _) (by simp [maxLen]) (by simp)
                  clear hown
                  go_wp2_with fail
                  exact bodyPost_ret (v := .tuple #[.slice (some ⟨wo.heap.size, 0, none⟩) 0 0, .bool false]) (by simp [results, Tryd.results15, go_sem]) rfl ⟨_, [], false, rfl, .inr ⟨rfl, rfl, HN.out⟩, owns_base HO2.out hB.size, below_trans hB (below1 _ _)⟩
            · obtain ⟨sg, hsg⟩ : ∃ sg, Hid (sg = a + i) := ⟨_, Lib.hid rfl⟩
              have k1 : a ≤ sg := by rw [hsg.out]; omega
              have k2 : sg < en := by rw [hsg.out, hen.out]; omega
              have k3 : ∀ (h : sg < s.size), s[sg].toNat = 61 := fun h => by
                have h3 := HAll.out.1 i i1
                rw [← hsg.out, sget h, i2] at h3
                rw [h3]; rfl
              have n4 : ∀ j (_ : a ≤ j) (h1 : j < sg) (h2 : j < s.size), s[j].toNat ≠ 61 := fun j h0 h1 h2 e => by
                rw [hsg.out] at h1
                have h3 := HAll.out.1 (j - a) (by omega)
                rw [show a + (j - a) = j by omega, sget h2] at h3
                exact i3 (j - a) (by omega) (by rw [← h3, ← UInt8.toNat_inj]; exact e)
              have HS := Lib.hid (show i < p.length ∧ p.getD i 0 = 61 ∧ ∀ j, j < i → p.getD j 0 ≠ 61 from ⟨i1, i2, i3⟩)
              clear i1 i2 i3
              go_wp2_with fail
              go_loop [7] (fun E => ∃ j : Nat, a ≤ j ∧ j ≤ sg ∧ E = .int .i64 j) (fun E => sg - (intOf E).toNat)
              case atStart => exact ⟨a, Nat.le_refl _, k1, rfl⟩
              case round =>
                obtain ⟨j, ja, je, rfl⟩ := hrel
                by_cases hj : j < sg
                · have j0 : (j : Int) < (en : Int) := by omega
                  have j1 : (j : Int) < (s.size : Int) := by omega
                  have j2 : j < s.size := by omega
                  have j3 := n4 j ja hj j2
                  have j4 : (0 : Int) ≤ (j : Int) := by omega
                  go_wp2
                  all_goals first | (exfalso; simp at *; omega) | skip
                  go_round
                  case rel => exact ⟨j + 1, by omega, by omega, by go_num⟩
                  case measure => simp [intOf]; omega
                · have hje : sg = j := by omega
                  subst hje
                  have j0 : (sg : Int) < (en : Int) := by omega
                  have j1 : (sg : Int) < (s.size : Int) := by omega
                  have j2 : sg < s.size := by omega
                  have j3 := k3 j2
                  have j4 : (0 : Int) ≤ (sg : Int) := by omega
                  have j5 : ((sg : Int) == (en : Int)) = false := by rw [beq_eq_false_iff_ne]; omega
                  have j6 : (sg == en) = false := by rw [beq_eq_false_iff_ne]; omega
                  go_wp2
                  obtain ⟨vm, hv⟩ := markIs_ex (s.extract (sg + 1) en).data.toList
                  have HP := Lib.hid (part_of HAll.out.2.1 HS.out.1 HS.out.2.1 HS.out.2.2 hsg.out hen.out hv)
                  have b1 : (a : Int) ≤ (sg : Int) := by omega
                  have b2 : (sg : Int) ≤ (s.size : Int) := by omega
                  have b3 : (sg : Int) + 1 ≤ (en : Int) := by omega
                  have b4 : (en : Int) ≤ (s.size : Int) := by omega
                  have b5 : (0 : Int) ≤ (sg : Int) + 1 := by omega
                  have b6 : IntKind.i64.wrap ((sg : Int) + 1) = (sg : Int) + 1 := IntWalk.i64_in _ (by omega)
                  have z1 : (s.extract a sg).size ≤ 140737488355328 := by simp [ByteArray.size_extract]; omega
                  have z2 : (s.extract (sg + 1) en).size ≤ 140737488355328 := by simp [ByteArray.size_extract]; omega
                  refine wp_region_typed_used 13 (fun i w v => KTy.T 41 fldS.sz wo.heap.size (([.is (.slice A o.length c), .is (.string s), .is (.int .i64 (a : Int)), .is (.int .i64 (sg : Int)), .is (.string (s.extract a sg)), .is (.string s), .is (.int .i64 (sg : Int)), .is (.int .i64 ((sg : Int) + 1)), .is (.int .i64 (en : Int)), .is (.string (s.extract (sg + 1) en)), .is (.int .i64 vm), .is (.agg #[.string (s.extract a sg), .int .i64 vm]), .one ((fldS.enc (⟨s.extract a sg, vm⟩ : Fld)).toArray)] : List KTy).getD i .any) w v) (fun i => ([999, 999, 999, 999, 999, 999, 999, 999, 999, 999, 999, 999, 999] : List Nat).getD i 999) (fun w' => Below wo.heap.size wo w') (RApp 41 990 991) (by kernel_rfl) 69 rfl (by decide) (by kernel_rfl) (by kernel_rfl) (by kernel_rfl) (by kernel_rfl) (Below.refl _ _).drew (tyApp (by kernel_rfl)) ?_ ?_
                  · refine ⟨?_, ?_, ?_, ?_, ?_, ?_, ?_, ?_, ?_, ?_, ?_, ?_, ?_, trivial⟩
                    · intro a' w' hW hF
                      have h4 : a'.tmps[4]? = some (.slice A o.length c) := (hF.at 4 (by kernel_rfl)).trans rfl
                      refine wpOp_step rfl (fun K hK => ?_)
                      go_simp
                      exact hK _ _ ⟨_, rfl, RApp.still (by decide) (World.grownBy.refl _ _), rfl, hW⟩
                    · intro a' w' hW hF
                      have h0 : a'.tmps[0]? = some (.string s) := (hF.at 0 (by kernel_rfl)).trans rfl
                      refine wpOp_step rfl (fun K hK => ?_)
                      go_simp
                      exact hK _ _ ⟨_, rfl, RApp.still (by decide) (World.grownBy.refl _ _), rfl, hW⟩
                    · intro a' w' hW hF
                      have h5 : a'.tmps[5]? = some (.int .i64 (a : Int)) := (hF.at 5 (by kernel_rfl)).trans rfl
                      refine wpOp_step rfl (fun K hK => ?_)
                      go_simp
                      exact hK _ _ ⟨_, rfl, RApp.still (by decide) (World.grownBy.refl _ _), rfl, hW⟩
                    · intro a' w' hW hF
                      have h7 : a'.tmps[7]? = some (.int .i64 (sg : Int)) := (hF.at 7 (by kernel_rfl)).trans rfl
                      refine wpOp_step rfl (fun K hK => ?_)
                      go_simp
                      exact hK _ _ ⟨_, rfl, RApp.still (by decide) (World.grownBy.refl _ _), rfl, hW⟩
                    · intro a' w' hW hF
                      obtain ⟨_, h43, rfl⟩ := hF.val ⟨1, .data⟩ (by simp) rfl _ rfl
                      obtain ⟨_, h44, rfl⟩ := hF.val ⟨2, .data⟩ (by simp) rfl _ rfl
                      obtain ⟨_, h45, rfl⟩ := hF.val ⟨3, .data⟩ (by simp) rfl _ rfl
                      refine wpOp_step rfl (fun K hK => ?_)
                      go_simp
                      exact hK _ _ ⟨_, rfl, RApp.still (by decide) (World.grownBy.refl _ _), rfl, hW⟩
                    · intro a' w' hW hF
                      have h0 : a'.tmps[0]? = some (.string s) := (hF.at 0 (by kernel_rfl)).trans rfl
                      refine wpOp_step rfl (fun K hK => ?_)
                      go_simp
                      exact hK _ _ ⟨_, rfl, RApp.still (by decide) (World.grownBy.refl _ _), rfl, hW⟩
                    · intro a' w' hW hF
                      have h7 : a'.tmps[7]? = some (.int .i64 (sg : Int)) := (hF.at 7 (by kernel_rfl)).trans rfl
                      refine wpOp_step rfl (fun K hK => ?_)
                      go_simp
                      exact hK _ _ ⟨_, rfl, RApp.still (by decide) (World.grownBy.refl _ _), rfl, hW⟩
                    · intro a' w' hW hF
                      obtain ⟨_, h48, rfl⟩ := hF.val ⟨6, .data⟩ (by simp) rfl _ rfl
                      refine wpOp_step rfl (fun K hK => ?_)
                      go_simp
                      exact hK _ _ ⟨_, rfl, RApp.still (by decide) (World.grownBy.refl _ _), rfl, hW⟩
                    · intro a' w' hW hF
                      have h6 : a'.tmps[6]? = some (.int .i64 (en : Int)) := (hF.at 6 (by kernel_rfl)).trans rfl
                      refine wpOp_step rfl (fun K hK => ?_)
                      go_simp
                      exact hK _ _ ⟨_, rfl, RApp.still (by decide) (World.grownBy.refl _ _), rfl, hW⟩
                    · intro a' w' hW hF
                      obtain ⟨_, h47, rfl⟩ := hF.val ⟨5, .data⟩ (by simp) rfl _ rfl
                      obtain ⟨_, h49, rfl⟩ := hF.val ⟨7, .data⟩ (by simp) rfl _ rfl
                      obtain ⟨_, h50, rfl⟩ := hF.val ⟨8, .data⟩ (by simp) rfl _ rfl
                      refine wpOp_step rfl (fun K hK => ?_)
                      go_simp
                      exact hK _ _ ⟨_, rfl, RApp.still (by decide) (World.grownBy.refl _ _), rfl, hW⟩
                    · intro a' w' hW hF
                      obtain ⟨_, h51, rfl⟩ := hF.val ⟨9, .data⟩ (by simp) rfl _ rfl
                      refine wpOp_step rfl (fun K hK => ?_)
                      go_simp
                      refine (s_ReadMark _ _ z2).mono ?_
                      rintro e w'' ⟨v2, rfl, hv2, rfl⟩
                      rw [hv2.eq hv]
                      have hb : Below w'.heap.size w' w' := Below.refl _ _
                      exact hK _ _ ⟨_, rfl, RApp.still (by decide) (grown_below hb _), rfl, below_trans hW hb⟩
                    · intro a' w' hW hF
                      obtain ⟨_, h46, rfl⟩ := hF.val ⟨4, .data⟩ (by simp) rfl _ rfl
                      obtain ⟨_, h52, rfl⟩ := hF.val ⟨10, .data⟩ (by simp) rfl _ rfl
                      refine wpOp_step rfl (fun K hK => ?_)
                      go_simp
                      exact hK _ _ ⟨_, rfl, RApp.still (by decide) (World.grownBy.refl _ _), rfl, hW⟩
                    · intro a' w' hW hF
                      obtain ⟨_, h53, rfl⟩ := hF.val ⟨11, .data⟩ (by simp) rfl _ rfl
                      refine wpOp_step rfl (fun K hK => ?_)
                      go_simp
                      exact hK _ _ ⟨_, rfl, RApp.still (by decide) (World.grownBy_alloc _ _ _), ⟨w'.heap.size, rfl, by rw [List.size_toArray, fldS.len]; exact fldS.pos, heap_alloc_new w' _⟩, hW.alloc hW.size _⟩
                  · intro a' w' hL hW
                    have hd := hL.defers
                    have hs := hL.size
                    obtain ⟨_, h42, rfl⟩ := hL.val 0 _ rfl (by decide)
                    obtain ⟨_, h43, rfl⟩ := hL.val 1 _ rfl (by decide)
                    obtain ⟨_, h44, rfl⟩ := hL.val 2 _ rfl (by decide)
                    obtain ⟨_, h45, rfl⟩ := hL.val 3 _ rfl (by decide)
                    obtain ⟨_, h46, rfl⟩ := hL.val 4 _ rfl (by decide)
                    obtain ⟨_, h47, rfl⟩ := hL.val 5 _ rfl (by decide)
                    obtain ⟨_, h48, rfl⟩ := hL.val 6 _ rfl (by decide)
                    obtain ⟨_, h49, rfl⟩ := hL.val 7 _ rfl (by decide)
                    obtain ⟨_, h50, rfl⟩ := hL.val 8 _ rfl (by decide)
                    obtain ⟨_, h51, rfl⟩ := hL.val 9 _ rfl (by decide)
                    obtain ⟨_, h52, rfl⟩ := hL.val 10 _ rfl (by decide)
                    obtain ⟨_, h53, rfl⟩ := hL.val 11 _ rfl (by decide)
                    obtain ⟨_, h54, g54, rfl, hc54, hb54⟩ := hL.val 12 _ rfl (by decide)
                    have hlit := act_lit (l := [_, _, _, _, _, _, _, _, _, _, _, _, _, _, _, _, _, _, _, _, _, _, _, _, _, _, _, _, _, _, _, _, _, _, _, _, _, _, _, _, _, _, _, _, _, _, _, _, _, _, _, _, _, _, _, _, _, _, _, _, _, _, _, _, _, _, _, _, _]) (hd.trans rfl) (by rw [hs]; rfl) (AllAt.cons ((hL.at 0 (by kernel_rfl)).trans rfl) (AllAt.cons ((hL.at 1 (by kernel_rfl)).trans rfl) (AllAt.cons ((hL.at 2 (by kernel_rfl)).trans rfl) (AllAt.cons ((hL.at 3 (by kernel_rfl)).trans rfl) (AllAt.cons ((hL.at 4 (by kernel_rfl)).trans rfl) (AllAt.cons ((hL.at 5 (by kernel_rfl)).trans rfl) (AllAt.cons ((hL.at 6 (by kernel_rfl)).trans rfl) (AllAt.cons ((hL.at 7 (by kernel_rfl)).trans rfl) (AllAt.cons ((hL.at 8 (by kernel_rfl)).trans rfl) (AllAt.cons ((hL.at 9 (by kernel_rfl)).trans rfl) (AllAt.cons ((hL.at 10 (by kernel_rfl)).trans rfl) (AllAt.cons ((hL.at 11 (by kernel_rfl)).trans rfl) (AllAt.cons ((hL.at 12 (by kernel_rfl)).trans rfl) (AllAt.cons ((hL.at 13 (by kernel_rfl)).trans rfl) (AllAt.cons ((hL.at 14 (by kernel_rfl)).trans rfl) (AllAt.cons ((hL.at 15 (by kernel_rfl)).trans rfl) (AllAt.cons ((hL.at 16 (by kernel_rfl)).trans rfl) (AllAt.cons ((hL.at 17 (by kernel_rfl)).trans rfl) (AllAt.cons ((hL.at 18 (by kernel_rfl)).trans rfl) (AllAt.cons ((hL.at 19 (by kernel_rfl)).trans rfl) (AllAt.cons ((hL.at 20 (by kernel_rfl)).trans rfl) (AllAt.cons ((hL.at 21 (by kernel_rfl)).trans rfl) (AllAt.cons ((hL.at 22 (by kernel_rfl)).trans rfl) (AllAt.cons ((hL.at 23 (by kernel_rfl)).trans rfl) (AllAt.cons ((hL.at 24 (by kernel_rfl)).trans rfl) (AllAt.cons ((hL.at 25 (by kernel_rfl)).trans rfl) (AllAt.cons ((hL.at 26 (by kernel_rfl)).trans rfl) (AllAt.cons ((hL.at 27 (by kernel_rfl)).trans rfl) (AllAt.cons ((hL.at 28 (by kernel_rfl)).trans rfl) (AllAt.cons ((hL.at 29 (by kernel_rfl)).trans rfl) (AllAt.cons ((hL.at 30 (by kernel_rfl)).trans rfl) (AllAt.cons ((hL.at 31 (by kernel_rfl)).trans rfl) (AllAt.cons ((hL.at 32 (by kernel_rfl)).trans rfl) (AllAt.cons ((hL.at 33 (by kernel_rfl)).trans rfl) (AllAt.cons ((hL.at 34 (by kernel_rfl)).trans rfl) (AllAt.cons ((hL.at 35 (by kernel_rfl)).trans rfl) (AllAt.cons ((hL.at 36 (by kernel_rfl)).trans rfl) (AllAt.cons ((hL.at 37 (by kernel_rfl)).trans rfl) (AllAt.cons ((hL.at 38 (by kernel_rfl)).trans rfl) (AllAt.cons ((hL.at 39 (by kernel_rfl)).trans rfl) (AllAt.cons ((hL.at 40 (by kernel_rfl)).trans rfl) (AllAt.cons ((hL.at 41 (by kernel_rfl)).trans rfl) (AllAt.cons h42 (AllAt.cons h43 (AllAt.cons h44 (AllAt.cons h45 (AllAt.cons h46 (AllAt.cons h47 (AllAt.cons h48 (AllAt.cons h49 (AllAt.cons h50 (AllAt.cons h51 (AllAt.cons h52 (AllAt.cons h53 (AllAt.cons h54 (AllAt.cons ((hL.at 55 (by kernel_rfl)).trans rfl) (AllAt.cons ((hL.at 56 (by kernel_rfl)).trans rfl) (AllAt.cons ((hL.at 57 (by kernel_rfl)).trans rfl) (AllAt.cons ((hL.at 58 (by kernel_rfl)).trans rfl) (AllAt.cons ((hL.at 59 (by kernel_rfl)).trans rfl) (AllAt.cons ((hL.at 60 (by kernel_rfl)).trans rfl) (AllAt.cons ((hL.at 61 (by kernel_rfl)).trans rfl) (AllAt.cons ((hL.at 62 (by kernel_rfl)).trans rfl) (AllAt.cons ((hL.at 63 (by kernel_rfl)).trans rfl) (AllAt.cons ((hL.at 64 (by kernel_rfl)).trans rfl) (AllAt.cons ((hL.at 65 (by kernel_rfl)).trans rfl) (AllAt.cons ((hL.at 66 (by kernel_rfl)).trans rfl) (AllAt.cons ((hL.at 67 (by kernel_rfl)).trans rfl) (AllAt.cons ((hL.at 68 (by kernel_rfl)).trans rfl) AllAt.nil)))))))))))))))))))))))))))))))))))))))))))))))))))))))))))))))))))))
                    clear hL hd hs h42 h43 h44 h45 h46 h47 h48 h49 h50 h51 h52 h53 h54
                    subst hlit
                    show wpOps _ _ _ [13, 14] _ _
                    rw [wpOps_cons]
                    have hown2 := owns_below hown hW
                    have hB2 : Below w.heap.size w w' := below_trans hB hW
                    refine wpOp_step rfl (fun K hK => ?_)
                    refine step_app_sl (S := fldS) rfl (.tmp 42) (.tmp 54) 23 rfl w.heap.size 41 i0 (.agg #[.string ⟨#[]⟩, .int .i64 0]) 24 Tryd.underlying23 hi hz0 hz1 hz2 rfl _ _ _ rfl hown2 [(⟨s.extract a sg, vm⟩ : Fld)] (one_sl (S := fldS) hb54) (by simp [maxLen]; omega) (by simp; omega) hB2.size ?_
                    intro v' w'' hown3 hgrow hat
                    have hB4 : Below w.heap.size w w'' := hB2.grown hgrow hB2.size (fun j hj => (hown2.lt j hj).1)
                    have hcl : fldS.cells o ++ fldS.cells [(⟨s.extract a sg, vm⟩ : Fld)] = fldS.cells (o ++ [(⟨s.extract a sg, vm⟩ : Fld)]) := (fldS.cells_append _ _).symm
                    have hll : o.length + [(⟨s.extract a sg, vm⟩ : Fld)].length = (o ++ [(⟨s.extract a sg, vm⟩ : Fld)]).length := by simp
                    rw [hcl, hll] at hown3
                    have HR := Lib.hid (HAll.out.2.2.2.1.succ HAll.out.2.2.2.2 (hp.out ▸ HP.out))
                    have HA := Lib.hid HAll.out.2.2.1
                    have HN := Lib.hid (show ∀ y ∈ o ++ [(⟨s.extract a sg, vm⟩ : Fld)], y.name.size ≤ 140737488355328 from fun y hy => (List.mem_append.1 hy).elim (hN y) (fun hy => by rw [List.mem_singleton.1 hy]; exact z1))
                    obtain ⟨A2, c2, hv'⟩ : ∃ A2 c2, v' = .slice A2 (o ++ [(⟨s.extract a sg, vm⟩ : Fld)]).length c2 := by
                      rcases hown3.2 with ⟨e, h0⟩ | ⟨g, cap, cur, e, _⟩
                      · exact absurd h0 (by simp)
                      · exact ⟨_, _, e⟩
                    subst hv'
                    clear hcl hll hgrow hat hown2 hB2 hW hown hB HP z1 z2 b1 b2 b3 b5 b6 hv
                    generalize o ++ [(⟨s.extract a sg, vm⟩ : Fld)] = o2 at *
                    refine hK _ _ ?_
                    rw [wpOps_cons]
                    refine wpOp_step rfl (fun K hK => ?_)
                    go_simp
                    refine hK _ _ ?_
                    simp only [wpOps]
                    go_wp2_with fail
                    go_roundw
                    case rel => exact ⟨k + 1, en + 1, A2, c2, o2, by omega, by go_num, rfl, hown3, HR.out, HA.out, HN.out, hB4⟩
                    case measure => simp [intOf]; omega
          · have e1 : ¬ (en : Int) < (s.size : Int) := by omega
            rcases first_of p 61 with ⟨_, hno⟩ | ⟨i, _, i1, i2, i3⟩
            · have n4 : ∀ j (_ : a ≤ j) (h1 : j < en) (h2 : j < s.size), s[j].toNat ≠ 61 := fun j h0 h1 h2 e => by
                rw [hen.out] at h1
                have h3 := HAll.out.1 (j - a) (by omega)
                rw [show a + (j - a) = j by omega, sget h2, getD_lt (by omega)] at h3
                exact hno (by rw [show (61 : UInt8) = s[j] from by rw [← UInt8.toNat_inj]; exact e.symm, h3]; exact List.getElem_mem _)
              have HN : Hid (∀ x, ¬ TxtOf s x) := no_sign (by omega) HAll.out.2.2.2.2 (by rw [← hp.out]; exact hno)
              clear hno
              go_wp2_with fail
              go_loop [7] (fun E => ∃ j : Nat, a ≤ j ∧ j ≤ en ∧ E = .int .i64 j) (fun E => en - (intOf E).toNat)
              case atStart => exact ⟨a, Nat.le_refl _, g2, rfl⟩
              case round =>
                obtain ⟨j, ja, je, rfl⟩ := hrel
                by_cases hj : j < en
                · have j0 : (j : Int) < (en : Int) := by omega
                  have j1 : (j : Int) < (s.size : Int) := by omega
                  have j2 : j < s.size := by omega
                  have j3 := n4 j ja hj j2
                  have j4 : (0 : Int) ≤ (j : Int) := by omega
                  go_wp2
                  all_goals first | (exfalso; simp at *; omega) | skip
                  go_round
                  case rel => exact ⟨j + 1, by omega, by omega, by go_num⟩
                  case measure => simp [intOf]; omega
                · have hje : en = j := by omega
                  subst hje
                  have HO2 : Hid ((wo.alloc (.cells #[] 41)).ownsRow wo.heap.size 41 2 (.slice (some ⟨wo.heap.size, 0, none⟩) 0 0) 0 (fldS.cells [])) := World.ownsRow_lit _ _ _ (Nat.le_refl _) (by simp [maxLen]) (by simp)
                  clear hown
                  go_wp2_with fail
                  exact bodyPost_ret (v := .tuple #[.slice (some ⟨wo.heap.size, 0, none⟩) 0 0, .bool false]) (by simp [results, Tryd.results15, go_sem]) rfl ⟨_, [], false, rfl, .inr ⟨rfl, rfl, HN.out⟩, owns_base HO2.out hB.size, below_trans hB (below1 _ _)⟩
            · obtain ⟨sg, hsg⟩ : ∃ sg, Hid (sg = a + i) := ⟨_, Lib.hid rfl⟩
              have k1 : a ≤ sg := by rw [hsg.out]; omega
              have k2 : sg < en := by rw [hsg.out, hen.out]; omega
              have k3 : ∀ (h : sg < s.size), s[sg].toNat = 61 := fun h => by
                have h3 := HAll.out.1 i i1
                rw [← hsg.out, sget h, i2] at h3
                rw [h3]; rfl
              have n4 : ∀ j (_ : a ≤ j) (h1 : j < sg) (h2 : j < s.size), s[j].toNat ≠ 61 := fun j h0 h1 h2 e => by
                rw [hsg.out] at h1
                have h3 := HAll.out.1 (j - a) (by omega)
                rw [show a + (j - a) = j by omega, sget h2] at h3
                exact i3 (j - a) (by omega) (by rw [← h3, ← UInt8.toNat_inj]; exact e)
              have HS := Lib.hid (show i < p.length ∧ p.getD i 0 = 61 ∧ ∀ j, j < i → p.getD j 0 ≠ 61 from ⟨i1, i2, i3⟩)
              clear i1 i2 i3
              go_wp2_with fail
              go_loop [7] (fun E => ∃ j : Nat, a ≤ j ∧ j ≤ sg ∧ E = .int .i64 j) (fun E => sg - (intOf E).toNat)
              case atStart => exact ⟨a, Nat.le_refl _, k1, rfl⟩
              case round =>
                obtain ⟨j, ja, je, rfl⟩ := hrel
                by_cases hj : j < sg
                · have j0 : (j : Int) < (en : Int) := by omega
                  have j1 : (j : Int) < (s.size : Int) := by omega
                  have j2 : j < s.size := by omega
                  have j3 := n4 j ja hj j2
                  have j4 : (0 : Int) ≤ (j : Int) := by omega
                  go_wp2
                  all_goals first | (exfalso; simp at *; omega) | skip
                  go_round
                  case rel => exact ⟨j + 1, by omega, by omega, by go_num⟩
                  case measure => simp [intOf]; omega
                · have hje : sg = j := by omega
                  subst hje
                  have j0 : (sg : Int) < (en : Int) := by omega
                  have j1 : (sg : Int) < (s.size : Int) := by omega
                  have j2 : sg < s.size := by omega
                  have j3 := k3 j2
                  have j4 : (0 : Int) ≤ (sg : Int) := by omega
                  have j5 : ((sg : Int) == (en : Int)) = false := by rw [beq_eq_false_iff_ne]; omega
                  have j6 : (sg == en) = false := by rw [beq_eq_false_iff_ne]; omega
                  go_wp2
                  obtain ⟨vm, hv⟩ := markIs_ex (s.extract (sg + 1) en).data.toList
                  have HP := Lib.hid (part_of HAll.out.2.1 HS.out.1 HS.out.2.1 HS.out.2.2 hsg.out hen.out hv)
                  have b1 : (a : Int) ≤ (sg : Int) := by omega
                  have b2 : (sg : Int) ≤ (s.size : Int) := by omega
                  have b3 : (sg : Int) + 1 ≤ (en : Int) := by omega
                  have b4 : (en : Int) ≤ (s.size : Int) := by omega
                  have b5 : (0 : Int) ≤ (sg : Int) + 1 := by omega
                  have b6 : IntKind.i64.wrap ((sg : Int) + 1) = (sg : Int) + 1 := IntWalk.i64_in _ (by omega)
                  have z1 : (s.extract a sg).size ≤ 140737488355328 := by simp [ByteArray.size_extract]; omega
                  have z2 : (s.extract (sg + 1) en).size ≤ 140737488355328 := by simp [ByteArray.size_extract]; omega
                  refine wp_region_typed_used 13 (fun i w v => KTy.T 41 fldS.sz wo.heap.size (([.is (.slice A o.length c), .is (.string s), .is (.int .i64 (a : Int)), .is (.int .i64 (sg : Int)), .is (.string (s.extract a sg)), .is (.string s), .is (.int .i64 (sg : Int)), .is (.int .i64 ((sg : Int) + 1)), .is (.int .i64 (en : Int)), .is (.string (s.extract (sg + 1) en)), .is (.int .i64 vm), .is (.agg #[.string (s.extract a sg), .int .i64 vm]), .one ((fldS.enc (⟨s.extract a sg, vm⟩ : Fld)).toArray)] : List KTy).getD i .any) w v) (fun i => ([999, 999, 999, 999, 999, 999, 999, 999, 999, 999, 999, 999, 999] : List Nat).getD i 999) (fun w' => Below wo.heap.size wo w') (RApp 41 990 991) (by kernel_rfl) 69 rfl (by decide) (by kernel_rfl) (by kernel_rfl) (by kernel_rfl) (by kernel_rfl) (Below.refl _ _).drew (tyApp (by kernel_rfl)) ?_ ?_
                  · refine ⟨?_, ?_, ?_, ?_, ?_, ?_, ?_, ?_, ?_, ?_, ?_, ?_, ?_, trivial⟩
                    · intro a' w' hW hF
                      have h4 : a'.tmps[4]? = some (.slice A o.length c) := (hF.at 4 (by kernel_rfl)).trans rfl
                      refine wpOp_step rfl (fun K hK => ?_)
                      go_simp
                      exact hK _ _ ⟨_, rfl, RApp.still (by decide) (World.grownBy.refl _ _), rfl, hW⟩
                    · intro a' w' hW hF
                      have h0 : a'.tmps[0]? = some (.string s) := (hF.at 0 (by kernel_rfl)).trans rfl
                      refine wpOp_step rfl (fun K hK => ?_)
                      go_simp
                      exact hK _ _ ⟨_, rfl, RApp.still (by decide) (World.grownBy.refl _ _), rfl, hW⟩
                    · intro a' w' hW hF
                      have h5 : a'.tmps[5]? = some (.int .i64 (a : Int)) := (hF.at 5 (by kernel_rfl)).trans rfl
                      refine wpOp_step rfl (fun K hK => ?_)
                      go_simp
                      exact hK _ _ ⟨_, rfl, RApp.still (by decide) (World.grownBy.refl _ _), rfl, hW⟩
                    · intro a' w' hW hF
                      have h7 : a'.tmps[7]? = some (.int .i64 (sg : Int)) := (hF.at 7 (by kernel_rfl)).trans rfl
                      refine wpOp_step rfl (fun K hK => ?_)
                      go_simp
                      exact hK _ _ ⟨_, rfl, RApp.still (by decide) (World.grownBy.refl _ _), rfl, hW⟩
                    · intro a' w' hW hF
                      obtain ⟨_, h43, rfl⟩ := hF.val ⟨1, .data⟩ (by simp) rfl _ rfl
                      obtain ⟨_, h44, rfl⟩ := hF.val ⟨2, .data⟩ (by simp) rfl _ rfl
                      obtain ⟨_, h45, rfl⟩ := hF.val ⟨3, .data⟩ (by simp) rfl _ rfl
                      refine wpOp_step rfl (fun K hK => ?_)
                      go_simp
                      exact hK _ _ ⟨_, rfl, RApp.still (by decide) (World.grownBy.refl _ _), rfl, hW⟩
                    · intro a' w' hW hF
                      have h0 : a'.tmps[0]? = some (.string s) := (hF.at 0 (by kernel_rfl)).trans rfl
                      refine wpOp_step rfl (fun K hK => ?_)
                      go_simp
                      exact hK _ _ ⟨_, rfl, RApp.still (by decide) (World.grownBy.refl _ _), rfl, hW⟩
                    · intro a' w' hW hF
                      have h7 : a'.tmps[7]? = some (.int .i64 (sg : Int)) := (hF.at 7 (by kernel_rfl)).trans rfl
                      refine wpOp_step rfl (fun K hK => ?_)
                      go_simp
                      exact hK _ _ ⟨_, rfl, RApp.still (by decide) (World.grownBy.refl _ _), rfl, hW⟩
                    · intro a' w' hW hF
                      obtain ⟨_, h48, rfl⟩ := hF.val ⟨6, .data⟩ (by simp) rfl _ rfl
                      refine wpOp_step rfl (fun K hK => ?_)
                      go_simp
                      exact hK _ _ ⟨_, rfl, RApp.still (by decide) (World.grownBy.refl _ _), rfl, hW⟩
                    · intro a' w' hW hF
                      have h6 : a'.tmps[6]? = some (.int .i64 (en : Int)) := (hF.at 6 (by kernel_rfl)).trans rfl
                      refine wpOp_step rfl (fun K hK => ?_)
                      go_simp
                      exact hK _ _ ⟨_, rfl, RApp.still (by decide) (World.grownBy.refl _ _), rfl, hW⟩
                    · intro a' w' hW hF
                      obtain ⟨_, h47, rfl⟩ := hF.val ⟨5, .data⟩ (by simp) rfl _ rfl
                      obtain ⟨_, h49, rfl⟩ := hF.val ⟨7, .data⟩ (by simp) rfl _ rfl
                      obtain ⟨_, h50, rfl⟩ := hF.val ⟨8, .data⟩ (by simp) rfl _ rfl
                      refine wpOp_step rfl (fun K hK => ?_)
                      go_simp
                      exact hK _ _ ⟨_, rfl, RApp.still (by decide) (World.grownBy.refl _ _), rfl, hW⟩
                    · intro a' w' hW hF
                      obtain ⟨_, h51, rfl⟩ := hF.val ⟨9, .data⟩ (by simp) rfl _ rfl
                      refine wpOp_step rfl (fun K hK => ?_)
                      go_simp
                      refine (s_ReadMark _ _ z2).mono ?_
                      rintro e w'' ⟨v2, rfl, hv2, rfl⟩
                      rw [hv2.eq hv]
                      have hb : Below w'.heap.size w' w' := Below.refl _ _
                      exact hK _ _ ⟨_, rfl, RApp.still (by decide) (grown_below hb _), rfl, below_trans hW hb⟩
                    · intro a' w' hW hF
                      obtain ⟨_, h46, rfl⟩ := hF.val ⟨4, .data⟩ (by simp) rfl _ rfl
                      obtain ⟨_, h52, rfl⟩ := hF.val ⟨10, .data⟩ (by simp) rfl _ rfl
                      refine wpOp_step rfl (fun K hK => ?_)
                      go_simp
                      exact hK _ _ ⟨_, rfl, RApp.still (by decide) (World.grownBy.refl _ _), rfl, hW⟩
                    · intro a' w' hW hF
                      obtain ⟨_, h53, rfl⟩ := hF.val ⟨11, .data⟩ (by simp) rfl _ rfl
                      refine wpOp_step rfl (fun K hK => ?_)
                      go_simp
                      exact hK _ _ ⟨_, rfl, RApp.still (by decide) (World.grownBy_alloc _ _ _), ⟨w'.heap.size, rfl, by rw [List.size_toArray, fldS.len]; exact fldS.pos, heap_alloc_new w' _⟩, hW.alloc hW.size _⟩
                  · intro a' w' hL hW
                    have hd := hL.defers
                    have hs := hL.size
                    obtain ⟨_, h42, rfl⟩ := hL.val 0 _ rfl (by decide)
                    obtain ⟨_, h43, rfl⟩ := hL.val 1 _ rfl (by decide)
                    obtain ⟨_, h44, rfl⟩ := hL.val 2 _ rfl (by decide)
                    obtain ⟨_, h45, rfl⟩ := hL.val 3 _ rfl (by decide)
                    obtain ⟨_, h46, rfl⟩ := hL.val 4 _ rfl (by decide)
                    obtain ⟨_, h47, rfl⟩ := hL.val 5 _ rfl (by decide)
                    obtain ⟨_, h48, rfl⟩ := hL.val 6 _ rfl (by decide)
                    obtain ⟨_, h49, rfl⟩ := hL.val 7 _ rfl (by decide)
                    obtain ⟨_, h50, rfl⟩ := hL.val 8 _ rfl (by decide)
                    obtain ⟨_, h51, rfl⟩ := hL.val 9 _ rfl (by decide)
                    obtain ⟨_, h52, rfl⟩ := hL.val 10 _ rfl (by decide)
                    obtain ⟨_, h53, rfl⟩ := hL.val 11 _ rfl (by decide)
                    obtain ⟨_, h54, g54, rfl, hc54, hb54⟩ := hL.val 12 _ rfl (by decide)
                    have hlit := act_lit (l := [_, _, _, _, _, _, _, _, _, _, _, _, _, _, _, _, _, _, _, _, _, _, _, _, _, _, _, _, _, _, _, _, _, _, _, _, _, _, _, _, _, _, _, _, _, _, _, _, _, _, _, _, _, _, _, _, _, _, _, _, _, _, _, _, _, _, _, _, _]) (hd.trans rfl) (by rw [hs]; rfl) (AllAt.cons ((hL.at 0 (by kernel_rfl)).trans rfl) (AllAt.cons ((hL.at 1 (by kernel_rfl)).trans rfl) (AllAt.cons ((hL.at 2 (by kernel_rfl)).trans rfl) (AllAt.cons ((hL.at 3 (by kernel_rfl)).trans rfl) (AllAt.cons ((hL.at 4 (by kernel_rfl)).trans rfl) (AllAt.cons ((hL.at 5 (by kernel_rfl)).trans rfl) (AllAt.cons ((hL.at 6 (by kernel_rfl)).trans rfl) (AllAt.cons ((hL.at 7 (by kernel_rfl)).trans rfl) (AllAt.cons ((hL.at 8 (by kernel_rfl)).trans rfl) (AllAt.cons ((hL.at 9 (by kernel_rfl)).trans rfl) (AllAt.cons ((hL.at 10 (by kernel_rfl)).trans rfl) (AllAt.cons ((hL.at 11 (by kernel_rfl)).trans rfl) (AllAt.cons ((hL.at 12 (by kernel_rfl)).trans rfl) (AllAt.cons ((hL.at 13 (by kernel_rfl)).trans rfl) (AllAt.cons ((hL.at 14 (by kernel_rfl)).trans rfl) (AllAt.cons ((hL.at 15 (by kernel_rfl)).trans rfl) (AllAt.cons ((hL.at 16 (by kernel_rfl)).trans rfl) (AllAt.cons ((hL.at 17 (by kernel_rfl)).trans rfl) (AllAt.cons ((hL.at 18 (by kernel_rfl)).trans rfl) (AllAt.cons ((hL.at 19 (by kernel_rfl)).trans rfl) (AllAt.cons ((hL.at 20 (by kernel_rfl)).trans rfl) (AllAt.cons ((hL.at 21 (by kernel_rfl)).trans rfl) (AllAt.cons ((hL.at 22 (by kernel_rfl)).trans rfl) (AllAt.cons ((hL.at 23 (by kernel_rfl)).trans rfl) (AllAt.cons ((hL.at 24 (by kernel_rfl)).trans rfl) (AllAt.cons ((hL.at 25 (by kernel_rfl)).trans rfl) (AllAt.cons ((hL.at 26 (by kernel_rfl)).trans rfl) (AllAt.cons ((hL.at 27 (by kernel_rfl)).trans rfl) (AllAt.cons ((hL.at 28 (by kernel_rfl)).trans rfl) (AllAt.cons ((hL.at 29 (by kernel_rfl)).trans rfl) (AllAt.cons ((hL.at 30 (by kernel_rfl)).trans rfl) (AllAt.cons ((hL.at 31 (by kernel_rfl)).trans rfl) (AllAt.cons ((hL.at 32 (by kernel_rfl)).trans rfl) (AllAt.cons ((hL.at 33 (by kernel_rfl)).trans rfl) (AllAt.cons ((hL.at 34 (by kernel_rfl)).trans rfl) (AllAt.cons ((hL.at 35 (by kernel_rfl)).trans rfl) (AllAt.cons ((hL.at 36 (by kernel_rfl)).trans rfl) (AllAt.cons ((hL.at 37 (by kernel_rfl)).trans rfl) (AllAt.cons ((hL.at 38 (by kernel_rfl)).trans rfl) (AllAt.cons ((hL.at 39 (by kernel_rfl)).trans rfl) (AllAt.cons ((hL.at 40 (by kernel_rfl)).trans rfl) (AllAt.cons ((hL.at 41 (by kernel_rfl)).trans rfl) (AllAt.cons h42 (AllAt.cons h43 (AllAt.cons h44 (AllAt.cons h45 (AllAt.cons h46 (AllAt.cons h47 (AllAt.cons h48 (AllAt.cons h49 (AllAt.cons h50 (AllAt.cons h51 (AllAt.cons h52 (AllAt.cons h53 (AllAt.cons h54 (AllAt.cons ((hL.at 55 (by kernel_rfl)).trans rfl) (AllAt.cons ((hL.at 56 (by kernel_rfl)).trans rfl) (AllAt.cons ((hL.at 57 (by kernel_rfl)).trans rfl) (AllAt.cons ((hL.at 58 (by kernel_rfl)).trans rfl) (AllAt.cons ((hL.at 59 (by kernel_rfl)).trans rfl) (AllAt.cons ((hL.at 60 (by kernel_rfl)).trans rfl) (AllAt.cons ((hL.at 61 (by kernel_rfl)).trans rfl) (AllAt.cons ((hL.at 62 (by kernel_rfl)).trans rfl) (AllAt.cons ((hL.at 63 (by kernel_rfl)).trans rfl) (AllAt.cons ((hL.at 64 (by kernel_rfl)).trans rfl) (AllAt.cons ((hL.at 65 (by kernel_rfl)).trans rfl) (AllAt.cons ((hL.at 66 (by kernel_rfl)).trans rfl) (AllAt.cons ((hL.at 67 (by kernel_rfl)).trans rfl) (AllAt.cons ((hL.at 68 (by kernel_rfl)).trans rfl) AllAt.nil)))))))))))))))))))))))))))))))))))))))))))))))))))))))))))))))))))))
                    clear hL hd hs h42 h43 h44 h45 h46 h47 h48 h49 h50 h51 h52 h53 h54
                    subst hlit
                    show wpOps _ _ _ [13, 14] _ _
                    rw [wpOps_cons]
                    have hown2 := owns_below hown hW
                    have hB2 : Below w.heap.size w w' := below_trans hB hW
                    refine wpOp_step rfl (fun K hK => ?_)
                    refine step_app_sl (S := fldS) rfl (.tmp 42) (.tmp 54) 23 rfl w.heap.size 41 i0 (.agg #[.string ⟨#[]⟩, .int .i64 0]) 24 Tryd.underlying23 hi hz0 hz1 hz2 rfl _ _ _ rfl hown2 [(⟨s.extract a sg, vm⟩ : Fld)] (one_sl (S := fldS) hb54) (by simp [maxLen]; omega) (by simp; omega) hB2.size ?_
                    intro v' w'' hown3 hgrow hat
                    have hB4 : Below w.heap.size w w'' := hB2.grown hgrow hB2.size (fun j hj => (hown2.lt j hj).1)
                    have hcl : fldS.cells o ++ fldS.cells [(⟨s.extract a sg, vm⟩ : Fld)] = fldS.cells (o ++ [(⟨s.extract a sg, vm⟩ : Fld)]) := (fldS.cells_append _ _).symm
                    have hll : o.length + [(⟨s.extract a sg, vm⟩ : Fld)].length = (o ++ [(⟨s.extract a sg, vm⟩ : Fld)]).length := by simp
                    rw [hcl, hll] at hown3
                    have HR := Lib.hid (HAll.out.2.2.2.1.succ HAll.out.2.2.2.2 (hp.out ▸ HP.out))
                    have HA := Lib.hid HAll.out.2.2.1
                    have HN := Lib.hid (show ∀ y ∈ o ++ [(⟨s.extract a sg, vm⟩ : Fld)], y.name.size ≤ 140737488355328 from fun y hy => (List.mem_append.1 hy).elim (hN y) (fun hy => by rw [List.mem_singleton.1 hy]; exact z1))
                    obtain ⟨A2, c2, hv'⟩ : ∃ A2 c2, v' = .slice A2 (o ++ [(⟨s.extract a sg, vm⟩ : Fld)]).length c2 := by
                      rcases hown3.2 with ⟨e, h0⟩ | ⟨g, cap, cur, e, _⟩
                      · exact absurd h0 (by simp)
                      · exact ⟨_, _, e⟩
                    subst hv'
                    clear hcl hll hgrow hat hown2 hB2 hW hown hB HP z1 z2 b1 b2 b3 b5 b6 hv
                    generalize o ++ [(⟨s.extract a sg, vm⟩ : Fld)] = o2 at *
                    refine hK _ _ ?_
                    rw [wpOps_cons]
                    refine wpOp_step rfl (fun K hK => ?_)
                    go_simp
                    refine hK _ _ ?_
                    simp only [wpOps]
                    go_wp2_with fail
                    go_roundw
                    case rel => exact ⟨k + 1, en + 1, A2, c2, o2, by omega, by go_num, rfl, hown3, HR.out, HA.out, HN.out, hB4⟩
                    case measure => simp [intOf]; omega
    · have hge : s.data.toList.length ≤ a := by omega
      have HAt := Lib.hid hAt
      have HR := Lib.hid hR
      have hlt2 : ¬ (a : Int) < (s.size : Int) := by omega
      clear hAt hR hln hpc
      go_wp2_with fail
      refine (s_FieldsValid _ o _ (Sl.of_owns hown) hN).mono ?_
      rintro e w2 ⟨rfl, hb2⟩
      have hB2 := below_trans hB hb2
      have hown2 := owns_below hown hb2
      clear hB hown hb2
      cases hv : fieldsB o
      · have HN : Hid (∀ x, ¬ TxtOf s x) := rd_fail (x := []) HR.out HAt.out hge (.inr ⟨hv, rfl⟩) (fun h => by rw [hv] at h; cases h)
        have HO2 : Hid ((w2.alloc (.cells #[] 41)).ownsRow w2.heap.size 41 2 (.slice (some ⟨w2.heap.size, 0, none⟩) 0 0) 0 (fldS.cells [])) := World.ownsRow_lit _ _ _ (Nat.le_refl _) (by simp [maxLen]) (by simp)
        clear hown2
        go_wp2_with fail
        exact bodyPost_ret (v := .tuple #[.slice (some ⟨w2.heap.size, 0, none⟩) 0 0, .bool false]) (by simp [results, Tryd.results15, go_sem]) rfl ⟨_, [], false, rfl, .inr ⟨rfl, rfl, HN.out⟩, owns_base HO2.out hB2.size, below_trans hB2 (below1 _ _)⟩
      · have HV := Lib.hid hv
        go_wp2_with fail
        refine (s_FieldsText _ o _ (Sl.of_owns hown2) hN).mono ?_
        rintro e w3 ⟨x, hx, rfl, hb3⟩
        have hB3 := below_trans hB2 hb3
        have hown3 := owns_below hown2 hb3
        clear hB2 hown2 hb3
        cases hq : ((fieldsT x).toList == s.toList)
        · have HN : Hid (∀ x, ¬ TxtOf s x) := rd_fail HR.out HAt.out hge hx (fun _ e => by rw [e] at hq; simp at hq)
          have HO2 : Hid ((w3.alloc (.cells #[] 41)).ownsRow w3.heap.size 41 2 (.slice (some ⟨w3.heap.size, 0, none⟩) 0 0) 0 (fldS.cells [])) := World.ownsRow_lit _ _ _ (Nat.le_refl _) (by simp [maxLen]) (by simp)
          clear hown3
          go_wp2_with fail
          exact bodyPost_ret (v := .tuple #[.slice (some ⟨w3.heap.size, 0, none⟩) 0 0, .bool false]) (by simp [results, Tryd.results15, go_sem]) rfl ⟨_, [], false, rfl, .inr ⟨rfl, rfl, HN.out⟩, owns_base HO2.out hB3.size, below_trans hB3 (below1 _ _)⟩
        · have HT : Hid (TxtOf s o) := rd_fin HR.out (by rcases HAt.out with ⟨_, h⟩ | ⟨_, h, _⟩ <;> omega) HV.out hx (list_inj (eq_of_beq hq))
          go_wp2_with fail
          exact bodyPost_ret (v := .tuple #[.slice A o.length c, .bool true]) (by simp [results, Tryd.results15, go_sem]) rfl (RdRet.mk (.inl ⟨rfl, HT.out⟩) hown3 hB3)
end Go.Proofs.YtemjonibpachbaaDoor
