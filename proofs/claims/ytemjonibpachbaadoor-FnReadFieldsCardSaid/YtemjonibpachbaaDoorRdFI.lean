/- The walk of the program's ReadFields. Condition: the text has less than 2^32 - 15 bytes, a variable of the library's own holds a number. -/
import Derived.Test.YtemjonibpachbaaDoorRdF
import Derived.Test.YtemjonibpachbaaDoorCut
import Derived.Test.YtemjonibpachbaaDoorFldI
import Derived.Test.YtemjonibpachbaaDoorApp
namespace Go.Proofs.YtemjonibpachbaaDoor
open Go.RowKit

def RdRet (s : ByteArray) (w : World) (e : Ending) (w' : World) : Prop :=
  ∃ v out ok, e = .returned (.tuple #[v, .bool ok]) ∧ RdRel s out ok ∧ w'.ownsRow w.heap.size 41 2 v out.length (fldS.cells out) ∧ Below w.heap.size w w'
theorem RdRet.mk {s : ByteArray} {out : List Fld} {ok : Bool} {w w' : World} {v : Value} (hr : RdRel s out ok) (ho : w'.ownsRow w.heap.size 41 2 v out.length (fldS.cells out)) (hb : Below w.heap.size w w') : RdRet s w (.returned (.tuple #[v, .bool ok])) w' := ⟨v, out, ok, rfl, hr, ho, hb⟩
theorem RdRet.no {s : ByteArray} {w w' : World} (hr : ∀ x, ¬ TxtOf s x) (hb : Below w.heap.size w w') : RdRet s w (.returned (.tuple #[.slice none 0 0, .bool false])) w' := ⟨_, [], false, rfl, .inr ⟨rfl, rfl, hr⟩, World.ownsRow_nil _ _ _ _, hb⟩
theorem str_nil {s : ByteArray} (h : s.size = 0) : s = ⟨#[]⟩ := Go.WideShapes.bytes_inj (List.eq_nil_of_length_eq_zero (by rw [size_len]; exact h))
theorem str_ne {s : ByteArray} (h : s.size ≠ 0) : (s.toList == ([] : List UInt8)) = false := by
  cases hq : s.toList with
  | nil => rw [ByteArray.toList_eq] at hq; have := size_len s; rw [hq] at this; exact absurd this.symm h
  | cons a r => rfl
theorem txt_empty : TxtOf ⟨#[]⟩ [] := ⟨by decide, List.Pairwise.nil, rfl⟩
/-- The fields that have been read stand in order. -/
theorem asc_add {o : List Fld} {f : Fld} (h : o.Pairwise lessF) (hl : ∀ h0 : 0 < o.length, lessF (o[o.length - 1]'(by omega)) f) : (o ++ [f]).Pairwise lessF := by
  rw [List.pairwise_append]
  refine ⟨h, List.pairwise_singleton _ _, fun x hx y hy => ?_⟩
  rw [List.mem_singleton.1 hy]
  obtain ⟨j, hj, rfl⟩ := List.getElem_of_mem hx
  have h2 := hl (by omega)
  by_cases e : j = o.length - 1
  · subst e; exact h2
  · exact less_trans (List.pairwise_iff_getElem.1 h j (o.length - 1) hj (by omega) (by omega)) h2
theorem markIs_ex (l : List UInt8) : ∃ v, MarkIs l v := by
  by_cases h : ∃ n : Nat, n ≤ 1000000000 ∧ markN n = l
  · obtain ⟨n, h1, h2⟩ := h
    exact ⟨n, .inl ⟨n, rfl, h1, h2⟩⟩
  · exact ⟨-1, .inr ⟨rfl, fun n h1 h2 => h ⟨n, h1, h2⟩⟩⟩
/-- No field in this part. -/
theorem no_sign {s : ByteArray} {k : Nat} (h0 : s.size ≠ 0) (hk : k < (parts 59 s.data.toList).length) (h : 61 ∉ (parts 59 s.data.toList)[k]) : ∀ x, ¬ TxtOf s x := fun x hx => by
  by_cases e : x = []
  · subst e; exact h0 (txt_nil hx)
  · have hp := txt_parts hx e
    have hk2 : k < x.length := by rw [hp] at hk; simpa using hk
    have e2 : (parts 59 s.data.toList)[k] = partL x[k] := by
      simp only [hp, List.getElem_map]
    obtain ⟨m, e3, _, _⟩ := txt_at hx hk2
    rw [e2, e3] at h
    exact h (by simp)
/-- The names do not ascend. -/
theorem no_order {s : ByteArray} {o : List Fld} {f : Fld} {k : Nat} (h0 : s.size ≠ 0) (hr : RdTo (parts 59 s.data.toList) o k) (hk : k < (parts 59 s.data.toList).length) (hf : PartIs (parts 59 s.data.toList)[k] f)
    (hp : 0 < o.length) (hn : Op.bytesLess (o[o.length - 1]'(by omega)).name.toList f.name.toList = false) : ∀ x, ¬ TxtOf s x := fun x hx => by
  by_cases e : x = []
  · subst e; exact h0 (txt_nil hx)
  · have ep := txt_parts hx e
    have h1 := rd_same (hr.succ hk hf) ep (fun j hj => txt_at hx hj) (by omega)
    obtain rfl : o.length = k := hr.1
    have hk2 : o.length < x.length := by rw [ep] at hk; simpa using hk
    have a1 : o[o.length - 1]'(by omega) = x[o.length - 1]'(by omega) := by
      have e1 : (o ++ [f])[o.length - 1]'(by simp; omega) = (x.take (o.length + 1))[o.length - 1]'(by rw [List.length_take]; omega) := by simp only [h1]
      rw [List.getElem_append_left (by omega), List.getElem_take] at e1
      exact e1
    have a2 : f = x[o.length] := by
      have e1 : (o ++ [f])[o.length]'(by simp) = (x.take (o.length + 1))[o.length]'(by rw [List.length_take]; omega) := by simp only [h1]
      rw [List.getElem_append_right (by omega), List.getElem_take] at e1
      simp only [Nat.sub_self, List.getElem_cons_zero] at e1
      exact e1
    have h2 := List.pairwise_iff_getElem.1 hx.2.1 (o.length - 1) o.length (by omega) hk2 (by omega)
    rw [← a1, ← a2] at h2
    unfold lessF at h2
    rw [hn] at h2; cases h2
/-- All parts read: the fields are the text's, if they are valid. -/
theorem rd_end {s : ByteArray} {o : List Fld} (_h0 : s.size ≠ 0) (hr : RdTo (parts 59 s.data.toList) o (parts 59 s.data.toList).length) (ha : o.Pairwise lessF) (hv : fieldsB o = true) : TxtOf s o := by
  refine ⟨hv, ha, ?_⟩
  have e : o.map partL = parts 59 s.data.toList := by
    refine List.ext_getElem (by rw [List.length_map, hr.1]) fun j h1 h2 => ?_
    rw [List.length_map] at h1
    rw [List.getElem_map]
    exact (hr.2 j h2 h1).text (fld_ok hv h1).2.1
  unfold fieldsL
  rw [e, join_parts]
theorem rd_bad {s : ByteArray} {o : List Fld} (h0 : s.size ≠ 0) (hr : RdTo (parts 59 s.data.toList) o (parts 59 s.data.toList).length) (hv : fieldsB o = false) : ∀ x, ¬ TxtOf s x := fun x hx => by
  by_cases e : x = []
  · subst e; exact h0 (txt_nil hx)
  · have ep := txt_parts hx e
    have h1 := rd_same hr ep (fun j hj => txt_at hx hj) (Nat.le_refl _)
    rw [ep, List.length_map, List.take_length] at h1
    rw [h1, hx.1] at hv; cases hv

set_option maxRecDepth 100000 in
set_option maxHeartbeats 3200000 in
theorem i_ReadFields (s : ByteArray) (m : Int) (w : World) (hs : s.size < 4294967281) (hm : w.cell? ⟨0, 0, none⟩ = some (.int .i64 m)) :
    Calls Tryd.prog 11 #[.string s] w (RdRet s w) := by
  obtain ⟨i0, hi, hz0, hz1, hz2⟩ := info_parts Tryd.infoFld
  by_cases h0 : s.size = 0
  · obtain rfl := str_nil h0
    clear hm
    go_enter Tryd.func11, Tryd.ntmps11
    go_wp2_with fail
    exact bodyPost_ret (results_tmp2 rfl _ _ _) rfl ⟨_, [], true, rfl, .inl ⟨rfl, txt_empty⟩, World.ownsRow_nil _ _ _ _, Below.refl _ _⟩
  · have hne := str_ne h0
    go_enter Tryd.func11, Tryd.ntmps11
    go_wp2_with fail
    refine (split_at 59 s m _ hs hm).mono ?_
    rintro e w1 ⟨L, hL, rfl, rfl⟩
    have hc1 := parts_count 59 s.data.toList
    have hc2 : L.length = (parts 59 s.data.toList).length := by rw [← hL, List.length_map]
    have HC := Lib.hid hc2
    have hln := size_len s
    have hLs : ∀ k (h : k < L.length), L[k].size ≤ s.size ∧ (parts 59 s.data.toList)[k]? = some L[k].data.toList := fun k h => by
      have e1 : (L.map (·.data.toList))[k]? = (parts 59 s.data.toList)[k]? := by rw [hL]
      rw [List.getElem?_map, List.getElem?_eq_getElem h] at e1
      refine ⟨?_, e1.symm⟩
      have := parts_size 59 s.data.toList _ (List.mem_of_getElem? e1.symm)
      rw [size_len, size_len] at this; exact this
    have hb0 : Below w.heap.size w (w.alloc (.cells (L.map Value.string).toArray 9)) := below1 _ _
    have hcel : ∀ k (h : k < L.length), (w.alloc (.cells (L.map Value.string).toArray 9)).cell? ⟨w.heap.size, k, none⟩ = some (.string L[k]) := fun k h => by
      rw [World.cell?_alloc_new]; simp [h]
    have hsz1 : (w.alloc (.cells (L.map Value.string).toArray 9)).heap.size = w.heap.size + 1 := by simp
    generalize (w.alloc (.cells (L.map Value.string).toArray 9)) = w1 at hb0 hcel hsz1 ⊢
    clear hm hL hc2
    go_wp2_with fail
    go_loopw [4, 15] (fun R i wr => ∃ (k : Nat) (A : Option Addr) (c : Nat) (o : List Fld), k ≤ L.length ∧ i = .int .i64 k ∧ R = .slice A o.length c ∧ wr.ownsRow w1.heap.size 41 2 (.slice A o.length c) o.length (fldS.cells o) ∧ RdTo (parts 59 s.data.toList) o k ∧ o.Pairwise lessF ∧ (∀ y ∈ o, y.name.size ≤ 140737488355328) ∧ Below w1.heap.size w1 wr) (fun _ i _ => L.length - (intOf i).toNat)
    case atStart => exact ⟨0, none, 0, [], Nat.zero_le _, rfl, rfl, World.ownsRow_nil _ _ _ _, RdTo.zero _, List.Pairwise.nil, fun y hy => (by cases hy), Below.refl _ _⟩
    case round =>
      obtain ⟨wo, rfl⟩ : ∃ wo : World, wo = wr := ⟨_, rfl⟩
      obtain ⟨k, A, c, o, hk, rfl, rfl, hown, hR, hA, hN, hB⟩ := hrel
      by_cases hlt : k < L.length
      · have hcell : wo.cell? ⟨w.heap.size, k, none⟩ = some (.string L[k]) := (hB.cell (p := ⟨w.heap.size, k, none⟩) (by show w.heap.size < _; omega)).trans (hcel k hlt)
        obtain ⟨hp1, hp2⟩ := hLs k hlt
        have q2 : (0 : Int) ≤ (k : Int) := by omega
        have q3 : (k : Int) < (L.length : Int) := by omega
        have HOL := Lib.hid hR.1
        have hc2 := HC.out
        have hok : o.length ≤ 4294967281 := by have := hR.1; omega
        clear hcel hLs
        go_wp2_with fail
        refine (cut61 L[k] _ (by omega)).mono ?_
        rintro e w2 ⟨⟨n, mk, e1, e2, e3, e4, rfl⟩ | ⟨e1, n, mk, rfl⟩, hb2⟩
        · have hB2 := below_trans hb0 (below_trans hB hb2)
          have hB3 := below_trans hB hb2
          have hown2 := owns_below hown hb2
          clear hown hB hb2
          have HK : Hid (∃ h : k < (parts 59 s.data.toList).length, L[k].data.toList = (parts 59 s.data.toList)[k]) := by
            obtain ⟨z1, z2⟩ := List.getElem?_eq_some_iff.1 hp2
            exact ⟨z1, z2.symm⟩
          clear hp2 hc2
          rcases Nat.eq_zero_or_pos o.length with ho | ho
          · have x5 : decide ((0 : Int) < (o.length : Int)) = false := decide_eq_false (by omega)
            have x6 : decide (0 < o.length) = false := decide_eq_false (by omega)
            have HO := Lib.hid ho
            clear ho
            go_wp2_with fail
            refine (i_ReadMark mk _ (by omega)).mono ?_
            rintro e w3 ⟨v, rfl, hmk, rfl⟩
            have HR := Lib.hid (hR.succ (f := ⟨n, v⟩) HK.out.1 ⟨mk.data.toList, HK.out.2.symm.trans e1, e2, hmk⟩)
            have HA := Lib.hid (asc_add (f := ⟨n, v⟩) hA (fun h0 => absurd h0 (by have := HO.out; omega)))
            have HN := Lib.hid (show ∀ y ∈ o ++ [(⟨n, v⟩ : Fld)], y.name.size ≤ 140737488355328 from fun y hy => (List.mem_append.1 hy).elim (hN y) (fun hy => by rw [List.mem_singleton.1 hy]; show n.size ≤ _; omega))
            clear hR hA hN hmk e1
            go_wp2_with (at_builtin; refine wpList_app_sl (S := fldS) rfl _ _ 23 rfl w1.heap.size 41 i0 (.agg #[.string ⟨#[]⟩, .int .i64 0]) 24 Tryd.underlying23 hi hz0 hz1 hz2 rfl _ _ _ rfl (hown2.alloc _) [(⟨n, v⟩ : Fld)] (one_sl (S := fldS) (x := ⟨n, v⟩) (heap_alloc_new _ _)) (by simp [maxLen]; omega) (by simp; omega) (by have := hB3.size; rw [World.size_alloc]; omega) ?_; intro v7 w7 hown7 hgrow7 hat7; clear hat7)
            have hB7 : Below w1.heap.size w1 w7 := (below_trans hB3 (below1 _ _)).grown hgrow7 (below_trans hB3 (below1 _ _)).size (fun j hj => by have := (hown2.lt j hj).1; omega)
            have hcl : fldS.cells o ++ fldS.cells [(⟨n, v⟩ : Fld)] = fldS.cells (o ++ [(⟨n, v⟩ : Fld)]) := (fldS.cells_append _ _).symm
            have hll : o.length + [(⟨n, v⟩ : Fld)].length = (o ++ [(⟨n, v⟩ : Fld)]).length := by simp
            rw [hcl, hll] at hown7
            obtain ⟨A7, c7, hv7⟩ : ∃ A7 c7, v7 = .slice A7 (o ++ [(⟨n, v⟩ : Fld)]).length c7 := by
              rcases hown7.2 with ⟨e, h0⟩ | ⟨g, cap, cur, e, _⟩
              · exact absurd h0 (by simp)
              · exact ⟨_, _, e⟩
            subst hv7
            clear hcl hll hgrow7 hown2
            go_wp2_with fail
            go_roundw
            case rel => exact ⟨k + 1, A7, c7, o ++ [(⟨n, v⟩ : Fld)], by omega, by go_num, rfl, hown7, HR.out, HA.out, HN.out, hB7⟩
            case measure => simp [intOf]; omega
          · obtain ⟨g, cap', hv, hg1, hg2⟩ := hown2.form ho
            injection hv with hv1 _ hv3
            subst hv1; subst hv3
            have p0 : w2.cell? ⟨g, (o.length - 1) * 2, none⟩ = some (.string (o[o.length - 1]'(by omega)).name) := by
              rw [hown2.cellAt _ (by omega)]; exact (fldS.cells_at o (o.length - 1) (by omega) 0 (by decide)).trans rfl
            have x1 : IntKind.i64.wrap ((o.length : Int) - 1) = (o.length : Int) - 1 := IntWalk.i64_in _ (by omega)
            have x2 : (0 : Int) ≤ (o.length : Int) - 1 := by omega
            have x3 : (o.length : Int) - 1 < (o.length : Int) := by omega
            have x4 : ((o.length : Int) - 1).toNat = o.length - 1 := by omega
            have x5 : decide ((0 : Int) < (o.length : Int)) = true := decide_eq_true (by omega)
            have x6 : decide (0 < o.length) = true := decide_eq_true (by omega)
            have x7 : (1 : Int) ≤ (o.length : Int) := by omega
            obtain ⟨ln, hln⟩ : ∃ ln, Hid (ln = (o[o.length - 1]'(by omega)).name) := ⟨_, Lib.hid rfl⟩
            rw [← hln.out] at p0
            cases hq : Op.bytesLess ln.toList n.toList
            · have HN : Hid (∀ x, ¬ TxtOf s x) := fun x hx => by
                obtain ⟨v, hv⟩ := markIs_ex mk.data.toList
                exact no_order (f := ⟨n, v⟩) h0 hR HK.out.1 ⟨mk.data.toList, HK.out.2.symm.trans e1, e2, hv⟩ ho (by rw [← hln.out]; exact hq) x hx
              clear hR hA hown2
              go_wp2_with fail
              exact bodyPost_ret (v := .tuple #[.slice none 0 0, .bool false]) (by simp [results, Tryd.results11, go_sem]) rfl (RdRet.no HN.out hB2)
            · have HQ := Lib.hid hq
              go_wp2_with fail
              refine (i_ReadMark mk _ (by omega)).mono ?_
              rintro e w3 ⟨v, rfl, hmk, rfl⟩
              have HR := Lib.hid (hR.succ (f := ⟨n, v⟩) HK.out.1 ⟨mk.data.toList, HK.out.2.symm.trans e1, e2, hmk⟩)
              have HA := Lib.hid (asc_add (f := ⟨n, v⟩) hA (fun _ => by show Op.bytesLess _ _ = true; rw [← hln.out]; exact HQ.out))
              have HN := Lib.hid (show ∀ y ∈ o ++ [(⟨n, v⟩ : Fld)], y.name.size ≤ 140737488355328 from fun y hy => (List.mem_append.1 hy).elim (hN y) (fun hy => by rw [List.mem_singleton.1 hy]; show n.size ≤ _; omega))
              clear hR hA hN hmk e1
              go_wp2_with (at_builtin; refine wpList_app_sl (S := fldS) rfl _ _ 23 rfl w1.heap.size 41 i0 (.agg #[.string ⟨#[]⟩, .int .i64 0]) 24 Tryd.underlying23 hi hz0 hz1 hz2 rfl _ _ _ rfl (hown2.alloc _) [(⟨n, v⟩ : Fld)] (one_sl (S := fldS) (x := ⟨n, v⟩) (heap_alloc_new _ _)) (by simp [maxLen]; omega) (by simp; omega) (by have := hB3.size; rw [World.size_alloc]; omega) ?_; intro v7 w7 hown7 hgrow7 hat7; clear hat7)
              have hB7 : Below w1.heap.size w1 w7 := (below_trans hB3 (below1 _ _)).grown hgrow7 (below_trans hB3 (below1 _ _)).size (fun j hj => by have := (hown2.lt j hj).1; omega)
              have hcl : fldS.cells o ++ fldS.cells [(⟨n, v⟩ : Fld)] = fldS.cells (o ++ [(⟨n, v⟩ : Fld)]) := (fldS.cells_append _ _).symm
              have hll : o.length + [(⟨n, v⟩ : Fld)].length = (o ++ [(⟨n, v⟩ : Fld)]).length := by simp
              rw [hcl, hll] at hown7
              obtain ⟨A7, c7, hv7⟩ : ∃ A7 c7, v7 = .slice A7 (o ++ [(⟨n, v⟩ : Fld)]).length c7 := by
                rcases hown7.2 with ⟨e, h0⟩ | ⟨g, cap, cur, e, _⟩
                · exact absurd h0 (by simp)
                · exact ⟨_, _, e⟩
              subst hv7
              clear hcl hll hgrow7 hown2
              go_wp2_with fail
              go_roundw
              case rel => exact ⟨k + 1, A7, c7, o ++ [(⟨n, v⟩ : Fld)], by omega, by go_num, rfl, hown7, HR.out, HA.out, HN.out, hB7⟩
              case measure => simp [intOf]; omega
        · have HN : Hid (∀ x, ¬ TxtOf s x) := by
            obtain ⟨z1, z2⟩ := List.getElem?_eq_some_iff.1 hp2
            exact no_sign h0 z1 (by rw [z2]; exact e1)
          have hB2 := below_trans hb0 (below_trans hB hb2)
          clear hp2 hown hR hA hc2
          go_wp2_with fail
          exact bodyPost_ret (v := .tuple #[.slice none 0 0, .bool false]) (by simp [results, Tryd.results11, go_sem]) rfl (RdRet.no HN.out hB2)
      · obtain rfl : k = L.length := by omega
        rw [HC.out] at hR
        clear hcel hLs
        go_wp2_with fail
        refine (i_FieldsValid _ o _ (Sl.of_owns hown) hN).mono ?_
        rintro e w2 ⟨rfl, hb2⟩
        have hB2 := below_trans hb0 (below_trans hB hb2)
        have hown2 := owns_base (owns_below hown hb2) hb0.size
        cases hv : fieldsB o
        · have HN : Hid (∀ x, ¬ TxtOf s x) := rd_bad h0 hR hv
          clear hR hA hown hown2
          go_wp2_with fail
          exact bodyPost_ret (v := .tuple #[.slice none 0 0, .bool false]) (by simp [results, Tryd.results11, go_sem]) rfl (RdRet.no HN.out hB2)
        · have HT : Hid (TxtOf s o) := rd_end h0 hR hA hv
          clear hR hA hown
          go_wp2_with fail
          exact bodyPost_ret (v := .tuple #[.slice A o.length c, .bool true]) (by simp [results, Tryd.results11, go_sem]) rfl (RdRet.mk (.inl ⟨rfl, HT.out⟩) hown2 hB2)
end Go.Proofs.YtemjonibpachbaaDoor
