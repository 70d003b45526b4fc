/- The walk of the reference's l1Words: what is between single spaces. Condition: the text is no longer than a machine holds. -/
import Derived.Test.YtackffegdmohiaaDoorRdAI
import Derived.Test.YtackffegdmohiaaDoorApp
namespace Go.Proofs.YtackffegdmohiaaDoor
open Go.RowKit

theorem Tryd.infoStr0 : (Tryd.prog.info? 9).map (fun i => (i.zero, i.size, i.bytes)) = some (some (.string ⟨#[]⟩), 1, 16) := by kernel_rfl
/-- With another byte behind it, the last part is longer. -/
theorem parts_ext {c a : UInt8} (ha : a ≠ c) : ∀ (l : List UInt8) (P : List (List UInt8)) (q : List UInt8), parts c l = P ++ [q] → parts c (l ++ [a]) = P ++ [q ++ [a]]
  | [], P, q, h => by
    cases P with
    | nil =>
      simp [parts] at h
      subst h
      simp [parts, ha]
    | cons p r => simp [parts] at h
  | b :: l, P, q, h => by
    rw [List.cons_append]
    by_cases hb : b = c
    · rw [parts, if_pos hb] at h
      rw [parts, if_pos hb]
      cases P with
      | nil => simp at h; exact absurd h.2 (parts_ne c l)
      | cons p r =>
        simp only [List.cons_append, List.cons.injEq] at h
        rw [parts_ext ha l r q h.2, ← h.1]; rfl
    · rw [parts, if_neg hb] at h
      rw [parts, if_neg hb]
      cases hp : parts c l with
      | nil => exact absurd hp (parts_ne c l)
      | cons p r =>
        rw [hp] at h
        simp only at h
        cases P with
        | nil =>
          simp only [List.nil_append, List.cons.injEq] at h
          obtain ⟨h1, h2⟩ := h
          subst h2
          rw [parts_ext ha l [] p (by simpa using hp), ← h1]; rfl
        | cons p2 r2 =>
          simp only [List.cons_append, List.cons.injEq] at h
          obtain ⟨h1, h2⟩ := h
          rw [parts_ext ha l (p :: r2) q (by rw [hp, h2]; rfl), ← h1]; rfl
/-- The parts of the first k bytes. -/
def PartsTo (l : List UInt8) (k : Nat) (I : List ByteArray) (q : ByteArray) : Prop := I.map (·.data.toList) ++ [q.data.toList] = parts 32 (l.take k)
theorem PartsTo.zero (l : List UInt8) : PartsTo l 0 [] ⟨#[]⟩ := by unfold PartsTo; simp [parts]
theorem PartsTo.cut {l : List UInt8} {k : Nat} {I : List ByteArray} {q : ByteArray} (h : PartsTo l k I q) (hk : k < l.length) (e : l.getD k 0 = 32) : PartsTo l (k + 1) (I ++ [q]) ⟨#[]⟩ := by
  unfold PartsTo at *
  rw [List.take_succ_eq_append_getElem hk, ← getD_lt hk, e, parts_snoc, ← h]; simp
theorem PartsTo.more {l : List UInt8} {k : Nat} {I : List ByteArray} {q : ByteArray} (h : PartsTo l k I q) (hk : k < l.length) (e : l.getD k 0 ≠ 32) {x : ByteArray} (hx : x.data.toList = [l.getD k 0]) : PartsTo l (k + 1) I (q ++ x) := by
  unfold PartsTo at *
  rw [List.take_succ_eq_append_getElem hk, ← getD_lt hk, parts_ext e _ _ _ h.symm, ByteArray.data_append, Array.toList_append, hx]
theorem PartsTo.size {s : ByteArray} {k : Nat} {I : List ByteArray} {q : ByteArray} (h : PartsTo s.data.toList k I q) : q.size ≤ s.size ∧ I.length ≤ s.size := by
  have h1 := parts_size 32 (s.data.toList.take k) q.data.toList (by rw [← h]; simp)
  have h2 := parts_count 32 (s.data.toList.take k)
  rw [← h] at h2
  rw [List.length_take, size_len, size_len] at h1
  rw [List.length_take, size_len] at h2
  simp at h2
  omega
/-- What l1Words answers: the parts, in an array of its own. -/
def WordsRet (s : ByteArray) (w : World) (e : Ending) (w' : World) : Prop :=
  ∃ (L : List ByteArray) (g c : Nat), e = .returned (.slice (some ⟨g, 0, none⟩) L.length c) ∧ L.map (·.data.toList) = parts 32 s.data.toList ∧ w.heap.size ≤ g ∧ (∀ (j : Nat) (h : j < L.length), w'.cell? ⟨g, j, none⟩ = some (.string L[j])) ∧ Below w.heap.size w w'
theorem str_at {w : World} {base g c : Nat} {L : List ByteArray} {e : TypeId} (h : w.ownsRow base e strS.sz (.slice (some ⟨g, 0, none⟩) L.length c) L.length (strS.cells L)) {j : Nat} (hj : j < L.length) : w.cell? ⟨g, j, none⟩ = some (.string L[j]) := by
  have h1 := h.cellAt j (by simp [strS]; exact hj)
  rw [h1, str_cells, List.getElem?_map, List.getElem?_eq_getElem hj]; rfl
theorem WordsRet.mk {s : ByteArray} {w w' : World} {I : List ByteArray} {q : ByteArray} {g c : Nat} {e : TypeId} (hP : PartsTo s.data.toList s.size I q) (ho : w'.ownsRow w.heap.size e strS.sz (.slice (some ⟨g, 0, none⟩) (I ++ [q]).length c) (I ++ [q]).length (strS.cells (I ++ [q]))) (hb : Below w.heap.size w w') :
    WordsRet s w (.returned (.slice (some ⟨g, 0, none⟩) (I ++ [q]).length c)) w' := by
  refine ⟨I ++ [q], g, c, rfl, ?_, (ho.lt g rfl).1, fun j hj => str_at ho hj, hb⟩
  unfold PartsTo at hP
  rw [List.take_of_length_le (by rw [size_len]; exact Nat.le_refl _)] at hP
  rw [← hP]; simp
theorem ext_one {s : ByteArray} {k : Nat} (hk : k < s.size) : (s.extract k (k + 1)).data.toList = [s.data.toList.getD k 0] := by
  have hl := size_len s
  rw [ext_list, Nat.add_sub_cancel_left, List.drop_eq_getElem_cons (by omega), getD_lt (by omega)]
  rfl
set_option maxHeartbeats 3200000 in
theorem s_l1Words (s : ByteArray) (w : World) (hs : s.size < 4294967281) : Calls Tryd.prog 37 #[.string s] w (WordsRet s w) := by
  obtain ⟨i0, hi, hz0, hz1, hz2⟩ := info_parts Tryd.infoStr0
  have hO : Hid ((w.alloc (.cells #[.string ⟨#[]⟩] 9)).ownsRow w.heap.size 9 strS.sz (.slice (some ⟨w.heap.size, 0, none⟩) 1 1) 1 (strS.cells [⟨#[]⟩])) := World.ownsRow_lit _ _ _ (Nat.le_refl _) (by simp [maxLen]) (by simp [strS])
  go_enter Tryd.func37, Tryd.ntmps37
  go_wp2_with fail
  go_loopw [3, 4] (fun V I wr => ∃ (k g c : Nat) (J : List ByteArray) (q : ByteArray), k ≤ s.size ∧ I = .int .i64 k ∧ V = .slice (some ⟨g, 0, none⟩) (J ++ [q]).length c ∧ Hid (PartsTo s.data.toList k J q) ∧ wr.ownsRow w.heap.size 9 strS.sz (.slice (some ⟨g, 0, none⟩) (J ++ [q]).length c) (J ++ [q]).length (strS.cells (J ++ [q])) ∧ Below w.heap.size w wr) (fun _ I _ => s.size - (intOf I).toNat)
  case atStart => exact ⟨0, _, _, [], _, Nat.zero_le _, rfl, rfl, PartsTo.zero _, hO.out, below1 _ _⟩
  case round =>
    obtain ⟨wo, rfl⟩ : ∃ wo : World, wo = wr := ⟨_, rfl⟩
    obtain ⟨k, g, c, J, q, hk, rfl, rfl, hP, hown, hB⟩ := hrel
    clear hO
    obtain ⟨hq, hJ⟩ := hP.out.size
    have hl := size_len s
    by_cases hlt : k < s.size
    · have q1 : (k : Int) < (s.size : Int) := by omega
      have q2 : (0 : Int) ≤ (k : Int) := by omega
      by_cases h32 : s[k].toNat = 32
      · have HP : Hid (PartsTo s.data.toList (k + 1) (J ++ [q]) ⟨#[]⟩) := hP.out.cut (by omega) (by rw [sget hlt]; exact UInt8.toNat_inj.mp h32)
        have hl1 : (J ++ [q]).length ≤ 4294967281 := by simp; omega
        clear hP hl hJ
        generalize J ++ [q] = L at *
        go_wp2_with (at_builtin; refine wpList_app_sl (S := strS) rfl _ _ 44 rfl w.heap.size 9 i0 (.string ⟨#[]⟩) 16 Tryd.underlying44 hi hz0 hz1 hz2 rfl _ _ _ rfl (hown.alloc _) [(⟨#[]⟩ : ByteArray)] (one_sl (S := strS) (x := (⟨#[]⟩ : ByteArray)) (heap_alloc_new _ _)) (by simp [maxLen]; omega) (by simp; omega) (by have := hB.size; simp; omega) ?_; intro v7 w7 hown7 hgrow7 hat7; clear hat7)
        have bA := below_trans hB (below1 wo (.cells #[.string ⟨#[]⟩] 9))
        have hB7 : Below w.heap.size w w7 := bA.grown hgrow7 bA.size (fun j hj => (hown.lt j hj).1)
        have hcl : strS.cells L ++ strS.cells [(⟨#[]⟩ : ByteArray)] = strS.cells (L ++ [(⟨#[]⟩ : ByteArray)]) := (strS.cells_append _ _).symm
        have hll : L.length + [(⟨#[]⟩ : ByteArray)].length = (L ++ [(⟨#[]⟩ : ByteArray)]).length := by simp
        rw [hcl, hll] at hown7
        obtain ⟨g2, c2, hv'⟩ : ∃ g2 c2, v7 = .slice (some ⟨g2, 0, none⟩) (L ++ [(⟨#[]⟩ : ByteArray)]).length c2 := by
          rcases hown7.2 with ⟨e, h0⟩ | ⟨g, cap, cur, e, _⟩
          · exact absurd h0 (by simp)
          · exact ⟨_, _, e⟩
        subst hv'
        clear hcl hll hgrow7 hown bA
        go_roundw
        case rel => exact ⟨k + 1, g2, c2, L, ⟨#[]⟩, by omega, by go_num, rfl, HP, hown7, hB7⟩
        case measure => simp [intOf]; omega
      · have hne : s.data.toList.getD k 0 ≠ 32 := by rw [sget hlt]; intro e; exact h32 (by rw [e]; rfl)
        have HP : Hid (PartsTo s.data.toList (k + 1) J (q ++ s.extract k (k + 1))) := hP.out.more (by omega) hne (ext_one hlt)
        have hz : (s.extract k (k + 1)).size = 1 := by simp [ByteArray.size_extract]; omega
        have hlen : (J ++ [q]).length = J.length + 1 := by simp
        have cq0 := str_at hown (j := J.length) (by simp)
        have fq0 := hown.frozenAt J.length
        have hg := hown.lt g rfl
        have hcl : (strS.cells (J ++ [q])).set J.length (.string (q ++ s.extract k (k + 1))) = strS.cells (J ++ [q ++ s.extract k (k + 1)]) := by simp [str_cells]
        rw [show (J ++ [q])[J.length]'(by simp) = q by simp] at cq0
        obtain ⟨m, hm⟩ : ∃ m, Hid (J.length = m) := ⟨_, Lib.hid rfl⟩
        rw [hlen, hm.out] at hown ⊢
        rw [hm.out] at cq0 fq0 hcl hJ
        have r1 : (0 : Int) ≤ (m : Int) := by omega
        have r2 : (m : Int) < (m : Int) + 1 := by omega
        have r3 : IntKind.i64.wrap (m : Int) = (m : Int) := IntWalk.i64_in _ (by omega)
        have r4 : IntKind.i64.wrap ((k : Int) + 1) = (k : Int) + 1 := IntWalk.i64_in _ (by omega)
        have r5 : (k : Int) ≤ (k : Int) + 1 := by omega
        have r6 : (k : Int) + 1 ≤ (s.size : Int) := by omega
        have r7 : IntKind.i64.wrap ((m : Int) + 1 - 1) = (m : Int) := by rw [Int.add_sub_cancel]; exact r3
        have hgl := hg.2
        clear hP hl hne hlen
        go_wp2_with fail
        refine wp_region_typed_last 17 (fun iX wX vX => (([bIs (.slice (some ⟨g, 0, none⟩) (m + 1) c), bIs (.slice (some ⟨g, 0, none⟩) (m + 1) c), bIs (.int .i64 ((m + 1 : Nat) : Int)), bIs (.int .i64 (m : Int)), bIs (.slice (some ⟨g, 0, none⟩) (m + 1) c), bIs (.slice (some ⟨g, 0, none⟩) (m + 1) c), bIs (.int .i64 ((m + 1 : Nat) : Int)), bIs (.int .i64 (m : Int)), bIs (.pointer (some ⟨g, m, none⟩)), bIs (.string q), bIs (.string s), bIs (.int .i64 (k : Int)), bIs (.int .i64 (k : Int)), bIs (.int .i64 ((k : Int) + 1)), bIs (.string (s.extract k (k + 1))), bIs (.string (q ++ s.extract k (k + 1))), bIs (.pointer (some ⟨g, m, none⟩))] : List BTy).getD iX bAny).T wX vX) (fun _ => 0) (fun _ w' => Below wo.heap.size wo w') (fun u u' => Below u.heap.size u u') 0 (by kernel_rfl) 37 rfl rfl (by kernel_rfl) (by kernel_rfl) (by kernel_rfl) (by decide) (Below.refl _ _).drew (bty_st _) ?_ ?_
        · refine ⟨?_, ?_, ?_, ?_, ?_, ?_, ?_, ?_, ?_, ?_, ?_, ?_, ?_, ?_, ?_, ?_, ?_, trivial⟩
          · intro B a' w' hB hW hF
            have h3 : a'.tmps[3]? = some (.slice (some ⟨g, 0, none⟩) (m + 1) c) := (hF.at 3 (by kernel_rfl)).trans rfl
            refine wpOp_step rfl (fun K hK => ?_)
            go_simp
            exact hK _ _ ⟨_, rfl, Below.refl _ _, rfl, hW⟩
          · intro B a' w' hB hW hF
            have h3 : a'.tmps[3]? = some (.slice (some ⟨g, 0, none⟩) (m + 1) c) := (hF.at 3 (by kernel_rfl)).trans rfl
            refine wpOp_step rfl (fun K hK => ?_)
            go_simp
            exact hK _ _ ⟨_, rfl, Below.refl _ _, rfl, hW⟩
          · intro B a' w' hB hW hF
            have h20 : a'.tmps[20]? = some (.slice (some ⟨g, 0, none⟩) (m + 1) c) := by obtain ⟨_, h, e⟩ := hF.val ⟨1, .data⟩ (by simp) rfl _ rfl; rw [h, show _ = (.slice (some ⟨g, 0, none⟩) (m + 1) c : Value) from e]
            refine wpOp_step rfl (fun K hK => ?_)
            go_simp
            exact hK _ _ ⟨_, rfl, Below.refl _ _, rfl, hW⟩
          · intro B a' w' hB hW hF
            have h21 : a'.tmps[21]? = some (.int .i64 ((m + 1 : Nat) : Int)) := by obtain ⟨_, h, e⟩ := hF.val ⟨2, .data⟩ (by simp) rfl _ rfl; rw [h, show _ = (.int .i64 ((m + 1 : Nat) : Int) : Value) from e]
            refine wpOp_step rfl (fun K hK => ?_)
            go_simp
            exact hK _ _ ⟨_, rfl, Below.refl _ _, rfl, hW⟩
          · intro B a' w' hB hW hF
            have h3 : a'.tmps[3]? = some (.slice (some ⟨g, 0, none⟩) (m + 1) c) := (hF.at 3 (by kernel_rfl)).trans rfl
            refine wpOp_step rfl (fun K hK => ?_)
            go_simp
            exact hK _ _ ⟨_, rfl, Below.refl _ _, rfl, hW⟩
          · intro B a' w' hB hW hF
            have h3 : a'.tmps[3]? = some (.slice (some ⟨g, 0, none⟩) (m + 1) c) := (hF.at 3 (by kernel_rfl)).trans rfl
            refine wpOp_step rfl (fun K hK => ?_)
            go_simp
            exact hK _ _ ⟨_, rfl, Below.refl _ _, rfl, hW⟩
          · intro B a' w' hB hW hF
            have h24 : a'.tmps[24]? = some (.slice (some ⟨g, 0, none⟩) (m + 1) c) := by obtain ⟨_, h, e⟩ := hF.val ⟨5, .data⟩ (by simp) rfl _ rfl; rw [h, show _ = (.slice (some ⟨g, 0, none⟩) (m + 1) c : Value) from e]
            refine wpOp_step rfl (fun K hK => ?_)
            go_simp
            exact hK _ _ ⟨_, rfl, Below.refl _ _, rfl, hW⟩
          · intro B a' w' hB hW hF
            have h25 : a'.tmps[25]? = some (.int .i64 ((m + 1 : Nat) : Int)) := by obtain ⟨_, h, e⟩ := hF.val ⟨6, .data⟩ (by simp) rfl _ rfl; rw [h, show _ = (.int .i64 ((m + 1 : Nat) : Int) : Value) from e]
            refine wpOp_step rfl (fun K hK => ?_)
            go_simp
            exact hK _ _ ⟨_, rfl, Below.refl _ _, rfl, hW⟩
          · intro B a' w' hB hW hF
            have h23 : a'.tmps[23]? = some (.slice (some ⟨g, 0, none⟩) (m + 1) c) := by obtain ⟨_, h, e⟩ := hF.val ⟨4, .data⟩ (by simp) rfl _ rfl; rw [h, show _ = (.slice (some ⟨g, 0, none⟩) (m + 1) c : Value) from e]
            have h26 : a'.tmps[26]? = some (.int .i64 (m : Int)) := by obtain ⟨_, h, e⟩ := hF.val ⟨7, .data⟩ (by simp) rfl _ rfl; rw [h, show _ = (.int .i64 (m : Int) : Value) from e]
            refine wpOp_step rfl (fun K hK => ?_)
            go_simp
            exact hK _ _ ⟨_, rfl, Below.refl _ _, rfl, hW⟩
          · intro B a' w' hB hW hF
            have h27 : a'.tmps[27]? = some (.pointer (some ⟨g, m, none⟩)) := by obtain ⟨_, h, e⟩ := hF.val ⟨8, .data⟩ (by simp) rfl _ rfl; rw [h, show _ = (.pointer (some ⟨g, m, none⟩) : Value) from e]
            have e1 : w'.cell? ⟨g, m, none⟩ = some (.string q) := keep_cell hW cq0
            refine wpOp_step rfl (fun K hK => ?_)
            go_simp
            exact hK _ _ ⟨_, rfl, Below.refl _ _, rfl, hW⟩
          · intro B a' w' hB hW hF
            have h0 : a'.tmps[0]? = some (.string s) := (hF.at 0 (by kernel_rfl)).trans rfl
            refine wpOp_step rfl (fun K hK => ?_)
            go_simp
            exact hK _ _ ⟨_, rfl, Below.refl _ _, rfl, hW⟩
          · intro B a' w' hB hW hF
            have h4 : a'.tmps[4]? = some (.int .i64 (k : Int)) := (hF.at 4 (by kernel_rfl)).trans rfl
            refine wpOp_step rfl (fun K hK => ?_)
            go_simp
            exact hK _ _ ⟨_, rfl, Below.refl _ _, rfl, hW⟩
          · intro B a' w' hB hW hF
            have h4 : a'.tmps[4]? = some (.int .i64 (k : Int)) := (hF.at 4 (by kernel_rfl)).trans rfl
            refine wpOp_step rfl (fun K hK => ?_)
            go_simp
            exact hK _ _ ⟨_, rfl, Below.refl _ _, rfl, hW⟩
          · intro B a' w' hB hW hF
            have h31 : a'.tmps[31]? = some (.int .i64 (k : Int)) := by obtain ⟨_, h, e⟩ := hF.val ⟨12, .data⟩ (by simp) rfl _ rfl; rw [h, show _ = (.int .i64 (k : Int) : Value) from e]
            refine wpOp_step rfl (fun K hK => ?_)
            go_simp
            exact hK _ _ ⟨_, rfl, Below.refl _ _, rfl, hW⟩
          · intro B a' w' hB hW hF
            have h29 : a'.tmps[29]? = some (.string s) := by obtain ⟨_, h, e⟩ := hF.val ⟨10, .data⟩ (by simp) rfl _ rfl; rw [h, show _ = (.string s : Value) from e]
            have h30 : a'.tmps[30]? = some (.int .i64 (k : Int)) := by obtain ⟨_, h, e⟩ := hF.val ⟨11, .data⟩ (by simp) rfl _ rfl; rw [h, show _ = (.int .i64 (k : Int) : Value) from e]
            have h32 : a'.tmps[32]? = some (.int .i64 ((k : Int) + 1)) := by obtain ⟨_, h, e⟩ := hF.val ⟨13, .data⟩ (by simp) rfl _ rfl; rw [h, show _ = (.int .i64 ((k : Int) + 1) : Value) from e]
            refine wpOp_step rfl (fun K hK => ?_)
            go_simp
            exact hK _ _ ⟨_, rfl, Below.refl _ _, rfl, hW⟩
          · intro B a' w' hB hW hF
            have h28 : a'.tmps[28]? = some (.string q) := by obtain ⟨_, h, e⟩ := hF.val ⟨9, .data⟩ (by simp) rfl _ rfl; rw [h, show _ = (.string q : Value) from e]
            have h33 : a'.tmps[33]? = some (.string (s.extract k (k + 1))) := by obtain ⟨_, h, e⟩ := hF.val ⟨14, .data⟩ (by simp) rfl _ rfl; rw [h, show _ = (.string (s.extract k (k + 1)) : Value) from e]
            refine wpOp_step rfl (fun K hK => ?_)
            go_simp
            rw [if_neg (by omega)]
            go_simp
            have hb : Below w'.heap.size w' w' := Below.refl _ _
            exact hK _ _ ⟨_, rfl, hb, rfl, below_trans hW hb⟩
          · intro B a' w' hB hW hF
            have h19 : a'.tmps[19]? = some (.slice (some ⟨g, 0, none⟩) (m + 1) c) := by obtain ⟨_, h, e⟩ := hF.val ⟨0, .data⟩ (by simp) rfl _ rfl; rw [h, show _ = (.slice (some ⟨g, 0, none⟩) (m + 1) c : Value) from e]
            have h22 : a'.tmps[22]? = some (.int .i64 (m : Int)) := by obtain ⟨_, h, e⟩ := hF.val ⟨3, .data⟩ (by simp) rfl _ rfl; rw [h, show _ = (.int .i64 (m : Int) : Value) from e]
            refine wpOp_step rfl (fun K hK => ?_)
            go_simp
            exact hK _ _ ⟨_, rfl, Below.refl _ _, rfl, hW⟩
        · intro a' w' hL hW
          have hd := hL.defers
          have hs := hL.size
          have h19 : a'.tmps[19]? = some (.slice (some ⟨g, 0, none⟩) (m + 1) c) := by obtain ⟨_, h, e⟩ := hL.val 0 _ rfl; rw [h, show _ = (.slice (some ⟨g, 0, none⟩) (m + 1) c : Value) from e]
          have h20 : a'.tmps[20]? = some (.slice (some ⟨g, 0, none⟩) (m + 1) c) := by obtain ⟨_, h, e⟩ := hL.val 1 _ rfl; rw [h, show _ = (.slice (some ⟨g, 0, none⟩) (m + 1) c : Value) from e]
          have h21 : a'.tmps[21]? = some (.int .i64 ((m + 1 : Nat) : Int)) := by obtain ⟨_, h, e⟩ := hL.val 2 _ rfl; rw [h, show _ = (.int .i64 ((m + 1 : Nat) : Int) : Value) from e]
          have h22 : a'.tmps[22]? = some (.int .i64 (m : Int)) := by obtain ⟨_, h, e⟩ := hL.val 3 _ rfl; rw [h, show _ = (.int .i64 (m : Int) : Value) from e]
          have h23 : a'.tmps[23]? = some (.slice (some ⟨g, 0, none⟩) (m + 1) c) := by obtain ⟨_, h, e⟩ := hL.val 4 _ rfl; rw [h, show _ = (.slice (some ⟨g, 0, none⟩) (m + 1) c : Value) from e]
          have h24 : a'.tmps[24]? = some (.slice (some ⟨g, 0, none⟩) (m + 1) c) := by obtain ⟨_, h, e⟩ := hL.val 5 _ rfl; rw [h, show _ = (.slice (some ⟨g, 0, none⟩) (m + 1) c : Value) from e]
          have h25 : a'.tmps[25]? = some (.int .i64 ((m + 1 : Nat) : Int)) := by obtain ⟨_, h, e⟩ := hL.val 6 _ rfl; rw [h, show _ = (.int .i64 ((m + 1 : Nat) : Int) : Value) from e]
          have h26 : a'.tmps[26]? = some (.int .i64 (m : Int)) := by obtain ⟨_, h, e⟩ := hL.val 7 _ rfl; rw [h, show _ = (.int .i64 (m : Int) : Value) from e]
          have h27 : a'.tmps[27]? = some (.pointer (some ⟨g, m, none⟩)) := by obtain ⟨_, h, e⟩ := hL.val 8 _ rfl; rw [h, show _ = (.pointer (some ⟨g, m, none⟩) : Value) from e]
          have h28 : a'.tmps[28]? = some (.string q) := by obtain ⟨_, h, e⟩ := hL.val 9 _ rfl; rw [h, show _ = (.string q : Value) from e]
          have h29 : a'.tmps[29]? = some (.string s) := by obtain ⟨_, h, e⟩ := hL.val 10 _ rfl; rw [h, show _ = (.string s : Value) from e]
          have h30 : a'.tmps[30]? = some (.int .i64 (k : Int)) := by obtain ⟨_, h, e⟩ := hL.val 11 _ rfl; rw [h, show _ = (.int .i64 (k : Int) : Value) from e]
          have h31 : a'.tmps[31]? = some (.int .i64 (k : Int)) := by obtain ⟨_, h, e⟩ := hL.val 12 _ rfl; rw [h, show _ = (.int .i64 (k : Int) : Value) from e]
          have h32 : a'.tmps[32]? = some (.int .i64 ((k : Int) + 1)) := by obtain ⟨_, h, e⟩ := hL.val 13 _ rfl; rw [h, show _ = (.int .i64 ((k : Int) + 1) : Value) from e]
          have h33 : a'.tmps[33]? = some (.string (s.extract k (k + 1))) := by obtain ⟨_, h, e⟩ := hL.val 14 _ rfl; rw [h, show _ = (.string (s.extract k (k + 1)) : Value) from e]
          have h34 : a'.tmps[34]? = some (.string (q ++ s.extract k (k + 1))) := by obtain ⟨_, h, e⟩ := hL.val 15 _ rfl; rw [h, show _ = (.string (q ++ s.extract k (k + 1)) : Value) from e]
          have h35 : a'.tmps[35]? = some (.pointer (some ⟨g, m, none⟩)) := by obtain ⟨_, h, e⟩ := hL.val 16 _ rfl; rw [h, show _ = (.pointer (some ⟨g, m, none⟩) : Value) from e]
          have hlit := act_lit (l := [_, _, _, _, _, _, _, _, _, _, _, _, _, _, _, _, _, _, _, _, _, _, _, _, _, _, _, _, _, _, _, _, _, _, _, _, _]) (hd.trans rfl) (by rw [hs]; rfl) (AllAt.cons ((hL.at 0 (by kernel_rfl)).trans rfl) (AllAt.cons ((hL.at 1 (by kernel_rfl)).trans rfl) (AllAt.cons ((hL.at 2 (by kernel_rfl)).trans rfl) (AllAt.cons ((hL.at 3 (by kernel_rfl)).trans rfl) (AllAt.cons ((hL.at 4 (by kernel_rfl)).trans rfl) (AllAt.cons ((hL.at 5 (by kernel_rfl)).trans rfl) (AllAt.cons ((hL.at 6 (by kernel_rfl)).trans rfl) (AllAt.cons ((hL.at 7 (by kernel_rfl)).trans rfl) (AllAt.cons ((hL.at 8 (by kernel_rfl)).trans rfl) (AllAt.cons ((hL.at 9 (by kernel_rfl)).trans rfl) (AllAt.cons ((hL.at 10 (by kernel_rfl)).trans rfl) (AllAt.cons ((hL.at 11 (by kernel_rfl)).trans rfl) (AllAt.cons ((hL.at 12 (by kernel_rfl)).trans rfl) (AllAt.cons ((hL.at 13 (by kernel_rfl)).trans rfl) (AllAt.cons ((hL.at 14 (by kernel_rfl)).trans rfl) (AllAt.cons ((hL.at 15 (by kernel_rfl)).trans rfl) (AllAt.cons ((hL.at 16 (by kernel_rfl)).trans rfl) (AllAt.cons ((hL.at 17 (by kernel_rfl)).trans rfl) (AllAt.cons ((hL.at 18 (by kernel_rfl)).trans rfl) (AllAt.cons h19 (AllAt.cons h20 (AllAt.cons h21 (AllAt.cons h22 (AllAt.cons h23 (AllAt.cons h24 (AllAt.cons h25 (AllAt.cons h26 (AllAt.cons h27 (AllAt.cons h28 (AllAt.cons h29 (AllAt.cons h30 (AllAt.cons h31 (AllAt.cons h32 (AllAt.cons h33 (AllAt.cons h34 (AllAt.cons h35 (AllAt.cons ((hL.at 36 (by kernel_rfl)).trans rfl) AllAt.nil)))))))))))))))))))))))))))))))))))))
          clear hL hd hs h19 h20 h21 h22 h23 h24 h25 h26 h27 h28 h29 h30 h31 h32 h33 h34 h35
          subst hlit
          dsimp only [List.getElem_toArray, List.getElem_cons_zero, List.getElem_cons_succ]
          have e1 : w'.cell? ⟨g, m, none⟩ = some (.string q) := keep_cell hW cq0
          have f1 : w'.frozen? ⟨g, m, none⟩ = false := keep_frozen hW hgl fq0
          have hown2 := owns_below hown hW
          obtain ⟨ho3, hg3⟩ := hown2.stored m (.string (q ++ s.extract k (k + 1)))
          rw [hcl] at ho3
          have hB2 := below_trans hB hW
          have hB3 : Below w.heap.size w (w'.setCell ⟨g, m, none⟩ (.string (q ++ s.extract k (k + 1)))) := hB2.setCell hg.1 _
          have ho4 : (w'.setCell ⟨g, m, none⟩ (.string (q ++ s.extract k (k + 1)))).ownsRow w.heap.size 9 strS.sz (.slice (some ⟨g, 0, none⟩) (J ++ [q ++ s.extract k (k + 1)]).length c) (J ++ [q ++ s.extract k (k + 1)]).length (strS.cells (J ++ [q ++ s.extract k (k + 1)])) := by
            rw [List.length_append, List.length_singleton, hm.out]; exact ho3
          have HV : Hid ((Value.slice (some ⟨g, 0, none⟩) (m + 1) c) = .slice (some ⟨g, 0, none⟩) (J ++ [q ++ s.extract k (k + 1)]).length c) := by show _ = _; rw [List.length_append, List.length_singleton, hm.out]
          clear ho3 hg3 hown2 hown hB hB2 hW hcl cq0 fq0 hgl
          refine wpOp_step rfl (fun K hK => ?_)
          go_simp
          refine hK _ _ ?_
          rw [HV.out]
          clear HV hK e1 f1
          go_wp2_with fail
          go_roundw
          case rel => exact ⟨k + 1, g, c, J, q ++ s.extract k (k + 1), by omega, by go_num, rfl, HP, ho4, hB3⟩
          case measure => simp [intOf]; omega
    · have hn : ¬ (k : Int) < (s.size : Int) := by omega
      have HR : Hid (WordsRet s w (.returned (.slice (some ⟨g, 0, none⟩) (J ++ [q]).length c)) wo) := by
        obtain rfl : k = s.size := by omega
        exact WordsRet.mk hP.out hown hB
      clear hP hown hB hl
      generalize (J ++ [q]).length = m at *
      go_wp2_with fail
      go_ret
      exact HR.out
end Go.Proofs.YtackffegdmohiaaDoor
