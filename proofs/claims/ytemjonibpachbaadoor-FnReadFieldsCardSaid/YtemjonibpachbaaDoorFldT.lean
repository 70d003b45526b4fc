/- The walks of FieldsText, of the program and of the reference: the fields' texts in the order of their names, parted by semicolons. Condition: the slice reads as the list, texts are no longer than a machine holds. -/
import Derived.Test.YtemjonibpachbaaDoorFldS
import Derived.Test.YtemjonibpachbaaDoorMkT
import Derived.Test.YtemjonibpachbaaDoorDet
import Derived.Lib.Join
namespace Go.Proofs.YtemjonibpachbaaDoor
open Go.RowKit

theorem Tryd.infoStr0 : (Tryd.prog.info? 9).map (fun i => (i.zero, i.size, i.bytes)) = some (some (.string ⟨#[]⟩), 1, 16) := by kernel_rfl
theorem m_list (a b : ByteArray) : (a ++ b).data.toList = a.data.toList ++ b.data.toList := by rw [ByteArray.data_append, Array.toList_append]
/-- One field's text. -/
def partB (f : Fld) : ByteArray := f.name ++ ⟨#[61]⟩ ++ markS f.val
def partL (f : Fld) : List UInt8 := (partB f).data.toList
def fieldsL (x : List Fld) : List UInt8 := Lib.join (x.map partL) [59]
def fieldsT (x : List Fld) : ByteArray := ⟨(fieldsL x).toArray⟩
theorem join_snoc (x : List (List UInt8)) (y s : List UInt8) : Lib.join (x ++ [y]) s = (if x = [] then [] else Lib.join x s ++ s) ++ y := by
  cases x with
  | nil => simp [Lib.join, List.intercalate]
  | cons a r => rw [if_neg (by simp), List.cons_append, Lib.join_cons, Lib.join_cons]; simp [Lib.joinTail]
theorem fieldsL_snoc (x : List Fld) (y : Fld) : fieldsL (x ++ [y]) = (if x = [] then [] else fieldsL x ++ [59]) ++ partL y := by
  unfold fieldsL
  rw [List.map_append, List.map_cons, List.map_nil, join_snoc]
  by_cases h : x = [] <;> simp [h]
theorem fields_step {x : List Fld} {k : Nat} {t : ByteArray} (hk : k < x.length) (h : t.data.toList = fieldsL (x.take k)) :
    ((if 0 < k then t ++ ⟨#[59]⟩ else t) ++ x[k].name ++ ⟨#[61]⟩ ++ markS x[k].val).data.toList = fieldsL (x.take (k + 1)) := by
  rw [List.take_succ_eq_append_getElem hk, fieldsL_snoc, ← h]
  by_cases e : 0 < k
  · rw [if_pos e, if_neg (fun h0 => by have := congrArg List.length h0; rw [List.length_take, List.length_nil] at this; omega)]
    simp [partL, partB]
  · obtain rfl : k = 0 := by omega
    have h0 : t.data.toList = [] := by rw [h]; rfl
    rw [if_neg e, if_pos (by simp)]
    simp [partL, partB, h0]
theorem fields_done {t : ByteArray} {x : List Fld} (h : t.data.toList = fieldsL x) : t = fieldsT x := Go.WideShapes.bytes_inj h
theorem partB_size {y : Fld} (h : y.name.size ≤ 8) : (partB y).size ≤ 15 := by
  unfold partB
  rw [ByteArray.size_append, ByteArray.size_append]
  have := markS_size y.val
  have e : (ByteArray.mk #[61]).size = 1 := rfl
  omega
theorem SortRel.small {l x : List Fld} (h : SortRel l x) : x.length ≤ 6 ∧ ∀ k (hk : k < x.length), x[k].name.size ≤ 8 := by
  rcases h with ⟨hf, hp, -⟩ | ⟨-, rfl⟩
  · have hg := goodB_iff.1 hf
    refine ⟨by rw [hp.length_eq]; exact hg.1, fun k hk => ?_⟩
    obtain ⟨j, hj, e⟩ := List.getElem_of_mem (hp.subset (List.getElem_mem hk))
    rw [← e]
    have h2 := hg.2.1 j hj
    cases hw : wordB l[j].name.data.toList with
    | false => rw [fields_word hj hw] at hf; cases hf
    | true =>
      unfold wordB at hw
      rw [Bool.and_eq_true, decide_eq_true_eq] at hw
      exact hw.1.2
  · exact ⟨by simp, fun k hk => by simp at hk⟩
theorem fieldsL_len {x : List Fld} (h8 : ∀ k (hk : k < x.length), x[k].name.size ≤ 8) : ∀ k, k ≤ x.length → (fieldsL (x.take k)).length ≤ 16 * k
  | 0, _ => by simp [fieldsL, Lib.join, List.intercalate]
  | k + 1, hk => by
    have ih := fieldsL_len h8 k (by omega)
    rw [List.take_succ_eq_append_getElem hk, fieldsL_snoc, List.length_append]
    have h1 : (partL x[k]).length ≤ 15 := partB_size (h8 k hk)
    split
    · simp; omega
    · simp; omega
def TextRet (l : List Fld) (w : World) (e : Ending) (w' : World) : Prop := ∃ x, SortRel l x ∧ e = .returned (.string (fieldsT x)) ∧ Below w.heap.size w w'
theorem i_MarkB (n : Int) (w : World) : Calls Tryd.prog 21 #[.int .i64 n] w fun e w' => e = .returned (.string (markS n)) ∧ Below w.heap.size w w' :=
  (i_MarkText n w).mono fun _ _ ⟨h, e⟩ => ⟨h, e ▸ Below.refl _ _⟩
theorem s_MarkB (n : Int) (w : World) : Calls Tryd.prog 24 #[.int .i64 n] w fun e w' => e = .returned (.string (markS n)) ∧ Below w.heap.size w w' :=
  (s_MarkText n w).mono fun _ _ ⟨h, e⟩ => ⟨h, e ▸ Below.refl _ _⟩

set_option maxHeartbeats 1600000 in
theorem s_FieldsText (v : Value) (l : List Fld) (w : World) (h : Sl fldS w v l) (hs : ∀ y ∈ l, y.name.size ≤ 140737488355328) :
    Calls Tryd.prog 8 #[v] w (TextRet l w) := by
  go_enter Tryd.func8, Tryd.ntmps8
  go_wp2_with fail
  refine (s_SortFields _ l _ h hs).mono ?_
  rintro e w1 ⟨v1, x, rfl, hR, ho, hb1⟩
  have hS := Sl.of_owns ho
  obtain ⟨h6, h8⟩ := hR.small
  have HR := Lib.hid hR
  obtain ⟨A, cap, rfl, hcap1, hcap2, -⟩ := hS
  have hS : Sl fldS w1 (.slice A x.length cap) x := Sl.of_owns ho
  clear ho hR h hs
  go_wp2_with fail
  go_loopw [3, 5] (fun T i wr => ∃ (k : Nat) (t : ByteArray), k ≤ x.length ∧ t.size ≤ 16 * k ∧ i = .int .i64 k ∧ T = .string t ∧ Hid (t.data.toList = fieldsL (x.take k)) ∧ Below w1.heap.size w1 wr) (fun _ i _ => x.length - (intOf i).toNat)
  case atStart => exact ⟨0, ⟨#[]⟩, Nat.zero_le _, Nat.le_refl _, rfl, rfl, by show _ = _; rfl, Below.refl _ _⟩
  case round =>
    obtain ⟨k, t, hk, ht, rfl, rfl, hT, hB⟩ := hrel
    by_cases hlt : k < x.length
    · obtain ⟨b, off, cap', hv, hcap, hbs, hc⟩ := SlFld.open hS (by omega)
      injection hv with hv1 _ hv3
      subst hv1; subst hv3
      have d0 : wr.cell? ⟨b, off + k * 2, none⟩ = some (.string x[k].name) := (hB.cell (p := ⟨b, off + k * 2, none⟩) hbs).trans (hc k hlt).1
      have d1 : wr.cell? ⟨b, off + k * 2 + 1, none⟩ = some (.int .i64 x[k].val) := (hB.cell (p := ⟨b, off + k * 2 + 1, none⟩) hbs).trans (hc k hlt).2
      have hn := h8 k hlt
      have hm := markS_size x[k].val
      have q2 : (0 : Int) ≤ (k : Int) := by omega
      have q3 : (k : Int) < (x.length : Int) := by omega
      have HT2 : Hid (((if 0 < k then t ++ ⟨#[59]⟩ else t) ++ x[k].name ++ ⟨#[61]⟩ ++ markS x[k].val).data.toList = fieldsL (x.take (k + 1))) := fields_step hlt hT.out
      obtain ⟨N, hN⟩ : ∃ N, N = x[k].name := ⟨_, rfl⟩
      obtain ⟨z, hz⟩ : ∃ z, z = x[k].val := ⟨_, rfl⟩
      rw [← hN] at d0 hn HT2
      rw [← hz] at d1 hm HT2
      clear hT hc hN hz
      have hz1 : (ByteArray.mk #[59]).size = 1 := rfl
      have hz2 : (ByteArray.mk #[61]).size = 1 := rfl
      by_cases e0 : 0 < k
      · have g1 : decide ((0 : Int) < (k : Int)) = true := by simp; omega
        have g2 : decide (0 < k) = true := by simp; omega
        rw [if_pos e0] at HT2
        clear e0
        have hsz1 : (t ++ ⟨#[59]⟩).size ≤ 16 * k + 1 := by rw [ByteArray.size_append]; omega
        go_wp2_with fail
        obtain ⟨T, hTT⟩ : ∃ T, T = t ++ ⟨#[59]⟩ := ⟨_, rfl⟩
        rw [← hTT] at hsz1 HT2 ⊢
        clear hTT
        have hsz2 : (T ++ N).size ≤ 16 * k + 9 := by rw [ByteArray.size_append]; omega
        have hsz3 : (T ++ N ++ ⟨#[61]⟩).size ≤ 16 * k + 10 := by rw [ByteArray.size_append]; omega
        have hT3 : (T ++ N ++ ⟨#[61]⟩ ++ markS z).size ≤ 16 * (k + 1) := by rw [ByteArray.size_append]; omega
        refine wp_region_typed_used 15 (fun i w v => KTy.T 9 strS.sz wr.heap.size (([.is (.string T), .is (.slice (some ⟨b, off, none⟩) x.length cap), .is (.int .i64 (k : Int)), .is (.pointer (some ⟨b, off + k * 2, none⟩)), .is (.pointer (some ⟨b, off + k * 2, none⟩)), .is (.string N), .is (.string (T ++ N)), .is (.string (T ++ N ++ ⟨#[61]⟩)), .is (.slice (some ⟨b, off, none⟩) x.length cap), .is (.int .i64 (k : Int)), .is (.pointer (some ⟨b, off + k * 2, none⟩)), .is (.pointer (some ⟨b, off + k * 2 + 1, none⟩)), .is (.int .i64 z), .is (.string (markS z)), .is (.string (T ++ N ++ ⟨#[61]⟩ ++ markS z))] : List KTy).getD i .any) w v) (fun i => ([999, 999, 999, 999, 999, 999, 999, 999, 999, 999, 999, 999, 999, 999, 999] : List Nat).getD i 999) (fun w' => Below wr.heap.size wr w') (RApp 9 990 991) (by kernel_rfl) 34 rfl (by decide) (by kernel_rfl) (by kernel_rfl) (by kernel_rfl) (by kernel_rfl) (Below.refl _ _).drew (tyApp (by kernel_rfl)) ?_ ?_
        · refine ⟨?_, ?_, ?_, ?_, ?_, ?_, ?_, ?_, ?_, ?_, ?_, ?_, ?_, ?_, ?_, trivial⟩
          · intro a' w' hW hF
            have h3 : a'.tmps[3]? = some (.string T) := (hF.at 3 (by kernel_rfl)).trans rfl
            refine wpOp_step rfl (fun K hK => ?_)
            go_simp
            exact hK _ _ ⟨_, rfl, RApp.still (by decide) (World.grownBy.refl _ _), rfl, hW⟩
          · intro a' w' hW hF
            have h4 : a'.tmps[4]? = some (.slice (some ⟨b, off, none⟩) x.length cap) := (hF.at 4 (by kernel_rfl)).trans rfl
            refine wpOp_step rfl (fun K hK => ?_)
            go_simp
            exact hK _ _ ⟨_, rfl, RApp.still (by decide) (World.grownBy.refl _ _), rfl, hW⟩
          · intro a' w' hW hF
            have h5 : a'.tmps[5]? = some (.int .i64 (k : Int)) := (hF.at 5 (by kernel_rfl)).trans rfl
            refine wpOp_step rfl (fun K hK => ?_)
            go_simp
            exact hK _ _ ⟨_, rfl, RApp.still (by decide) (World.grownBy.refl _ _), rfl, hW⟩
          · intro a' w' hW hF
            obtain ⟨_, h19, rfl⟩ := hF.val ⟨1, .data⟩ (by simp) rfl _ rfl
            obtain ⟨_, h20, rfl⟩ := hF.val ⟨2, .data⟩ (by simp) rfl _ rfl
            refine wpOp_step rfl (fun K hK => ?_)
            go_simp
            exact hK _ _ ⟨_, rfl, RApp.still (by decide) (World.grownBy.refl _ _), rfl, hW⟩
          · intro a' w' hW hF
            obtain ⟨_, h21, rfl⟩ := hF.val ⟨3, .data⟩ (by simp) rfl _ rfl
            refine wpOp_step rfl (fun K hK => ?_)
            go_simp
            exact hK _ _ ⟨_, rfl, RApp.still (by decide) (World.grownBy.refl _ _), rfl, hW⟩
          · intro a' w' hW hF
            obtain ⟨_, h22, rfl⟩ := hF.val ⟨4, .data⟩ (by simp) rfl _ rfl
            have c0 : w'.cell? ⟨b, off + k * 2, none⟩ = some (.string N) := keep_cell hW d0
            have c1 : w'.cell? ⟨b, off + k * 2 + 1, none⟩ = some (.int .i64 z) := keep_cell hW d1
            refine wpOp_step rfl (fun K hK => ?_)
            go_simp
            exact hK _ _ ⟨_, rfl, RApp.still (by decide) (World.grownBy.refl _ _), rfl, hW⟩
          · intro a' w' hW hF
            obtain ⟨_, h18, rfl⟩ := hF.val ⟨0, .data⟩ (by simp) rfl _ rfl
            obtain ⟨_, h23, rfl⟩ := hF.val ⟨5, .data⟩ (by simp) rfl _ rfl
            refine wpOp_step rfl (fun K hK => ?_)
            go_simp
            rw [if_neg (by omega)]
            go_simp
            have hb : Below w'.heap.size w' w' := Below.refl _ _
            exact hK _ _ ⟨_, rfl, RApp.still (by decide) (grown_below hb _), rfl, below_trans hW hb⟩
          · intro a' w' hW hF
            obtain ⟨_, h24, rfl⟩ := hF.val ⟨6, .data⟩ (by simp) rfl _ rfl
            refine wpOp_step rfl (fun K hK => ?_)
            go_simp
            rw [if_neg (by omega)]
            go_simp
            have hb : Below w'.heap.size w' w' := Below.refl _ _
            exact hK _ _ ⟨_, rfl, RApp.still (by decide) (grown_below hb _), rfl, below_trans hW hb⟩
          · intro a' w' hW hF
            have h4 : a'.tmps[4]? = some (.slice (some ⟨b, off, none⟩) x.length cap) := (hF.at 4 (by kernel_rfl)).trans rfl
            refine wpOp_step rfl (fun K hK => ?_)
            go_simp
            exact hK _ _ ⟨_, rfl, RApp.still (by decide) (World.grownBy.refl _ _), rfl, hW⟩
          · intro a' w' hW hF
            have h5 : a'.tmps[5]? = some (.int .i64 (k : Int)) := (hF.at 5 (by kernel_rfl)).trans rfl
            refine wpOp_step rfl (fun K hK => ?_)
            go_simp
            exact hK _ _ ⟨_, rfl, RApp.still (by decide) (World.grownBy.refl _ _), rfl, hW⟩
          · intro a' w' hW hF
            obtain ⟨_, h26, rfl⟩ := hF.val ⟨8, .data⟩ (by simp) rfl _ rfl
            obtain ⟨_, h27, rfl⟩ := hF.val ⟨9, .data⟩ (by simp) rfl _ rfl
            refine wpOp_step rfl (fun K hK => ?_)
            go_simp
            exact hK _ _ ⟨_, rfl, RApp.still (by decide) (World.grownBy.refl _ _), rfl, hW⟩
          · intro a' w' hW hF
            obtain ⟨_, h28, rfl⟩ := hF.val ⟨10, .data⟩ (by simp) rfl _ rfl
            refine wpOp_step rfl (fun K hK => ?_)
            go_simp
            exact hK _ _ ⟨_, rfl, RApp.still (by decide) (World.grownBy.refl _ _), rfl, hW⟩
          · intro a' w' hW hF
            obtain ⟨_, h29, rfl⟩ := hF.val ⟨11, .data⟩ (by simp) rfl _ rfl
            have c0 : w'.cell? ⟨b, off + k * 2, none⟩ = some (.string N) := keep_cell hW d0
            have c1 : w'.cell? ⟨b, off + k * 2 + 1, none⟩ = some (.int .i64 z) := keep_cell hW d1
            refine wpOp_step rfl (fun K hK => ?_)
            go_simp
            exact hK _ _ ⟨_, rfl, RApp.still (by decide) (World.grownBy.refl _ _), rfl, hW⟩
          · intro a' w' hW hF
            obtain ⟨_, h30, rfl⟩ := hF.val ⟨12, .data⟩ (by simp) rfl _ rfl
            refine wpOp_step rfl (fun K hK => ?_)
            go_simp
            refine (s_MarkB _ _).mono ?_
            rintro e w'' ⟨rfl, hb⟩
            exact hK _ _ ⟨_, rfl, RApp.still (by decide) (grown_below hb _), rfl, below_trans hW hb⟩
          · intro a' w' hW hF
            obtain ⟨_, h25, rfl⟩ := hF.val ⟨7, .data⟩ (by simp) rfl _ rfl
            obtain ⟨_, h31, rfl⟩ := hF.val ⟨13, .data⟩ (by simp) rfl _ rfl
            refine wpOp_step rfl (fun K hK => ?_)
            go_simp
            rw [if_neg (by omega)]
            go_simp
            have hb : Below w'.heap.size w' w' := Below.refl _ _
            exact hK _ _ ⟨_, rfl, RApp.still (by decide) (grown_below hb _), rfl, below_trans hW hb⟩
        · intro a' w' hL hW
          have hd := hL.defers
          have hs := hL.size
          obtain ⟨_, h18, rfl⟩ := hL.val 0 _ rfl (by decide)
          obtain ⟨_, h19, rfl⟩ := hL.val 1 _ rfl (by decide)
          obtain ⟨_, h20, rfl⟩ := hL.val 2 _ rfl (by decide)
          obtain ⟨_, h21, rfl⟩ := hL.val 3 _ rfl (by decide)
          obtain ⟨_, h22, rfl⟩ := hL.val 4 _ rfl (by decide)
          obtain ⟨_, h23, rfl⟩ := hL.val 5 _ rfl (by decide)
          obtain ⟨_, h24, rfl⟩ := hL.val 6 _ rfl (by decide)
          obtain ⟨_, h25, rfl⟩ := hL.val 7 _ rfl (by decide)
          obtain ⟨_, h26, rfl⟩ := hL.val 8 _ rfl (by decide)
          obtain ⟨_, h27, rfl⟩ := hL.val 9 _ rfl (by decide)
          obtain ⟨_, h28, rfl⟩ := hL.val 10 _ rfl (by decide)
          obtain ⟨_, h29, rfl⟩ := hL.val 11 _ rfl (by decide)
          obtain ⟨_, h30, rfl⟩ := hL.val 12 _ rfl (by decide)
          obtain ⟨_, h31, rfl⟩ := hL.val 13 _ rfl (by decide)
          obtain ⟨_, h32, rfl⟩ := hL.val 14 _ rfl (by decide)
          have hlit := act_lit (l := [_, _, _, _, _, _, _, _, _, _, _, _, _, _, _, _, _, _, _, _, _, _, _, _, _, _, _, _, _, _, _, _, _, _]) (hd.trans rfl) (by rw [hs]; rfl) (AllAt.cons ((hL.at 0 (by kernel_rfl)).trans rfl) (AllAt.cons ((hL.at 1 (by kernel_rfl)).trans rfl) (AllAt.cons ((hL.at 2 (by kernel_rfl)).trans rfl) (AllAt.cons ((hL.at 3 (by kernel_rfl)).trans rfl) (AllAt.cons ((hL.at 4 (by kernel_rfl)).trans rfl) (AllAt.cons ((hL.at 5 (by kernel_rfl)).trans rfl) (AllAt.cons ((hL.at 6 (by kernel_rfl)).trans rfl) (AllAt.cons ((hL.at 7 (by kernel_rfl)).trans rfl) (AllAt.cons ((hL.at 8 (by kernel_rfl)).trans rfl) (AllAt.cons ((hL.at 9 (by kernel_rfl)).trans rfl) (AllAt.cons ((hL.at 10 (by kernel_rfl)).trans rfl) (AllAt.cons ((hL.at 11 (by kernel_rfl)).trans rfl) (AllAt.cons ((hL.at 12 (by kernel_rfl)).trans rfl) (AllAt.cons ((hL.at 13 (by kernel_rfl)).trans rfl) (AllAt.cons ((hL.at 14 (by kernel_rfl)).trans rfl) (AllAt.cons ((hL.at 15 (by kernel_rfl)).trans rfl) (AllAt.cons ((hL.at 16 (by kernel_rfl)).trans rfl) (AllAt.cons ((hL.at 17 (by kernel_rfl)).trans rfl) (AllAt.cons h18 (AllAt.cons h19 (AllAt.cons h20 (AllAt.cons h21 (AllAt.cons h22 (AllAt.cons h23 (AllAt.cons h24 (AllAt.cons h25 (AllAt.cons h26 (AllAt.cons h27 (AllAt.cons h28 (AllAt.cons h29 (AllAt.cons h30 (AllAt.cons h31 (AllAt.cons h32 (AllAt.cons ((hL.at 33 (by kernel_rfl)).trans rfl) AllAt.nil))))))))))))))))))))))))))))))))))
          clear hL hd hs h18 h19 h20 h21 h22 h23 h24 h25 h26 h27 h28 h29 h30 h31 h32
          subst hlit
          show wpOps _ _ _ [15] _ _
          rw [wpOps_cons]
          refine wpOp_step rfl (fun K hK => ?_)
          go_simp
          refine hK _ _ ?_
          simp only [wpOps]
          have hB2 : Below w1.heap.size w1 w' := below_trans hB hW
          clear hW hB d0 d1
          go_wp2_with fail
          go_roundw
          case rel => exact ⟨k + 1, _, by omega, hT3, by go_num, rfl, HT2, hB2⟩
          case measure => simp [intOf]; omega
      · have g1 : decide ((0 : Int) < (k : Int)) = false := by simp; omega
        have g2 : decide (0 < k) = false := by simp; omega
        rw [if_neg e0] at HT2
        clear e0
        have hsz1 : t.size ≤ 16 * k + 1 := by omega
        go_wp2_with fail
        obtain ⟨T, hTT⟩ : ∃ T, T = t := ⟨_, rfl⟩
        rw [← hTT] at hsz1 HT2 ⊢
        clear hTT
        have hsz2 : (T ++ N).size ≤ 16 * k + 9 := by rw [ByteArray.size_append]; omega
        have hsz3 : (T ++ N ++ ⟨#[61]⟩).size ≤ 16 * k + 10 := by rw [ByteArray.size_append]; omega
        have hT3 : (T ++ N ++ ⟨#[61]⟩ ++ markS z).size ≤ 16 * (k + 1) := by rw [ByteArray.size_append]; omega
        refine wp_region_typed_used 15 (fun i w v => KTy.T 9 strS.sz wr.heap.size (([.is (.string T), .is (.slice (some ⟨b, off, none⟩) x.length cap), .is (.int .i64 (k : Int)), .is (.pointer (some ⟨b, off + k * 2, none⟩)), .is (.pointer (some ⟨b, off + k * 2, none⟩)), .is (.string N), .is (.string (T ++ N)), .is (.string (T ++ N ++ ⟨#[61]⟩)), .is (.slice (some ⟨b, off, none⟩) x.length cap), .is (.int .i64 (k : Int)), .is (.pointer (some ⟨b, off + k * 2, none⟩)), .is (.pointer (some ⟨b, off + k * 2 + 1, none⟩)), .is (.int .i64 z), .is (.string (markS z)), .is (.string (T ++ N ++ ⟨#[61]⟩ ++ markS z))] : List KTy).getD i .any) w v) (fun i => ([999, 999, 999, 999, 999, 999, 999, 999, 999, 999, 999, 999, 999, 999, 999] : List Nat).getD i 999) (fun w' => Below wr.heap.size wr w') (RApp 9 990 991) (by kernel_rfl) 34 rfl (by decide) (by kernel_rfl) (by kernel_rfl) (by kernel_rfl) (by kernel_rfl) (Below.refl _ _).drew (tyApp (by kernel_rfl)) ?_ ?_
        · refine ⟨?_, ?_, ?_, ?_, ?_, ?_, ?_, ?_, ?_, ?_, ?_, ?_, ?_, ?_, ?_, trivial⟩
          · intro a' w' hW hF
            have h3 : a'.tmps[3]? = some (.string T) := (hF.at 3 (by kernel_rfl)).trans rfl
            refine wpOp_step rfl (fun K hK => ?_)
            go_simp
            exact hK _ _ ⟨_, rfl, RApp.still (by decide) (World.grownBy.refl _ _), rfl, hW⟩
          · intro a' w' hW hF
            have h4 : a'.tmps[4]? = some (.slice (some ⟨b, off, none⟩) x.length cap) := (hF.at 4 (by kernel_rfl)).trans rfl
            refine wpOp_step rfl (fun K hK => ?_)
            go_simp
            exact hK _ _ ⟨_, rfl, RApp.still (by decide) (World.grownBy.refl _ _), rfl, hW⟩
          · intro a' w' hW hF
            have h5 : a'.tmps[5]? = some (.int .i64 (k : Int)) := (hF.at 5 (by kernel_rfl)).trans rfl
            refine wpOp_step rfl (fun K hK => ?_)
            go_simp
            exact hK _ _ ⟨_, rfl, RApp.still (by decide) (World.grownBy.refl _ _), rfl, hW⟩
          · intro a' w' hW hF
            obtain ⟨_, h19, rfl⟩ := hF.val ⟨1, .data⟩ (by simp) rfl _ rfl
            obtain ⟨_, h20, rfl⟩ := hF.val ⟨2, .data⟩ (by simp) rfl _ rfl
            refine wpOp_step rfl (fun K hK => ?_)
            go_simp
            exact hK _ _ ⟨_, rfl, RApp.still (by decide) (World.grownBy.refl _ _), rfl, hW⟩
          · intro a' w' hW hF
            obtain ⟨_, h21, rfl⟩ := hF.val ⟨3, .data⟩ (by simp) rfl _ rfl
            refine wpOp_step rfl (fun K hK => ?_)
            go_simp
            exact hK _ _ ⟨_, rfl, RApp.still (by decide) (World.grownBy.refl _ _), rfl, hW⟩
          · intro a' w' hW hF
            obtain ⟨_, h22, rfl⟩ := hF.val ⟨4, .data⟩ (by simp) rfl _ rfl
            have c0 : w'.cell? ⟨b, off + k * 2, none⟩ = some (.string N) := keep_cell hW d0
            have c1 : w'.cell? ⟨b, off + k * 2 + 1, none⟩ = some (.int .i64 z) := keep_cell hW d1
            refine wpOp_step rfl (fun K hK => ?_)
            go_simp
            exact hK _ _ ⟨_, rfl, RApp.still (by decide) (World.grownBy.refl _ _), rfl, hW⟩
          · intro a' w' hW hF
            obtain ⟨_, h18, rfl⟩ := hF.val ⟨0, .data⟩ (by simp) rfl _ rfl
            obtain ⟨_, h23, rfl⟩ := hF.val ⟨5, .data⟩ (by simp) rfl _ rfl
            refine wpOp_step rfl (fun K hK => ?_)
            go_simp
            rw [if_neg (by omega)]
            go_simp
            have hb : Below w'.heap.size w' w' := Below.refl _ _
            exact hK _ _ ⟨_, rfl, RApp.still (by decide) (grown_below hb _), rfl, below_trans hW hb⟩
          · intro a' w' hW hF
            obtain ⟨_, h24, rfl⟩ := hF.val ⟨6, .data⟩ (by simp) rfl _ rfl
            refine wpOp_step rfl (fun K hK => ?_)
            go_simp
            rw [if_neg (by omega)]
            go_simp
            have hb : Below w'.heap.size w' w' := Below.refl _ _
            exact hK _ _ ⟨_, rfl, RApp.still (by decide) (grown_below hb _), rfl, below_trans hW hb⟩
          · intro a' w' hW hF
            have h4 : a'.tmps[4]? = some (.slice (some ⟨b, off, none⟩) x.length cap) := (hF.at 4 (by kernel_rfl)).trans rfl
            refine wpOp_step rfl (fun K hK => ?_)
            go_simp
            exact hK _ _ ⟨_, rfl, RApp.still (by decide) (World.grownBy.refl _ _), rfl, hW⟩
          · intro a' w' hW hF
            have h5 : a'.tmps[5]? = some (.int .i64 (k : Int)) := (hF.at 5 (by kernel_rfl)).trans rfl
            refine wpOp_step rfl (fun K hK => ?_)
            go_simp
            exact hK _ _ ⟨_, rfl, RApp.still (by decide) (World.grownBy.refl _ _), rfl, hW⟩
          · intro a' w' hW hF
            obtain ⟨_, h26, rfl⟩ := hF.val ⟨8, .data⟩ (by simp) rfl _ rfl
            obtain ⟨_, h27, rfl⟩ := hF.val ⟨9, .data⟩ (by simp) rfl _ rfl
            refine wpOp_step rfl (fun K hK => ?_)
            go_simp
            exact hK _ _ ⟨_, rfl, RApp.still (by decide) (World.grownBy.refl _ _), rfl, hW⟩
          · intro a' w' hW hF
            obtain ⟨_, h28, rfl⟩ := hF.val ⟨10, .data⟩ (by simp) rfl _ rfl
            refine wpOp_step rfl (fun K hK => ?_)
            go_simp
            exact hK _ _ ⟨_, rfl, RApp.still (by decide) (World.grownBy.refl _ _), rfl, hW⟩
          · intro a' w' hW hF
            obtain ⟨_, h29, rfl⟩ := hF.val ⟨11, .data⟩ (by simp) rfl _ rfl
            have c0 : w'.cell? ⟨b, off + k * 2, none⟩ = some (.string N) := keep_cell hW d0
            have c1 : w'.cell? ⟨b, off + k * 2 + 1, none⟩ = some (.int .i64 z) := keep_cell hW d1
            refine wpOp_step rfl (fun K hK => ?_)
            go_simp
            exact hK _ _ ⟨_, rfl, RApp.still (by decide) (World.grownBy.refl _ _), rfl, hW⟩
          · intro a' w' hW hF
            obtain ⟨_, h30, rfl⟩ := hF.val ⟨12, .data⟩ (by simp) rfl _ rfl
            refine wpOp_step rfl (fun K hK => ?_)
            go_simp
            refine (s_MarkB _ _).mono ?_
            rintro e w'' ⟨rfl, hb⟩
            exact hK _ _ ⟨_, rfl, RApp.still (by decide) (grown_below hb _), rfl, below_trans hW hb⟩
          · intro a' w' hW hF
            obtain ⟨_, h25, rfl⟩ := hF.val ⟨7, .data⟩ (by simp) rfl _ rfl
            obtain ⟨_, h31, rfl⟩ := hF.val ⟨13, .data⟩ (by simp) rfl _ rfl
            refine wpOp_step rfl (fun K hK => ?_)
            go_simp
            rw [if_neg (by omega)]
            go_simp
            have hb : Below w'.heap.size w' w' := Below.refl _ _
            exact hK _ _ ⟨_, rfl, RApp.still (by decide) (grown_below hb _), rfl, below_trans hW hb⟩
        · intro a' w' hL hW
          have hd := hL.defers
          have hs := hL.size
          obtain ⟨_, h18, rfl⟩ := hL.val 0 _ rfl (by decide)
          obtain ⟨_, h19, rfl⟩ := hL.val 1 _ rfl (by decide)
          obtain ⟨_, h20, rfl⟩ := hL.val 2 _ rfl (by decide)
          obtain ⟨_, h21, rfl⟩ := hL.val 3 _ rfl (by decide)
          obtain ⟨_, h22, rfl⟩ := hL.val 4 _ rfl (by decide)
          obtain ⟨_, h23, rfl⟩ := hL.val 5 _ rfl (by decide)
          obtain ⟨_, h24, rfl⟩ := hL.val 6 _ rfl (by decide)
          obtain ⟨_, h25, rfl⟩ := hL.val 7 _ rfl (by decide)
          obtain ⟨_, h26, rfl⟩ := hL.val 8 _ rfl (by decide)
          obtain ⟨_, h27, rfl⟩ := hL.val 9 _ rfl (by decide)
          obtain ⟨_, h28, rfl⟩ := hL.val 10 _ rfl (by decide)
          obtain ⟨_, h29, rfl⟩ := hL.val 11 _ rfl (by decide)
          obtain ⟨_, h30, rfl⟩ := hL.val 12 _ rfl (by decide)
          obtain ⟨_, h31, rfl⟩ := hL.val 13 _ rfl (by decide)
          obtain ⟨_, h32, rfl⟩ := hL.val 14 _ rfl (by decide)
          have hlit := act_lit (l := [_, _, _, _, _, _, _, _, _, _, _, _, _, _, _, _, _, _, _, _, _, _, _, _, _, _, _, _, _, _, _, _, _, _]) (hd.trans rfl) (by rw [hs]; rfl) (AllAt.cons ((hL.at 0 (by kernel_rfl)).trans rfl) (AllAt.cons ((hL.at 1 (by kernel_rfl)).trans rfl) (AllAt.cons ((hL.at 2 (by kernel_rfl)).trans rfl) (AllAt.cons ((hL.at 3 (by kernel_rfl)).trans rfl) (AllAt.cons ((hL.at 4 (by kernel_rfl)).trans rfl) (AllAt.cons ((hL.at 5 (by kernel_rfl)).trans rfl) (AllAt.cons ((hL.at 6 (by kernel_rfl)).trans rfl) (AllAt.cons ((hL.at 7 (by kernel_rfl)).trans rfl) (AllAt.cons ((hL.at 8 (by kernel_rfl)).trans rfl) (AllAt.cons ((hL.at 9 (by kernel_rfl)).trans rfl) (AllAt.cons ((hL.at 10 (by kernel_rfl)).trans rfl) (AllAt.cons ((hL.at 11 (by kernel_rfl)).trans rfl) (AllAt.cons ((hL.at 12 (by kernel_rfl)).trans rfl) (AllAt.cons ((hL.at 13 (by kernel_rfl)).trans rfl) (AllAt.cons ((hL.at 14 (by kernel_rfl)).trans rfl) (AllAt.cons ((hL.at 15 (by kernel_rfl)).trans rfl) (AllAt.cons ((hL.at 16 (by kernel_rfl)).trans rfl) (AllAt.cons ((hL.at 17 (by kernel_rfl)).trans rfl) (AllAt.cons h18 (AllAt.cons h19 (AllAt.cons h20 (AllAt.cons h21 (AllAt.cons h22 (AllAt.cons h23 (AllAt.cons h24 (AllAt.cons h25 (AllAt.cons h26 (AllAt.cons h27 (AllAt.cons h28 (AllAt.cons h29 (AllAt.cons h30 (AllAt.cons h31 (AllAt.cons h32 (AllAt.cons ((hL.at 33 (by kernel_rfl)).trans rfl) AllAt.nil))))))))))))))))))))))))))))))))))
          clear hL hd hs h18 h19 h20 h21 h22 h23 h24 h25 h26 h27 h28 h29 h30 h31 h32
          subst hlit
          show wpOps _ _ _ [15] _ _
          rw [wpOps_cons]
          refine wpOp_step rfl (fun K hK => ?_)
          go_simp
          refine hK _ _ ?_
          simp only [wpOps]
          have hB2 : Below w1.heap.size w1 w' := below_trans hB hW
          clear hW hB d0 d1
          go_wp2_with fail
          go_roundw
          case rel => exact ⟨k + 1, _, by omega, hT3, by go_num, rfl, HT2, hB2⟩
          case measure => simp [intOf]; omega
    · have HE : Hid (t = fieldsT x) := by
        obtain rfl : k = x.length := by omega
        have := hT.out
        rw [List.take_length] at this
        exact fields_done this
      clear hT
      go_wp2_with fail
      go_ret
      exact ⟨x, HR.out, congrArg (fun z => Ending.returned (.string z)) HE.out, below_trans hb1 hB⟩

set_option maxHeartbeats 1600000 in
theorem i_FieldsText (v : Value) (l : List Fld) (w : World) (h : Sl fldS w v l) (hs : ∀ y ∈ l, y.name.size ≤ 140737488355328) :
    Calls Tryd.prog 7 #[v] w (TextRet l w) := by
  obtain ⟨i0, hi, hz0, hz1, hz2⟩ := info_parts Tryd.infoStr0
  go_enter Tryd.func7, Tryd.ntmps7
  go_wp2_with fail
  refine (i_SortFields _ l _ h hs).mono ?_
  rintro e w1 ⟨v1, x, rfl, hR, ho, hb1⟩
  have hS := Sl.of_owns ho
  obtain ⟨h6, h8⟩ := hR.small
  have HR := Lib.hid hR
  obtain ⟨A, cap, rfl, hcap1, hcap2, -⟩ := hS
  have hS : Sl fldS w1 (.slice A x.length cap) x := Sl.of_owns ho
  clear ho hR h hs
  go_wp2_with fail
  go_loopw [3, 9] (fun R i wr => ∃ (k : Nat) (A' : Option Addr) (c' : Nat), k ≤ x.length ∧ i = .int .i64 k ∧ R = .slice A' k c' ∧ wr.ownsRow w1.heap.size 9 1 (.slice A' k c') k (strS.cells ((x.take k).map partB)) ∧ Below w1.heap.size w1 wr) (fun _ i _ => x.length - (intOf i).toNat)
  case atStart => exact ⟨0, none, 0, Nat.zero_le _, rfl, rfl, World.ownsRow_nil _ _ _ _, Below.refl _ _⟩
  case round =>
    obtain ⟨wo, rfl⟩ : ∃ wo : World, wo = wr := ⟨_, rfl⟩
    obtain ⟨k, A', c', hk, rfl, rfl, hown, hB⟩ := hrel
    by_cases hlt : k < x.length
    · obtain ⟨b, off, cap', hv, hcap, hbs, hc⟩ := SlFld.open hS (by omega)
      injection hv with hv1 _ hv3
      subst hv1; subst hv3
      have d0 : wo.cell? ⟨b, off + k * 2, none⟩ = some (.string x[k].name) := (hB.cell (p := ⟨b, off + k * 2, none⟩) hbs).trans (hc k hlt).1
      have d1 : wo.cell? ⟨b, off + k * 2 + 1, none⟩ = some (.int .i64 x[k].val) := (hB.cell (p := ⟨b, off + k * 2 + 1, none⟩) hbs).trans (hc k hlt).2
      have hn := h8 k hlt
      have hm := markS_size x[k].val
      have q2 : (0 : Int) ≤ (k : Int) := by omega
      have q3 : (k : Int) < (x.length : Int) := by omega
      have HX : Hid (partB x[k] = x[k].name ++ ⟨#[61]⟩ ++ markS x[k].val ∧ (x.take k).map partB ++ [partB x[k]] = (x.take (k + 1)).map partB) := ⟨rfl, by rw [List.take_succ_eq_append_getElem hlt, List.map_append]; rfl⟩
      obtain ⟨N, hN⟩ : ∃ N, N = x[k].name := ⟨_, rfl⟩
      obtain ⟨z, hz⟩ : ∃ z, z = x[k].val := ⟨_, rfl⟩
      rw [← hN] at d0 hn HX
      rw [← hz] at d1 hm HX
      clear hc hN hz
      go_wp2_with fail
      obtain ⟨g, hg⟩ : ∃ g, g = wo.heap.size := ⟨_, rfl⟩
      have hb0 : Below wo.heap.size wo (wo.alloc (.cells #[.string N, .int .i64 z] 41)) := below1 _ _
      have e0 : (wo.alloc (.cells #[.string N, .int .i64 z] 41)).cell? ⟨g, 0, none⟩ = some (.string N) := by rw [hg, World.cell?_alloc_new]; rfl
      have e1 : (wo.alloc (.cells #[.string N, .int .i64 z] 41)).cell? ⟨g, 1, none⟩ = some (.int .i64 z) := by rw [hg, World.cell?_alloc_new]; rfl
      rw [← hg]
      generalize (wo.alloc (.cells #[.string N, .int .i64 z] 41)) = w2 at hb0 e0 e1 ⊢
      clear hg d0 d1
      refine wp_region_typed_used 9 (fun i w v => KTy.T 9 strS.sz w2.heap.size (([.is (.slice A' k c'), .is (.pointer (some ⟨g, 0, none⟩)), .is (.string N), .is (.string (N ++ ⟨#[61]⟩)), .is (.pointer (some ⟨g, 1, none⟩)), .is (.int .i64 z), .is (.string (markS z)), .is (.string (N ++ ⟨#[61]⟩ ++ markS z)), .one ((strS.enc (N ++ ⟨#[61]⟩ ++ markS z)).toArray)] : List KTy).getD i .any) w v) (fun i => ([999, 999, 999, 999, 999, 999, 999, 999, 999] : List Nat).getD i 999) (fun w' => Below w2.heap.size w2 w') (RApp 9 990 991) (by kernel_rfl) 26 rfl (by decide) (by kernel_rfl) (by kernel_rfl) (by kernel_rfl) (by kernel_rfl) (Below.refl _ _).drew (tyApp (by kernel_rfl)) ?_ ?_
      · refine ⟨?_, ?_, ?_, ?_, ?_, ?_, ?_, ?_, ?_, trivial⟩
        · intro a' w' hW hF
          have h3 : a'.tmps[3]? = some (.slice A' k c') := (hF.at 3 (by kernel_rfl)).trans rfl
          refine wpOp_step rfl (fun K hK => ?_)
          go_simp
          exact hK _ _ ⟨_, rfl, RApp.still (by decide) (World.grownBy.refl _ _), rfl, hW⟩
        · intro a' w' hW hF
          have h5 : a'.tmps[5]? = some (.pointer (some ⟨g, 0, none⟩)) := (hF.at 5 (by kernel_rfl)).trans rfl
          refine wpOp_step rfl (fun K hK => ?_)
          go_simp
          exact hK _ _ ⟨_, rfl, RApp.still (by decide) (World.grownBy.refl _ _), rfl, hW⟩
        · intro a' w' hW hF
          obtain ⟨_, h14, rfl⟩ := hF.val ⟨1, .data⟩ (by simp) rfl _ rfl
          have c0 : w'.cell? ⟨g, 0, none⟩ = some (.string N) := keep_cell hW e0
          have c1 : w'.cell? ⟨g, 1, none⟩ = some (.int .i64 z) := keep_cell hW e1
          refine wpOp_step rfl (fun K hK => ?_)
          go_simp
          exact hK _ _ ⟨_, rfl, RApp.still (by decide) (World.grownBy.refl _ _), rfl, hW⟩
        · intro a' w' hW hF
          obtain ⟨_, h15, rfl⟩ := hF.val ⟨2, .data⟩ (by simp) rfl _ rfl
          refine wpOp_step rfl (fun K hK => ?_)
          go_simp
          rw [if_neg (by omega)]
          go_simp
          have hb : Below w'.heap.size w' w' := Below.refl _ _
          exact hK _ _ ⟨_, rfl, RApp.still (by decide) (grown_below hb _), rfl, below_trans hW hb⟩
        · intro a' w' hW hF
          have h5 : a'.tmps[5]? = some (.pointer (some ⟨g, 0, none⟩)) := (hF.at 5 (by kernel_rfl)).trans rfl
          refine wpOp_step rfl (fun K hK => ?_)
          go_simp
          exact hK _ _ ⟨_, rfl, RApp.still (by decide) (World.grownBy.refl _ _), rfl, hW⟩
        · intro a' w' hW hF
          obtain ⟨_, h17, rfl⟩ := hF.val ⟨4, .data⟩ (by simp) rfl _ rfl
          have c0 : w'.cell? ⟨g, 0, none⟩ = some (.string N) := keep_cell hW e0
          have c1 : w'.cell? ⟨g, 1, none⟩ = some (.int .i64 z) := keep_cell hW e1
          refine wpOp_step rfl (fun K hK => ?_)
          go_simp
          exact hK _ _ ⟨_, rfl, RApp.still (by decide) (World.grownBy.refl _ _), rfl, hW⟩
        · intro a' w' hW hF
          obtain ⟨_, h18, rfl⟩ := hF.val ⟨5, .data⟩ (by simp) rfl _ rfl
          refine wpOp_step rfl (fun K hK => ?_)
          go_simp
          refine (i_MarkB _ _).mono ?_
          rintro e w'' ⟨rfl, hb⟩
          exact hK _ _ ⟨_, rfl, RApp.still (by decide) (grown_below hb _), rfl, below_trans hW hb⟩
        · intro a' w' hW hF
          obtain ⟨_, h16, rfl⟩ := hF.val ⟨3, .data⟩ (by simp) rfl _ rfl
          obtain ⟨_, h19, rfl⟩ := hF.val ⟨6, .data⟩ (by simp) rfl _ rfl
          refine wpOp_step rfl (fun K hK => ?_)
          go_simp
          rw [if_neg (by omega)]
          go_simp
          have hb : Below w'.heap.size w' w' := Below.refl _ _
          exact hK _ _ ⟨_, rfl, RApp.still (by decide) (grown_below hb _), rfl, below_trans hW hb⟩
        · intro a' w' hW hF
          obtain ⟨_, h20, rfl⟩ := hF.val ⟨7, .data⟩ (by simp) rfl _ rfl
          refine wpOp_step rfl (fun K hK => ?_)
          go_simp
          exact hK _ _ ⟨_, rfl, RApp.still (by decide) (World.grownBy_alloc _ _ _), ⟨w'.heap.size, rfl, by rw [List.size_toArray, strS.len]; exact strS.pos, heap_alloc_new w' _⟩, hW.alloc hW.size _⟩
      · intro a' w' hL hW
        have hd := hL.defers
        have hs := hL.size
        obtain ⟨_, h13, rfl⟩ := hL.val 0 _ rfl (by decide)
        obtain ⟨_, h14, rfl⟩ := hL.val 1 _ rfl (by decide)
        obtain ⟨_, h15, rfl⟩ := hL.val 2 _ rfl (by decide)
        obtain ⟨_, h16, rfl⟩ := hL.val 3 _ rfl (by decide)
        obtain ⟨_, h17, rfl⟩ := hL.val 4 _ rfl (by decide)
        obtain ⟨_, h18, rfl⟩ := hL.val 5 _ rfl (by decide)
        obtain ⟨_, h19, rfl⟩ := hL.val 6 _ rfl (by decide)
        obtain ⟨_, h20, rfl⟩ := hL.val 7 _ rfl (by decide)
        obtain ⟨_, h21, g21, rfl, hc21, hb21⟩ := hL.val 8 _ rfl (by decide)
        have hlit := act_lit (l := [_, _, _, _, _, _, _, _, _, _, _, _, _, _, _, _, _, _, _, _, _, _, _, _, _, _]) (hd.trans rfl) (by rw [hs]; rfl) (AllAt.cons ((hL.at 0 (by kernel_rfl)).trans rfl) (AllAt.cons ((hL.at 1 (by kernel_rfl)).trans rfl) (AllAt.cons ((hL.at 2 (by kernel_rfl)).trans rfl) (AllAt.cons ((hL.at 3 (by kernel_rfl)).trans rfl) (AllAt.cons ((hL.at 4 (by kernel_rfl)).trans rfl) (AllAt.cons ((hL.at 5 (by kernel_rfl)).trans rfl) (AllAt.cons ((hL.at 6 (by kernel_rfl)).trans rfl) (AllAt.cons ((hL.at 7 (by kernel_rfl)).trans rfl) (AllAt.cons ((hL.at 8 (by kernel_rfl)).trans rfl) (AllAt.cons ((hL.at 9 (by kernel_rfl)).trans rfl) (AllAt.cons ((hL.at 10 (by kernel_rfl)).trans rfl) (AllAt.cons ((hL.at 11 (by kernel_rfl)).trans rfl) (AllAt.cons ((hL.at 12 (by kernel_rfl)).trans rfl) (AllAt.cons h13 (AllAt.cons h14 (AllAt.cons h15 (AllAt.cons h16 (AllAt.cons h17 (AllAt.cons h18 (AllAt.cons h19 (AllAt.cons h20 (AllAt.cons h21 (AllAt.cons ((hL.at 22 (by kernel_rfl)).trans rfl) (AllAt.cons ((hL.at 23 (by kernel_rfl)).trans rfl) (AllAt.cons ((hL.at 24 (by kernel_rfl)).trans rfl) (AllAt.cons ((hL.at 25 (by kernel_rfl)).trans rfl) AllAt.nil))))))))))))))))))))))))))
        clear hL hd hs h13 h14 h15 h16 h17 h18 h19 h20 h21
        subst hlit
        show wpOps _ _ _ [9, 10] _ _
        rw [wpOps_cons]
        have hown2 := owns_below hown (below_trans hb0 hW)
        have hB2 : Below w1.heap.size w1 w' := below_trans (below_trans hB hb0) hW
        refine wpOp_step rfl (fun K hK => ?_)
        refine step_app_sl (S := strS) rfl (.tmp 13) (.tmp 21) 39 rfl w1.heap.size 9 i0 (.string ⟨#[]⟩) 16 Tryd.underlying39 hi hz0 hz1 hz2 rfl _ _ _ rfl hown2 [N ++ ⟨#[61]⟩ ++ markS z] (one_sl (S := strS) hb21) (by simp [maxLen]; omega) (by simp; omega) hB2.size ?_
        intro v' w'' hown3 hgrow hat
        have hB4 : Below w1.heap.size w1 w'' := hB2.grown hgrow hB2.size (fun j hj => (hown2.lt j hj).1)
        have hcel : strS.cells ((x.take k).map partB) ++ strS.cells [N ++ ⟨#[61]⟩ ++ markS z] = strS.cells ((x.take (k + 1)).map partB) := by
          rw [← strS.cells_append, ← HX.out.2, HX.out.1]
        rw [hcel] at hown3
        obtain ⟨A2, c2, hv'⟩ : ∃ A2 c2, v' = .slice A2 (k + 1) c2 := by
          rcases hown3.2 with ⟨e, h0⟩ | ⟨g, cap, cur, e, _⟩
          · exact absurd h0 (by simp)
          · exact ⟨_, _, e⟩
        subst hv'
        clear hcel hgrow hat hown2 hB2 hW hown hB hb0 e0 e1
        refine hK _ _ ?_
        rw [wpOps_cons]
        refine wpOp_step rfl (fun K hK => ?_)
        go_simp
        refine hK _ _ ?_
        simp only [wpOps]
        go_wp2_with fail
        go_roundw
        case rel => exact ⟨k + 1, A2, c2, by omega, by go_num, rfl, hown3, hB4⟩
        case measure => simp [intOf]; omega
    · obtain rfl : k = x.length := by omega
      rw [List.take_length] at hown
      have hE : fieldsT x = ⟨(Lib.join ((x.map partB).map (·.data.toList)) [59]).toArray⟩ := by
        unfold fieldsT fieldsL
        rw [List.map_map]; rfl
      have hlen := fieldsL_len h8 x.length (Nat.le_refl _)
      rw [List.take_length] at hlen
      rcases Nat.eq_zero_or_pos x.length with h0 | h0
      · obtain rfl := List.eq_nil_of_length_eq_zero h0
        have hj := Tryd.strings_Join_none A' c' ⟨#[59]⟩ wo
        have hj2 : Calls Tryd.prog 22 #[.slice A' ([] : List Fld).length c', .string ⟨#[59]⟩] wo fun e w' => e = .returned (.string (fieldsT [])) ∧ Below wo.heap.size wo w' := hj.mono fun _ _ ⟨h, e⟩ => ⟨h.trans (by rfl), e ▸ Below.refl _ _⟩
        clear hj
        go_wp2_with fail
        refine hj2.mono ?_
        rintro e w2 ⟨rfl, hb2⟩
        go_wp2_with fail
        go_ret
        exact ⟨_, HR.out, rfl, below_trans (below_trans hb1 hB) hb2⟩
      · obtain ⟨g, cap', hv, hg1, hg2⟩ := hown.form h0
        injection hv with hv1 _ hv3
        subst hv1; subst hv3
        have hml : (x.map partB).length = x.length := by simp
        have q0 : ∀ (j : Nat) y, (x.map partB)[j]? = some y → wo.cell? ⟨g, 0 + j, none⟩ = some (.string y) := fun j y hy => by
          obtain ⟨hj, hy⟩ := List.getElem?_eq_some_iff.1 hy
          rw [hml] at hj
          rw [Nat.zero_add, hown.cellAt _ (by omega)]
          have := strS.cells_at (x.map partB) j (by omega) 0 (by decide)
          rw [show j * strS.sz + 0 = j by show j * 1 + 0 = j; omega] at this
          rw [this, hy]; rfl
        have q1 : x.length ≤ c' := by
          have hs0 : Sl strS wo (.slice (some ⟨g, 0, none⟩) x.length c') (x.map partB) := Sl.of_owns (by rw [hml]; exact hown)
          obtain ⟨_, _, e, q1, q2, _⟩ := hs0
          injection e with _ _ e; subst e; omega
        have q3 : (Lib.join ((x.map partB).map (·.data.toList)) (ByteArray.mk #[59]).data.toList) = fieldsL x := by
          unfold fieldsL
          rw [List.map_map]; rfl
        have hj := Tryd.strings_Join g 0 c' (x.map partB) ⟨#[59]⟩ wo q0 hg2 (by omega) (by omega) (by rw [q3]; omega)
        rw [hml] at hj
        have hj2 : Calls Tryd.prog 22 #[.slice (some ⟨g, 0, none⟩) x.length c', .string ⟨#[59]⟩] wo fun e w' => e = .returned (.string (fieldsT x)) ∧ Below wo.heap.size wo w' := by rw [hE]; exact hj
        clear hj hE
        go_wp2_with fail
        refine hj2.mono ?_
        rintro e w2 ⟨rfl, hb2⟩
        go_wp2_with fail
        go_ret
        exact ⟨_, HR.out, rfl, below_trans (below_trans hb1 hB) hb2⟩
end Go.Proofs.YtemjonibpachbaaDoor
