/- Plain facts on texts of activities: read and printed. No condition. -/
import Derived.Test.YtackffegdmohiaaDoorActT
import Derived.Test.YtackffegdmohiaaDoorHandI
import Derived.Test.YtackffegdmohiaaDoorRdM
import Derived.Test.YtackffegdmohiaaDoorSplit
namespace Go.Proofs.YtackffegdmohiaaDoor

/-- The kind that a word is of. -/
def KindIs (p : List UInt8) (k : Int) : Prop := (∃ j : Nat, j < 6 ∧ k = j ∧ kindL.getD j [] = p) ∨ (k = -1 ∧ ∀ j, j < 6 → kindL.getD j [] ≠ p)
theorem KindIs.eq {p : List UInt8} {k l : Int} (h : KindIs p k) (g : KindIs p l) : k = l := by
  rcases h with ⟨i, h1, rfl, h2⟩ | ⟨rfl, h⟩
  · rcases g with ⟨j, g1, rfl, g2⟩ | ⟨rfl, g⟩
    · rw [kind_inj i h1 j g1 (h2.trans g2.symm)]
    · exact absurd h2 (g i h1)
  · rcases g with ⟨j, g1, rfl, g2⟩ | ⟨rfl, g⟩
    · exact absurd g2 (h j g1)
    · rfl
theorem KindIs.of {k : Int} (h0 : 0 ≤ k) (h1 : k ≤ 5) : KindIs (kindL.getD k.toNat []) k := .inl ⟨k.toNat, by omega, by omega, rfl⟩
theorem KindIs.word {p : List UInt8} {k : Int} (h : KindIs p k) (h0 : 0 ≤ k) : kindL.getD k.toNat [] = p := by
  rcases h with ⟨i, h1, rfl, h2⟩ | ⟨rfl, h⟩
  · exact h2
  · omega
/-- None of the first words. -/
def NoKind (p : List UInt8) (k : Nat) : Prop := ∀ j, j < k → kindL.getD j [] ≠ p
theorem NoKind.zero (p : List UInt8) : NoKind p 0 := fun j h => by omega
theorem NoKind.succ {p : List UInt8} {k : Nat} (h : NoKind p k) (hk : kindL.getD k [] ≠ p) : NoKind p (k + 1) := fun j hj => by
  by_cases e : j = k
  · subst e; exact hk
  · exact h j (by omega)
theorem NoKind.all {p : List UInt8} (h : NoKind p 6) : KindIs p (-1) := .inr ⟨rfl, h⟩
/-- The kind among the first words. -/
def KindTo (p : List UInt8) (k : Nat) (v : Int) : Prop := (∃ j : Nat, j < k ∧ v = j ∧ kindL.getD j [] = p) ∨ (v = -1 ∧ NoKind p k)
theorem KindTo.zero (p : List UInt8) : KindTo p 0 (-1) := .inr ⟨rfl, NoKind.zero p⟩
theorem KindTo.hit {p : List UInt8} {k : Nat} (hk : kindL.getD k [] = p) : KindTo p (k + 1) k := .inl ⟨k, by omega, rfl, hk⟩
theorem KindTo.miss {p : List UInt8} {k : Nat} {v : Int} (h : KindTo p k v) (hk : kindL.getD k [] ≠ p) : KindTo p (k + 1) v := by
  rcases h with ⟨j, h1, h2, h3⟩ | ⟨h1, h2⟩
  · exact .inl ⟨j, by omega, h2, h3⟩
  · exact .inr ⟨h1, h2.succ hk⟩
theorem KindTo.all {p : List UInt8} {v : Int} (h : KindTo p 6 v) : KindIs p v := h
theorem KindTo.bd {p : List UInt8} {k : Nat} {v : Int} (h : KindTo p k v) (hk : k ≤ 6) : -1 ≤ v ∧ v ≤ 5 := by
  rcases h with ⟨j, h1, h2, h3⟩ | ⟨h1, h2⟩ <;> omega

theorem word_free {l : List UInt8} (h : wordB l = true) (c : UInt8) (hc : alnB c = false) : c ∉ l := fun hm => by
  unfold wordB at h
  rw [Bool.and_eq_true, decide_eq_true_eq, Bool.and_eq_true, List.all_eq_true] at h
  obtain ⟨⟨h1, _⟩, h3, h4⟩ := h
  cases l with
  | nil => simp at h1
  | cons a r =>
    rcases List.mem_cons.1 hm with rfl | hm
    · have : alnB c = true := by unfold alnB; simp at h3; simp [h3]
      rw [hc] at this; cases this
    · have := h4 c (by simpa using hm)
      rw [hc] at this; cases this
theorem word_len {l : List UInt8} (h : wordB l = true) : l.length ≤ 8 := by
  unfold wordB at h
  rw [Bool.and_eq_true, decide_eq_true_eq] at h
  exact h.1.2
theorem word_aln {l : List UInt8} (h : wordB l = true) : ∀ c ∈ l, alnB c = true := fun c hc => by
  cases ha : alnB c with
  | true => rfl
  | false => exact absurd hc (word_free h c ha)
theorem mark_free (n : Nat) (c : UInt8) (hc : alnB c = false) : c ∉ markN n := fun hm => by
  have := mark_aln n c hm
  rw [hc] at this; cases this

/-- The parts of an activity's text. -/
def actP (k m : Int) (n h t : ByteArray) : List (List UInt8) := [kindL.getD k.toNat [], markN m.toNat, 64 :: (n.data.toList ++ 64 :: h.data.toList), t.data.toList]
theorem actT_list {k m : Int} {n h t : ByteArray} (hb : actB k m n h t = true) : (actT k m n h t).data.toList = Lib.join (actP k m n h t) [32] := by
  obtain ⟨k0, k1, m0, m1, hH, hw⟩ := actB_true hb
  rw [actT_yes hb, actP, join_two, join_two, join_two, Lib.join_one]
  simp only [ByteArray.data_append, Array.toList_append, markS_list m0 m1, handleT_list hH, kindW_list]
  simp
theorem actP_free {k m : Int} {n h t : ByteArray} (hb : actB k m n h t = true) : ∀ x ∈ actP k m n h t, (32 : UInt8) ∉ x := by
  obtain ⟨k0, k1, m0, m1, hH, hw⟩ := actB_true hb
  obtain ⟨w1, w2⟩ := handleB_word hH
  intro x hx hc
  have a32 : alnB 32 = false := by decide
  simp only [actP, List.mem_cons, List.not_mem_nil, or_false] at hx
  rcases hx with rfl | rfl | rfl | rfl
  · have := kind_aln k.toNat (by omega) _ hc
    rw [a32] at this; cases this
  · exact mark_free _ _ a32 hc
  · rcases List.mem_cons.1 hc with e | hc
    · exact absurd e (by decide)
    · rcases List.mem_append.1 hc with hc | hc
      · exact word_free w1 _ a32 hc
      · rcases List.mem_cons.1 hc with e | hc
        · exact absurd e (by decide)
        · exact word_free w2 _ a32 hc
  · exact word_free hw _ a32 hc
/-- A text is the text of an activity. -/
def ActIs (s : ByteArray) (k m : Int) (n h t : ByteArray) : Prop := actB k m n h t = true ∧ parts 32 s.data.toList = actP k m n h t
theorem ActIs.of {k m : Int} {n h t : ByteArray} (hb : actB k m n h t = true) : ActIs (actT k m n h t) k m n h t :=
  ⟨hb, by rw [actT_list hb]; exact parts_join (by simp [actP]) (actP_free hb)⟩
theorem ActIs.text {s : ByteArray} {k m : Int} {n h t : ByteArray} (h1 : ActIs s k m n h t) : actT k m n h t = s := Go.WideShapes.bytes_inj (by
  rw [actT_list h1.1, ← h1.2, join_parts])
theorem reads_inj {n h n' h' : ByteArray} (hb : handleB n h = true) (hb' : handleB n' h' = true) (e : (64 :: (n.data.toList ++ 64 :: h.data.toList) : List UInt8) = 64 :: (n'.data.toList ++ 64 :: h'.data.toList)) : n = n' ∧ h = h' := by
  have r1 : ReadRel ⟨(64 :: (n.data.toList ++ 64 :: h.data.toList)).toArray⟩ n h true := .inl ⟨rfl, hb, by simp⟩
  have r2 : ReadRel ⟨(64 :: (n.data.toList ++ 64 :: h.data.toList)).toArray⟩ n' h' true := .inl ⟨rfl, hb', by rw [← e]⟩
  obtain ⟨e1, e2, _⟩ := r1.eq r2
  exact ⟨e1, e2⟩
theorem ActIs.eq {s : ByteArray} {k m k' m' : Int} {n h t n' h' t' : ByteArray} (h1 : ActIs s k m n h t) (h2 : ActIs s k' m' n' h' t') : k = k' ∧ m = m' ∧ n = n' ∧ h = h' ∧ t = t' := by
  obtain ⟨k0, k1, m0, m1, hH, hw⟩ := actB_true h1.1
  obtain ⟨l0, l1, p0, p1, gH, gw⟩ := actB_true h2.1
  have e := h1.2.symm.trans h2.2
  simp only [actP, List.cons.injEq, and_true] at e
  obtain ⟨e1, e2, e3, e4⟩ := e
  have := kind_inj _ (by omega) _ (by omega) e1
  have := mark_inj e2
  obtain ⟨e5, e6⟩ := reads_inj hH gH (by rw [e3.2])
  exact ⟨by omega, by omega, e5, e6, Go.WideShapes.bytes_inj e4⟩
/-- What reading an activity answers. -/
def ActRel (s : ByteArray) (k m : Int) (n h t : ByteArray) (ok : Bool) : Prop := (ok = true ∧ ActIs s k m n h t) ∨ (ok = false ∧ (k = 0 ∧ m = 0 ∧ n = ⟨#[]⟩ ∧ h = ⟨#[]⟩ ∧ t = ⟨#[]⟩) ∧ ∀ k m n h t, ¬ ActIs s k m n h t)
theorem ActRel.eq {s : ByteArray} {k m k' m' : Int} {n h t n' h' t' : ByteArray} {a b : Bool} (h1 : ActRel s k m n h t a) (h2 : ActRel s k' m' n' h' t' b) : k = k' ∧ m = m' ∧ n = n' ∧ h = h' ∧ t = t' ∧ a = b := by
  rcases h1 with ⟨rfl, h1⟩ | ⟨rfl, ⟨rfl, rfl, rfl, rfl, rfl⟩, h1⟩
  · rcases h2 with ⟨rfl, h2⟩ | ⟨rfl, _, h2⟩
    · obtain ⟨e1, e2, e3, e4, e5⟩ := h1.eq h2
      exact ⟨e1, e2, e3, e4, e5, rfl⟩
    · exact absurd h1 (h2 _ _ _ _ _)
  · rcases h2 with ⟨rfl, h2⟩ | ⟨rfl, ⟨rfl, rfl, rfl, rfl, rfl⟩, h2⟩
    · exact absurd h2 (h1 _ _ _ _ _)
    · exact ⟨rfl, rfl, rfl, rfl, rfl, rfl⟩
theorem act_four {s : ByteArray} (hl : (parts 32 s.data.toList).length ≠ 4) : ∀ k m n h t, ¬ ActIs s k m n h t := fun k m n h t ha => hl (by rw [ha.2]; rfl)
theorem MarkIs.num {l : List UInt8} {v : Int} (h : MarkIs l v) (h0 : 0 ≤ v) : markN v.toNat = l := by
  rcases h with ⟨n, rfl, _, h⟩ | ⟨rfl, _⟩
  · exact h
  · omega
theorem handleB_nil : handleB ⟨#[]⟩ ⟨#[]⟩ = false := by decide
theorem act_yes {s p0 p1 p2 p3 : ByteArray} {k m : Int} {n h : ByteArray} {ok : Bool} (hp : parts 32 s.data.toList = [p0.data.toList, p1.data.toList, p2.data.toList, p3.data.toList]) (hk : KindIs p0.data.toList k) (hm : MarkIs p1.data.toList m) (hr : ReadRel p2 n h ok)
    (hb : actB k m n h p3 = true) : ok = true ∧ ActIs s k m n h p3 := by
  obtain ⟨k0, k1, m0, m1, hH, hw⟩ := actB_true hb
  rcases hr with ⟨rfl, hr⟩ | ⟨_, rfl, rfl, _⟩
  · refine ⟨rfl, hb, ?_⟩
    rw [hp, actP, hk.word k0, hm.num m0, ← hr.2]
  · rw [handleB_nil] at hH; cases hH
theorem act_no {s p0 p1 p2 p3 : ByteArray} {k m : Int} {n h : ByteArray} {ok : Bool} (hp : parts 32 s.data.toList = [p0.data.toList, p1.data.toList, p2.data.toList, p3.data.toList]) (hk : KindIs p0.data.toList k) (hm : MarkIs p1.data.toList m) (hr : ReadRel p2 n h ok)
    (hb : actB k m n h p3 = false ∨ ok = false) : ∀ k m n h t, ¬ ActIs s k m n h t := fun k' m' n' h' t' ha => by
  obtain ⟨l0, l1, p0', p1', gH, gw⟩ := actB_true ha.1
  have e := hp.symm.trans ha.2
  simp only [actP, List.cons.injEq, and_true] at e
  obtain ⟨e1, e2, e3, e4⟩ := e
  have k1 : k = k' := hk.eq (by rw [e1]; exact KindIs.of l0 l1)
  have m1 : m = m' := hm.eq (by rw [e2]; exact .inl ⟨m'.toNat, by omega, by omega, rfl⟩)
  obtain ⟨n1, h1, o1⟩ := hr.eq (n' := n') (h' := h') (b := true) (.inl ⟨rfl, gH, e3⟩)
  have t1 : p3 = t' := Go.WideShapes.bytes_inj e4
  subst k1 m1 n1 h1 o1 t1
  rcases hb with hb | hb
  · rw [ha.1] at hb; cases hb
  · cases hb
/-- With a space behind it, a text has one part more. -/
theorem parts_snoc (c : UInt8) : ∀ l : List UInt8, parts c (l ++ [c]) = parts c l ++ [[]]
  | [] => by simp [parts]
  | a :: l => by
    have ih := parts_snoc c l
    rw [List.cons_append, parts, parts, ih]
    split
    · simp
    · cases hp : parts c l with
      | nil => exact absurd hp (parts_ne c l)
      | cons p r => simp
theorem act_more {s : ByteArray} {k m : Int} {n h t : ByteArray} (h1 : ActIs s k m n h t) : ∀ k m n h t, ¬ ActIs (s ++ ⟨#[32]⟩) k m n h t := act_four (by
  rw [ByteArray.data_append, Array.toList_append, show (ByteArray.mk #[32]).data.toList = [32] from rfl, parts_snoc, h1.2]
  simp [actP])
theorem actT_size {k m : Int} {n h t : ByteArray} : (actT k m n h t).size ≤ 41 := by
  cases hb : actB k m n h t with
  | false => rw [actT_no hb]; exact Nat.zero_le _
  | true =>
    obtain ⟨k0, k1, m0, m1, hH, hw⟩ := actB_true hb
    obtain ⟨w1, w2⟩ := handleB_word hH
    have q1 := word_len w1
    have q2 := word_len w2
    have q3 := word_len hw
    have q4 := kind_len k.toNat (by omega)
    have q5 := mark_six (n := m.toNat) (by omega)
    rw [← size_len, actT_list hb, actP, join_two, join_two, join_two, Lib.join_one]
    simp only [List.length_append, List.length_cons, List.length_nil]
    omega
theorem aln_print {c : UInt8} (h : alnB c = true) : (decide (32 ≤ c.toNat) && decide (c.toNat ≤ 126)) = true := by
  simp [alnB, lowB, digB] at h
  simp; omega
theorem actT_valid {k m : Int} {n h t : ByteArray} (hb : actB k m n h t = true) : textB (actT k m n h t).data.toList = true := by
  have hz := actT_size (k := k) (m := m) (n := n) (h := h) (t := t)
  rw [← size_len] at hz
  obtain ⟨k0, k1, m0, m1, hH, hw⟩ := actB_true hb
  obtain ⟨w1, w2⟩ := handleB_word hH
  unfold textB
  rw [Bool.and_eq_true, decide_eq_true_eq, List.all_eq_true]
  refine ⟨by omega, fun c hc => ?_⟩
  rw [actT_list hb, actP, join_two, join_two, join_two, Lib.join_one] at hc
  simp only [List.mem_append, List.mem_cons, List.not_mem_nil, or_false] at hc
  rcases hc with hc | hc | hc | hc | (hc | hc | hc | hc) | hc | hc
  · exact aln_print (kind_aln _ (by omega) c hc)
  · subst hc; decide
  · exact aln_print (mark_aln _ c hc)
  · subst hc; decide
  · subst hc; decide
  · exact aln_print (word_aln w1 c hc)
  · subst hc; decide
  · exact aln_print (word_aln w2 c hc)
  · subst hc; decide
  · exact aln_print (word_aln hw c hc)
end Go.Proofs.YtackffegdmohiaaDoor
