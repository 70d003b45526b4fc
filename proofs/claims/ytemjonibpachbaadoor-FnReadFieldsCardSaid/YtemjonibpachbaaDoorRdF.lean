/- Plain facts on the text of fields: read and printed. No condition. -/
import Derived.Test.YtemjonibpachbaaDoorFldT
import Derived.Test.YtemjonibpachbaaDoorRdM
import Derived.Test.YtemjonibpachbaaDoorSplit
namespace Go.Proofs.YtemjonibpachbaaDoor

/-- A part is read as a field. -/
def PartIs (p : List UInt8) (f : Fld) : Prop := ∃ m, p = f.name.data.toList ++ 61 :: m ∧ 61 ∉ f.name.data.toList ∧ MarkIs m f.val
theorem word_free {l : List UInt8} (h : wordB l = true) (c : UInt8) (hc : alnB c = false) : c ∉ l := fun hm => by
  unfold wordB at h
  rw [Bool.and_eq_true, decide_eq_true_eq, Bool.and_eq_true, List.all_eq_true] at h
  obtain ⟨⟨h1, _⟩, h3, h4⟩ := h
  cases l with
  | nil => simp at h1
  | cons a r =>
    rcases List.mem_cons.1 hm with rfl | hm
    · have : alnB c = true := by unfold alnB; simp at h3; simp [h3]
      rw [hc] at this; cases this
    · have := h4 c (by simpa using hm)
      rw [hc] at this; cases this
theorem mark_free (n : Nat) (c : UInt8) (hc : alnB c = false) : c ∉ markN n := fun hm => by
  have := mark_aln n c hm
  rw [hc] at this; cases this
theorem fld_ok {l : List Fld} (h : fieldsB l = true) {k : Nat} (hk : k < l.length) : wordB l[k].name.data.toList = true ∧ 0 ≤ l[k].val ∧ l[k].val ≤ 1000000000 := by
  refine ⟨?_, ?_⟩
  · cases hw : wordB l[k].name.data.toList with
    | true => rfl
    | false => rw [fields_word hk hw] at h; cases h
  · by_cases hb : 0 ≤ l[k].val ∧ l[k].val ≤ 1000000000
    · exact hb
    · rw [fields_val hk hb] at h; cases h
theorem partL_eq {f : Fld} (h0 : 0 ≤ f.val) (h1 : f.val ≤ 1000000000) : partL f = f.name.data.toList ++ 61 :: markN f.val.toNat := by
  unfold partL partB
  rw [ByteArray.data_append, Array.toList_append, ByteArray.data_append, Array.toList_append, markS_list h0 h1]
  simp
theorem part_is {f : Fld} (hw : wordB f.name.data.toList = true) (h0 : 0 ≤ f.val) (h1 : f.val ≤ 1000000000) : PartIs (partL f) f :=
  ⟨markN f.val.toNat, partL_eq h0 h1, word_free hw 61 (by decide), .inl ⟨f.val.toNat, by omega, by omega, rfl⟩⟩
theorem part_free {f : Fld} (hw : wordB f.name.data.toList = true) (h0 : 0 ≤ f.val) (h1 : f.val ≤ 1000000000) : (59 : UInt8) ∉ partL f := by
  rw [partL_eq h0 h1]
  intro h
  rcases List.mem_append.1 h with h | h
  · exact word_free hw 59 (by decide) h
  · rcases List.mem_cons.1 h with h | h
    · cases h
    · exact mark_free _ 59 (by decide) h
theorem eq_cut {a b : List UInt8} {m n : List UInt8} {c : UInt8} (ha : c ∉ a) (hb : c ∉ b) (h : a ++ c :: m = b ++ c :: n) : a = b ∧ m = n := by
  induction a generalizing b with
  | nil =>
    cases b with
    | nil => exact ⟨rfl, by simpa using h⟩
    | cons y b => simp at h; exact absurd h.1 (fun e => hb (by simp [e]))
  | cons x a ih =>
    cases b with
    | nil => simp at h; exact absurd h.1.symm (fun e => ha (by simp [e]))
    | cons y b =>
      simp only [List.cons_append, List.cons.injEq] at h
      obtain ⟨h1, h2⟩ := ih (fun e => ha (List.mem_cons_of_mem _ e)) (fun e => hb (List.mem_cons_of_mem _ e)) h.2
      exact ⟨by rw [h.1, h1], h2⟩
theorem PartIs.eq {p : List UInt8} {f g : Fld} (hf : PartIs p f) (hg : PartIs p g) : f = g := by
  obtain ⟨m, e1, h1, k1⟩ := hf
  obtain ⟨n, e2, h2, k2⟩ := hg
  obtain ⟨q1, q2⟩ := eq_cut h1 h2 (e1.symm.trans e2)
  subst q2
  cases f; cases g
  simp only [Fld.mk.injEq]
  exact ⟨Go.WideShapes.bytes_inj q1, k1.eq k2⟩
theorem PartIs.text {p : List UInt8} {f : Fld} (hf : PartIs p f) (h0 : 0 ≤ f.val) : partL f = p := by
  obtain ⟨m, e, h, k⟩ := hf
  have hb := k.bd
  rcases k with ⟨n, hn, h1, h2⟩ | ⟨hn, _⟩
  · rw [partL_eq h0 hb.2, e, hn]
    show _ ++ 61 :: markN n = _
    rw [h2]
  · omega
/-- Valid, in the order of the names, with this text. -/
def TxtOf (s : ByteArray) (x : List Fld) : Prop := fieldsB x = true ∧ x.Pairwise lessF ∧ fieldsL x = s.data.toList
/-- What ReadFields answers. -/
def RdRel (s : ByteArray) (out : List Fld) (ok : Bool) : Prop := (ok = true ∧ TxtOf s out) ∨ (ok = false ∧ out = [] ∧ ∀ x, ¬ TxtOf s x)
theorem txt_parts {s : ByteArray} {x : List Fld} (h : TxtOf s x) (h0 : x ≠ []) : parts 59 s.data.toList = x.map partL := by
  rw [← h.2.2]
  refine parts_join (by simpa using h0) (fun p hp => ?_)
  obtain ⟨f, hf, rfl⟩ := List.mem_map.1 hp
  obtain ⟨k, hk, rfl⟩ := List.getElem_of_mem hf
  have := fld_ok h.1 hk
  exact part_free this.1 this.2.1 this.2.2
theorem txt_at {s : ByteArray} {x : List Fld} (h : TxtOf s x) {k : Nat} (hk : k < x.length) : PartIs (partL x[k]) x[k] := by
  have := fld_ok h.1 hk
  exact part_is this.1 this.2.1 this.2.2
theorem txt_nil {s : ByteArray} (h : TxtOf s []) : s.size = 0 := by
  have := h.2.2
  have hl := size_len s
  rw [← this] at hl
  simpa [fieldsL, Lib.join, List.intercalate] using hl.symm
theorem txt_ne {s : ByteArray} {x : List Fld} (h : TxtOf s x) (h0 : x ≠ []) : s.size ≠ 0 := fun e => by
  have hp := txt_parts h h0
  have hs : s.data.toList = [] := List.eq_nil_of_length_eq_zero (by rw [size_len]; exact e)
  rw [hs] at hp
  cases x with
  | nil => exact h0 rfl
  | cons f r =>
    have h1 := txt_at h (k := 0) (by simp)
    obtain ⟨m, e2, _, _⟩ := h1
    simp only [List.getElem_cons_zero] at e2
    rw [List.map_cons, e2] at hp
    simp [parts] at hp
theorem txt_inj {s : ByteArray} {x y : List Fld} (hx : TxtOf s x) (hy : TxtOf s y) : x = y := by
  by_cases h0 : x = []
  · subst h0
    by_cases h1 : y = []
    · exact h1.symm
    · exact absurd (txt_nil hx) (txt_ne hy h1)
  · by_cases h1 : y = []
    · subst h1; exact absurd (txt_nil hy) (txt_ne hx h0)
    · have e := (txt_parts hx h0).symm.trans (txt_parts hy h1)
      have hl : x.length = y.length := by simpa using congrArg List.length e
      refine List.ext_getElem hl fun k h1 h2 => ?_
      have e2 : partL x[k] = partL y[k] := by
        have := congrArg (fun z => z[k]?) e
        simpa [h1, h2] using this
      exact (txt_at hx h1).eq (e2 ▸ txt_at hy h2)
theorem RdRel.eq {s : ByteArray} {a b : List Fld} {p q : Bool} (h1 : RdRel s a p) (h2 : RdRel s b q) : a = b ∧ p = q := by
  rcases h1 with ⟨rfl, h1⟩ | ⟨rfl, rfl, h1⟩ <;> rcases h2 with ⟨rfl, h2⟩ | ⟨rfl, rfl, h2⟩
  · exact ⟨txt_inj h1 h2, rfl⟩
  · exact absurd h1 (h2 a)
  · exact absurd h2 (h1 b)
  · exact ⟨rfl, rfl⟩
/-- The first k parts have been read. -/
def RdTo (P : List (List UInt8)) (o : List Fld) (k : Nat) : Prop := o.length = k ∧ ∀ j (h1 : j < P.length) (h2 : j < o.length), PartIs P[j] o[j]
theorem RdTo.zero (P : List (List UInt8)) : RdTo P [] 0 := ⟨rfl, fun j _ h => by simp at h⟩
theorem RdTo.succ {P : List (List UInt8)} {o : List Fld} {k : Nat} {f : Fld} (h : RdTo P o k) (hk : k < P.length) (hf : PartIs P[k] f) : RdTo P (o ++ [f]) (k + 1) := by
  refine ⟨by simp [h.1], fun j h1 h2 => ?_⟩
  by_cases e : j < o.length
  · rw [List.getElem_append_left e]; exact h.2 j h1 e
  · have ej : j = o.length := by simp at h2; omega
    subst ej
    have hk2 : k = o.length := h.1.symm
    subst hk2
    simpa using hf
theorem rd_same {P : List (List UInt8)} {o x : List Fld} {k : Nat} (h : RdTo P o k) (hP : P = x.map partL) (hx : ∀ j (h : j < x.length), PartIs (partL x[j]) x[j]) (hk : k ≤ P.length) : o = x.take k := by
  subst hP
  rw [List.length_map] at hk
  refine List.ext_getElem (by rw [h.1, List.length_take]; omega) fun j h1 h2 => ?_
  rw [List.length_take] at h2
  have := h.2 j (by simp; omega) h1
  rw [List.getElem_map] at this
  rw [List.getElem_take]
  exact this.eq (hx j (by omega))
end Go.Proofs.YtemjonibpachbaaDoor
