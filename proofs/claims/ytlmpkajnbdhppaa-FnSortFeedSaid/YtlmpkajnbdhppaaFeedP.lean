/- Plain facts on feeds: which are valid, what is new, merged, gone, and the order of items. No condition. -/
import Derived.Test.YtlmpkajnbdhppaaGood
import Derived.Test.YtlmpkajnbdhppaaLess
namespace Go.Proofs.Ytlmpkajnbdhppaa

/-- A valid item. -/
def itmOk (y : Itm) : Bool := wordB y.key.data.toList && (textB y.title.data.toList && (!y.title.toList.isEmpty && (textB y.body.data.toList && decide (0 ≤ y.day ∧ y.day ≤ 1460969))))
/-- At most eight valid items with different keys. -/
def feedB (l : List Itm) : Bool := goodB 8 (okBy itmOk l) (fun f => f.key.toList) l
theorem feed_apart {l : List Itm} (h : feedB l = true) : l.Pairwise fun x y => x.key.toList ≠ y.key.toList := by
  rw [List.pairwise_iff_getElem]
  intro i j hi hj hij
  exact (goodB_iff.1 h).2.2 i j hij hj
theorem feed_iff {l : List Itm} : feedB l = true ↔ l.length ≤ 8 ∧ (∀ y ∈ l, itmOk y = true) ∧ l.Pairwise fun x y => x.key.toList ≠ y.key.toList := by
  constructor
  · intro h
    refine ⟨(goodB_iff.1 h).1, fun y hy => ?_, feed_apart h⟩
    obtain ⟨k, hk, rfl⟩ := List.mem_iff_getElem.1 hy
    have := (goodB_iff.1 h).2.1 k hk
    rwa [okBy_eq hk] at this
  · rintro ⟨h1, h2, h3⟩
    refine goodB_iff.2 ⟨h1, fun k hk => by rw [okBy_eq hk]; exact h2 _ (List.getElem_mem hk), fun j k hj hk => ?_⟩
    exact List.pairwise_iff_getElem.1 h3 j k (by omega) hk hj
theorem feed_perm {a b : List Itm} (hp : a.Perm b) (h : feedB a = true) : feedB b = true := by
  obtain ⟨h1, h2, h3⟩ := feed_iff.1 h
  exact feed_iff.2 ⟨by rw [← hp.length_eq]; exact h1, fun y hy => h2 y (hp.mem_iff.2 hy), (hp.pairwise_iff (fun h e => h e.symm)).1 h3⟩

/-- The item bears the key. -/
def keyB (k : List UInt8) (y : Itm) : Bool := y.key.toList == k
theorem keyB_self (y : Itm) : keyB y.key.toList y = true := by simp [keyB]
/-- The number of the first item with a key; -1 if there is none. -/
def keyNo : List Itm → List UInt8 → Int
  | [], _ => -1
  | y :: l, k => if keyB k y = true then 0 else if keyNo l k < 0 then -1 else keyNo l k + 1
/-- None of the first j items bears the key. -/
def NoKey (l : List Itm) (k : List UInt8) (j : Nat) : Prop := ∀ i (h : i < l.length), i < j → keyB k l[i] = false
theorem NoKey.zero (l : List Itm) (k : List UInt8) : NoKey l k 0 := fun i _ h => by omega
theorem NoKey.succ {l : List Itm} {k : List UInt8} {j : Nat} (h : NoKey l k j) (hj : j < l.length) (he : keyB k l[j] = false) : NoKey l k (j + 1) := fun i hi hij => by
  by_cases e : i = j
  · subst e; exact he
  · exact h i hi (by omega)
theorem keyNo_find : ∀ (l : List Itm) (k : List UInt8), (keyNo l k = -1 ∧ l.any (keyB k) = false ∧ l.find? (keyB k) = none ∧ NoKey l k l.length) ∨ ∃ (j : Nat) (h : j < l.length), keyNo l k = j ∧ keyB k l[j] = true ∧ l.any (keyB k) = true ∧ l.find? (keyB k) = some l[j] ∧ NoKey l k j
  | [], k => .inl ⟨rfl, rfl, rfl, fun i h => by simp at h⟩
  | y :: l, k => by
    by_cases e : keyB k y = true
    · exact .inr ⟨0, by simp, by simp [keyNo, e], by simpa using e, by simp [e], by simp [e], fun i _ h => by omega⟩
    · have e' : keyB k y = false := by simpa using e
      rcases keyNo_find l k with ⟨h1, h2, h3, h4⟩ | ⟨j, hj, h1, h2, h3, h4, h5⟩
      · refine .inl ⟨by simp [keyNo, e', h1], by simp [e', h2], by simp [e', h3], fun i hi hil => ?_⟩
        cases i with
        | zero => exact e'
        | succ i => exact h4 i (by simpa using hi) (by simpa using hil)
      · refine .inr ⟨j + 1, by simp; omega, ?_, by simpa using h2, by simp [h3], by simp [e', h4], fun i hi hij => ?_⟩
        · have : ¬ ((j : Int) < 0) := by omega
          simp [keyNo, e', h1, this]
        · cases i with
          | zero => exact e'
          | succ i => exact h5 i (by simpa using hi) (by omega)
theorem keyNo_at {l : List Itm} {k : List UInt8} {j : Nat} (hj : j < l.length) (h : NoKey l k j) (he : keyB k l[j] = true) : keyNo l k = j := by
  rcases keyNo_find l k with ⟨_, _, _, h4⟩ | ⟨i, hi, h1, h2, _, _, h5⟩
  · rw [h4 j hj hj] at he; cases he
  · rcases Nat.lt_trichotomy i j with e | e | e
    · rw [h i hi e] at h2; cases h2
    · rw [h1, e]
    · rw [h5 j hj e] at he; cases he
theorem keyNo_none {l : List Itm} {k : List UInt8} (h : NoKey l k l.length) : keyNo l k = -1 := by
  rcases keyNo_find l k with ⟨h1, _⟩ | ⟨i, hi, h1, h2, _⟩
  · exact h1
  · rw [h i hi hi] at h2; cases h2
theorem find_at {l : List Itm} {k : List UInt8} {j : Nat} (hj : j < l.length) (h : NoKey l k j) (he : keyB k l[j] = true) : l.find? (keyB k) = some l[j] := by
  rcases keyNo_find l k with ⟨_, _, _, h4⟩ | ⟨i, hi, h1, h2, _, h4, h5⟩
  · rw [h4 j hj hj] at he; cases he
  · have e1 := keyNo_at hj h he
    rw [h1] at e1
    obtain rfl : i = j := by omega
    exact h4
theorem find_none {l : List Itm} {k : List UInt8} (h : NoKey l k l.length) : l.find? (keyB k) = none := by
  rcases keyNo_find l k with ⟨_, _, h3, _⟩ | ⟨i, hi, h1, h2, _⟩
  · exact h3
  · rw [h i hi hi] at h2; cases h2
theorem any_find (l : List Itm) (k : List UInt8) : l.any (keyB k) = (l.find? (keyB k)).isSome := by
  rcases keyNo_find l k with ⟨_, h2, h3, _⟩ | ⟨i, hi, _, _, h3, h4, _⟩
  · rw [h2, h3]; rfl
  · rw [h3, h4]; rfl

/-- The item of a valid feed with a key. -/
def withL (l : List Itm) (k : List UInt8) : Option Itm := if feedB l = true then l.find? (keyB k) else none
/-- The items of the second one whose keys the first one does not have. -/
def freshL (b a : List Itm) : List Itm := a.filter fun y => !b.any (keyB y.key.toList)
def newL (b a : List Itm) : List Itm := if feedB b = true ∧ feedB a = true then freshL b a else []
/-- The item as the second feed has it. -/
def nowOf (a : List Itm) (y : Itm) : Itm := (a.find? (keyB y.key.toList)).getD y
def cut8 (l : List Itm) : List Itm := if l.length ≤ 8 then l else []
def mergeL (b a : List Itm) : List Itm := if feedB b = true ∧ feedB a = true then cut8 (b.map (nowOf a) ++ freshL b a) else []
def goneL (b a : List Itm) : List ByteArray := (newL a b).map (·.key)

theorem fresh_step (b a : List Itm) (k : Nat) (hk : k < a.length) : freshL b (a.take (k + 1)) = freshL b (a.take k) ++ if b.any (keyB a[k].key.toList) = true then [] else [a[k]] := by
  unfold freshL
  rw [List.take_succ_eq_append_getElem hk, List.filter_append]
  congr 1
  by_cases h : b.any (keyB a[k].key.toList) = true
  · rw [if_pos h]; simp [h]
  · have h' : b.any (keyB a[k].key.toList) = false := by simpa using h
    rw [if_neg h]; simp [h']
theorem fresh_old {b a : List Itm} {k : Nat} (hk : k < a.length) {j : Nat} (h : keyNo b a[k].key.toList = j) : freshL b (a.take (k + 1)) = freshL b (a.take k) := by
  rw [fresh_step b a k hk]
  rcases keyNo_find b a[k].key.toList with ⟨h1, _⟩ | ⟨_, _, _, _, h3, _⟩
  · rw [h1] at h; omega
  · rw [if_pos h3, List.append_nil]
theorem fresh_new {b a : List Itm} {k : Nat} (hk : k < a.length) (h : keyNo b a[k].key.toList = -1) : freshL b (a.take (k + 1)) = freshL b (a.take k) ++ [a[k]] := by
  rw [fresh_step b a k hk]
  rcases keyNo_find b a[k].key.toList with ⟨_, h2, _⟩ | ⟨j, _, h1, _⟩
  · rw [if_neg (by rw [h2]; simp)]
  · rw [h1] at h; omega
theorem fresh_len (b a : List Itm) : (freshL b a).length ≤ a.length := List.length_filter_le _ _
theorem fresh_mem {b a : List Itm} {y : Itm} (h : y ∈ freshL b a) : y ∈ a ∧ b.any (keyB y.key.toList) = false := by
  obtain ⟨h1, h2⟩ := List.mem_filter.1 h
  exact ⟨h1, by simpa using h2⟩
theorem fresh_nil {b a : List Itm} (h : ∀ y ∈ a, b.any (keyB y.key.toList) = true) : freshL b a = [] := by
  unfold freshL
  rw [List.filter_eq_nil_iff]
  intro y hy
  simp [h y hy]
theorem any_of {l : List Itm} {k : List UInt8} {y : Itm} (hy : y ∈ l) (hk : y.key.toList = k) : l.any (keyB k) = true := List.any_eq_true.2 ⟨y, hy, by simp [keyB, hk]⟩
theorem newL_mem {b a : List Itm} {y : Itm} (h : y ∈ newL b a) : y ∈ a ∧ b.any (keyB y.key.toList) = false := by
  unfold newL at h
  by_cases e : feedB b = true ∧ feedB a = true
  · rw [if_pos e] at h; exact fresh_mem h
  · rw [if_neg e] at h; cases h
theorem newL_len (b a : List Itm) : (newL b a).length ≤ a.length ∧ (newL b a).length ≤ 8 := by
  unfold newL
  by_cases e : feedB b = true ∧ feedB a = true
  · rw [if_pos e]
    have h1 := fresh_len b a
    have h2 := (feed_iff.1 e.2).1
    omega
  · rw [if_neg e]; simp
theorem gone_len (b a : List Itm) : (goneL b a).length = (newL a b).length := by simp [goneL]
theorem gone_at (b a : List Itm) (k : Nat) (h : k < (goneL b a).length) : (goneL b a)[k] = ((newL a b)[k]'(by rw [← gone_len]; exact h)).key := by simp [goneL]
theorem gone_away (b a : List Itm) (k : Nat) (h : k < (goneL b a).length) : withL a (goneL b a)[k].toList = none := by
  rw [gone_at]
  unfold withL
  split
  · have hm := newL_mem (List.getElem_mem (l := newL a b) (n := k) (by rw [← gone_len]; exact h))
    have := hm.2
    rw [any_find] at this
    simpa using this
  · rfl

/-- In a valid feed the item with a key is the one. -/
theorem find_mem {a : List Itm} (h : feedB a = true) {y : Itm} (hy : y ∈ a) : a.find? (keyB y.key.toList) = some y := by
  obtain ⟨k, hk, rfl⟩ := List.mem_iff_getElem.1 hy
  refine find_at hk (fun i hi hik => ?_) (keyB_self _)
  have := (goodB_iff.1 h).2.2 i k hik hk
  simpa [keyB] using this
theorem find_some_mem {a : List Itm} {k : List UInt8} {z : Itm} (h : a.find? (keyB k) = some z) : z ∈ a ∧ z.key.toList = k := by
  refine ⟨List.mem_of_find?_eq_some h, ?_⟩
  have := List.find?_some h
  simpa [keyB] using this
theorem now_key (a : List Itm) (y : Itm) : (nowOf a y).key.toList = y.key.toList := by
  unfold nowOf
  cases h : a.find? (keyB y.key.toList) with
  | none => rfl
  | some z => exact (find_some_mem h).2
theorem now_mem (a : List Itm) (y : Itm) : nowOf a y ∈ a ∨ nowOf a y = y := by
  unfold nowOf
  cases h : a.find? (keyB y.key.toList) with
  | none => exact .inr rfl
  | some z => exact .inl (find_some_mem h).1

section merge
variable {b a : List Itm}
theorem merge_parts (h : 0 < (mergeL b a).length) : feedB b = true ∧ feedB a = true ∧ mergeL b a = b.map (nowOf a) ++ freshL b a ∧ (mergeL b a).length ≤ 8 := by
  unfold mergeL at h ⊢
  by_cases e : feedB b = true ∧ feedB a = true
  · rw [if_pos e] at h ⊢
    unfold cut8 at h ⊢
    split at h
    · rename_i h8
      rw [if_pos h8]
      exact ⟨e.1, e.2, rfl, h8⟩
    · simp at h
  · rw [if_neg e] at h; simp at h
theorem merge_key (h : 0 < (mergeL b a).length) {y : Itm} (hy : y ∈ b ∨ y ∈ a) : (mergeL b a).any (keyB y.key.toList) = true := by
  obtain ⟨_, _, e, _⟩ := merge_parts h
  rw [e]
  have hb : ∀ z ∈ b, (b.map (nowOf a) ++ freshL b a).any (keyB z.key.toList) = true := fun z hz =>
    any_of (y := nowOf a z) (List.mem_append_left _ (List.mem_map_of_mem hz)) (now_key a z)
  rcases hy with hy | hy
  · exact hb y hy
  · cases hc : b.any (keyB y.key.toList) with
    | true =>
      obtain ⟨z, hz, hk⟩ := List.any_eq_true.1 hc
      have : z.key.toList = y.key.toList := by simpa [keyB] using hk
      rw [← this]; exact hb z hz
    | false => exact any_of (y := y) (List.mem_append_right _ (List.mem_filter.2 ⟨hy, by simp [hc]⟩)) rfl
theorem merge_valid (h : 0 < (mergeL b a).length) : feedB (mergeL b a) = true := by
  obtain ⟨hb, ha, e, h8⟩ := merge_parts h
  rw [e] at h8 ⊢
  obtain ⟨_, b2, b3⟩ := feed_iff.1 hb
  obtain ⟨_, a2, a3⟩ := feed_iff.1 ha
  refine feed_iff.2 ⟨h8, fun y hy => ?_, ?_⟩
  · rcases List.mem_append.1 hy with hy | hy
    · obtain ⟨z, hz, rfl⟩ := List.mem_map.1 hy
      rcases now_mem a z with h1 | h1
      · exact a2 _ h1
      · rw [h1]; exact b2 z hz
    · exact a2 y (fresh_mem hy).1
  · rw [List.pairwise_append]
    refine ⟨?_, a3.sublist List.filter_sublist, fun x hx y hy => ?_⟩
    · rw [List.pairwise_map]
      exact b3.imp fun {x y} h => by rw [now_key, now_key]; exact h
    · obtain ⟨z, hz, rfl⟩ := List.mem_map.1 hx
      rw [now_key]
      intro e2
      have := (fresh_mem hy).2
      rw [any_of hz e2] at this
      cases this
theorem merge_same (h : 0 < (mergeL b a).length) {y z : Itm} (hy : y ∈ a) (hf : (mergeL b a).find? (keyB y.key.toList) = some z) : z = y := by
  obtain ⟨hb, ha, e, _⟩ := merge_parts h
  obtain ⟨hz, hk⟩ := find_some_mem hf
  rw [e] at hz
  rcases List.mem_append.1 hz with hz | hz
  · obtain ⟨u, hu, rfl⟩ := List.mem_map.1 hz
    rw [now_key] at hk
    unfold nowOf
    rw [hk, find_mem ha hy]; rfl
  · have h1 := find_mem ha (fresh_mem hz).1
    rw [hk, find_mem ha hy] at h1
    exact (Option.some.inj h1).symm
theorem merge_new (h : 0 < (mergeL b a).length) : newL (mergeL b a) a = [] := by
  unfold newL
  split
  · exact fresh_nil fun y hy => merge_key h (.inr hy)
  · rfl
theorem merge_gone (h : 0 < (mergeL b a).length) : newL (mergeL b a) b = [] := by
  unfold newL
  split
  · exact fresh_nil fun y hy => merge_key h (.inl hy)
  · rfl
end merge

/-- The order of items: by descending days, for the same day by ascending keys. -/
def lessI (x y : Itm) : Bool := decide (y.day < x.day) || (decide (x.day = y.day) && Op.bytesLess x.key.toList y.key.toList)
theorem lessI_iff {x y : Itm} : lessI x y = true ↔ y.day < x.day ∨ (x.day = y.day ∧ Op.bytesLess x.key.toList y.key.toList = true) := by simp [lessI]
theorem lessI_asymm {x y : Itm} (h : lessI x y = true) (h2 : lessI y x = true) : False := by
  rw [lessI_iff] at h h2
  rcases h with h | ⟨h, k⟩ <;> rcases h2 with h2 | ⟨h2, k2⟩
  · omega
  · omega
  · omega
  · rw [less_asymm k] at k2; cases k2
theorem lessI_trans {x y z : Itm} (h : lessI x y = true) (h2 : lessI y z = true) : lessI x z = true := by
  rw [lessI_iff] at h h2 ⊢
  rcases h with h | ⟨h, k⟩ <;> rcases h2 with h2 | ⟨h2, k2⟩
  · left; omega
  · left; omega
  · left; omega
  · right; exact ⟨by omega, less_trans k k2⟩
theorem lessI_total {x y : Itm} (hk : x.key.toList ≠ y.key.toList) (h : lessI x y = false) : lessI y x = true := by
  rw [lessI_iff]
  have h' : ¬ (y.day < x.day ∨ (x.day = y.day ∧ Op.bytesLess x.key.toList y.key.toList = true)) := by rw [← lessI_iff, h]; simp
  by_cases e : x.day = y.day
  · right
    refine ⟨e.symm, less_total hk ?_⟩
    cases hb : Op.bytesLess x.key.toList y.key.toList
    · rfl
    · exact absurd (.inr ⟨e, hb⟩) h'
  · left
    have : ¬ y.day < x.day := fun e2 => h' (.inl e2)
    omega
theorem lessI_irr (x : Itm) : lessI x x = false := by
  cases h : lessI x x
  · rfl
  · exact (lessI_asymm h h).elim
/-- The items in their order; none of other feeds. -/
def FeedRel (l out : List Itm) : Prop := (feedB l = true ∧ out.Perm l ∧ out.Pairwise fun x y => lessI x y = true) ∨ (feedB l = false ∧ out = [])
theorem FeedRel.of {l out : List Itm} (h : feedB l = true) (hp : out.Perm l) (hs : out.Pairwise fun x y => lessI y x = false) : FeedRel l out := by
  refine .inl ⟨h, hp, ?_⟩
  have hd : out.Pairwise fun x y => x.key.toList ≠ y.key.toList := (hp.pairwise_iff (fun h e => h e.symm)).2 (feed_apart h)
  refine (hs.and hd).imp ?_
  rintro x y ⟨h1, h2⟩
  exact lessI_total (fun e => h2 e.symm) h1
theorem feed_again {o x : List Itm} (h : FeedRel o x) (hf : feedB o = true) : FeedRel x x := by
  rcases h with ⟨_, h2, h3⟩ | ⟨h1, _⟩
  · exact .inl ⟨feed_perm h2.symm hf, List.Perm.refl _, h3⟩
  · rw [hf] at h1; cases h1
theorem feed_parts {o x : List Itm} (h : FeedRel o x) (hf : feedB o = true) : x.Perm o ∧ x.Pairwise fun x y => lessI x y = true := by
  rcases h with ⟨_, h2, h3⟩ | ⟨h1, _⟩
  · exact ⟨h2, h3⟩
  · rw [hf] at h1; cases h1
theorem feed_none {o x : List Itm} (h : FeedRel o x) (hf : feedB o = false) : x = [] := by
  rcases h with ⟨h1, _⟩ | ⟨_, h2⟩
  · rw [hf] at h1; cases h1
  · exact h2
theorem feed_new {o x : List Itm} (h : FeedRel o x) (hf : feedB o = true) : newL x o = [] := by
  obtain ⟨hp, _⟩ := feed_parts h hf
  unfold newL
  split
  · exact fresh_nil fun y hy => any_of (hp.mem_iff.2 hy) rfl
  · rfl

/-- The first k items in their order. -/
def FSrt (l o : List Itm) (k : Nat) : Prop := o.Perm (l.take k) ∧ (o.Pairwise fun x y => lessI x y = true) ∧ (0 < k → feedB l = true)
/-- From a on, all stand behind item k. -/
def FGt (l o : List Itm) (k : Nat) (hk : k < l.length) (a : Nat) : Prop := ∀ i (h : i < o.length), a ≤ i → lessI l[k] o[i] = true
theorem FSrt.zero (l : List Itm) : FSrt l [] 0 := ⟨by simp, List.Pairwise.nil, fun h => absurd h (by omega)⟩
theorem FSrt.insert {l o : List Itm} {k a : Nat} (h : FSrt l o k) (hf : feedB l = true) (hk : k < l.length) (ha : a ≤ o.length) (hg : FGt l o k hk a)
    (hl : ∀ (h0 : 0 < a), lessI l[k] (o[a - 1]'(by omega)) = false) : FSrt l (o.take a ++ l[k] :: o.drop a) (k + 1) := by
  obtain ⟨hp, hs, -⟩ := h
  refine ⟨?_, ?_, fun _ => hf⟩
  · rw [List.take_succ_eq_append_getElem hk]
    refine List.perm_middle.trans (List.Perm.trans (List.Perm.cons _ ?_) (List.perm_append_singleton _ _).symm)
    rw [List.take_append_drop]; exact hp
  · rw [List.pairwise_append, List.pairwise_cons]
    have hlen := hp.length_eq
    have hmem : ∀ y ∈ o, y.key.toList ≠ l[k].key.toList := fun y hy e => by
      have hy2 := hp.subset hy
      obtain ⟨j, hj, rfl⟩ := List.mem_take_iff_getElem.1 hy2
      exact (goodB_iff.1 hf).2.2 j k (by omega) hk e
    have hlow : ∀ y ∈ o.take a, lessI y l[k] = true := fun y hy => by
      obtain ⟨j, hj, rfl⟩ := List.mem_take_iff_getElem.1 hy
      have h0 : 0 < a := by omega
      have hb := hl h0
      have h1 : lessI (o[a - 1]'(by omega)) l[k] = true := lessI_total (fun e => hmem _ (List.getElem_mem _) e.symm) hb
      by_cases e : j = a - 1
      · subst e; exact h1
      · exact lessI_trans (List.pairwise_iff_getElem.1 hs j (a - 1) (by omega) (by omega) (by omega)) h1
    have hhigh : ∀ y ∈ o.drop a, lessI l[k] y = true := fun y hy => by
      obtain ⟨j, hj, rfl⟩ := List.getElem_of_mem hy
      rw [List.length_drop] at hj
      rw [List.getElem_drop]
      exact hg _ (by omega) (by omega)
    refine ⟨hs.sublist (List.take_sublist _ _), ⟨hhigh, hs.sublist (List.drop_sublist _ _)⟩, fun x hx y hy => ?_⟩
    rcases List.mem_cons.1 hy with rfl | hy
    · exact hlow x hx
    · exact lessI_trans (hlow x hx) (hhigh y hy)
theorem FSrt.all {l o : List Itm} (h : FSrt l o l.length) : FeedRel l o := by
  obtain ⟨hp, hs, hf⟩ := h
  rw [List.take_length] at hp
  rcases Nat.eq_zero_or_pos l.length with h0 | h0
  · obtain rfl := List.eq_nil_of_length_eq_zero h0
    exact .inl ⟨rfl, hp, hs⟩
  · exact .inl ⟨hf h0, hp, hs⟩
end Go.Proofs.Ytlmpkajnbdhppaa
