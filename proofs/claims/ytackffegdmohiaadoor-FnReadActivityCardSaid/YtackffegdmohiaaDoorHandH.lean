/- The walks of both ReadHandle. Condition: the text is no longer than a machine holds. -/
import Derived.Test.YtackffegdmohiaaDoorHandG
import Derived.WideShapes
namespace Go.Proofs.YtackffegdmohiaaDoor
open Go.RowKit

def Reads (s n h : ByteArray) : Prop := handleB n h = true ∧ s.data.toList = 64 :: (n.data.toList ++ 64 :: h.data.toList)
def ReadRel (s n h : ByteArray) (ok : Bool) : Prop := (ok = true ∧ Reads s n h) ∨ (ok = false ∧ n = ⟨#[]⟩ ∧ h = ⟨#[]⟩ ∧ ∀ n h, ¬ Reads s n h)
theorem aln64 : alnB 64 = false := by decide
theorem word_64 {l : List UInt8} (h : wordB l = true) {j : Nat} (hj : j < l.length) : l.getD j 0 ≠ 64 := by
  intro e
  by_cases h0 : j = 0
  · subst h0
    have := wordB_head (l := l) (by rw [e]; decide)
    rw [this] at h; cases h
  · have := wordB_at (l := l) (k := j) (by omega) hj (by rw [e]; exact aln64)
    rw [this] at h; cases h
theorem FirstAt.eq {l : List UInt8} {c : UInt8} {k j : Nat} (h : FirstAt l c k) (h2 : FirstAt l c j) : k = j := by
  rcases Nat.lt_trichotomy k j with e | e | e
  · exact absurd h.2.1 (h2.2.2 k e)
  · exact e
  · exact absurd h2.2.1 (h.2.2 j e)
theorem FirstAt.split {l : List UInt8} {c : UInt8} {k : Nat} (h : FirstAt l c k) : l = l.take k ++ c :: l.drop (k + 1) := by
  conv => lhs; rw [← List.take_append_drop k l]
  rw [List.drop_eq_getElem_cons h.1, ← getD_lt h.1, h.2.1]
theorem first_app {n h : List UInt8} {c : UInt8} (hn : ∀ j, j < n.length → n.getD j 0 ≠ c) : FirstAt (n ++ c :: h) c n.length := by
  refine ⟨by simp, by simp, fun j hj => ?_⟩
  have := hn j hj
  rwa [List.getD_eq_getElem?_getD, List.getElem?_append_left hj, ← List.getD_eq_getElem?_getD]
theorem handleB_word {n h : ByteArray} (hb : handleB n h = true) : wordB n.data.toList = true ∧ wordB h.data.toList = true := by
  unfold handleB at hb; simpa using hb
theorem Reads.first {s n h : ByteArray} (hr : Reads s n h) : FirstAt (s.data.toList.drop 1) 64 n.data.toList.length := by
  rw [hr.2]
  exact first_app fun j hj => word_64 (handleB_word hr.1).1 hj
theorem drop_app (n h : List UInt8) (c : UInt8) : (n ++ c :: h).drop (n.length + 1) = h := by induction n <;> simp_all
theorem take_app (n h : List UInt8) (c : UInt8) : (n ++ c :: h).take n.length = n := by induction n <;> simp_all
theorem reads_eq {s n h n' h' : ByteArray} {k : Nat} (hf : FirstAt (s.data.toList.drop 1) 64 k) (hn : n.data.toList = (s.data.toList.drop 1).take k) (hh : h.data.toList = (s.data.toList.drop 1).drop (k + 1)) (hr : Reads s n' h') : n = n' ∧ h = h' := by
  have e := hf.eq hr.first
  subst e
  rw [hr.2] at hn hh
  exact ⟨Go.WideShapes.bytes_inj (hn.trans (take_app _ _ _)), Go.WideShapes.bytes_inj (hh.trans (drop_app _ _ _))⟩
theorem reads_of {s n h : ByteArray} {k : Nat} (hB : handleB n h = true) (h0 : 0 < s.size) (h64 : s.data.toList.getD 0 0 = 64) (hf : FirstAt (s.data.toList.drop 1) 64 k) (hn : n.data.toList = (s.data.toList.drop 1).take k) (hh : h.data.toList = (s.data.toList.drop 1).drop (k + 1)) : Reads s n h := by
  refine ⟨hB, ?_⟩
  rw [hn, hh, ← hf.split]
  have hl := size_len s
  cases e : s.data.toList with
  | nil => rw [e] at hl; simp at hl; omega
  | cons a l => rw [e] at h64; simp at h64; simp [h64]
theorem reads_none {s n h : ByteArray} (hf : NoneAt (s.data.toList.drop 1) 64) : ¬ Reads s n h := fun hr => hf _ hr.first.1 hr.first.2.1
theorem reads_head {s n h : ByteArray} (hr : Reads s n h) : 0 < s.size ∧ s.data.toList.getD 0 0 = 64 := by
  have hl := size_len s
  rw [← hl, hr.2]; simp
theorem ReadRel.eq {s n h n' h' : ByteArray} {a b : Bool} (h1 : ReadRel s n h a) (h2 : ReadRel s n' h' b) : n = n' ∧ h = h' ∧ a = b := by
  rcases h1 with ⟨rfl, h1⟩ | ⟨rfl, rfl, rfl, h1⟩ <;> rcases h2 with ⟨rfl, h2⟩ | ⟨rfl, rfl, rfl, h2⟩
  · obtain ⟨e1, e2⟩ := reads_eq (n := n) (h := h) h1.first (by rw [h1.2]; exact (take_app _ _ _).symm) (by rw [h1.2]; exact (drop_app _ _ _).symm) h2
    exact ⟨e1, e2, rfl⟩
  · exact absurd h1 (h2 _ _)
  · exact absurd h2 (h1 _ _)
  · exact ⟨rfl, rfl, rfl⟩
theorem ext_list (s : ByteArray) (a b : Nat) : (s.extract a b).data.toList = (s.data.toList.drop a).take (b - a) := by
  rw [ByteArray.data_extract, Array.toList_extract]
theorem keep_frozen {w w' : World} {p : Addr} (hb : Below w.heap.size w w') (hp : p.block < w.heap.size) (h : w.frozen? p = false) : w'.frozen? p = false := (hb.frozen hp).trans h
def ReadRet (s : ByteArray) (w : World) (e : Ending) (w' : World) : Prop := ∃ n h ok, e = .returned (.tuple #[.agg #[.string n, .string h], .bool ok]) ∧ ReadRel s n h ok ∧ n.size ≤ s.size ∧ h.size ≤ s.size ∧ Below w.heap.size w w'
theorem ReadRet.mk {s n h : ByteArray} {ok : Bool} {w w' : World} (hr : ReadRel s n h ok) (hn : n.size ≤ s.size) (hh : h.size ≤ s.size) (hb : Below w.heap.size w w') : ReadRet s w (.returned (.tuple #[.agg #[.string n, .string h], .bool ok])) w' := ⟨n, h, ok, rfl, hr, hn, hh, hb⟩

set_option maxHeartbeats 1000000 in
theorem i_ReadHandle (s : ByteArray) (w : World) (hs : s.size ≤ 140737488355328) : Calls Tryd.prog 34 #[.string s] w (ReadRet s w) := by
  by_cases h0 : 0 < s.size ∧ s.data.toList.getD 0 0 = 64
  · have hp : (decide (0 < s.size) && decide (s.data.toList.getD 0 0 = 64)) = true := by simp only [h0.1, h0.2]; decide
    have hpos := h0.1
    have ht : (s.extract 1 s.size).data.toList = s.data.toList.drop 1 := by rw [ext_list, List.take_of_length_le]; rw [List.length_drop, size_len]; omega
    have hts : (s.extract 1 s.size).size = s.size - 1 := by simp [ByteArray.size_extract]
    go_enter Tryd.func34, Tryd.ntmps34
    go_wp2_with fail
    refine (hasPrefix_at _ _).mono ?_
    rintro e w' ⟨rfl, rfl⟩
    rw [hp]
    go_wp2_with fail
    refine (cut_at _ _ (by rw [hts]; omega)).mono ?_
    rintro e w1 ⟨⟨k, hk, rfl⟩ | ⟨hk, rfl⟩, hb⟩
    · rw [ht] at hk
      obtain ⟨n, hn0⟩ : ∃ n, n = (s.extract 1 s.size).extract 0 k := ⟨_, rfl⟩
      obtain ⟨h, hh0⟩ : ∃ h, h = (s.extract 1 s.size).extract (k + 1) (s.extract 1 s.size).size := ⟨_, rfl⟩
      rw [← hn0, ← hh0]
      have hn : n.data.toList = (s.data.toList.drop 1).take k := by rw [hn0, ext_list, ht]; rfl
      have hh : h.data.toList = (s.data.toList.drop 1).drop (k + 1) := by rw [hh0, ext_list, ht, List.take_of_length_le]; rw [List.length_drop, List.length_drop, size_len]; omega
      have n1 : n.size ≤ s.size := by rw [hn0]; simp [ByteArray.size_extract]; omega
      have n2 : h.size ≤ s.size := by rw [hh0]; simp [ByteArray.size_extract]; omega
      clear hn0 hh0 ht hts
      have c0 : w1.cell? ⟨w.heap.size, 0, none⟩ = some (.string ⟨#[]⟩) := keep_cell hb (by simp)
      have c1 : w1.cell? ⟨w.heap.size, 1, none⟩ = some (.string ⟨#[]⟩) := keep_cell hb (by simp)
      have f0 : w1.frozen? ⟨w.heap.size, 0, none⟩ = false := keep_frozen hb (by simp) (by simp)
      have f1 : w1.frozen? ⟨w.heap.size, 1, none⟩ = false := keep_frozen hb (by simp) (by simp)
      have hlt : w.heap.size < w1.heap.size := Nat.lt_of_lt_of_le (by simp) hb.size
      have b0 : Below w.heap.size w w1 := below_trans (below1 _ _) hb
      cases hB : handleB n h
      · have HN : Hid (∀ n h, ¬ Reads s n h) := fun n' h' hr => by
          obtain ⟨rfl, rfl⟩ := reads_eq hk hn hh hr
          rw [hr.1] at hB; cases hB
        clear hk hn hh
        go_wp2_with fail
        refine (i_HandleValid n h _ (by omega) (by omega)).mono ?_
        rintro e w2 ⟨rfl, hb2⟩
        rw [hB]
        have d0 : w2.cell? ⟨w.heap.size, 0, none⟩ = some (.string ⟨#[]⟩) := keep_cell hb2 (keep_cell (below1 _ _) c0)
        have d1 : w2.cell? ⟨w.heap.size, 1, none⟩ = some (.string ⟨#[]⟩) := keep_cell hb2 (keep_cell (below1 _ _) c1)
        have e0 : w2.frozen? ⟨w.heap.size, 0, none⟩ = false := keep_frozen hb2 (by simp; omega) (keep_frozen (below1 _ _) hlt f0)
        have e1 : w2.frozen? ⟨w.heap.size, 1, none⟩ = false := keep_frozen hb2 (by simp; omega) (keep_frozen (below1 _ _) hlt f1)
        have g0 : w2.cell? ⟨w1.heap.size, 0, none⟩ = some (.string n) := keep_cell hb2 (by simp)
        have g1 : w2.cell? ⟨w1.heap.size, 1, none⟩ = some (.string h) := keep_cell hb2 (by simp)
        have bz : Below w.heap.size w w2 := below_trans (below_trans b0 (below1 _ _)) hb2
        go_wp2_with fail
        exact bodyPost_ret (v := .tuple #[.agg #[.string ⟨#[]⟩, .string ⟨#[]⟩], .bool false]) (by simp [results, Tryd.results34, go_sem, *]) rfl (ReadRet.mk (.inr ⟨rfl, rfl, rfl, HN.out⟩) (Nat.zero_le _) (Nat.zero_le _) (by repeat (first | assumption | (refine Below.setCell ?_ (by simp) _) | (refine Below.alloc ?_ (by omega) _))))
      · have HR : Hid (Reads s n h) := reads_of hB h0.1 h0.2 hk hn hh
        clear hk hn hh
        go_wp2_with fail
        refine (i_HandleValid n h _ (by omega) (by omega)).mono ?_
        rintro e w2 ⟨rfl, hb2⟩
        rw [hB]
        have d0 : w2.cell? ⟨w.heap.size, 0, none⟩ = some (.string ⟨#[]⟩) := keep_cell hb2 (keep_cell (below1 _ _) c0)
        have d1 : w2.cell? ⟨w.heap.size, 1, none⟩ = some (.string ⟨#[]⟩) := keep_cell hb2 (keep_cell (below1 _ _) c1)
        have e0 : w2.frozen? ⟨w.heap.size, 0, none⟩ = false := keep_frozen hb2 (by simp; omega) (keep_frozen (below1 _ _) hlt f0)
        have e1 : w2.frozen? ⟨w.heap.size, 1, none⟩ = false := keep_frozen hb2 (by simp; omega) (keep_frozen (below1 _ _) hlt f1)
        have g0 : w2.cell? ⟨w1.heap.size, 0, none⟩ = some (.string n) := keep_cell hb2 (by simp)
        have g1 : w2.cell? ⟨w1.heap.size, 1, none⟩ = some (.string h) := keep_cell hb2 (by simp)
        have bz : Below w.heap.size w w2 := below_trans (below_trans b0 (below1 _ _)) hb2
        go_wp2_with fail
        exact bodyPost_ret (v := .tuple #[.agg #[.string n, .string h], .bool true]) (by simp [results, Tryd.results34, go_sem, *]) rfl (ReadRet.mk (.inl ⟨rfl, HR.out⟩) n1 n2 (by repeat (first | assumption | (refine Below.setCell ?_ (by simp) _) | (refine Below.alloc ?_ (by omega) _))))
    · have HN : Hid (∀ n h, ¬ Reads s n h) := fun n h => reads_none (by rw [← ht]; exact hk)
      clear hk ht hts
      have c0 : w1.cell? ⟨w.heap.size, 0, none⟩ = some (.string ⟨#[]⟩) := keep_cell hb (by simp)
      have c1 : w1.cell? ⟨w.heap.size, 1, none⟩ = some (.string ⟨#[]⟩) := keep_cell hb (by simp)
      have f0 : w1.frozen? ⟨w.heap.size, 0, none⟩ = false := keep_frozen hb (by simp) (by simp)
      have f1 : w1.frozen? ⟨w.heap.size, 1, none⟩ = false := keep_frozen hb (by simp) (by simp)
      have hlt : w.heap.size < w1.heap.size := Nat.lt_of_lt_of_le (by simp) hb.size
      have b0 : Below w.heap.size w w1 := below_trans (below1 _ _) hb
      go_wp2_with fail
      exact bodyPost_ret (v := .tuple #[.agg #[.string ⟨#[]⟩, .string ⟨#[]⟩], .bool false]) (by simp [results, Tryd.results34, go_sem, *]) rfl (ReadRet.mk (.inr ⟨rfl, rfl, rfl, HN.out⟩) (Nat.zero_le _) (Nat.zero_le _) (by repeat (first | assumption | (refine Below.setCell ?_ (by simp) _) | (refine Below.alloc ?_ (by simp; omega) _))))
  · have hp : (decide (0 < s.size) && decide (s.data.toList.getD 0 0 = 64)) = false := by rw [← Bool.decide_and]; exact decide_eq_false h0
    go_enter Tryd.func34, Tryd.ntmps34
    go_wp2_with (go_at_call 48; refine (hasPrefix_at _ _).mono ?_; rintro e w' ⟨rfl, rfl⟩; rw [hp])
    exact bodyPost_ret (v := .tuple #[.agg #[.string ⟨#[]⟩, .string ⟨#[]⟩], .bool false]) (by simp [results, Tryd.results34, go_sem, *]) rfl (ReadRet.mk (.inr ⟨rfl, rfl, rfl, fun n h hr => h0 (reads_head hr)⟩) (Nat.zero_le _) (Nat.zero_le _) (below1 _ _))
end Go.Proofs.YtackffegdmohiaaDoor
