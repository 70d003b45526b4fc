/- The walk of the reference's ReadHandle. Condition: the text is no longer than a machine holds. -/
import Derived.Test.YtackffegdmohiaaDoorHandH
namespace Go.Proofs.YtackffegdmohiaaDoor
open Go.RowKit

def FreeTo (l : List UInt8) (k : Nat) : Prop := ∀ j, 1 ≤ j → j < k → l.getD j 0 ≠ 64
theorem FreeTo.zero (l : List UInt8) : FreeTo l 1 := fun j h1 h2 => by omega
theorem FreeTo.succ {l : List UInt8} {k : Nat} (h : FreeTo l k) (hk : l.getD k 0 ≠ 64) : FreeTo l (k + 1) := fun j h1 h2 => by
  by_cases e : j = k
  · subst e; exact hk
  · exact h j h1 (by omega)
theorem getD_drop1 (l : List UInt8) (j : Nat) : (l.drop 1).getD j 0 = l.getD (j + 1) 0 := by
  rw [List.getD_eq_getElem?_getD, List.getD_eq_getElem?_getD, List.getElem?_drop, Nat.add_comm]
theorem FreeTo.first {l : List UInt8} {k : Nat} (h : FreeTo l k) (h1 : 1 ≤ k) (hl : k < l.length) (hk : l.getD k 0 = 64) : FirstAt (l.drop 1) 64 (k - 1) := by
  refine ⟨by rw [List.length_drop]; omega, by rw [getD_drop1, show k - 1 + 1 = k by omega]; exact hk, fun j hj => ?_⟩
  rw [getD_drop1]; exact h _ (by omega) (by omega)
theorem FreeTo.none {l : List UInt8} {k : Nat} (h : FreeTo l k) (hl : l.length ≤ k) : NoneAt (l.drop 1) 64 := fun j hj => by
  rw [List.length_drop] at hj
  rw [getD_drop1]; exact h _ (by omega) (by omega)

theorem handleT_list {n h : ByteArray} (hB : handleB n h = true) : (handleT n h).data.toList = 64 :: (n.data.toList ++ 64 :: h.data.toList) := by
  unfold handleT; rw [if_pos hB]; simp [ByteArray.data_append]
theorem text_eq {s n h : ByteArray} (hB : handleB n h = true) (hr : s.data.toList = 64 :: (n.data.toList ++ 64 :: h.data.toList)) : (!(handleT n h).toList == s.toList) = false := by
  rw [Lib.toList_data, Lib.toList_data, handleT_list hB, hr]; simp
theorem text_ne {s n h : ByteArray} (hB : handleB n h = true) (hr : ¬ s.data.toList = 64 :: (n.data.toList ++ 64 :: h.data.toList)) : (!(handleT n h).toList == s.toList) = true := by
  rw [Lib.toList_data, Lib.toList_data, handleT_list hB]; simp; exact fun e => hr (by simpa using e.symm)

set_option maxHeartbeats 1000000 in
theorem s_ReadHandle (s : ByteArray) (w : World) (hs : s.size ≤ 140737488355328) : Calls Tryd.prog 39 #[.string s] w (ReadRet s w) := by
  have hl := size_len s
  have mixed : Tryd.prog.follows Departure.mixedOrders = true := by kernel_rfl
  go_enter Tryd.func39, Tryd.ntmps39
  go_wp2
  go_loop [4] (fun i => ∃ k : Nat, 1 ≤ k ∧ (k ≤ s.size ∨ k = 1) ∧ FreeTo s.data.toList k ∧ i = .int .i64 k) (fun i => s.size - (intOf i).toNat)
  case atStart => exact ⟨1, Nat.le_refl _, .inr rfl, FreeTo.zero _, rfl⟩
  case round =>
    obtain ⟨k, hk1, hk2, hf, rfl⟩ := hrel
    by_cases hlt : k < s.size
    · by_cases h64 : s[k].toNat = 64
      · have hg : s.data.toList.getD k 0 = 64 := by rw [sget hlt]; exact UInt8.toNat_inj.mp h64
        have hfirst := hf.first hk1 (by omega) hg
        clear hf hk2
        have c1 : (1 : Int) ≤ k := by omega
        have c2 : (k : Int) ≤ s.size := by omega
        have c3 : (0 : Int) ≤ ↑k + 1 := by omega
        have c4 : (↑k + 1 : Int) ≤ ↑s.size := by omega
        have c5 : IntKind.i64.wrap ((k : Int) + 1) = (k : Int) + 1 := IntWalk.i64_in _ (by omega)
        go_wp2
        go_region_o
        have hn : (s.extract 1 k).data.toList = (s.data.toList.drop 1).take (k - 1) := by rw [ext_list]
        have hh : (s.extract (k + 1) s.size).data.toList = (s.data.toList.drop 1).drop (k - 1 + 1) := by
          rw [ext_list, List.take_of_length_le (by rw [List.length_drop]; omega), List.drop_drop]; congr 1; omega
        have n1 : (s.extract 1 k).size ≤ s.size := by simp [ByteArray.size_extract]; omega
        have n2 : (s.extract (k + 1) s.size).size ≤ s.size := by simp [ByteArray.size_extract]
        generalize s.extract 1 k = n at *
        generalize s.extract (k + 1) s.size = h at *
        clear hl hg
        cases hB : handleB n h
        · have HN : Hid (∀ n h, ¬ Reads s n h) := fun n' h' hr => by
            obtain ⟨rfl, rfl⟩ := reads_eq hfirst hn hh hr
            rw [hr.1] at hB; cases hB
          clear hfirst hn hh
          go_wp2_with fail
          refine (s_HandleValid n h _ (by omega) (by omega)).mono ?_
          rintro e w2 ⟨rfl, hb2⟩
          rw [hB]
          have d0 : w2.cell? ⟨w.heap.size, 0, none⟩ = some (.string ⟨#[]⟩) := keep_cell hb2 (by simp)
          have d1 : w2.cell? ⟨w.heap.size, 1, none⟩ = some (.string ⟨#[]⟩) := keep_cell hb2 (by simp)
          have e0 : w2.frozen? ⟨w.heap.size, 0, none⟩ = false := keep_frozen hb2 (by simp; omega) (by simp)
          have e1 : w2.frozen? ⟨w.heap.size, 1, none⟩ = false := keep_frozen hb2 (by simp; omega) (by simp)
          have g0 : w2.cell? ⟨w.heap.size + 1, 0, none⟩ = some (.string n) := keep_cell hb2 (by simp)
          have g1 : w2.cell? ⟨w.heap.size + 1, 1, none⟩ = some (.string h) := keep_cell hb2 (by simp)
          have bz : Below w.heap.size w w2 := below_trans (by repeat (first | exact Below.refl _ _ | refine Below.alloc ?_ (by first | (simp; done) | (simp; omega)) _ | refine Below.drew ?_)) hb2
          go_wp2_with fail
          exact bodyPost_ret (v := .tuple #[.agg #[.string ⟨#[]⟩, .string ⟨#[]⟩], .bool false]) (by simp [results, Tryd.results39, go_sem, *]) rfl (ReadRet.mk (.inr ⟨rfl, rfl, rfl, HN.out⟩) (Nat.zero_le _) (Nat.zero_le _) (by repeat (first | assumption | (refine Below.setCell ?_ (by simp) _) | (refine Below.alloc ?_ (by omega) _))))
        · by_cases hr : s.data.toList = 64 :: (n.data.toList ++ 64 :: h.data.toList)
          · have HT : Hid ((!(handleT n h).toList == s.toList) = false) := text_eq hB hr
            have HR : Hid (Reads s n h) := ⟨hB, hr⟩
            clear hfirst hn hh hr
            go_wp2_with fail
            refine (s_HandleValid n h _ (by omega) (by omega)).mono ?_
            rintro e w2 ⟨rfl, hb2⟩
            rw [hB]
            have d0 : w2.cell? ⟨w.heap.size, 0, none⟩ = some (.string ⟨#[]⟩) := keep_cell hb2 (by simp)
            have d1 : w2.cell? ⟨w.heap.size, 1, none⟩ = some (.string ⟨#[]⟩) := keep_cell hb2 (by simp)
            have e0 : w2.frozen? ⟨w.heap.size, 0, none⟩ = false := keep_frozen hb2 (by simp; omega) (by simp)
            have e1 : w2.frozen? ⟨w.heap.size, 1, none⟩ = false := keep_frozen hb2 (by simp; omega) (by simp)
            have g0 : w2.cell? ⟨w.heap.size + 1, 0, none⟩ = some (.string n) := keep_cell hb2 (by simp)
            have g1 : w2.cell? ⟨w.heap.size + 1, 1, none⟩ = some (.string h) := keep_cell hb2 (by simp)
            have bz : Below w.heap.size w w2 := below_trans (by repeat (first | exact Below.refl _ _ | refine Below.alloc ?_ (by first | (simp; done) | (simp; omega)) _ | refine Below.drew ?_)) hb2
            go_wp2_with fail
            refine (s_HandleText n h _ (by omega) (by omega)).mono ?_
            rintro e w3 ⟨rfl, hb3⟩
            replace e0 := keep_frozen hb3 (World.block_lt_of_cell? _ _ d0) e0
            replace e1 := keep_frozen hb3 (World.block_lt_of_cell? _ _ d1) e1
            replace d0 := keep_cell hb3 d0
            replace d1 := keep_cell hb3 d1
            replace g0 := keep_cell hb3 g0
            replace g1 := keep_cell hb3 g1
            have bz := below_trans bz hb3
            have ht := HT.out
            go_wp2_with fail
            exact bodyPost_ret (v := .tuple #[.agg #[.string n, .string h], .bool true]) (by simp [results, Tryd.results39, go_sem, *]) rfl (ReadRet.mk (.inl ⟨rfl, HR.out⟩) n1 n2 (by repeat (first | assumption | (refine Below.setCell ?_ (by simp) _) | (refine Below.alloc ?_ (by omega) _))))
          · have HT : Hid ((!(handleT n h).toList == s.toList) = true) := text_ne hB hr
            have HN : Hid (∀ n h, ¬ Reads s n h) := fun n' h' hr' => by
              obtain ⟨rfl, rfl⟩ := reads_eq hfirst hn hh hr'
              exact hr hr'.2
            clear hfirst hn hh hr
            go_wp2_with fail
            refine (s_HandleValid n h _ (by omega) (by omega)).mono ?_
            rintro e w2 ⟨rfl, hb2⟩
            rw [hB]
            have d0 : w2.cell? ⟨w.heap.size, 0, none⟩ = some (.string ⟨#[]⟩) := keep_cell hb2 (by simp)
            have d1 : w2.cell? ⟨w.heap.size, 1, none⟩ = some (.string ⟨#[]⟩) := keep_cell hb2 (by simp)
            have e0 : w2.frozen? ⟨w.heap.size, 0, none⟩ = false := keep_frozen hb2 (by simp; omega) (by simp)
            have e1 : w2.frozen? ⟨w.heap.size, 1, none⟩ = false := keep_frozen hb2 (by simp; omega) (by simp)
            have g0 : w2.cell? ⟨w.heap.size + 1, 0, none⟩ = some (.string n) := keep_cell hb2 (by simp)
            have g1 : w2.cell? ⟨w.heap.size + 1, 1, none⟩ = some (.string h) := keep_cell hb2 (by simp)
            have bz : Below w.heap.size w w2 := below_trans (by repeat (first | exact Below.refl _ _ | refine Below.alloc ?_ (by first | (simp; done) | (simp; omega)) _ | refine Below.drew ?_)) hb2
            go_wp2_with fail
            refine (s_HandleText n h _ (by omega) (by omega)).mono ?_
            rintro e w3 ⟨rfl, hb3⟩
            replace e0 := keep_frozen hb3 (World.block_lt_of_cell? _ _ d0) e0
            replace e1 := keep_frozen hb3 (World.block_lt_of_cell? _ _ d1) e1
            replace d0 := keep_cell hb3 d0
            replace d1 := keep_cell hb3 d1
            replace g0 := keep_cell hb3 g0
            replace g1 := keep_cell hb3 g1
            have bz := below_trans bz hb3
            have ht := HT.out
            go_wp2_with fail
            exact bodyPost_ret (v := .tuple #[.agg #[.string ⟨#[]⟩, .string ⟨#[]⟩], .bool false]) (by simp [results, Tryd.results39, go_sem, *]) rfl (ReadRet.mk (.inr ⟨rfl, rfl, rfl, HN.out⟩) (Nat.zero_le _) (Nat.zero_le _) (by repeat (first | assumption | (refine Below.setCell ?_ (by simp) _) | (refine Below.alloc ?_ (by omega) _))))
      · have hn : s.data.toList.getD k 0 ≠ 64 := by rw [sget hlt]; intro e; exact h64 (by rw [e]; rfl)
        have HF := hf.succ hn
        clear hf hn hl
        go_wp2
        go_round
        case rel => exact ⟨k + 1, by omega, .inl (by omega), HF, by go_num⟩
        case measure => simp [intOf]; omega
    · have HN : Hid (∀ n h, ¬ Reads s n h) := fun n h => reads_none (hf.none (by omega))
      clear hf hl
      go_wp2
      exact bodyPost_ret (v := .tuple #[.agg #[.string ⟨#[]⟩, .string ⟨#[]⟩], .bool false]) (by simp [results, Tryd.results39, go_sem, *]) rfl (ReadRet.mk (.inr ⟨rfl, rfl, rfl, HN.out⟩) (Nat.zero_le _) (Nat.zero_le _) (below1 _ _))
end Go.Proofs.YtackffegdmohiaaDoor
