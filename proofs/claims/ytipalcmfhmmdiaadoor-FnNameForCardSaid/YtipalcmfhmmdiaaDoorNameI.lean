/- NameFor: a name that no actor has; the walk of the program's. Condition: the slice reads as the list, texts are no longer than a machine holds. -/
import Derived.Test.YtipalcmfhmmdiaaDoorActrN
import Derived.Test.YtipalcmfhmmdiaaDoorItoa
namespace Go.Proofs.YtipalcmfhmmdiaaDoor
open Go.RowKit

def stemB (wd : ByteArray) : ByteArray := if wd.size ≤ 7 then wd else wd.extract 0 7
def candB (wd : ByteArray) (d : Nat) : ByteArray := stemB wd ++ dgB d
/-- The first free name of n candidates from the digit d on. -/
def nameTry (l : List Actr) (wd : ByteArray) : Nat → Nat → ByteArray
  | 0, _ => ⟨#[]⟩
  | n + 1, d => if namedM l (candB wd d) < 0 then candB wd d else nameTry l wd n (d + 1)
def nameM (l : List Actr) (wd : ByteArray) : ByteArray := if actorsB l = true ∧ wordB wd.data.toList = true then (if namedM l wd < 0 then wd else nameTry l wd 8 2) else ⟨#[]⟩
theorem named_ge (l : List Actr) (nm : ByteArray) : -1 ≤ namedM l nm := by
  unfold namedM
  split
  · split <;> omega
  · omega
theorem nameTry_hit {l : List Actr} {wd : ByteArray} {d : Nat} (hd : d ≤ 9) (h : namedM l (candB wd d) < 0) : nameTry l wd (10 - d) d = candB wd d := by
  obtain ⟨n, hn⟩ : ∃ n, 10 - d = n + 1 := ⟨9 - d, by omega⟩
  rw [hn, nameTry, if_pos h]
theorem nameTry_miss {l : List Actr} {wd : ByteArray} {d : Nat} (hd : d ≤ 9) (h : ¬ namedM l (candB wd d) < 0) : nameTry l wd (10 - (d + 1)) (d + 1) = nameTry l wd (10 - d) d := by
  obtain ⟨n, hn⟩ : ∃ n, 10 - d = n + 1 := ⟨9 - d, by omega⟩
  rw [hn, nameTry, if_neg h, show 10 - (d + 1) = n by omega]

set_option maxHeartbeats 1600000 in
theorem i_NameFor (v : Value) (l : List Actr) (wd : ByteArray) (w : World) (h : Sl actrS w v l) (hs : FeedSizes l) (hz : wd.size ≤ 140737488355328) :
    Calls Tryd.prog 8 #[v, .string wd] w fun e w' => e = .returned (.string (nameM l wd)) ∧ Below w.heap.size w w' := by
  cases ha : actorsB l
  · have H : Hid (nameM l wd = ⟨#[]⟩) := by show _ = _; unfold nameM; rw [if_neg (by rw [ha]; simp)]
    go_enter Tryd.func8, Tryd.ntmps8
    go_wp2_with fail
    refine (i_ActorsValid _ l _ h hs).mono ?_
    rintro e w1 ⟨rfl, hb1⟩
    rw [ha]
    go_wp2_with fail
    go_ret
    exact ⟨congrArg (fun z => Ending.returned (.string z)) H.out.symm, hb1⟩
  cases hw : wordB wd.data.toList
  · have H : Hid (nameM l wd = ⟨#[]⟩) := by show _ = _; unfold nameM; rw [if_neg (by rw [hw]; simp)]
    go_enter Tryd.func8, Tryd.ntmps8
    go_wp2_with fail
    refine (i_ActorsValid _ l _ h hs).mono ?_
    rintro e w1 ⟨rfl, hb1⟩
    rw [ha]
    go_wp2_with fail
    refine (i_WordValid _ _ hz).mono ?_
    rintro e w2 ⟨rfl, rfl⟩
    rw [hw]
    go_wp2_with fail
    go_ret
    exact ⟨congrArg (fun z => Ending.returned (.string z)) H.out.symm, hb1⟩
  by_cases hn : namedM l wd < 0
  · have H : Hid (nameM l wd = wd) := by show _ = _; unfold nameM; rw [if_pos ⟨ha, hw⟩, if_pos hn]
    go_enter Tryd.func8, Tryd.ntmps8
    go_wp2_with fail
    refine (i_ActorsValid _ l _ h hs).mono ?_
    rintro e w1 ⟨rfl, hb1⟩
    rw [ha]
    go_wp2_with fail
    refine (i_WordValid _ _ hz).mono ?_
    rintro e w2 ⟨rfl, rfl⟩
    rw [hw]
    go_wp2_with fail
    refine (i_ActorNamed _ l wd _ (h.mono hb1) hs).mono ?_
    rintro e w3 ⟨rfl, hb3⟩
    go_wp2_with fail
    go_ret
    exact ⟨congrArg (fun z => Ending.returned (.string z)) H.out.symm, below_trans hb1 hb3⟩
  · have H : Hid (nameM l wd = nameTry l wd 8 2) := by show _ = _; unfold nameM; rw [if_pos ⟨ha, hw⟩, if_neg hn]
    by_cases e7 : wd.size ≤ 7
    · have hst : Hid (∀ d, candB wd d = wd ++ dgB d) := by show ∀ d, _; intro d; unfold candB stemB; rw [if_pos e7]
      have hsz : wd.size ≤ 7 := by first | exact e7 | (simp [ByteArray.size_extract]; omega)
      have e8 : (wd.size : Int) ≤ 7 := by omega
      clear e7
      go_enter Tryd.func8, Tryd.ntmps8
      go_wp2_with fail
      refine (i_ActorsValid _ l _ h hs).mono ?_
      rintro e w1 ⟨rfl, hb1⟩
      rw [ha]
      go_wp2_with fail
      refine (i_WordValid _ _ hz).mono ?_
      rintro e w2 ⟨rfl, rfl⟩
      rw [hw]
      go_wp2_with fail
      refine (i_ActorNamed _ l wd _ (h.mono hb1) hs).mono ?_
      rintro e w3 ⟨rfl, hb3⟩
      have hB := below_trans hb1 hb3
      clear hb1 hb3
      have dn : decide (namedM l wd < 0) = false := decide_eq_false (by omega)
      go_wp2_with fail
      go_loopw [6] (fun D wr => ∃ d : Nat, 2 ≤ d ∧ d ≤ 10 ∧ D = .int .i64 d ∧ Hid (nameTry l wd (10 - d) d = nameTry l wd 8 2) ∧ Below w.heap.size w wr) (fun D _ => 10 - (intOf D).toNat)
      case atStart => exact ⟨2, Nat.le_refl _, by omega, rfl, rfl, hB⟩
      case round =>
        clear hB
        obtain ⟨d, hd2, hd, rfl, hT, hB⟩ := hrel
        by_cases hlt : d ≤ 9
        · have hi : (d : Int) ≤ 9 := by omega
          have hone := dgB_size d
          by_cases hm : namedM l (candB wd d) < 0
          · have HR : Hid (nameM l wd = wd ++ dgB d) := by rw [← hst.out d]; exact H.out.trans (hT.out.symm.trans (nameTry_hit hlt hm))
            have hm2 : namedM l (wd ++ dgB d) < 0 := by rw [← hst.out d]; exact hm
            have dm : decide (namedM l (wd ++ dgB d) < 0) = true := decide_eq_true (by omega)
            clear hm hT H
            go_wp2_with fail
            refine (i_Itoa d _ (by omega)).mono ?_
            rintro e w4 ⟨rfl, hw4⟩
            subst hw4
            go_wp2_with fail
            refine (i_ActorNamed _ l _ _ (h.mono hB) hs).mono ?_
            rintro e w5 ⟨rfl, hb5⟩
            go_wp2_with fail
            go_ret
            exact ⟨congrArg (fun z => Ending.returned (.string z)) HR.out.symm, below_trans hB hb5⟩
          · have HT2 : Hid (nameTry l wd (10 - (d + 1)) (d + 1) = nameTry l wd 8 2) := (nameTry_miss hlt hm).trans hT.out
            have hm2 : ¬ namedM l (wd ++ dgB d) < 0 := by rw [← hst.out d]; exact hm
            have dm : decide (namedM l (wd ++ dgB d) < 0) = false := decide_eq_false (by omega)
            clear hm hT
            go_wp2_with fail
            refine (i_Itoa d _ (by omega)).mono ?_
            rintro e w4 ⟨rfl, hw4⟩
            subst hw4
            go_wp2_with fail
            refine (i_ActorNamed _ l _ _ (h.mono hB) hs).mono ?_
            rintro e w5 ⟨rfl, hb5⟩
            have hB5 := below_trans hB hb5
            clear hB hb5
            go_wp2_with fail
            go_roundw
            case rel => exact ⟨d + 1, by omega, by omega, by go_num, HT2, hB5⟩
            case measure => simp [intOf]; omega
        · have HR : Hid (nameM l wd = ⟨#[]⟩) := by
            obtain rfl : d = 10 := by omega
            exact H.out.trans hT.out.symm
          have hi : ¬ (d : Int) ≤ 9 := by omega
          clear hT H
          go_wp2_with fail
          go_ret
          exact ⟨congrArg (fun z => Ending.returned (.string z)) HR.out.symm, hB⟩
    · have hst : Hid (∀ d, candB wd d = (wd.extract 0 7) ++ dgB d) := by show ∀ d, _; intro d; unfold candB stemB; rw [if_neg e7]
      have hsz : (wd.extract 0 7).size ≤ 7 := by first | exact e7 | (simp [ByteArray.size_extract]; omega)
      have e8 : (7 : Int) < wd.size := by omega
      clear e7
      go_enter Tryd.func8, Tryd.ntmps8
      go_wp2_with fail
      refine (i_ActorsValid _ l _ h hs).mono ?_
      rintro e w1 ⟨rfl, hb1⟩
      rw [ha]
      go_wp2_with fail
      refine (i_WordValid _ _ hz).mono ?_
      rintro e w2 ⟨rfl, rfl⟩
      rw [hw]
      go_wp2_with fail
      refine (i_ActorNamed _ l wd _ (h.mono hb1) hs).mono ?_
      rintro e w3 ⟨rfl, hb3⟩
      have hB := below_trans hb1 hb3
      clear hb1 hb3
      have dn : decide (namedM l wd < 0) = false := decide_eq_false (by omega)
      go_wp2_with fail
      go_loopw [6] (fun D wr => ∃ d : Nat, 2 ≤ d ∧ d ≤ 10 ∧ D = .int .i64 d ∧ Hid (nameTry l wd (10 - d) d = nameTry l wd 8 2) ∧ Below w.heap.size w wr) (fun D _ => 10 - (intOf D).toNat)
      case atStart => exact ⟨2, Nat.le_refl _, by omega, rfl, rfl, hB⟩
      case round =>
        clear hB
        obtain ⟨d, hd2, hd, rfl, hT, hB⟩ := hrel
        by_cases hlt : d ≤ 9
        · have hi : (d : Int) ≤ 9 := by omega
          have hone := dgB_size d
          by_cases hm : namedM l (candB wd d) < 0
          · have HR : Hid (nameM l wd = (wd.extract 0 7) ++ dgB d) := by rw [← hst.out d]; exact H.out.trans (hT.out.symm.trans (nameTry_hit hlt hm))
            have hm2 : namedM l ((wd.extract 0 7) ++ dgB d) < 0 := by rw [← hst.out d]; exact hm
            have dm : decide (namedM l ((wd.extract 0 7) ++ dgB d) < 0) = true := decide_eq_true (by omega)
            clear hm hT H
            go_wp2_with fail
            refine (i_Itoa d _ (by omega)).mono ?_
            rintro e w4 ⟨rfl, hw4⟩
            subst hw4
            go_wp2_with fail
            refine (i_ActorNamed _ l _ _ (h.mono hB) hs).mono ?_
            rintro e w5 ⟨rfl, hb5⟩
            go_wp2_with fail
            go_ret
            exact ⟨congrArg (fun z => Ending.returned (.string z)) HR.out.symm, below_trans hB hb5⟩
          · have HT2 : Hid (nameTry l wd (10 - (d + 1)) (d + 1) = nameTry l wd 8 2) := (nameTry_miss hlt hm).trans hT.out
            have hm2 : ¬ namedM l ((wd.extract 0 7) ++ dgB d) < 0 := by rw [← hst.out d]; exact hm
            have dm : decide (namedM l ((wd.extract 0 7) ++ dgB d) < 0) = false := decide_eq_false (by omega)
            clear hm hT
            go_wp2_with fail
            refine (i_Itoa d _ (by omega)).mono ?_
            rintro e w4 ⟨rfl, hw4⟩
            subst hw4
            go_wp2_with fail
            refine (i_ActorNamed _ l _ _ (h.mono hB) hs).mono ?_
            rintro e w5 ⟨rfl, hb5⟩
            have hB5 := below_trans hB hb5
            clear hB hb5
            go_wp2_with fail
            go_roundw
            case rel => exact ⟨d + 1, by omega, by omega, by go_num, HT2, hB5⟩
            case measure => simp [intOf]; omega
        · have HR : Hid (nameM l wd = ⟨#[]⟩) := by
            obtain rfl : d = 10 := by omega
            exact H.out.trans hT.out.symm
          have hi : ¬ (d : Int) ≤ 9 := by omega
          clear hT H
          go_wp2_with fail
          go_ret
          exact ⟨congrArg (fun z => Ending.returned (.string z)) HR.out.symm, hB⟩
end Go.Proofs.YtipalcmfhmmdiaaDoor
