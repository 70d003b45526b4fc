/- The walks of the program's and the reference's ActorNamed. Condition: the slice reads as the list, texts are no longer than a machine holds. -/
import Derived.Test.YtipalcmfhmmdiaaDoorActrS
namespace Go.Proofs.YtipalcmfhmmdiaaDoor
open Go.RowKit

def Known (l : List Actr) (k : Nat) : Prop := 0 < k → actorsB l = true
/-- The number of the actor with a name; -1 if there is none, and for other actors. -/
def namedM (l : List Actr) (nm : ByteArray) : Int := if actorsB l = true then (match l.findIdx? (fun y => y.name.toList == nm.toList) with
  | some k => (k : Int)
  | none => -1) else -1
def NoneTo (l : List Actr) (nm : ByteArray) (k : Nat) : Prop := ∀ j (hj : j < l.length), j < k → (l[j].name.toList == nm.toList) = false
theorem NoneTo.zero (l : List Actr) (nm : ByteArray) : NoneTo l nm 0 := fun j _ h => by omega
theorem NoneTo.succ {l : List Actr} {nm : ByteArray} {k : Nat} (h : NoneTo l nm k) (hk : k < l.length) (he : (l[k].name.toList == nm.toList) = false) : NoneTo l nm (k + 1) := fun j hj h2 => by
  by_cases e : j = k
  · subst e; exact he
  · exact h j hj (by omega)
theorem named_inv {l : List Actr} {nm : ByteArray} (h : actorsB l = false) : namedM l nm = -1 := by unfold namedM; rw [h]; rfl
theorem named_none {l : List Actr} {nm : ByteArray} (h : actorsB l = true) (hn : NoneTo l nm l.length) : namedM l nm = -1 := by
  unfold namedM
  rw [if_pos h, List.findIdx?_eq_none_iff.2]
  intro y hy
  obtain ⟨j, hj, rfl⟩ := List.getElem_of_mem hy
  exact hn j hj hj
theorem named_hit {l : List Actr} {nm : ByteArray} {k : Nat} (h : actorsB l = true) (hk : k < l.length) (hn : NoneTo l nm k) (he : (l[k].name.toList == nm.toList) = true) : namedM l nm = k := by
  unfold namedM
  rw [if_pos h, List.findIdx?_eq_some_iff_getElem.2 ⟨hk, he, fun j hj => by rw [hn j (by omega) hj]; simp⟩]

set_option maxHeartbeats 1600000 in
theorem i_ActorNamed (v : Value) (l : List Actr) (nm : ByteArray) (w : World) (h : Sl actrS w v l) (hs : FeedSizes l) :
    Calls Tryd.prog 13 #[v, .string nm] w fun e w' => e = .returned (.int .i64 (namedM l nm)) ∧ Below w.heap.size w w' := by
  have hm := h.len
  cases ha : actorsB l
  · have H : Hid (namedM l nm = -1) := named_inv ha
    go_enter Tryd.func13, Tryd.ntmps13
    go_wp2_with fail
    refine (i_ActorsValid _ l _ h hs).mono ?_
    rintro e w1 ⟨rfl, hb1⟩
    rw [ha]
    go_wp2_with fail
    go_ret
    exact ⟨ret_int H.out.symm, hb1⟩
  · have HA := Lib.hid ha
    go_enter Tryd.func13, Tryd.ntmps13
    go_wp2_with fail
    refine (i_ActorsValid _ l _ h hs).mono ?_
    rintro e w1 ⟨rfl, hb1⟩
    rw [ha]
    clear ha
    rcases Nat.eq_zero_or_pos l.length with h0 | h0
    · obtain rfl := List.eq_nil_of_length_eq_zero h0
      obtain ⟨a, cap, rfl, _⟩ := h
      have H : Hid (namedM [] nm = -1) := named_none HA.out (fun j hj => by simp at hj)
      clear h0 hm hs
      go_wp2
      go_loop [12] (fun i => i = .int .i64 0) (fun _ => 0)
      case atStart => rfl
      case round =>
        obtain rfl := hrel
        go_wp2
        go_ret
        exact ⟨ret_int H.out.symm, hb1⟩
    · obtain ⟨b, off, cap, rfl, hcap, hbs, hc⟩ := SlActr.open h h0
      clear h hs
      go_wp2
      go_loopw [12] (fun i wr => ∃ k : Nat, k ≤ l.length ∧ i = .int .i64 k ∧ NoneTo l nm k ∧ Below w.heap.size w wr) (fun i _ => l.length - (intOf i).toNat)
      case atStart => exact ⟨0, Nat.zero_le _, rfl, NoneTo.zero _ _, hb1⟩
      case round =>
        obtain ⟨k, hk, rfl, hT, hB⟩ := hrel
        by_cases hlt : k < l.length
        · have hcell0 : wr.cell? ⟨b, off + k * 3, none⟩ = some (.string l[k].name) := (hB.cell (p := ⟨b, off + k * 3, none⟩) hbs).trans (hc k hlt).1
          have hcell1 : wr.cell? ⟨b, off + k * 3 + 1, none⟩ = some (.string l[k].feed) := (hB.cell (p := ⟨b, off + k * 3 + 1, none⟩) hbs).trans (hc k hlt).2.1
          have hcell2 : wr.cell? ⟨b, off + k * 3 + 2, none⟩ = some (.int .i64 l[k].sign) := (hB.cell (p := ⟨b, off + k * 3 + 2, none⟩) hbs).trans (hc k hlt).2.2
          have hb2 : Below w.heap.size w (wr.alloc (.cells #[.string l[k].name, .string l[k].feed, .int .i64 l[k].sign] 40)) := below_trans hB (below1 _ _)
          clear hc
          cases he : (l[k].name.toList == nm.toList)
          · have HT : Hid (NoneTo l nm (k + 1)) := hT.succ hlt he
            clear hT
            go_wp2
            go_roundw
            case rel => exact ⟨k + 1, by omega, by go_num, HT.out, hb2⟩
            case measure => simp [intOf]; omega
          · have H : Hid (namedM l nm = k) := named_hit HA.out hlt hT he
            clear hT
            go_wp2
            go_ret
            exact ⟨ret_int H.out.symm, hb2⟩
        · have H : Hid (namedM l nm = -1) := by
            obtain rfl : k = l.length := by omega
            exact named_none HA.out hT
          clear hT hc
          go_wp2
          go_ret
          exact ⟨ret_int H.out.symm, hB⟩

set_option maxHeartbeats 1600000 in
theorem s_ActorNamed (v : Value) (l : List Actr) (nm : ByteArray) (w : World) (h : Sl actrS w v l) (hs : FeedSizes l) :
    Calls Tryd.prog 17 #[v, .string nm] w fun e w' => e = .returned (.int .i64 (namedM l nm)) ∧ Below w.heap.size w w' := by
  have hm := h.len
  rcases Nat.eq_zero_or_pos l.length with h0 | h0
  · obtain rfl := List.eq_nil_of_length_eq_zero h0
    obtain ⟨a, cap, rfl, _⟩ := h
    have H : Hid (namedM [] nm = -1) := named_none (by rfl) (fun j hj => by simp at hj)
    clear h0 hm hs
    go_enter Tryd.func17, Tryd.ntmps17
    go_wp2_with fail
    go_loop [5] (fun i => i = .int .i64 0) (fun _ => 0)
    case atStart => rfl
    case round =>
      obtain rfl := hrel
      go_wp2_with fail
      go_ret
      exact ⟨ret_int H.out.symm, Below.refl _ _⟩
  · obtain ⟨b, off, cap, rfl, hcap, hbs, hc⟩ := SlActr.open h h0
    go_enter Tryd.func17, Tryd.ntmps17
    go_wp2_with fail
    go_loopw [5] (fun i wr => ∃ k : Nat, k ≤ l.length ∧ i = .int .i64 k ∧ Known l k ∧ NoneTo l nm k ∧ Below w.heap.size w wr) (fun i _ => l.length - (intOf i).toNat)
    case atStart => exact ⟨0, Nat.zero_le _, rfl, fun h => absurd h (by omega), NoneTo.zero _ _, Below.refl _ _⟩
    case round =>
      obtain ⟨k, hk, rfl, hA, hT, hB⟩ := hrel
      by_cases hlt : k < l.length
      · have q0 : (0 : Int) ≤ (k : Int) := by omega
        have q1 : (k : Int) < (l.length : Int) := by omega
        cases ha : actorsB l
        · have H : Hid (namedM l nm = -1) := named_inv ha
          clear hT hA
          go_wp2_with fail
          refine (s_ActorsValid _ l _ (h.mono hB) hs).mono ?_
          rintro e w1 ⟨rfl, hb1⟩
          rw [ha]
          go_wp2_with fail
          go_ret
          exact ⟨ret_int H.out.symm, below_trans hB hb1⟩
        · have HA := Lib.hid ha
          clear hA
          go_wp2_with fail
          refine (s_ActorsValid _ l _ (h.mono hB) hs).mono ?_
          rintro e w1 ⟨rfl, hb1⟩
          rw [ha]
          have hB1 := below_trans hB hb1
          have hcell0 : w1.cell? ⟨b, off + k * 3, none⟩ = some (.string l[k].name) := (hB1.cell (p := ⟨b, off + k * 3, none⟩) hbs).trans (hc k hlt).1
          clear ha hc h
          cases he : (l[k].name.toList == nm.toList)
          · have HT : Hid (NoneTo l nm (k + 1)) := hT.succ hlt he
            clear hT
            go_wp2_with fail
            go_roundw
            case rel => exact ⟨k + 1, by omega, by go_num, fun _ => HA.out, HT.out, hB1⟩
            case measure => simp [intOf]; omega
          · have H : Hid (namedM l nm = k) := named_hit HA.out hlt hT he
            clear hT
            go_wp2_with fail
            go_ret
            exact ⟨ret_int H.out.symm, hB1⟩
      · have H : Hid (namedM l nm = -1) := by
          obtain rfl : k = l.length := by omega
          exact named_none (hA h0) hT
        clear hT hc hA
        go_wp2_with fail
        go_ret
        exact ⟨ret_int H.out.symm, hB⟩
end Go.Proofs.YtipalcmfhmmdiaaDoor
