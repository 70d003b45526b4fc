/- The walks of DigestList over slices of integers. Condition: the slice reads as the list. -/
import Derived.Test.YtikebbdkcpcmkaaNum
import Derived.Test.YtikebbdkcpcmkaaMem
import Derived.Deep.QuietTactic
import Derived.BigQuiet
namespace Go.Proofs.Ytikebbdkcpcmkaa
open Go.RowKit

def intS : Shape Int := ⟨fun n => [.int .i64 n], 1, by decide, fun _ => rfl, fun x u hu => by simp at hu; subst hu; rfl⟩
theorem intS_cells (l : List Int) : intS.cells l = l.map (Value.int .i64) := by
  induction l with
  | nil => rfl
  | cons x l ih => show _ :: intS.cells l = _; rw [ih]; rfl
theorem SlI.open {w : World} {v : Value} {l : List Int} (h : Sl intS w v l) (h0 : 0 < l.length) :
    ∃ b off cap, v = .slice (some ⟨b, off, none⟩) l.length cap ∧ l.length ≤ cap ∧ b < w.heap.size ∧ ∀ i (hi : i < l.length), w.cell? ⟨b, off + i, none⟩ = some (.int .i64 l[i]) := by
  obtain ⟨b, off, cap, rfl, h1, _, h3, h4⟩ := h.open h0
  exact ⟨b, off, cap, rfl, h1, h3, fun i hi => by have := h4 i hi 0 (by decide); simpa [intS] using this⟩
theorem Try.infoI : (Try.prog.info? 3).map (fun i => (i.zero, i.size, i.bytes)) = some (some (.int .i64 0), 1, 8) := by kernel_rfl

theorem below_drewN {B : Nat} {a w : World} (h : Below B a w) (n : Nat) : Below B a (w.drewN n) := ⟨h.os, h.tape, h.output, h.size, h.block⟩

def lnumB (n : Int) : Bool := decide (0 ≤ n) && decide (n ≤ 1000000000)
def listTo (l : List Int) (k : Nat) : Int := (l.take k).foldl (fun d n => (1009 * d + n) % 999983) 7
/-- The digest of at most 20 numbers from 0 to Great; -1 for others. -/
def listM (l : List Int) : Int := if l.length ≤ 20 ∧ l.all lnumB = true then listTo l l.length else -1
theorem listTo_succ (l : List Int) (k : Nat) (h : k < l.length) : listTo l (k + 1) = (1009 * listTo l k + l[k]) % 999983 := by
  unfold listTo
  rw [List.take_succ_eq_append_getElem h, List.foldl_append]
  rfl
theorem listTo_bd (l : List Int) (k : Nat) : 0 ≤ listTo l k ∧ listTo l k ≤ 999982 := by
  induction k with
  | zero => simp [listTo]
  | succ k ih =>
    by_cases h : k < l.length
    · rw [listTo_succ l k h]; omega
    · have : listTo l (k + 1) = listTo l k := by unfold listTo; rw [List.take_of_length_le (by omega), List.take_of_length_le (by omega)]
      rw [this]; exact ih
def ListOk (l : List Int) (k : Nat) : Prop := ∀ j (h : j < l.length), j < k → lnumB l[j] = true
theorem ListOk.zero (l : List Int) : ListOk l 0 := fun j _ h => by omega
theorem ListOk.succ {l : List Int} {k : Nat} (h : ListOk l k) (hk : k < l.length) (hb : lnumB l[k] = true) : ListOk l (k + 1) := fun j hj h2 => by
  by_cases e : j = k
  · subst e; exact hb
  · exact h j hj (by omega)
theorem listM_long {l : List Int} (h : 20 < l.length) : listM l = -1 := by unfold listM; rw [if_neg (by omega)]
theorem listM_at {l : List Int} {k : Nat} (hk : k < l.length) (h : lnumB l[k] = false) : listM l = -1 := by
  unfold listM
  rw [if_neg]
  intro ⟨_, h2⟩
  rw [List.all_eq_true] at h2
  have := h2 _ (List.getElem_mem hk)
  rw [h] at this
  cases this
theorem listM_yes {l : List Int} (h : l.length ≤ 20) (ho : ListOk l l.length) : listM l = listTo l l.length := by
  unfold listM
  rw [if_pos]
  refine ⟨h, ?_⟩
  rw [List.all_eq_true]
  intro x hx
  obtain ⟨j, hj, rfl⟩ := List.getElem_of_mem hx
  exact ho j hj hj

set_option maxHeartbeats 400000 in
theorem i_DigestList (v : Value) (l : List Int) (w : World) (h : Sl intS w v l) :
    Calls Try.prog 18 #[v] w fun e w' => e = .returned (.int .i64 (listM l)) ∧ w = w' := by
  have hm := h.len
  rcases Nat.eq_zero_or_pos l.length with h0 | h0
  · obtain rfl := List.eq_nil_of_length_eq_zero h0
    obtain ⟨a, cap, rfl, _⟩ := h
    rw [show listM [] = 7 from rfl]
    clear h0 hm
    go_enter Try.func18, Try.ntmps18
    go_wp2
    go_loop [3, 5, 11] (fun d _ i => d = .int .i64 7 ∧ i = .int .i64 0) (fun _ _ _ => 0)
    case atStart => exact ⟨rfl, rfl⟩
    case round =>
      obtain ⟨rfl, rfl⟩ := hrel
      go_wp2
      go_ret
      exact ⟨rfl, rfl⟩
  · obtain ⟨b, off, cap, rfl, hcap, hbs, hc⟩ := SlI.open h h0
    clear h
    by_cases h20 : l.length ≤ 20
    · go_enter Try.func18, Try.ntmps18
      go_wp2
      go_loop [3, 5, 11] (fun d _ i => ∃ k : Nat, k ≤ l.length ∧ i = .int .i64 k ∧ d = .int .i64 (listTo l k) ∧ ListOk l k) (fun _ _ i => l.length - (intOf i).toNat)
      case atStart => exact ⟨0, Nat.zero_le _, rfl, rfl, ListOk.zero l⟩
      case round =>
        obtain ⟨k, hk, rfl, rfl, hok⟩ := hrel
        have db := listTo_bd l k
        by_cases hlt : k < l.length
        · have hcell : w.cell? ⟨b, off + k, none⟩ = some (.int .i64 l[k]) := hc k hlt
          by_cases hb : lnumB l[k] = true
          · have HO := hok.succ hlt hb
            have H : Hid (listTo l (k + 1) = _) := listTo_succ l k hlt
            simp only [lnumB, Bool.and_eq_true, decide_eq_true_eq] at hb
            obtain ⟨hb1, hb2⟩ := hb
            clear hc hok
            go_wp2
            go_round
            case rel => exact ⟨k + 1, by omega, by go_num, by rw [H.out], HO⟩
            case measure => simp [intOf]; omega
          · have H : Hid (listM l = -1) := listM_at hlt ((Bool.not_eq_true _).mp hb)
            simp only [lnumB, Bool.and_eq_true, decide_eq_true_eq] at hb
            clear hc hok
            go_wp2
            all_goals (try simp only [Bool.not_eq_eq_eq_not, Bool.not_true, Bool.not_false, decide_eq_true_eq, decide_eq_false_iff_not] at *)
            all_goals (try omega)
            all_goals (go_ret; exact ⟨ret_int H.out.symm, rfl⟩)
        · have H : Hid (listTo l k = listM l) := by
            obtain rfl : k = l.length := by omega
            exact (listM_yes h20 hok).symm
          clear hc hok
          go_wp2
          go_ret
          exact ⟨ret_int H.out, rfl⟩
    · rw [listM_long (by omega)]
      clear hc
      go_enter Try.func18, Try.ntmps18
      go_wp2
      go_ret
      exact ⟨rfl, rfl⟩

set_option maxHeartbeats 400000 in
theorem s_DigestList (v : Value) (l : List Int) (w : World) (h : Sl intS w v l) :
    Calls Try.prog 19 #[v] w fun e w' => e = .returned (.int .i64 (listM l)) ∧ w = w' := by
  have hm := h.len
  rcases Nat.eq_zero_or_pos l.length with h0 | h0
  · obtain rfl := List.eq_nil_of_length_eq_zero h0
    obtain ⟨a, cap, rfl, _⟩ := h
    rw [show listM [] = 7 from rfl]
    clear h0 hm
    go_enter Try.func19, Try.ntmps19
    go_wp2
    go_loop [3, 4] (fun d i => d = .int .i64 7 ∧ i = .int .i64 0) (fun _ _ => 0)
    case atStart => exact ⟨rfl, rfl⟩
    case round =>
      obtain ⟨rfl, rfl⟩ := hrel
      go_wp2
      go_ret
      exact ⟨rfl, rfl⟩
  · obtain ⟨b, off, cap, rfl, hcap, hbs, hc⟩ := SlI.open h h0
    clear h
    by_cases h20 : l.length ≤ 20
    · go_enter Try.func19, Try.ntmps19
      go_wp2
      go_loop [3, 4] (fun d i => ∃ k : Nat, k ≤ l.length ∧ i = .int .i64 k ∧ d = .int .i64 (listTo l k) ∧ ListOk l k) (fun _ i => l.length - (intOf i).toNat)
      case atStart => exact ⟨0, Nat.zero_le _, rfl, rfl, ListOk.zero l⟩
      case round =>
        obtain ⟨k, hk, rfl, rfl, hok⟩ := hrel
        have db := listTo_bd l k
        by_cases hlt : k < l.length
        · have hcell : w.cell? ⟨b, off + k, none⟩ = some (.int .i64 l[k]) := hc k hlt
          by_cases hb : lnumB l[k] = true
          · have HO := hok.succ hlt hb
            have H : Hid (listTo l (k + 1) = _) := listTo_succ l k hlt
            simp only [lnumB, Bool.and_eq_true, decide_eq_true_eq] at hb
            obtain ⟨hb1, hb2⟩ := hb
            clear hc hok
            go_wp2
            go_round
            case rel => exact ⟨k + 1, by omega, by go_num, by rw [H.out], HO⟩
            case measure => simp [intOf]; omega
          · have H : Hid (listM l = -1) := listM_at hlt ((Bool.not_eq_true _).mp hb)
            simp only [lnumB, Bool.and_eq_true, decide_eq_true_eq] at hb
            clear hc hok
            go_wp2
            all_goals (try simp only [Bool.not_eq_eq_eq_not, Bool.not_true, Bool.not_false, decide_eq_true_eq, decide_eq_false_iff_not] at *)
            all_goals (try omega)
            all_goals (go_ret; exact ⟨ret_int H.out.symm, rfl⟩)
        · have H : Hid (listTo l k = listM l) := by
            obtain rfl : k = l.length := by omega
            exact (listM_yes h20 hok).symm
          clear hc hok
          go_wp2
          go_ret
          exact ⟨ret_int H.out, rfl⟩
    · rw [listM_long (by omega)]
      go_enter Try.func19, Try.ntmps19
      go_wp2
      go_loop [3, 4] (fun d i => d = .int .i64 7 ∧ i = .int .i64 0) (fun _ _ => 0)
      case atStart => exact ⟨rfl, rfl⟩
      case round =>
        obtain ⟨rfl, rfl⟩ := hrel
        have hcell : w.cell? ⟨b, off, none⟩ = some (.int .i64 l[0]) := hc 0 h0
        clear hc
        go_wp2
        all_goals (go_ret; exact ⟨rfl, rfl⟩)
end Go.Proofs.Ytikebbdkcpcmkaa
