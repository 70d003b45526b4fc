/- The walks of the program's functions on days. Condition: none but the ranges named. -/
import Derived.Test.YtlmpkajnbdhppaaRows
import Derived.Test.YtlmpkajnbdhppaaRet
import Derived.Test.YtlmpkajnbdhppaaOpen
import Derived.Test.YtlmpkajnbdhppaaMem
import Derived.WalkKit
import Derived.WalkSpells
import Derived.OwnWalk
import Derived.Laws.BytesString
import Derived.Lib.Hide
namespace Go.Proofs.Ytlmpkajnbdhppaa
open Go.RowKit

/-- The days before a year. -/
def daysM (y : Int) : Int := 365 * (y - 1) + (y - 1) / 4 - (y - 1) / 100 + (y - 1) / 400
/-- 1 in a year of 366 days. -/
def leapN (y : Int) : Int := if y % 400 = 0 ∨ (y % 4 = 0 ∧ ¬ y % 100 = 0) then 1 else 0
/-- The days of a month. -/
def mdM (y m : Int) : Int := if m = 2 then 28 + leapN y else if m = 4 ∨ m = 6 ∨ m = 9 ∨ m = 11 then 30 else 31
/-- The days of a year from a month on. -/
def leftM (y m : Int) : Int :=
  if m = 1 then 365 + leapN y else if m = 2 then 334 + leapN y else if m = 3 then 306 else if m = 4 then 275 else if m = 5 then 245 else if m = 6 then 214 else if m = 7 then 184 else
  if m = 8 then 153 else if m = 9 then 122 else if m = 10 then 92 else if m = 11 then 61 else 31
theorem leapN_bd (y : Int) : 0 ≤ leapN y ∧ leapN y ≤ 1 := by unfold leapN; split <;> omega
theorem leapN_or (y : Int) : leapN y = 0 ∨ leapN y = 1 := by unfold leapN; split <;> omega
theorem mdM_bd (y m : Int) : 28 ≤ mdM y m ∧ mdM y m ≤ 31 := by
  have := leapN_bd y
  unfold mdM; split
  · omega
  · split <;> omega
theorem days_next (y : Int) : daysM (y + 1) = daysM y + 365 + leapN y := by
  unfold daysM leapN; split <;> omega
theorem days_bd {y : Int} (h : 1 ≤ y) (h2 : y ≤ 4002) : 0 ≤ daysM y ∧ daysM y ≤ 1462000 := by unfold daysM; omega
theorem days_mono {y z : Int} (h : y ≤ z) : daysM y ≤ daysM z := by unfold daysM; omega
theorem days_last : daysM 4001 = 1460970 := by decide
theorem days_guess {d : Int} (h : 0 ≤ d) : daysM (d / 366 + 1) ≤ d := by unfold daysM; omega
theorem months {m : Int} (h1 : 1 ≤ m) (h2 : m ≤ 12) : m = 1 ∨ m = 2 ∨ m = 3 ∨ m = 4 ∨ m = 5 ∨ m = 6 ∨ m = 7 ∨ m = 8 ∨ m = 9 ∨ m = 10 ∨ m = 11 ∨ m = 12 := by omega
theorem left_step (y : Int) {m : Int} (h1 : 1 ≤ m) (h2 : m ≤ 11) : leftM y (m + 1) = leftM y m - mdM y m := by
  have hl := leapN_bd y
  rcases months h1 (by omega) with rfl | rfl | rfl | rfl | rfl | rfl | rfl | rfl | rfl | rfl | rfl | rfl <;> simp [leftM, mdM] <;> omega
theorem left_first (y : Int) : leftM y 1 = 365 + leapN y := by simp [leftM]
theorem left_last (y : Int) : leftM y 12 = 31 ∧ mdM y 12 = 31 := by simp [leftM, mdM]

theorem i_daysBefore (y : Int) (w : World) (h1 : 1 ≤ y) (h2 : y ≤ 4002) :
    Calls Try.prog 75 #[.int .i64 y] w fun e w' => e = .returned (.int .i64 (daysM y)) ∧ w = w' := by
  have e0 : IntKind.i64.wrap (y - 1) = y - 1 := IntWalk.i64_in _ (by omega)
  have d1 : (y - 1).tdiv 4 = (y - 1) / 4 := Int.tdiv_eq_ediv_of_nonneg (by omega)
  have d2 : (y - 1).tdiv 100 = (y - 1) / 100 := Int.tdiv_eq_ediv_of_nonneg (by omega)
  have d3 : (y - 1).tdiv 400 = (y - 1) / 400 := Int.tdiv_eq_ediv_of_nonneg (by omega)
  have e1 : IntKind.i64.wrap (365 * (y - 1)) = 365 * (y - 1) := IntWalk.i64_in _ (by omega)
  have e2 : IntKind.i64.wrap ((y - 1) / 4) = (y - 1) / 4 := IntWalk.i64_in _ (by omega)
  have e3 : IntKind.i64.wrap ((y - 1) / 100) = (y - 1) / 100 := IntWalk.i64_in _ (by omega)
  have e4 : IntKind.i64.wrap ((y - 1) / 400) = (y - 1) / 400 := IntWalk.i64_in _ (by omega)
  have e5 : IntKind.i64.wrap (365 * (y - 1) + (y - 1) / 4) = 365 * (y - 1) + (y - 1) / 4 := IntWalk.i64_in _ (by omega)
  have e6 : IntKind.i64.wrap (365 * (y - 1) + (y - 1) / 4 - (y - 1) / 100) = 365 * (y - 1) + (y - 1) / 4 - (y - 1) / 100 := IntWalk.i64_in _ (by omega)
  have e7 : IntKind.i64.wrap (365 * (y - 1) + (y - 1) / 4 - (y - 1) / 100 + (y - 1) / 400) = daysM y := IntWalk.i64_in _ (by omega)
  go_enter Try.func75, Try.ntmps75
  go_wp2
  go_ret
  exact ⟨rfl, rfl⟩

/-- Whether a year has 366 days. -/
def leapB (y : Int) : Bool := decide (leapN y = 1)
theorem i_LeapYear (y : Int) (w : World) (h1 : 1 ≤ y) (h2 : y ≤ 4000) :
    Calls Try.prog 86 #[.int .i64 y] w fun e w' => e = .returned (.bool (leapB y)) ∧ w = w' := by
  by_cases a : y % 400 = 0
  · rw [show leapB y = true by simp [leapB, leapN, a]]
    have ha : (y % 400 == 0) = true := by simpa using a
    clear a
    go_enter Try.func86, Try.ntmps86
    go_wp2_with (first | go_in)
    all_goals (go_ret; exact ⟨rfl, rfl⟩)
  · have ha : (y % 400 == 0) = false := by simpa using a
    by_cases b : y % 4 = 0
    · have hb : (y % 4 == 0) = true := by simpa using b
      by_cases c : y % 100 = 0
      · rw [show leapB y = false by simp [leapB, leapN, a, b, c]]
        have hc : (y % 100 == 0) = true := by simpa using c
        have hc2 : (y % 100 != 0) = false := by simpa using c
        clear a b c
        go_enter Try.func86, Try.ntmps86
        go_wp2_with (first | go_in)
        all_goals (go_ret; exact ⟨rfl, rfl⟩)
      · rw [show leapB y = true by simp [leapB, leapN, a, b, c]]
        have hc : (y % 100 == 0) = false := by simpa using c
        have hc2 : (y % 100 != 0) = true := by simpa using c
        clear a b c
        go_enter Try.func86, Try.ntmps86
        go_wp2_with (first | go_in)
        all_goals (go_ret; exact ⟨rfl, rfl⟩)
    · rw [show leapB y = false by simp [leapB, leapN, a, b]]
      have hb : (y % 4 == 0) = false := by simpa using b
      clear a b
      go_enter Try.func86, Try.ntmps86
      go_wp2_with (first | go_in)
      all_goals (go_ret; exact ⟨rfl, rfl⟩)

theorem i_MonthDays (y m : Int) (w : World) (h1 : 1 ≤ y) (h2 : y ≤ 4000) (h3 : 1 ≤ m) (h4 : m ≤ 12) :
    Calls Try.prog 76 #[.int .i64 y, .int .i64 m] w fun e w' => e = .returned (.int .i64 (mdM y m)) ∧ w = w' := by
  by_cases hm : m = 2
  · subst hm
    clear h3 h4
    cases hl : leapB y
    · rw [show mdM y 2 = 28 by unfold leapB at hl; have := leapN_or y; simp at hl; simp [mdM]; omega]
      go_enter Try.func76, Try.ntmps76
      go_wp2_with (first | (go_at_call 86; refine (i_LeapYear _ _ h1 h2).mono ?_; rintro e w' ⟨rfl, rfl⟩; rw [hl]) | go_in)
      go_ret
      exact ⟨rfl, rfl⟩
    · rw [show mdM y 2 = 29 by unfold leapB at hl; simp at hl; simp [mdM]; omega]
      go_enter Try.func76, Try.ntmps76
      go_wp2_with (first | (go_at_call 86; refine (i_LeapYear _ _ h1 h2).mono ?_; rintro e w' ⟨rfl, rfl⟩; rw [hl]) | go_in)
      go_ret
      exact ⟨rfl, rfl⟩
  · rcases months h3 h4 with rfl | rfl | rfl | rfl | rfl | rfl | rfl | rfl | rfl | rfl | rfl | rfl
    all_goals first
      | exact absurd rfl hm
      | (clear h3 h4 hm
         go_enter Try.func76, Try.ntmps76
         go_wp2_with go_in
         go_ret
         exact ⟨ret_int (by simp [mdM]), rfl⟩)

/-- A text of n bytes; a text that is not empty. -/
def TextOf (n : Nat) (v : Value) (_ : World) : Prop := ∃ s : ByteArray, v = .string s ∧ s.size = n
def SomeText (v : Value) (_ : World) : Prop := ∃ s : ByteArray, v = .string s ∧ s.toList.isEmpty = false
theorem full_text {s : ByteArray} (h : 0 < s.size) : s.toList.isEmpty = false := by
  rw [ByteArray.toList_eq]
  cases hs : s.data.toList with
  | nil => have : s.data.toList.length = s.size := by cases s; rfl
           rw [hs] at this; simp at this; omega
  | cons a l => rfl
/-- All are bytes. -/
def Bytes (xs : List Value) : Prop := ∀ x ∈ xs, ∃ c : Int, x = .int .u8 c
theorem Bytes.set {xs : List Value} (h : Bytes xs) (i : Nat) (c : Int) : Bytes (xs.set i (.int .u8 c)) := fun x hx => by
  rcases List.mem_or_eq_of_mem_set hx with h1 | h1
  · exact h x h1
  · exact ⟨c, h1⟩
theorem Bytes.ints : ∀ {xs : List Value}, Bytes xs → ∃ ns : List Int, ns.map (Value.int .u8) = xs
  | [], _ => ⟨[], rfl⟩
  | x :: xs, h => by
    obtain ⟨ns, hn⟩ := Bytes.ints (xs := xs) (fun y hy => h y (List.mem_cons_of_mem _ hy))
    obtain ⟨c, hc⟩ := h x (List.mem_cons_self)
    exact ⟨c :: ns, by rw [List.map_cons, hn, hc]⟩
theorem push_size (ns : List Int) : ∀ s : ByteArray, (ns.foldl (fun r n => r.push (UInt8.ofNat n.toNat)) s).size = s.size + ns.length := by
  induction ns with
  | nil => intro s; rfl
  | cons n ns ih => intro s; rw [List.foldl_cons, ih, ByteArray.size_push, List.length_cons]; omega
/-- A row of bytes turned into a text. -/
theorem run_row_string {P : Program} (w : World) (src dst e : TypeId) (base g n : Nat) (xs : List Value) (hs : P.underlying src = some (.slice e)) (he : P.underlying e = some (.int .u8)) (hd : P.underlying dst = some .string)
    (hown : w.ownsRow base e 1 (.slice (some ⟨g, 0, none⟩) n n) n xs) (hx : Bytes xs) : ∃ s, (convert src dst (.slice (some ⟨g, 0, none⟩) n n)).run P w = .ok (.string s) w ∧ s.size = n := by
  obtain ⟨ns, hn⟩ := hx.ints
  have hlen : ns.length = n := by have := hown.1; rw [← hn, List.length_map, Nat.mul_one] at this; exact this
  rw [run_convert_bytes_string w src dst e _ n n hs he hd]
  have hl := run_loadCells_list (P := P) (w := w) ⟨g, 0, none⟩ (ns.map (Value.int .u8)) (fun j v hv => by
    have hj : j < n := by have := (List.getElem?_eq_some_iff.1 hv).1; simpa [hlen] using this
    rw [Addr.add_lit, Nat.zero_add, hown.cellAt j (by omega), ← hn]
    exact hv)
  rw [List.length_map, hlen] at hl
  exact ⟨_, run_bytesToString w _ n n _ hl, by rw [push_size, hlen]; simp⟩

end Go.Proofs.Ytlmpkajnbdhppaa
