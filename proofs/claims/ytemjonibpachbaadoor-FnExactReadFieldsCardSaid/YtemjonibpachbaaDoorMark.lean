/- The text that the exact statements mark memory with: the decimal digits of a number behind an m. Condition: the number is from 1 on and fits. -/
import Derived.Test.YtemjonibpachbaaDoorMem
import Derived.Test.YtemjonibpachbaaDoorRows
import Derived.Test.YtemjonibpachbaaDoorRet
import Derived.Test.YtemjonibpachbaaDoorTypes
import Derived.WalkKit
import Derived.WalkSpells
import Derived.Laws.BytesString
import Derived.WideShapes
namespace Go.Proofs.YtemjonibpachbaaDoor
open Go.RowKit

/-- Decimal digits, with fuel. -/
def decF : Nat → Nat → List UInt8
  | 0, _ => []
  | f + 1, n => if n = 0 then [] else decF f (n / 10) ++ [UInt8.ofNat (48 + n % 10)]
def decL (n : Nat) : List UInt8 := decF n n
theorem decF_fuel : ∀ (f g n : Nat), n ≤ f → n ≤ g → decF f n = decF g n
  | 0, 0, _, _, _ => rfl
  | 0, g + 1, n, h, _ => by obtain rfl : n = 0 := by omega
                            simp [decF]
  | f + 1, 0, n, _, h => by obtain rfl : n = 0 := by omega
                            simp [decF]
  | f + 1, g + 1, n, h1, h2 => by
    unfold decF
    by_cases e : n = 0
    · simp [e]
    · rw [if_neg e, if_neg e, decF_fuel f g (n / 10) (by omega) (by omega)]
theorem decL_step {n : Nat} (h : 0 < n) : decL n = decL (n / 10) ++ [UInt8.ofNat (48 + n % 10)] := by
  obtain ⟨m, rfl⟩ : ∃ m, n = m + 1 := ⟨n - 1, by omega⟩
  unfold decL
  rw [decF, if_neg (by omega), decF_fuel m ((m + 1) / 10) _ (by omega) (by omega)]
theorem decL_zero : decL 0 = [] := rfl
/-- The mark of a number. -/
def markT (n : Nat) : ByteArray := ⟨(109 :: decL n).toArray⟩
theorem decL_len (n : Nat) : ∀ m, n < 10 ^ m → (decL n).length ≤ m := by
  induction n using Nat.strongRecOn with
  | ind n ih =>
    intro m hm
    by_cases e : n = 0
    · subst e; simp [decL_zero]
    · rw [decL_step (by omega), List.length_append, List.length_singleton]
      cases m with
      | zero => simp at hm; omega
      | succ m => have := ih (n / 10) (by omega) m (by rw [Nat.pow_succ] at hm; omega); omega
theorem digit_str (d : Nat) : ((ByteArray.mk #[UInt8.ofNat d]).data.toList) = [UInt8.ofNat d] := rfl

theorem run_one_string {P : Program} (w : World) (src dst e : TypeId) (b : Nat) (z : Int) (d : Nat) (hs : P.underlying src = some (.slice e)) (he : P.underlying e = some (.int .u8)) (hd : P.underlying dst = some .string)
    (hc : w.cell? ⟨b, 0, none⟩ = some (.int .u8 z)) (hz : z = d) : (convert src dst (.slice (some ⟨b, 0, none⟩) 1 1)).run P w = .ok (.string ⟨#[UInt8.ofNat d]⟩) w := by
  subst hz
  rw [run_convert_bytes_string w src dst e _ 1 1 hs he hd]
  have hl := run_loadCells_list (P := P) (w := w) ⟨b, 0, none⟩ ([(d : Int)].map (Value.int .u8)) (fun j v hv => by
    cases j with
    | zero => simp at hv; subst hv; rw [Addr.add_lit]; exact hc
    | succ j => simp at hv)
  exact run_bytesToString w _ 1 1 [(d : Int)] hl

set_option maxHeartbeats 800000 in
theorem mark_any (z : Int) (n : Nat) (w : World) (hz : z = n) (h1 : 1 ≤ n) (h2 : n ≤ 100000000) :
    Calls Tryd.prog 40 #[.int .i64 z] w fun e w' => e = .returned (.string (markT n)) ∧ Below w.heap.size w w' := by
  subst hz
  have n0 : ¬ ((n : Int) ≤ 0) := by omega
  go_enter Tryd.func40, Tryd.ntmps40
  go_wp2
  go_loopw [0, 3] (fun K T wr => ∃ (m : Nat) (t : ByteArray), m ≤ n ∧ t.size ≤ n - m ∧ K = .int .i64 m ∧ T = .string t ∧ Hid (decL m ++ t.data.toList = decL n) ∧ Below w.heap.size w wr) (fun K _ _ => (intOf K).toNat)
  case atStart => exact ⟨n, ⟨#[]⟩, Nat.le_refl _, Nat.zero_le _, rfl, rfl, by show _ = _; simp, Below.refl _ _⟩
  case round =>
    obtain ⟨m, t, hm, ht, rfl, rfl, hd, hB⟩ := hrel
    by_cases h0 : 0 < m
    · have hrun := run_one_string (P := Tryd.prog) (wr.alloc (.cells #[.int .u8 (48 + (m : Int) % 10)] 5)) 22 9 5 wr.heap.size (48 + (m : Int) % 10) (48 + m % 10) Tryd.underlying22 Tryd.underlying5 Tryd.underlying9 (by simp) (by omega)
      have hd2 : Hid (decL (m / 10) ++ ((ByteArray.mk #[UInt8.ofNat (48 + m % 10)]) ++ t).data.toList = decL n) := by
        show _ = _
        rw [← hd.out, decL_step h0, ByteArray.data_append, Array.toList_append, List.append_assoc]
      have hsz : ((ByteArray.mk #[UInt8.ofNat (48 + m % 10)]) ++ t).size ≤ n - m / 10 := by rw [ByteArray.size_append, show (ByteArray.mk #[UInt8.ofNat (48 + m % 10)]).size = 1 from rfl]; omega
      have hs1 : (ByteArray.mk #[UInt8.ofNat (48 + m % 10)]).size ≤ 1 := Nat.le_refl _
      generalize ByteArray.mk #[UInt8.ofNat (48 + m % 10)] = D at *
      have hB2 : Below w.heap.size w (wr.alloc (.cells #[.int .u8 (48 + (m : Int) % 10)] 5)) := below_trans hB (below1 _ _)
      clear hd hB
      go_wp2
      go_roundw
      case rel => exact ⟨m / 10, D ++ t, by omega, hsz, by go_num, rfl, hd2, hB2⟩
      case measure => simp [intOf]; omega
    · have hT : Hid ((ByteArray.mk #[109]) ++ t = markT n) := by
        obtain rfl : m = 0 := by omega
        refine Go.WideShapes.bytes_inj ?_
        rw [ByteArray.data_append, Array.toList_append]
        have := hd.out
        rw [decL_zero, List.nil_append] at this
        simp [markT, this]
      have hsz : t.size ≤ n := by omega
      clear hd
      go_wp2
      rw [hT.out]
      go_ret
      exact ⟨rfl, hB⟩
end Go.Proofs.YtemjonibpachbaaDoor
