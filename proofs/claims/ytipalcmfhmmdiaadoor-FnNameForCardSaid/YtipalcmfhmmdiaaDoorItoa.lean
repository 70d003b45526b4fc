/- strconv.Itoa of one digit. Condition: the number is from 0 to 9. -/
import Derived.Test.YtipalcmfhmmdiaaDoorRet
import Derived.Test.YtipalcmfhmmdiaaDoorMem
import Derived.Test.YtipalcmfhmmdiaaDoorRows
import Derived.WalkKit
import Derived.WalkSpells
namespace Go.Proofs.YtipalcmfhmmdiaaDoor
open Go.RowKit

def digT : ByteArray := ⟨#[48, 49, 50, 51, 52, 53, 54, 55, 56, 57, 97, 98, 99, 100, 101, 102, 103, 104, 105, 106, 107, 108, 109, 110, 111, 112, 113, 114, 115, 116, 117, 118, 119, 120, 121, 122]⟩
/-- One digit. -/
def dgB (d : Nat) : ByteArray := ⟨#[UInt8.ofNat (48 + d)]⟩
theorem dgB_size (d : Nat) : (dgB d).size = 1 := rfl
theorem digT_at : ∀ d : Nat, d < 10 → digT.extract d (d + 1) = dgB d := by
  have key : ∀ k : Fin 10, (digT.extract k.val (k.val + 1)).data = #[UInt8.ofNat (48 + k.val)] := by decide +kernel
  intro d h
  exact congrArg ByteArray.mk (key ⟨d, h⟩)
theorem i_small (d : Nat) (w : World) (h : d < 10) : Calls Tryd.prog 34 #[.int .i64 d] w fun e w' => e = .returned (.string (digT.extract d (d + 1))) ∧ w' = w := by
  have h2 : (d : Int) < 10 := by omega
  have h3 : (0 : Int) ≤ d := by omega
  go_enter Tryd.func34, Tryd.ntmps34
  go_wp2
  go_ret
  exact ⟨rfl, rfl⟩
theorem i_FormatInt (d : Nat) (w : World) (h : d < 10) : Calls Tryd.prog 33 #[.int .i64 d, .int .i64 10] w fun e w' => e = .returned (.string (digT.extract d (d + 1))) ∧ w' = w := by
  have h3 : decide ((0 : Int) ≤ (d : Int)) = true := decide_eq_true (by omega)
  have h4 : decide ((d : Int) < 100) = true := decide_eq_true (by omega)
  have h5 : (d : Int) < 100 := by omega
  go_enter Tryd.func33, Tryd.ntmps33
  go_wp2_with fail
  refine (i_small d _ h).mono ?_
  rintro e w' ⟨rfl, rfl⟩
  go_wp2_with fail
  go_ret
  exact ⟨rfl, rfl⟩
theorem i_Itoa2 (d : Nat) (w : World) (h : d < 10) : Calls Tryd.prog 29 #[.int .i64 d] w fun e w' => e = .returned (.string (digT.extract d (d + 1))) ∧ w' = w := by
  go_enter Tryd.func29, Tryd.ntmps29
  go_wp2_with fail
  refine (i_FormatInt d _ h).mono ?_
  rintro e w' ⟨rfl, rfl⟩
  go_wp2_with fail
  go_ret
  exact ⟨rfl, rfl⟩
theorem i_Itoa (d : Nat) (w : World) (h : d < 10) : Calls Tryd.prog 20 #[.int .i64 d] w fun e w' => e = .returned (.string (dgB d)) ∧ w' = w := by
  rw [← digT_at d h]
  go_enter Tryd.func20, Tryd.ntmps20
  go_wp2_with fail
  refine (i_Itoa2 d _ h).mono ?_
  rintro e w' ⟨rfl, rfl⟩
  go_wp2_with fail
  go_ret
  exact ⟨rfl, rfl⟩
end Go.Proofs.YtipalcmfhmmdiaaDoor
