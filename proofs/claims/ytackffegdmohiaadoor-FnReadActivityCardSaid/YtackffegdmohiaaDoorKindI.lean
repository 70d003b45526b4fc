/- The walk of kindOf: the kind that a word is of. Condition: the program's words of the kinds are laid. -/
import Derived.Test.YtackffegdmohiaaDoorRdA
namespace Go.Proofs.YtackffegdmohiaaDoor
open Go.RowKit

def KindRet (s : ByteArray) (w : World) (e : Ending) (w' : World) : Prop := ∃ v, e = .returned (.int .i64 v) ∧ KindIs s.data.toList v ∧ w = w'
theorem kind_hit {s : ByteArray} {k : Nat} (hk : k < 6) (h : ((kindW k).toList == s.toList) = true) (w : World) : KindRet s w (.returned (.int .i64 k)) w := ⟨k, rfl, .inl ⟨k, hk, rfl, by rw [← list_inj (eq_of_beq h)]; rfl⟩, rfl⟩
theorem kind_miss {s : ByteArray} {k : Nat} (h : ((kindW k).toList == s.toList) = false) : kindL.getD k [] ≠ s.data.toList := fun e => by
  have : kindW k = s := Go.WideShapes.bytes_inj ((kindW_list k).trans e)
  rw [this] at h
  simp at h
set_option maxHeartbeats 1600000 in
theorem i_kindOf (s : ByteArray) (w : World) (hK : KindsAt w) : Calls Tryd.prog 35 #[.string s] w (KindRet s w) := by
  have c0 := hK 0 (by decide)
  have c1 := hK 1 (by decide)
  have c2 := hK 2 (by decide)
  have c3 := hK 3 (by decide)
  have c4 := hK 4 (by decide)
  have c5 := hK 5 (by decide)
  have i0 : ∀ w, (Instr.index 49 (.agg #[.string (kindW 0), .string (kindW 1), .string (kindW 2), .string (kindW 3), .string (kindW 4), .string (kindW 5)]) (.int .i64 0)).run Tryd.prog w = .ok (.string (kindW 0)) w := fun _ => by kernel_rfl

  have i1 : ∀ w, (Instr.index 49 (.agg #[.string (kindW 0), .string (kindW 1), .string (kindW 2), .string (kindW 3), .string (kindW 4), .string (kindW 5)]) (.int .i64 1)).run Tryd.prog w = .ok (.string (kindW 1)) w := fun _ => by kernel_rfl

  have i2 : ∀ w, (Instr.index 49 (.agg #[.string (kindW 0), .string (kindW 1), .string (kindW 2), .string (kindW 3), .string (kindW 4), .string (kindW 5)]) (.int .i64 2)).run Tryd.prog w = .ok (.string (kindW 2)) w := fun _ => by kernel_rfl

  have i3 : ∀ w, (Instr.index 49 (.agg #[.string (kindW 0), .string (kindW 1), .string (kindW 2), .string (kindW 3), .string (kindW 4), .string (kindW 5)]) (.int .i64 3)).run Tryd.prog w = .ok (.string (kindW 3)) w := fun _ => by kernel_rfl

  have i4 : ∀ w, (Instr.index 49 (.agg #[.string (kindW 0), .string (kindW 1), .string (kindW 2), .string (kindW 3), .string (kindW 4), .string (kindW 5)]) (.int .i64 4)).run Tryd.prog w = .ok (.string (kindW 4)) w := fun _ => by kernel_rfl

  have i5 : ∀ w, (Instr.index 49 (.agg #[.string (kindW 0), .string (kindW 1), .string (kindW 2), .string (kindW 3), .string (kindW 4), .string (kindW 5)]) (.int .i64 5)).run Tryd.prog w = .ok (.string (kindW 5)) w := fun _ => by kernel_rfl

  clear hK
  go_enter Tryd.func35, Tryd.ntmps35
  go_wp2
  go_loop [3, 4, 6] (fun _ _ I => ∃ k : Nat, k ≤ 6 ∧ I = .int .i64 k ∧ Hid (NoKind s.data.toList k)) (fun _ _ I => 6 - (intOf I).toNat)
  case atStart => exact ⟨0, by omega, rfl, NoKind.zero _⟩
  case round =>
    obtain ⟨k, hk, rfl, hN⟩ := hrel
    by_cases h6 : k = 6
    · subst h6
      have H : Hid (KindIs s.data.toList (-1)) := hN.out.all
      clear hN
      go_wp2
      go_ret
      exact ⟨_, rfl, H.out, rfl⟩
    · obtain rfl | rfl | rfl | rfl | rfl | rfl : k = 0 ∨ k = 1 ∨ k = 2 ∨ k = 3 ∨ k = 4 ∨ k = 5 := by omega
      · cases he : ((kindW 0).toList == s.toList)
        · have HN : Hid (NoKind s.data.toList (0 + 1)) := hN.out.succ (kind_miss he)
          clear hN
          go_wp2
          go_round
          case rel => exact ⟨0 + 1, by omega, by go_num, HN⟩
          case measure => simp [intOf]
        · have HR := Lib.hid (kind_hit (by decide) he w)
          clear hN
          go_wp2
          go_ret
          exact HR.out

      · cases he : ((kindW 1).toList == s.toList)
        · have HN : Hid (NoKind s.data.toList (1 + 1)) := hN.out.succ (kind_miss he)
          clear hN
          go_wp2
          go_round
          case rel => exact ⟨1 + 1, by omega, by go_num, HN⟩
          case measure => simp [intOf]
        · have HR := Lib.hid (kind_hit (by decide) he w)
          clear hN
          go_wp2
          go_ret
          exact HR.out

      · cases he : ((kindW 2).toList == s.toList)
        · have HN : Hid (NoKind s.data.toList (2 + 1)) := hN.out.succ (kind_miss he)
          clear hN
          go_wp2
          go_round
          case rel => exact ⟨2 + 1, by omega, by go_num, HN⟩
          case measure => simp [intOf]
        · have HR := Lib.hid (kind_hit (by decide) he w)
          clear hN
          go_wp2
          go_ret
          exact HR.out

      · cases he : ((kindW 3).toList == s.toList)
        · have HN : Hid (NoKind s.data.toList (3 + 1)) := hN.out.succ (kind_miss he)
          clear hN
          go_wp2
          go_round
          case rel => exact ⟨3 + 1, by omega, by go_num, HN⟩
          case measure => simp [intOf]
        · have HR := Lib.hid (kind_hit (by decide) he w)
          clear hN
          go_wp2
          go_ret
          exact HR.out

      · cases he : ((kindW 4).toList == s.toList)
        · have HN : Hid (NoKind s.data.toList (4 + 1)) := hN.out.succ (kind_miss he)
          clear hN
          go_wp2
          go_round
          case rel => exact ⟨4 + 1, by omega, by go_num, HN⟩
          case measure => simp [intOf]
        · have HR := Lib.hid (kind_hit (by decide) he w)
          clear hN
          go_wp2
          go_ret
          exact HR.out

      · cases he : ((kindW 5).toList == s.toList)
        · have HN : Hid (NoKind s.data.toList (5 + 1)) := hN.out.succ (kind_miss he)
          clear hN
          go_wp2
          go_round
          case rel => exact ⟨5 + 1, by omega, by go_num, HN⟩
          case measure => simp [intOf]
        · have HR := Lib.hid (kind_hit (by decide) he w)
          clear hN
          go_wp2
          go_ret
          exact HR.out

end Go.Proofs.YtackffegdmohiaaDoor
