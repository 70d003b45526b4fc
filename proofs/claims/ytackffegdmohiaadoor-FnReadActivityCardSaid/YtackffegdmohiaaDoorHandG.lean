/- What the library's HasPrefix and Cut do at the separator "@". No condition. -/
import Derived.Test.YtackffegdmohiaaDoorHandF
import Derived.Test.YtackffegdmohiaaDoorShelf
import Derived.Deep.Draws
import Derived.IntWalk
import Derived.Laws.Strings3
namespace Go.Proofs.YtackffegdmohiaaDoor
open Go.RowKit

/-- The first place of a byte. -/
def FirstAt (l : List UInt8) (c : UInt8) (k : Nat) : Prop := k < l.length ∧ l.getD k 0 = c ∧ ∀ j, j < k → l.getD j 0 ≠ c
def NoneAt (l : List UInt8) (c : UInt8) : Prop := ∀ j, j < l.length → l.getD j 0 ≠ c
theorem indexByte_first : ∀ (l : List UInt8) (c : UInt8), (Lib.indexByte l c = -1 ∧ NoneAt l c) ∨ ∃ k : Nat, Lib.indexByte l c = k ∧ FirstAt l c k
  | [], c => .inl ⟨rfl, fun j h => by simp at h⟩
  | a :: l, c => by
    by_cases e : a = c
    · exact .inr ⟨0, by simp [Lib.indexByte, e], by simp, by simpa using e, fun j h => by omega⟩
    · rcases indexByte_first l c with ⟨h1, h2⟩ | ⟨k, h1, h2, h3, h4⟩
      · refine .inl ⟨by simp [Lib.indexByte, e, h1], fun j h => ?_⟩
        cases j with
        | zero => simpa using e
        | succ j => simpa using h2 j (by simpa using h)
      · refine .inr ⟨k + 1, by simp [Lib.indexByte, e, h1], by simpa using h2, by simpa using h3, fun j h => ?_⟩
        cases j with
        | zero => simpa using e
        | succ j => simpa using h4 j (by omega)

theorem head_at {s : ByteArray} (h : 0 < s.size) : ((s.extract 0 1).toList == [64]) = decide (s.data.toList.getD 0 0 = 64) := by
  rw [Lib.toList_data, ByteArray.data_extract, Array.toList_extract]
  have hl := size_len s
  cases hs : s.data.toList with
  | nil => rw [hs] at hl; simp at hl; omega
  | cons a l => by_cases e : a = 64 <;> simp [List.extract, e]

theorem hasPrefix_at (s : ByteArray) (w : World) :
    Calls Tryd.prog 48 #[.string s, .string ⟨#[64]⟩] w fun e w' => e = .returned (.bool (decide (0 < s.size) && decide (s.data.toList.getD 0 0 = 64))) ∧ w = w' := by
  by_cases h : 0 < s.size
  · rw [show (decide (0 < s.size) && decide (s.data.toList.getD 0 0 = 64)) = ((s.extract 0 1).toList == [64]) from by rw [head_at h]; simp [h]]
    go_enter Tryd.func48, Tryd.ntmps48
    go_wp2_with (go_at_call 54; go_in)
    go_ret
    exact ⟨rfl, rfl⟩
  · rw [show (decide (0 < s.size) && decide (s.data.toList.getD 0 0 = 64)) = false from by simp [h]]
    go_enter Tryd.func48, Tryd.ntmps48
    go_wp2_with (go_at_call 54; go_in)
    go_ret
    exact ⟨rfl, rfl⟩

def CutPost (s : ByteArray) (w : World) (e : Ending) (w' : World) : Prop :=
  ((∃ k, FirstAt s.data.toList 64 k ∧ e = .returned (.tuple #[.string (s.extract 0 k), .string (s.extract (k + 1) s.size), .bool true])) ∨
      (NoneAt s.data.toList 64 ∧ e = .returned (.tuple #[.string s, .string ⟨#[]⟩, .bool false]))) ∧ Below w.heap.size w w'
theorem CutPost.hit {s : ByteArray} {k : Nat} {w w' : World} (h : FirstAt s.data.toList 64 k) (hb : Below w.heap.size w w') : CutPost s w (.returned (.tuple #[.string (s.extract 0 k), .string (s.extract (k + 1) s.size), .bool true])) w' := ⟨.inl ⟨k, h, rfl⟩, hb⟩
theorem CutPost.miss {s : ByteArray} {w w' : World} (h : NoneAt s.data.toList 64) (hb : Below w.heap.size w w') : CutPost s w (.returned (.tuple #[.string s, .string ⟨#[]⟩, .bool false])) w' := ⟨.inr ⟨h, rfl⟩, hb⟩

theorem cutL_at (s : ByteArray) (w : World) (hs : s.size ≤ 140737488355328) :
    Calls Tryd.prog 55 #[.string s, .string ⟨#[64]⟩] w (CutPost s w) := by
  have hl := size_len s
  rcases indexByte_first s.data.toList 64 with ⟨h1, h2⟩ | ⟨k, h1, h2⟩
  · go_enter Tryd.func55, Tryd.ntmps55
    go_wp2_with (go_at_call 59; refine (Tryd.stringslite_Index_one s 64 _).mono ?_; rintro x w' ⟨rfl, rfl⟩; rw [h1])
    go_ret3
    exact CutPost.miss h2 (Below.refl _ _)
  · have hk : k < s.size := by have := h2.1; omega
    have c1 : (0 : Int) ≤ ↑k := by omega
    have c2 : (↑k : Int) ≤ ↑s.size := by omega
    have c3 : (0 : Int) ≤ ↑k + 1 := by omega
    have c4 : (↑k + 1 : Int) ≤ ↑s.size := by omega
    have c5 : IntKind.i64.wrap ((k : Int) + 1) = (k : Int) + 1 := IntWalk.i64_in _ (by omega)
    have mixed : Tryd.prog.follows Departure.mixedOrders = true := by kernel_rfl
    go_enter Tryd.func55, Tryd.ntmps55
    go_wp2_with (go_at_call 59; refine (Tryd.stringslite_Index_one s 64 _).mono ?_; rintro x w' ⟨rfl, rfl⟩; rw [h1])
    go_region_o
    go_wp2
    go_ret3
    exact CutPost.hit h2 (Below.refl _ _).drew

theorem cut_at (s : ByteArray) (w : World) (hs : s.size ≤ 140737488355328) :
    Calls Tryd.prog 49 #[.string s, .string ⟨#[64]⟩] w (CutPost s w) := by
  go_enter Tryd.func49, Tryd.ntmps49
  go_wp2_with fail
  refine (cutL_at s _ hs).mono ?_
  rintro e w' ⟨⟨k, hk, rfl⟩ | ⟨hk, rfl⟩, hb⟩
  · go_wp2_with fail
    go_ret3
    exact CutPost.hit hk hb
  · go_wp2_with fail
    go_ret3
    exact CutPost.miss hk hb
end Go.Proofs.YtackffegdmohiaaDoor
