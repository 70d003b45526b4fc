/- What the library's Cut does at the separator "=", and Split at ";". Condition: the text is no longer than a machine holds; for Split, a variable of the library's own holds a number. -/
import Derived.Test.YtackffegdmohiaaDoorSplit
import Derived.Test.YtackffegdmohiaaDoorMem
import Derived.Test.YtackffegdmohiaaDoorRet
import Derived.Test.YtackffegdmohiaaDoorTypes
import Derived.Test.YtackffegdmohiaaDoorShelf
import Derived.WalkKit
import Derived.OwnWalk
import Derived.Deep.Draws
import Derived.IntWalk
import Derived.Laws.Strings3
import Derived.WideShapes
namespace Go.Proofs.YtackffegdmohiaaDoor
open Go.RowKit

/-- What Cut answers: the text ahead of the first "=" and behind it. -/
def CutRet (p : ByteArray) (w : World) (e : Ending) (w' : World) : Prop :=
  ((∃ n m : ByteArray, p.data.toList = n.data.toList ++ 61 :: m.data.toList ∧ 61 ∉ n.data.toList ∧ n.size ≤ p.size ∧ m.size ≤ p.size ∧ e = .returned (.tuple #[.string n, .string m, .bool true])) ∨
      (61 ∉ p.data.toList ∧ ∃ n m : ByteArray, e = .returned (.tuple #[.string n, .string m, .bool false]))) ∧ Below w.heap.size w w'
theorem ext_take (s : ByteArray) (k : Nat) : (s.extract 0 k).data.toList = s.data.toList.take k := by
  rw [ByteArray.data_extract, Array.toList_extract]; simp [List.extract]
theorem ext_drop (s : ByteArray) (k : Nat) : (s.extract k s.size).data.toList = s.data.toList.drop k := by
  have hl := size_len s
  rw [ByteArray.data_extract, Array.toList_extract]
  show ((s.data.toList.drop k).take (s.size - k)) = _
  rw [List.take_of_length_le]
  rw [List.length_drop]; omega
theorem CutRet.hit {p : ByteArray} {k : Nat} {w w' : World} (h1 : k < p.data.toList.length) (h2 : p.data.toList.getD k 0 = 61) (h3 : ∀ j, j < k → p.data.toList.getD j 0 ≠ 61) (hb : Below w.heap.size w w') :
    CutRet p w (.returned (.tuple #[.string (p.extract 0 k), .string (p.extract (k + 1) p.size), .bool true])) w' :=
  ⟨.inl ⟨_, _, by rw [ext_take, ext_drop]; exact cut_first h1 h2, by rw [ext_take]; exact mem_take_first h3, by simp [ByteArray.size_extract]; omega, by simp [ByteArray.size_extract], rfl⟩, hb⟩
theorem cutL61 (s : ByteArray) (w : World) (hs : s.size ≤ 140737488355328) :
    Calls Tryd.prog 55 #[.string s, .string ⟨#[61]⟩] w (CutRet s w) := by
  have hl := size_len s
  rcases first_of s.data.toList 61 with ⟨h1, h2⟩ | ⟨k, h1, h2, h3, h4⟩
  · go_enter Tryd.func55, Tryd.ntmps55
    go_wp2_with (go_at_call 59; refine (Tryd.stringslite_Index_one s 61 _).mono ?_; rintro x w' ⟨rfl, rfl⟩; rw [h1])
    go_ret3
    exact ⟨.inr ⟨h2, _, _, rfl⟩, Below.refl _ _⟩
  · have hk : k < s.size := by omega
    have c1 : (0 : Int) ≤ ↑k := by omega
    have c2 : (↑k : Int) ≤ ↑s.size := by omega
    have c3 : (0 : Int) ≤ ↑k + 1 := by omega
    have c4 : (↑k + 1 : Int) ≤ ↑s.size := by omega
    have c5 : IntKind.i64.wrap ((k : Int) + 1) = (k : Int) + 1 := IntWalk.i64_in _ (by omega)
    have mixed : Tryd.prog.follows Departure.mixedOrders = true := by kernel_rfl
    go_enter Tryd.func55, Tryd.ntmps55
    go_wp2_with (go_at_call 59; refine (Tryd.stringslite_Index_one s 61 _).mono ?_; rintro x w' ⟨rfl, rfl⟩; rw [h1])
    go_region_o
    go_wp2
    go_ret3
    exact CutRet.hit h2 h3 h4 (Below.refl _ _).drew
theorem cut61 (s : ByteArray) (w : World) (hs : s.size ≤ 140737488355328) :
    Calls Tryd.prog 49 #[.string s, .string ⟨#[61]⟩] w (CutRet s w) := by
  go_enter Tryd.func49, Tryd.ntmps49
  go_wp2_with fail
  refine (cutL61 s _ hs).mono ?_
  rintro e w' ⟨⟨n, m, h1, h2, h3, h4, rfl⟩ | ⟨h1, n, m, rfl⟩, hb⟩
  · go_wp2_with fail
    go_ret3
    exact ⟨.inl ⟨n, m, h1, h2, h3, h4, rfl⟩, hb⟩
  · go_wp2_with fail
    go_ret3
    exact ⟨.inr ⟨h1, n, m, rfl⟩, hb⟩
/-- What Split answers: the parts, in an array of its own. -/
def SplitRet (c : UInt8) (s : ByteArray) (w : World) (e : Ending) (w' : World) : Prop :=
  ∃ L : List ByteArray, L.map (·.data.toList) = parts c s.data.toList ∧ e = .returned (.slice (some ⟨w.heap.size, 0, none⟩) L.length L.length) ∧ w' = w.alloc (.cells (L.map Value.string).toArray 9)
theorem split_at (c : UInt8) (s : ByteArray) (m : Int) (w : World) (hs : s.size < 4294967281) (hm : w.cell? ⟨1, 0, none⟩ = some (.int .i64 m)) :
    Calls Tryd.prog 33 #[.string s, .string ⟨#[c]⟩] w (SplitRet c s w) := by
  refine (Tryd.strings_Split s ⟨#[c]⟩ m w hs hm (Nat.le_refl _)).mono ?_
  rintro e w' ⟨rfl, rfl⟩
  have hl := Lib.splitB_all ⟨#[c]⟩ (Nat.le_refl _) 0 _ s rfl
  exact ⟨_, split_parts s c, by rw [hl], rfl⟩
theorem str_cells : ∀ L : List ByteArray, strS.cells L = L.map Value.string
  | [] => rfl
  | a :: r => by
    have := str_cells r
    rw [show a :: r = [a] ++ r from rfl, strS.cells_append, this, strS.cells_one]; rfl
theorem split_sl {w : World} (L : List ByteArray) (hl : L.length ≤ maxLen) : Sl strS (w.alloc (.cells (L.map Value.string).toArray 9)) (.slice (some ⟨w.heap.size, 0, none⟩) L.length L.length) L := by
  refine ⟨_, L.length, rfl, Nat.le_refl _, hl, .inr ⟨w.heap.size, 0, rfl, by simp, fun j u hu => ?_⟩⟩
  rw [Nat.zero_add, World.cell?_alloc_new]
  rw [str_cells] at hu
  simpa using hu
end Go.Proofs.YtackffegdmohiaaDoor
