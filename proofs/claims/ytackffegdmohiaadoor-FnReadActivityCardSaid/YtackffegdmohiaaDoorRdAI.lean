/- The walk of the program's ReadActivity. Condition: the text has less than 2^32 - 15 bytes, a variable of the library's own holds a number, the program's words of the kinds are laid. -/
import Derived.Test.YtackffegdmohiaaDoorKindI
import Derived.Test.YtackffegdmohiaaDoorCut
import Derived.Test.YtackffegdmohiaaDoorDetW
import Derived.Test.YtackffegdmohiaaDoorRegL
namespace Go.Proofs.YtackffegdmohiaaDoor
open Go.RowKit

def ActRet (s : ByteArray) (w : World) (e : Ending) (w' : World) : Prop := ∃ k m n g t ok, e = .returned (.tuple #[.agg #[.int .i64 k, .int .i64 m, .string n, .string g, .string t], .bool ok]) ∧ ActRel s k m n g t ok ∧ Below w.heap.size w w'
theorem ActRet.no {s : ByteArray} {w w' : World} (hn : ∀ k m n g t, ¬ ActIs s k m n g t) (hb : Below w.heap.size w w') : ActRet s w (.returned (.tuple #[.agg #[.int .i64 0, .int .i64 0, .string ⟨#[]⟩, .string ⟨#[]⟩, .string ⟨#[]⟩], .bool false])) w' :=
  ⟨_, _, _, _, _, _, rfl, .inr ⟨rfl, ⟨rfl, rfl, rfl, rfl, rfl⟩, hn⟩, hb⟩
theorem ActRet.yes {s : ByteArray} {k m : Int} {n g t : ByteArray} {w w' : World} (h : ActIs s k m n g t) (hb : Below w.heap.size w w') : ActRet s w (.returned (.tuple #[.agg #[.int .i64 k, .int .i64 m, .string n, .string g, .string t], .bool true])) w' :=
  ⟨_, _, _, _, _, _, rfl, .inl ⟨rfl, h⟩, hb⟩
theorem four_of {L : List ByteArray} (h : L.length = 4) : ∃ a b c d, L = [a, b, c, d] := by
  match L, h with
  | [a, b, c, d], _ => exact ⟨a, b, c, d, rfl⟩
theorem part_size {s : ByteArray} {L : List ByteArray} (hL : L.map (·.data.toList) = parts 32 s.data.toList) : ∀ p ∈ L, p.size ≤ s.size := fun p hp => by
  have := parts_size 32 s.data.toList p.data.toList (by rw [← hL]; exact List.mem_map.2 ⟨p, hp, rfl⟩)
  rwa [size_len, size_len] at this
theorem markIs_ex (l : List UInt8) : ∃ v, MarkIs l v := by
  by_cases h : ∃ n : Nat, n ≤ 1000000000 ∧ markN n = l
  · obtain ⟨n, h1, h2⟩ := h
    exact ⟨n, .inl ⟨n, rfl, h1, h2⟩⟩
  · exact ⟨-1, .inr ⟨rfl, fun n h1 h2 => h ⟨n, h1, h2⟩⟩⟩
theorem kind_ex (l : List UInt8) : ∃ v, KindIs l v := by
  by_cases h : ∃ j : Nat, j < 6 ∧ kindL.getD j [] = l
  · obtain ⟨n, h1, h2⟩ := h
    exact ⟨n, .inl ⟨n, h1, rfl, h2⟩⟩
  · exact ⟨-1, .inr ⟨rfl, fun n h1 h2 => h ⟨n, h1, h2⟩⟩⟩
theorem below_eq {a b : World} {o : Obj} (h : b = a.alloc o) : Below a.heap.size a b := h ▸ below1 _ _
theorem cells_eq {a b : World} {cs : Array Value} {t : TypeId} {x : Nat} (h : b = a.alloc (.cells cs t)) (hx : a.heap.size = x) (j : Nat) (v : Value) (hv : cs[j]? = some v) : b.cell? ⟨x, j, none⟩ = some v := by
  rw [h, ← hx, World.cell?_alloc_new]; exact hv
set_option maxHeartbeats 1600000 in
theorem i_ReadActivity (s : ByteArray) (mm : Int) (w : World) (hs : s.size < 4294967281) (hm : w.cell? ⟨1, 0, none⟩ = some (.int .i64 mm)) (hK : KindsAt w) : Calls Tryd.prog 14 #[.string s] w (ActRet s w) := by
  have hm1 : ∀ o, (w.alloc o).cell? ⟨1, 0, none⟩ = some (.int .i64 mm) := fun o => keep_cell (below1 _ _) hm
  go_enter Tryd.func14, Tryd.ntmps14
  go_wp2_with fail
  refine (split_at 32 s mm _ hs (hm1 _)).mono ?_
  rintro e w1 ⟨L, hL, rfl, hw1⟩
  have hlen : L.length = (parts 32 s.data.toList).length := by rw [← hL, List.length_map]
  have hbA := below_eq hw1
  have b1 : Below w.heap.size w w1 := below_trans (below1 _ _) hbA
  have f0 : ∀ i, w1.frozen? ⟨w.heap.size, i, none⟩ = false := fun i => keep_frozen hbA (by simp) (by simp [go_sem])
  have hlt : w.heap.size < w1.heap.size := Nat.lt_of_lt_of_le (by simp) hbA.size
  have r0 : w1.cell? ⟨w.heap.size, 0, none⟩ = some (.int .i64 0) := keep_cell hbA (by simp [go_sem])
  have r1 : w1.cell? ⟨w.heap.size, 1, none⟩ = some (.int .i64 0) := keep_cell hbA (by simp [go_sem])
  have r2 : w1.cell? ⟨w.heap.size, 2, none⟩ = some (.string ⟨#[]⟩) := keep_cell hbA (by simp [go_sem])
  have r3 : w1.cell? ⟨w.heap.size, 3, none⟩ = some (.string ⟨#[]⟩) := keep_cell hbA (by simp [go_sem])
  have r4 : w1.cell? ⟨w.heap.size, 4, none⟩ = some (.string ⟨#[]⟩) := keep_cell hbA (by simp [go_sem])
  by_cases h4 : L.length = 4
  · obtain ⟨p0, p1, p2, p3, rfl⟩ := four_of h4
    have hz := part_size hL
    have y0 : p0.size ≤ s.size := hz p0 (by simp)
    have y1 : p1.size ≤ s.size := hz p1 (by simp)
    have y2 : p2.size ≤ s.size := hz p2 (by simp)
    have y3 : p3.size ≤ s.size := hz p3 (by simp)
    have c0 : w1.cell? ⟨w.heap.size + 1, 0, none⟩ = some (.string p0) := cells_eq hw1 (by simp) 0 _ rfl
    have c1 : w1.cell? ⟨w.heap.size + 1, 1, none⟩ = some (.string p1) := cells_eq hw1 (by simp) 1 _ rfl
    have c2 : w1.cell? ⟨w.heap.size + 1, 2, none⟩ = some (.string p2) := cells_eq hw1 (by simp) 2 _ rfl
    have c3 : w1.cell? ⟨w.heap.size + 1, 3, none⟩ = some (.string p3) := cells_eq hw1 (by simp) 3 _ rfl
    have hlt2 : w.heap.size + 1 < w1.heap.size := World.block_lt_of_cell? _ _ c0
    have HP : Hid (parts 32 s.data.toList = [p0.data.toList, p1.data.toList, p2.data.toList, p3.data.toList]) := hL.symm
    clear hw1 hL hlen hz h4 hm hm1 hbA
    go_wp2_with fail
    refine (i_ReadHandle p2 _ (by omega)).mono ?_
    rintro e w2 ⟨n, g, okh, rfl, hr, n1, n2, hb2⟩
    obtain ⟨hn, hg⟩ : n.size ≤ 140737488355328 ∧ g.size ≤ 140737488355328 := by omega
    have h3 : p3.size ≤ 140737488355328 := by omega
    obtain ⟨kv, hkv⟩ : ∃ kv, Hid (KindIs p0.data.toList kv) := kind_ex _
    obtain ⟨mv, hmv⟩ : ∃ mv, Hid (MarkIs p1.data.toList mv) := markIs_ex _
    have HR := Lib.hid hr
    obtain ⟨w3, hw3⟩ : ∃ w3, w3 = w2.alloc (.cells #[.string n, .string g] 28) := ⟨_, rfl⟩
    have hb3 := below_eq hw3
    have bA := below_trans hb2 hb3
    have d0 : w3.cell? ⟨w.heap.size + 1, 0, none⟩ = some (.string p0) := keep_cell bA c0
    have d1 : w3.cell? ⟨w.heap.size + 1, 1, none⟩ = some (.string p1) := keep_cell bA c1
    have d3 : w3.cell? ⟨w.heap.size + 1, 3, none⟩ = some (.string p3) := keep_cell bA c3
    have g0 : w3.cell? ⟨w2.heap.size, 0, none⟩ = some (.string n) := cells_eq hw3 rfl 0 _ rfl
    have g1 : w3.cell? ⟨w2.heap.size, 1, none⟩ = some (.string g) := cells_eq hw3 rfl 1 _ rfl
    have b3 := below_trans b1 bA
    have hK3 := hK.keep b3
    replace r0 := keep_cell bA r0
    replace r1 := keep_cell bA r1
    replace r2 := keep_cell bA r2
    replace r3 := keep_cell bA r3
    replace r4 := keep_cell bA r4
    replace f0 : ∀ i, w3.frozen? ⟨w.heap.size, i, none⟩ = false := fun i => keep_frozen bA hlt (f0 i)
    have hlt3 : w.heap.size < w3.heap.size := Nat.lt_of_lt_of_le hlt bA.size
    go_wp2_with fail
    rw [← hw3]
    clear hw3 hb3 bA b1 c0 c1 c2 c3 hlt hlt2 hb2 hr hK
    refine wp_region_typed_last 14 (fun iX wX vX => (([bIs (.slice (some ⟨w.heap.size + 1, 0, none⟩) 4 4), bIs (.pointer (some ⟨w.heap.size + 1, 0, none⟩)), bIs (.string p0), bIs (.int .i64 kv), bIs (.slice (some ⟨w.heap.size + 1, 0, none⟩) 4 4), bIs (.pointer (some ⟨w.heap.size + 1, 1, none⟩)), bIs (.string p1), bIs (.int .i64 mv), bIs (.agg #[.string n, .string g]), bIs (.slice (some ⟨w.heap.size + 1, 0, none⟩) 4 4), bIs (.pointer (some ⟨w.heap.size + 1, 3, none⟩)), bIs (.string p3), bIs (.agg #[.int .i64 kv, .int .i64 mv, .string n, .string g, .string p3]), bNew w3.heap.size [.int .i64 0, .int .i64 0, .string ⟨#[]⟩, .string ⟨#[]⟩, .string ⟨#[]⟩] 30] : List BTy).getD iX bAny).T wX vX) (fun _ => 0) (fun _ w' => Below w3.heap.size w3 w') (fun u u' => Below u.heap.size u u') 0 (by kernel_rfl) 39 rfl rfl (by kernel_rfl) (by kernel_rfl) (by kernel_rfl) (by decide) (Below.refl _ _).drew (bty_st _) ?_ ?_
    · refine ⟨?_, ?_, ?_, ?_, ?_, ?_, ?_, ?_, ?_, ?_, ?_, ?_, ?_, ?_, trivial⟩
      · intro B a' w' hB hW hF
        have h4 : a'.tmps[4]? = some (.slice (some ⟨w.heap.size + 1, 0, none⟩) 4 4) := (hF.at 4 (by kernel_rfl)).trans rfl
        refine wpOp_step rfl (fun K hK => ?_)
        go_simp
        exact hK _ _ ⟨_, rfl, Below.refl _ _, rfl, hW⟩
      · intro B a' w' hB hW hF
        have h21 : a'.tmps[21]? = some (.slice (some ⟨w.heap.size + 1, 0, none⟩) 4 4) := by obtain ⟨_, h, e⟩ := hF.val ⟨0, .data⟩ (by simp) rfl _ rfl; rw [h, show _ = (.slice (some ⟨w.heap.size + 1, 0, none⟩) 4 4 : Value) from e]
        refine wpOp_step rfl (fun K hK => ?_)
        go_simp
        exact hK _ _ ⟨_, rfl, Below.refl _ _, rfl, hW⟩
      · intro B a' w' hB hW hF
        have h22 : a'.tmps[22]? = some (.pointer (some ⟨w.heap.size + 1, 0, none⟩)) := by obtain ⟨_, h, e⟩ := hF.val ⟨1, .data⟩ (by simp) rfl _ rfl; rw [h, show _ = (.pointer (some ⟨w.heap.size + 1, 0, none⟩) : Value) from e]
        have e0 : w'.cell? ⟨w.heap.size + 1, 0, none⟩ = some (.string p0) := keep_cell hW d0
        refine wpOp_step rfl (fun K hK => ?_)
        go_simp
        exact hK _ _ ⟨_, rfl, Below.refl _ _, rfl, hW⟩
      · intro B a' w' hB hW hF
        have h23 : a'.tmps[23]? = some (.string p0) := by obtain ⟨_, h, e⟩ := hF.val ⟨2, .data⟩ (by simp) rfl _ rfl; rw [h, show _ = (.string p0 : Value) from e]
        refine wpOp_step rfl (fun K hK => ?_)
        go_simp
        refine (i_kindOf p0 _ (hK3.keep hW)).mono ?_
        rintro e w'' ⟨v2, rfl, hv2, rfl⟩
        rw [hv2.eq hkv.out]
        have hb : Below w'.heap.size w' w' := Below.refl _ _
        exact hK _ _ ⟨_, rfl, hb, rfl, below_trans hW hb⟩
      · intro B a' w' hB hW hF
        have h4 : a'.tmps[4]? = some (.slice (some ⟨w.heap.size + 1, 0, none⟩) 4 4) := (hF.at 4 (by kernel_rfl)).trans rfl
        refine wpOp_step rfl (fun K hK => ?_)
        go_simp
        exact hK _ _ ⟨_, rfl, Below.refl _ _, rfl, hW⟩
      · intro B a' w' hB hW hF
        have h25 : a'.tmps[25]? = some (.slice (some ⟨w.heap.size + 1, 0, none⟩) 4 4) := by obtain ⟨_, h, e⟩ := hF.val ⟨4, .data⟩ (by simp) rfl _ rfl; rw [h, show _ = (.slice (some ⟨w.heap.size + 1, 0, none⟩) 4 4 : Value) from e]
        refine wpOp_step rfl (fun K hK => ?_)
        go_simp
        exact hK _ _ ⟨_, rfl, Below.refl _ _, rfl, hW⟩
      · intro B a' w' hB hW hF
        have h26 : a'.tmps[26]? = some (.pointer (some ⟨w.heap.size + 1, 1, none⟩)) := by obtain ⟨_, h, e⟩ := hF.val ⟨5, .data⟩ (by simp) rfl _ rfl; rw [h, show _ = (.pointer (some ⟨w.heap.size + 1, 1, none⟩) : Value) from e]
        have e1 : w'.cell? ⟨w.heap.size + 1, 1, none⟩ = some (.string p1) := keep_cell hW d1
        refine wpOp_step rfl (fun K hK => ?_)
        go_simp
        exact hK _ _ ⟨_, rfl, Below.refl _ _, rfl, hW⟩
      · intro B a' w' hB hW hF
        have h27 : a'.tmps[27]? = some (.string p1) := by obtain ⟨_, h, e⟩ := hF.val ⟨6, .data⟩ (by simp) rfl _ rfl; rw [h, show _ = (.string p1 : Value) from e]
        refine wpOp_step rfl (fun K hK => ?_)
        go_simp
        refine (i_ReadMark p1 _ (by omega)).mono ?_
        rintro e w'' ⟨v2, rfl, hv2, rfl⟩
        rw [hv2.eq hmv.out]
        have hb : Below w'.heap.size w' w' := Below.refl _ _
        exact hK _ _ ⟨_, rfl, hb, rfl, below_trans hW hb⟩
      · intro B a' w' hB hW hF
        have h5 : a'.tmps[5]? = some (.pointer (some ⟨w2.heap.size, 0, none⟩)) := (hF.at 5 (by kernel_rfl)).trans rfl
        have e4 : w'.cell? ⟨w2.heap.size, 0, none⟩ = some (.string n) := keep_cell hW g0
        have e5 : w'.cell? ⟨w2.heap.size, 1, none⟩ = some (.string g) := keep_cell hW g1
        refine wpOp_step rfl (fun K hK => ?_)
        go_simp
        exact hK _ _ ⟨_, rfl, Below.refl _ _, rfl, hW⟩
      · intro B a' w' hB hW hF
        have h4 : a'.tmps[4]? = some (.slice (some ⟨w.heap.size + 1, 0, none⟩) 4 4) := (hF.at 4 (by kernel_rfl)).trans rfl
        refine wpOp_step rfl (fun K hK => ?_)
        go_simp
        exact hK _ _ ⟨_, rfl, Below.refl _ _, rfl, hW⟩
      · intro B a' w' hB hW hF
        have h30 : a'.tmps[30]? = some (.slice (some ⟨w.heap.size + 1, 0, none⟩) 4 4) := by obtain ⟨_, h, e⟩ := hF.val ⟨9, .data⟩ (by simp) rfl _ rfl; rw [h, show _ = (.slice (some ⟨w.heap.size + 1, 0, none⟩) 4 4 : Value) from e]
        refine wpOp_step rfl (fun K hK => ?_)
        go_simp
        exact hK _ _ ⟨_, rfl, Below.refl _ _, rfl, hW⟩
      · intro B a' w' hB hW hF
        have h31 : a'.tmps[31]? = some (.pointer (some ⟨w.heap.size + 1, 3, none⟩)) := by obtain ⟨_, h, e⟩ := hF.val ⟨10, .data⟩ (by simp) rfl _ rfl; rw [h, show _ = (.pointer (some ⟨w.heap.size + 1, 3, none⟩) : Value) from e]
        have e3 : w'.cell? ⟨w.heap.size + 1, 3, none⟩ = some (.string p3) := keep_cell hW d3
        refine wpOp_step rfl (fun K hK => ?_)
        go_simp
        exact hK _ _ ⟨_, rfl, Below.refl _ _, rfl, hW⟩
      · intro B a' w' hB hW hF
        have h24 : a'.tmps[24]? = some (.int .i64 kv) := by obtain ⟨_, h, e⟩ := hF.val ⟨3, .data⟩ (by simp) rfl _ rfl; rw [h, show _ = (.int .i64 kv : Value) from e]
        have h28 : a'.tmps[28]? = some (.int .i64 mv) := by obtain ⟨_, h, e⟩ := hF.val ⟨7, .data⟩ (by simp) rfl _ rfl; rw [h, show _ = (.int .i64 mv : Value) from e]
        have h29 : a'.tmps[29]? = some (.agg #[.string n, .string g]) := by obtain ⟨_, h, e⟩ := hF.val ⟨8, .data⟩ (by simp) rfl _ rfl; rw [h, show _ = (.agg #[.string n, .string g] : Value) from e]
        have h32 : a'.tmps[32]? = some (.string p3) := by obtain ⟨_, h, e⟩ := hF.val ⟨11, .data⟩ (by simp) rfl _ rfl; rw [h, show _ = (.string p3 : Value) from e]
        refine wpOp_step rfl (fun K hK => ?_)
        go_simp
        exact hK _ _ ⟨_, rfl, Below.refl _ _, rfl, hW⟩
      · intro B a' w' hB hW hF
        refine wpOp_step rfl (fun K hK => ?_)
        go_simp
        exact hK _ _ ⟨_, rfl, below1 _ _, ⟨_, rfl, hW.size, heap_alloc_new w' _⟩, below_trans hW (below1 _ _)⟩
    · intro a' w' hL hW
      have hd := hL.defers
      have hs := hL.size
      have h21 : a'.tmps[21]? = some (.slice (some ⟨w.heap.size + 1, 0, none⟩) 4 4) := by obtain ⟨_, h, e⟩ := hL.val 0 _ rfl; rw [h, show _ = (.slice (some ⟨w.heap.size + 1, 0, none⟩) 4 4 : Value) from e]
      have h22 : a'.tmps[22]? = some (.pointer (some ⟨w.heap.size + 1, 0, none⟩)) := by obtain ⟨_, h, e⟩ := hL.val 1 _ rfl; rw [h, show _ = (.pointer (some ⟨w.heap.size + 1, 0, none⟩) : Value) from e]
      have h23 : a'.tmps[23]? = some (.string p0) := by obtain ⟨_, h, e⟩ := hL.val 2 _ rfl; rw [h, show _ = (.string p0 : Value) from e]
      have h24 : a'.tmps[24]? = some (.int .i64 kv) := by obtain ⟨_, h, e⟩ := hL.val 3 _ rfl; rw [h, show _ = (.int .i64 kv : Value) from e]
      have h25 : a'.tmps[25]? = some (.slice (some ⟨w.heap.size + 1, 0, none⟩) 4 4) := by obtain ⟨_, h, e⟩ := hL.val 4 _ rfl; rw [h, show _ = (.slice (some ⟨w.heap.size + 1, 0, none⟩) 4 4 : Value) from e]
      have h26 : a'.tmps[26]? = some (.pointer (some ⟨w.heap.size + 1, 1, none⟩)) := by obtain ⟨_, h, e⟩ := hL.val 5 _ rfl; rw [h, show _ = (.pointer (some ⟨w.heap.size + 1, 1, none⟩) : Value) from e]
      have h27 : a'.tmps[27]? = some (.string p1) := by obtain ⟨_, h, e⟩ := hL.val 6 _ rfl; rw [h, show _ = (.string p1 : Value) from e]
      have h28 : a'.tmps[28]? = some (.int .i64 mv) := by obtain ⟨_, h, e⟩ := hL.val 7 _ rfl; rw [h, show _ = (.int .i64 mv : Value) from e]
      have h29 : a'.tmps[29]? = some (.agg #[.string n, .string g]) := by obtain ⟨_, h, e⟩ := hL.val 8 _ rfl; rw [h, show _ = (.agg #[.string n, .string g] : Value) from e]
      have h30 : a'.tmps[30]? = some (.slice (some ⟨w.heap.size + 1, 0, none⟩) 4 4) := by obtain ⟨_, h, e⟩ := hL.val 9 _ rfl; rw [h, show _ = (.slice (some ⟨w.heap.size + 1, 0, none⟩) 4 4 : Value) from e]
      have h31 : a'.tmps[31]? = some (.pointer (some ⟨w.heap.size + 1, 3, none⟩)) := by obtain ⟨_, h, e⟩ := hL.val 10 _ rfl; rw [h, show _ = (.pointer (some ⟨w.heap.size + 1, 3, none⟩) : Value) from e]
      have h32 : a'.tmps[32]? = some (.string p3) := by obtain ⟨_, h, e⟩ := hL.val 11 _ rfl; rw [h, show _ = (.string p3 : Value) from e]
      have h33 : a'.tmps[33]? = some (.agg #[.int .i64 kv, .int .i64 mv, .string n, .string g, .string p3]) := by obtain ⟨_, h, e⟩ := hL.val 12 _ rfl; rw [h, show _ = (.agg #[.int .i64 kv, .int .i64 mv, .string n, .string g, .string p3] : Value) from e]
      obtain ⟨_, h7, g7, rfl, q7, b7⟩ := hL.val 13 _ rfl
      have hlit := act_lit (l := [_, _, _, _, _, _, _, _, _, _, _, _, _, _, _, _, _, _, _, _, _, _, _, _, _, _, _, _, _, _, _, _, _, _, _, _, _, _, _]) (hd.trans rfl) (by rw [hs]; rfl) (AllAt.cons ((hL.at 0 (by kernel_rfl)).trans rfl) (AllAt.cons ((hL.at 1 (by kernel_rfl)).trans rfl) (AllAt.cons ((hL.at 2 (by kernel_rfl)).trans rfl) (AllAt.cons ((hL.at 3 (by kernel_rfl)).trans rfl) (AllAt.cons ((hL.at 4 (by kernel_rfl)).trans rfl) (AllAt.cons ((hL.at 5 (by kernel_rfl)).trans rfl) (AllAt.cons ((hL.at 6 (by kernel_rfl)).trans rfl) (AllAt.cons h7 (AllAt.cons ((hL.at 8 (by kernel_rfl)).trans rfl) (AllAt.cons ((hL.at 9 (by kernel_rfl)).trans rfl) (AllAt.cons ((hL.at 10 (by kernel_rfl)).trans rfl) (AllAt.cons ((hL.at 11 (by kernel_rfl)).trans rfl) (AllAt.cons ((hL.at 12 (by kernel_rfl)).trans rfl) (AllAt.cons ((hL.at 13 (by kernel_rfl)).trans rfl) (AllAt.cons ((hL.at 14 (by kernel_rfl)).trans rfl) (AllAt.cons ((hL.at 15 (by kernel_rfl)).trans rfl) (AllAt.cons ((hL.at 16 (by kernel_rfl)).trans rfl) (AllAt.cons ((hL.at 17 (by kernel_rfl)).trans rfl) (AllAt.cons ((hL.at 18 (by kernel_rfl)).trans rfl) (AllAt.cons ((hL.at 19 (by kernel_rfl)).trans rfl) (AllAt.cons ((hL.at 20 (by kernel_rfl)).trans rfl) (AllAt.cons h21 (AllAt.cons h22 (AllAt.cons h23 (AllAt.cons h24 (AllAt.cons h25 (AllAt.cons h26 (AllAt.cons h27 (AllAt.cons h28 (AllAt.cons h29 (AllAt.cons h30 (AllAt.cons h31 (AllAt.cons h32 (AllAt.cons h33 (AllAt.cons ((hL.at 34 (by kernel_rfl)).trans rfl) (AllAt.cons ((hL.at 35 (by kernel_rfl)).trans rfl) (AllAt.cons ((hL.at 36 (by kernel_rfl)).trans rfl) (AllAt.cons ((hL.at 37 (by kernel_rfl)).trans rfl) (AllAt.cons ((hL.at 38 (by kernel_rfl)).trans rfl) AllAt.nil)))))))))))))))))))))))))))))))))))))))
      clear hL hd hs h7 h21 h22 h23 h24 h25 h26 h27 h28 h29 h30 h31 h32 h33
      subst hlit
      dsimp only [List.getElem_toArray, List.getElem_cons_zero, List.getElem_cons_succ]
      have x0 : w'.cell? ⟨g7, 0, none⟩ = some (.int .i64 0) := by simp [World.cell?, b7]
      have x1 : w'.cell? ⟨g7, 1, none⟩ = some (.int .i64 0) := by simp [World.cell?, b7]
      have x2 : w'.cell? ⟨g7, 2, none⟩ = some (.string ⟨#[]⟩) := by simp [World.cell?, b7]
      have x3 : w'.cell? ⟨g7, 3, none⟩ = some (.string ⟨#[]⟩) := by simp [World.cell?, b7]
      have x4 : w'.cell? ⟨g7, 4, none⟩ = some (.string ⟨#[]⟩) := by simp [World.cell?, b7]
      have xf : ∀ i, w'.frozen? ⟨g7, i, none⟩ = false := fun i => by simp [World.frozen?, b7]
      have hg7 : g7 < w'.heap.size := World.block_lt_of_cell? _ _ x0
      have hne : g7 ≠ w.heap.size := by omega
      have X := set5 (.int .i64 kv) (.int .i64 mv) (.string n) (.string g) (.string p3) x0 x1 x2 x3 x4
      replace r0 := keep_cell hW r0
      replace r1 := keep_cell hW r1
      replace r2 := keep_cell hW r2
      replace r3 := keep_cell hW r3
      replace r4 := keep_cell hW r4
      have f4 : ∀ i, w'.frozen? ⟨w.heap.size, i, none⟩ = false := fun i => keep_frozen hW hlt3 (f0 i)
      have b4 := below_trans b3 hW
      refine wpOp_step rfl (fun K hK => ?_)
      go_simp
      refine hK _ _ ?_
      clear b7 hK
      obtain ⟨w5, hw5⟩ : ∃ w5, w5 = (((((w'.setCell ⟨g7, 0, none⟩ (.int .i64 kv)).setCell ⟨g7, 1, none⟩ (.int .i64 mv)).setCell ⟨g7, 2, none⟩ (.string n)).setCell ⟨g7, 3, none⟩ (.string g)).setCell ⟨g7, 4, none⟩ (.string p3)) := ⟨_, rfl⟩
      obtain ⟨X0, X1, X2, X3, X4⟩ := X
      rw [← hw5] at X0 X1 X2 X3 X4 ⊢
      have s0 : w5.cell? ⟨w.heap.size, 0, none⟩ = some (.int .i64 0) := by rw [hw5]; exact far hne (far hne (far hne (far hne (far hne r0))))
      have s1 : w5.cell? ⟨w.heap.size, 1, none⟩ = some (.int .i64 0) := by rw [hw5]; exact far hne (far hne (far hne (far hne (far hne r1))))
      have s2 : w5.cell? ⟨w.heap.size, 2, none⟩ = some (.string ⟨#[]⟩) := by rw [hw5]; exact far hne (far hne (far hne (far hne (far hne r2))))
      have s3 : w5.cell? ⟨w.heap.size, 3, none⟩ = some (.string ⟨#[]⟩) := by rw [hw5]; exact far hne (far hne (far hne (far hne (far hne r3))))
      have s4 : w5.cell? ⟨w.heap.size, 4, none⟩ = some (.string ⟨#[]⟩) := by rw [hw5]; exact far hne (far hne (far hne (far hne (far hne r4))))
      have f5 : ∀ i, w5.frozen? ⟨w.heap.size, i, none⟩ = false := fun i => by rw [hw5]; simpa using f4 i
      have b5 : Below w.heap.size w w5 := by rw [hw5]; repeat (first | (with_reducible exact b4) | (with_reducible refine Below.setCell ?_ (by simp only; omega) _))
      have l5 : w.heap.size < w5.heap.size := World.block_lt_of_cell? _ _ s0
      clear hw5 r0 r1 r2 r3 r4 x0 x1 x2 x3 x4 xf f0 f4 b4 b3 hW hK3 d0 d1 d3 g0 g1 hne hg7 q7 hlt3
      cases hB : actB kv mv n g p3
      · have HN := Lib.hid (act_no HP.out hkv.out hmv.out HR.out (.inl hB))
        have HB := Lib.hid hB
        clear hB HP hkv hmv HR
        go_wp2_with fail
        refine (i_ActivityValid kv mv n g p3 _ hn hg h3).mono ?_
        rintro x w6 ⟨rfl, hb6⟩
        rw [HB.out]
        replace s0 := keep_cell hb6 s0
        replace s1 := keep_cell hb6 s1
        replace s2 := keep_cell hb6 s2
        replace s3 := keep_cell hb6 s3
        replace s4 := keep_cell hb6 s4
        have f6 : ∀ i, w6.frozen? ⟨w.heap.size, i, none⟩ = false := fun i => keep_frozen hb6 l5 (f5 i)
        have l6 : w.heap.size < w6.heap.size := World.block_lt_of_cell? _ _ s0
        have b6 := below_trans b5 hb6
        have HP := Lib.hid (set5 (.int .i64 0) (.int .i64 0) (.string ⟨#[]⟩) (.string ⟨#[]⟩) (.string ⟨#[]⟩) s0 s1 s2 s3 s4)
        clear X0 X1 X2 X3 X4 f5 b5 hb6
        go_wp2
        clear s0 s1 s2 s3 s4 f6
        obtain ⟨P0, P1, P2, P3, P4⟩ := HP.out
        clear HP
        exact bodyPost_ret (resActB Tryd.results14 _ _ rfl P0 P1 P2 P3 P4) rfl (ActRet.no HN.out (by repeat (first | (with_reducible exact b6) | (with_reducible refine Below.setCell ?_ (by simp only; omega) _) | (with_reducible refine Below.alloc ?_ (by have := b6.size; simp; omega) _))))
      · have HY := Lib.hid (act_yes HP.out hkv.out hmv.out HR.out hB).2
        have HB := Lib.hid hB
        clear hB HP hkv hmv HR
        go_wp2_with fail
        refine (i_ActivityValid kv mv n g p3 _ hn hg h3).mono ?_
        rintro x w6 ⟨rfl, hb6⟩
        rw [HB.out]
        replace s0 := keep_cell hb6 s0
        replace s1 := keep_cell hb6 s1
        replace s2 := keep_cell hb6 s2
        replace s3 := keep_cell hb6 s3
        replace s4 := keep_cell hb6 s4
        replace X0 := keep_cell hb6 X0
        replace X1 := keep_cell hb6 X1
        replace X2 := keep_cell hb6 X2
        replace X3 := keep_cell hb6 X3
        replace X4 := keep_cell hb6 X4
        have f6 : ∀ i, w6.frozen? ⟨w.heap.size, i, none⟩ = false := fun i => keep_frozen hb6 l5 (f5 i)
        have l6 : w.heap.size < w6.heap.size := World.block_lt_of_cell? _ _ s0
        have b6 := below_trans b5 hb6
        have HP := Lib.hid (set5 (.int .i64 kv) (.int .i64 mv) (.string n) (.string g) (.string p3) s0 s1 s2 s3 s4)
        clear f5 b5 hb6
        go_wp2
        clear s0 s1 s2 s3 s4 f6 X0 X1 X2 X3 X4
        obtain ⟨P0, P1, P2, P3, P4⟩ := HP.out
        clear HP
        exact bodyPost_ret (resActB Tryd.results14 _ _ rfl P0 P1 P2 P3 P4) rfl (ActRet.yes HY.out (by repeat (first | (with_reducible exact b6) | (with_reducible refine Below.setCell ?_ (by simp only; omega) _) | (with_reducible refine Below.alloc ?_ (by have := b6.size; simp; omega) _))))
  · have HN : Hid (∀ k m n g t, ¬ ActIs s k m n g t) := act_four (by rw [← hlen]; exact h4)
    have d1 : ((L.length : Int) == 4) = false := by rw [beq_eq_false_iff_ne]; omega
    have d2 : (L.length == 4) = false := by rw [beq_eq_false_iff_ne]; exact h4
    have HP := Lib.hid (set5 (.int .i64 0) (.int .i64 0) (.string ⟨#[]⟩) (.string ⟨#[]⟩) (.string ⟨#[]⟩) r0 r1 r2 r3 r4)
    clear hw1 hL hlen hm hm1 hbA
    go_wp2
    clear r0 r1 r2 r3 r4 f0
    obtain ⟨P0, P1, P2, P3, P4⟩ := HP.out
    clear HP
    exact bodyPost_ret (resActB Tryd.results14 _ _ rfl P0 P1 P2 P3 P4) rfl (ActRet.no HN.out (by repeat (first | (with_reducible exact b1) | (with_reducible refine Below.setCell ?_ (by simp only; omega) _) | (with_reducible refine Below.alloc ?_ (by have := b1.size; simp; omega) _))))
end Go.Proofs.YtackffegdmohiaaDoor
