/- The reader of a code: what pick returns. No condition. -/
import Derived.Test.YtackffegdmohiaaDoorRows
import Derived.Test.YtackffegdmohiaaDoorMem
import Derived.WalkKit
import Derived.WalkSpells
import Derived.Deep.QuietTactic
import Derived.BigQuiet
namespace Go.Proofs.YtackffegdmohiaaDoor
open Go.RowKit

/-- The bytes that the reader reads: none, or at most 2000 of them in another block. -/
def CodeAt (w : World) (rb : Nat) (cv : Value) (n : Nat) : Prop :=
  n ≤ 2000 ∧ ∃ a cap, cv = .slice a n cap ∧ n ≤ cap ∧ cap ≤ maxLen ∧ (n = 0 ∨ ∃ b off, a = some ⟨b, off, none⟩ ∧ b < rb ∧ b < w.heap.size ∧ ∀ j, j < n → ∃ c : Nat, c ≤ 255 ∧ w.cell? ⟨b, off + j, none⟩ = some (.int .u8 (c : Int)))
/-- The reader lies in block rb; it has been asked at most B times. -/
def Rd (w : World) (rb B : Nat) : Prop := ∃ (cv : Value) (n p : Nat), p ≤ B ∧ w.heap[rb]? = some (.cells #[cv, .int .i64 (p : Int)] 66 (0, 0)) ∧ CodeAt w rb cv n
/-- The world behind: blocks that were there stay, but for those of X. -/
structure Ex (X : Nat → Prop) (w w' : World) : Prop where
  os : w'.os = w.os
  tape : w'.tape = w.tape
  output : w'.output = w.output
  size : w.heap.size ≤ w'.heap.size
  block : ∀ k, k < w.heap.size → ¬ X k → w'.heap[k]? = w.heap[k]?
theorem Ex.refl (X : Nat → Prop) (w : World) : Ex X w w := ⟨rfl, rfl, rfl, Nat.le_refl _, fun _ _ _ => rfl⟩
theorem Ex.trans {X : Nat → Prop} {a b c : World} (h : Ex X a b) (k : Ex X b c) : Ex X a c :=
  ⟨k.os.trans h.os, k.tape.trans h.tape, k.output.trans h.output, Nat.le_trans h.size k.size, fun i hi hr => (k.block i (Nat.lt_of_lt_of_le hi h.size) hr).trans (h.block i hi hr)⟩
theorem Ex.of_below {X : Nat → Prop} {w w' : World} (h : Below w.heap.size w w') : Ex X w w' := ⟨h.os, h.tape, h.output, h.size, fun i hi _ => h.block i hi⟩
theorem Ex.alloc {X : Nat → Prop} {w w' : World} (h : Ex X w w') (o : Obj) : Ex X w (w'.alloc o) := h.trans (Ex.of_below (below1 _ _))
theorem Ex.drew {X : Nat → Prop} {w w' : World} (h : Ex X w w') : Ex X w w'.drew := ⟨h.os, h.tape, h.output, h.size, h.block⟩
theorem Ex.drewN {X : Nat → Prop} {w w' : World} (h : Ex X w w') (n : Nat) : Ex X w (w'.drewN n) := ⟨h.os, h.tape, h.output, h.size, h.block⟩
theorem Ex.setCell {X : Nat → Prop} {w w' : World} (h : Ex X w w') {a : Addr} (ha : X a.block) (v : Value) : Ex X w (w'.setCell a v) :=
  h.trans ⟨rfl, rfl, rfl, by simp, fun k _ hne => heap_setCell_other w' a k _ (fun e => hne (by rw [e]; exact ha))⟩
theorem Ex.weaken {X Y : Nat → Prop} {w w' : World} (h : Ex X w w') (hXY : ∀ k, X k → Y k) : Ex Y w w' := ⟨h.os, h.tape, h.output, h.size, fun k hk hy => h.block k hk fun hx => hy (hXY k hx)⟩
theorem Ex.cell {X : Nat → Prop} {w w' : World} (h : Ex X w w') {p : Addr} {v : Value} (hp : ¬ X p.block) (hc : w.cell? p = some v) : w'.cell? p = some v :=
  (World.cell?_of_block (h.block p.block (World.block_lt_of_cell? w p hc) hp)).trans hc
/-- Writes at blocks from B on, and new blocks, leave all below B. -/
theorem Ex.below {X : Nat → Prop} {w w' : World} (h : Ex X w w') {B : Nat} (hB : B ≤ w.heap.size) (hX : ∀ k, X k → B ≤ k) : Below B w w' :=
  ⟨h.os, h.tape, h.output, h.size, fun k hk => h.block k (by omega) (fun hx => by have := hX k hx; omega)⟩
theorem CodeAt.ex {rb : Nat} {X : Nat → Prop} {w w' : World} {cv : Value} {n : Nat} (h : CodeAt w rb cv n) (hX : ∀ k, X k → k = rb ∨ w.heap.size ≤ k) (hx : Ex X w w') : CodeAt w' rb cv n := by
  obtain ⟨h1, a, cap, h2, h3, h4, h5⟩ := h
  refine ⟨h1, a, cap, h2, h3, h4, ?_⟩
  rcases h5 with h5 | ⟨b, off, h6, h7, h8, h9⟩
  · exact .inl h5
  · exact .inr ⟨b, off, h6, h7, Nat.lt_of_lt_of_le h8 hx.size, fun j hj => by obtain ⟨c, c1, c2⟩ := h9 j hj; exact ⟨c, c1, hx.cell (fun hh => by rcases hX _ hh with e | e <;> first | exact Nat.ne_of_lt h7 e | (exact absurd h8 (by simp only at *; omega))) c2⟩⟩
/-- What only makes new blocks leaves the reader as it was. -/
theorem Rd.below {rb B : Nat} {w w' : World} (h : Rd w rb B) (hb : Below w.heap.size w w') : Rd w' rb B := by
  obtain ⟨cv, n, p, h1, h2, h3⟩ := h
  exact ⟨cv, n, p, h1, by rw [hb.block rb (Array.getElem?_eq_some_iff.1 h2).1]; exact h2, h3.ex (X := fun _ => False) (fun k hk => hk.elim) (Ex.of_below hb)⟩
theorem Rd.lt {rb B : Nat} {w : World} (h : Rd w rb B) : rb < w.heap.size := by
  obtain ⟨cv, n, p, h1, h2, h3⟩ := h
  exact (Array.getElem?_eq_some_iff.1 h2).1
theorem Rd.drew {rb B : Nat} {w : World} (h : Rd w rb B) : Rd w.drew rb B := h.below ⟨rfl, rfl, rfl, Nat.le_refl _, fun _ _ => rfl⟩
theorem Rd.drewN {rb B : Nat} {w : World} (h : Rd w rb B) (n : Nat) : Rd (w.drewN n) rb B := h.below ⟨rfl, rfl, rfl, Nat.le_refl _, fun _ _ => rfl⟩
theorem Rd.mono {rb B B' : Nat} {w : World} (h : Rd w rb B) (hB : B ≤ B') : Rd w rb B' := by
  obtain ⟨cv, n, p, h1, h2⟩ := h
  exact ⟨cv, n, p, by omega, h2⟩

/-- A row from rb on that is written is not what the reader reads. -/
theorem Rd.grown {w w' : World} {rb B : Nat} {row : Option Nat} (hR : Rd w rb B) (hg : w.grownBy w' row) (hr : ∀ g, row = some g → rb < g) : Rd w' rb B := by
  obtain ⟨cv, n, p, h1, h2, h4, a, cap, rfl, h5, h6, h7⟩ := hR
  have hlt := (Array.getElem?_eq_some_iff.1 h2).1
  refine ⟨_, n, p, h1, (hg.block rb hlt (fun e => by have := hr rb e.symm; omega)).trans h2, h4, a, cap, rfl, h5, h6, ?_⟩
  rcases h7 with h7 | ⟨b, off, rfl, h8, h9, h10⟩
  · exact .inl h7
  · exact .inr ⟨b, off, rfl, h8, Nat.lt_of_lt_of_le h9 hg.size, fun j hj => by
      obtain ⟨c, c1, c2⟩ := h10 j hj
      exact ⟨c, c1, hg.cell c2 (fun e => by have := hr b e.symm; omega)⟩⟩

theorem xor_nonneg {x y : Int} (hx : 0 ≤ x) (hx2 : x < 9223372036854775808) (hy : 0 ≤ y) (hy2 : y < 9223372036854775808) : 0 ≤ bits .xor .i64 x y := by
  obtain ⟨a, rfl⟩ := Int.eq_ofNat_of_zero_le hx
  obtain ⟨b, rfl⟩ := Int.eq_ofNat_of_zero_le hy
  have hlt : a ^^^ b < 2 ^ 63 := Nat.xor_lt_two_pow (by omega) (by omega)
  have e : (BitVec.ofInt 64 (a : Int) ^^^ BitVec.ofInt 64 (b : Int)).toNat = a ^^^ b := by
    have h1 : a % 18446744073709551616 = a := Nat.mod_eq_of_lt (by omega)
    have h2 : b % 18446744073709551616 = b := Nat.mod_eq_of_lt (by omega)
    simp [BitVec.toNat_xor, h1, h2]
  have e2 : bits .xor .i64 (a : Int) (b : Int) = IntKind.i64.wrap ((BitVec.ofInt 64 (a : Int) ^^^ BitVec.ofInt 64 (b : Int)).toNat : Int) := rfl
  rw [e2, e, IntWalk.i64_in _ (by omega)]
  omega
theorem tmod_pick {x n : Int} (hx : 0 ≤ x) (hn : 1 ≤ n) : 0 ≤ x.tmod n ∧ x.tmod n < n := by
  rw [Int.tmod_eq_emod_of_nonneg hx]
  exact ⟨Int.emod_nonneg _ (by omega), Int.emod_lt_of_pos _ (by omega)⟩
def PickRet (n : Int) (rb B : Nat) (w : World) (e : Ending) (w' : World) : Prop :=
  ∃ k : Int, e = .returned (.int .i64 k) ∧ (0 ≤ k ∧ (1 ≤ n → k < n) ∧ (n < 1 → k = 0)) ∧ Rd w' rb (B + 1) ∧ Ex (· = rb) w w'
theorem PickRet.mk {n k : Int} {rb B : Nat} {w w' : World} (h : 0 ≤ k ∧ (1 ≤ n → k < n) ∧ (n < 1 → k = 0)) (hR : Rd w' rb (B + 1)) (hE : Ex (· = rb) w w') : PickRet n rb B w (.returned (.int .i64 k)) w' := ⟨k, rfl, h, hR, hE⟩

set_option maxHeartbeats 1000000 in
theorem pick_any (rb B : Nat) (n : Int) (w : World) (h : Rd w rb B) (hB : B ≤ 1000000) (hn : n ≤ 1000000) :
    Calls Tryd.prog 42 #[.pointer (some ⟨rb, 0, none⟩), .int .i64 n] w (PickRet n rb B w) := by
  obtain ⟨cv, m, p, hp, hr, hc⟩ := h
  have h0 : w.cell? ⟨rb, 0, none⟩ = some cv := by simp [World.cell?, hr]
  have h1 : w.cell? ⟨rb, 1, none⟩ = some (.int .i64 (p : Int)) := by simp [World.cell?, hr]
  have hf : w.frozen? ⟨rb, 1, none⟩ = false := by simp [World.frozen?, hr]
  have hE : Ex (· = rb) w (w.setCell ⟨rb, 1, none⟩ (.int .i64 ((p : Int) + 1))) :=
    Ex.setCell (X := (· = rb)) (a := ⟨rb, 1, none⟩) (Ex.refl _ w) rfl _
  have hR : Hid (Rd (w.setCell ⟨rb, 1, none⟩ (.int .i64 ((p : Int) + 1))) rb (B + 1)) :=
    ⟨cv, m, p + 1, by omega, by rw [heap_setCell_same w rb 1 _ _ _ hr]; simp, hc.ex (fun k hk => .inl hk) hE⟩
  obtain ⟨hm, a, cap, rfl, hcap, hmax, hcode⟩ := hc
  by_cases hn1 : n < 1
  · clear hcode hr
    go_enter Tryd.func42, Tryd.ntmps42
    go_wp2
    go_ret
    exact PickRet.mk ⟨by omega, by omega, by omega⟩ hR.out hE
  · rcases hcode with rfl | ⟨b, off, rfl, hne, hlt, hcell⟩
    · clear hr
      go_enter Tryd.func42, Tryd.ntmps42
      go_wp2
      go_ret
      exact PickRet.mk ⟨by omega, by omega, by omega⟩ hR.out hE
    · replace hne := Nat.ne_of_lt hne
      by_cases hm0 : m = 0
      · subst hm0
        clear hr hcell
        go_enter Tryd.func42, Tryd.ntmps42
        go_wp2
        go_ret
        exact PickRet.mk ⟨by omega, by omega, by omega⟩ hR.out hE
      · by_cases hpm : p < m
        · obtain ⟨c, hc1, hc2⟩ := hcell p hpm
          have hc3 : (w.setCell ⟨rb, 1, none⟩ (.int .i64 ((p : Int) + 1))).cell? ⟨b, off + p, none⟩ = some (.int .u8 (c : Int)) := hE.cell hne hc2
          have q0 : 0 ≤ (c : Int) % n := Int.emod_nonneg _ (by omega)
          have q1 : (c : Int) % n < n := Int.emod_lt_of_pos _ (by omega)
          clear hr hcell
          go_enter Tryd.func42, Tryd.ntmps42
          go_wp2
          all_goals (go_ret; exact PickRet.mk ⟨by omega, by omega, by omega⟩ hR.out hE)
        · obtain ⟨c, hc1, hc2⟩ := hcell (p % m) (Nat.mod_lt _ (by omega))
          obtain ⟨d, hd1, hd2⟩ := hcell ((p * 7 + 3) % m) (Nat.mod_lt _ (by omega))
          have hc3 : (w.setCell ⟨rb, 1, none⟩ (.int .i64 ((p : Int) + 1))).cell? ⟨b, off + p % m, none⟩ = some (.int .u8 (c : Int)) := hE.cell hne hc2
          have hd3 : (w.setCell ⟨rb, 1, none⟩ (.int .i64 ((p : Int) + 1))).cell? ⟨b, off + (p * 7 + 3) % m, none⟩ = some (.int .u8 (d : Int)) := hE.cell hne hd2
          have m1 : (0 : Int) ≤ (p : Int) % (m : Int) := Int.emod_nonneg _ (by omega)
          have m2 : (p : Int) % (m : Int) < (m : Int) := Int.emod_lt_of_pos _ (by omega)
          have m3 : (0 : Int) ≤ ((p : Int) * 7 + 3) % (m : Int) := Int.emod_nonneg _ (by omega)
          have m4 : ((p : Int) * 7 + 3) % (m : Int) < (m : Int) := Int.emod_lt_of_pos _ (by omega)
          have m5 : (0 : Int) ≤ (p : Int) / (m : Int) := Int.ediv_nonneg (by omega) (by omega)
          have m6 : (p : Int) / (m : Int) ≤ (p : Int) := Int.ediv_le_self _ (by omega)
          clear hr hcell
          go_enter Tryd.func42, Tryd.ntmps42
          go_wp2
          go_quiet (fail)
          go_wp2
          go_ret
          have X := xor_nonneg (x := (c : Int) * 131 + (d : Int) * 1117 + (p : Int) * 29 + (p : Int) / (m : Int) * 53) (y := ((c : Int) * 131 + (d : Int) * 1117 + (p : Int) * 29 + (p : Int) / (m : Int) * 53) / 64) (by omega) (by omega) (by omega) (by omega)
          have T := tmod_pick X (show 1 ≤ n by omega)
          exact PickRet.mk ⟨T.1, fun _ => T.2, fun h => by omega⟩ (hR.out.drewN nq) (hE.drewN nq)
end Go.Proofs.YtackffegdmohiaaDoor
