/- The walks of the reference's drawing functions: the reader, numbers below a modulus, texts. No condition. -/
import Derived.Test.YtackffegdmohiaaDoorTy
import Derived.Test.YtackffegdmohiaaDoorTypes
import Derived.Deep.Cut
namespace Go.Proofs.YtackffegdmohiaaDoor
open Go.RowKit

/-- What l20Open leaves: a reader in a new block. -/
def OpenRet (w : World) (e : Ending) (w' : World) : Prop := e = .returned (.pointer (some ⟨w.heap.size, 0, none⟩)) ∧ Rd w' w.heap.size 0 ∧ Below w.heap.size w w'
set_option maxHeartbeats 400000 in
theorem open_any (v : Value) (l : List UInt8) (w : World) (h : Sl byteS w v l) :
    Calls Tryd.prog 28 #[v] w (OpenRet w) := by
  obtain ⟨a, cap, rfl, h1, h2, h3⟩ := h
  have code : ∀ (n c : Nat), n ≤ 2000 → n ≤ l.length → n ≤ c → c ≤ maxLen → CodeAt (w.alloc (.cells #[.slice a n c, .int .i64 0] 66)) w.heap.size (.slice a n c) n := by
    intro n c hn hl hc hm
    refine ⟨hn, a, c, rfl, hc, hm, ?_⟩
    rcases h3 with rfl | ⟨b, off, rfl, hlt, hcell⟩
    · left; simpa using hl
    · right
      refine ⟨b, off, rfl, by omega, by simp; omega, fun j hj => ⟨(l[j]'(by omega)).toNat, by have := (l[j]'(by omega)).toNat_lt; omega, ?_⟩⟩
      have e := byteS.cells_at l j (by omega) 0 (by decide)
      have e2 : (byteS.cells l)[j]? = some (.int .u8 ((l[j]'(by omega)).toNat : Int)) := by simpa [byteS] using e
      exact keep_cell (below1 _ _) (hcell j _ e2)
  by_cases hl : l.length ≤ 2000
  · go_enter Tryd.func28, Tryd.ntmps28
    go_wp2
    go_ret
    exact ⟨rfl, ⟨_, l.length, 0, Nat.le_refl _, heap_alloc_new w _, code _ _ hl (Nat.le_refl _) h1 h2⟩, below1 _ _⟩
  · go_enter Tryd.func28, Tryd.ntmps28
    go_wp2
    go_ret
    exact ⟨rfl, ⟨_, 2000, 0, Nat.le_refl _, heap_alloc_new w _, code _ _ (Nat.le_refl _) (by omega) (by omega) h2⟩, below1 _ _⟩

set_option maxHeartbeats 400000 in
theorem odd_any (rb B0 : Nat) (n : Int) (w : World) (hR : Rd w rb B0) (hB : B0 ≤ 999000) (hn : n ≤ 1000000) (hn0 : -1000000 ≤ n) :
    Calls Tryd.prog 41 #[.pointer (some ⟨rb, 0, none⟩), .int .i64 n] w (DrawRet (sBool (· = rb)).T rb (B0 + 1) w) := by
  by_cases h0 : 0 < n
  · go_enter Tryd.func41, Tryd.ntmps41
    go_wp2_with fail
    refine (pick_any rb B0 n _ hR (by omega) hn).mono ?_
    rintro e w1 ⟨k, rfl, hk, hR1, hE1⟩
    go_wp2_with fail
    go_ret
    exact DrawRet.mk ⟨_, rfl⟩ hR1 hE1
  · go_enter Tryd.func41, Tryd.ntmps41
    go_wp2_with fail
    go_ret
    exact DrawRet.mk ⟨_, rfl⟩ (hR.mono (by omega)) (Ex.refl _ _)

theorem below_open {w w1 w2 : World} (hB : Below w.heap.size w w1) (hx : Ex (· = w.heap.size) w1 w2) : Below w.heap.size w w2 :=
  hB.trans (hx.below hB.size (fun _ hk => Nat.le_of_eq hk.symm))
end Go.Proofs.YtackffegdmohiaaDoor
