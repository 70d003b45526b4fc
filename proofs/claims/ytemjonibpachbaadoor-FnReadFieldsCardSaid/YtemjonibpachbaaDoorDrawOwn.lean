/- Plain facts on rows of the call's own while a reader is asked. No condition. -/
import Derived.Test.YtemjonibpachbaaDoorTy
import Derived.Test.YtemjonibpachbaaDoorMem
namespace Go.Proofs.YtemjonibpachbaaDoor
open Go.RowKit

theorem own_ex {w w' : World} {base rb : Nat} {e : TypeId} {s : Nat} {v : Value} {n : Nat} {xs : List Value} (h : w.ownsRow base e s v n xs) (hrb : rb < base) (hE : Ex (· = rb) w w') : w'.ownsRow base e s v n xs :=
  h.kept (row := some rb) ⟨hE.os, hE.tape, hE.output, hE.size, fun i hi hne => hE.block i hi (fun e => hne (by rw [e]))⟩ (by
    cases hv : v.ownBlock with
    | none => exact .inl rfl
    | some g => exact .inr (fun e2 => by have h1 := (h.lt g hv).1; cases e2; omega))
theorem ex_grown {w w0 w' : World} {rb : Nat} {row : Option Nat} (hE : Ex (· = rb) w w0) (hg : w0.grownBy w' row) (hr : ∀ g, row = some g → w.heap.size ≤ g) : Ex (· = rb) w w' :=
  ⟨hg.os.trans hE.os, hg.tape.trans hE.tape, hg.output.trans hE.output, Nat.le_trans hE.size hg.size, fun k hk hx => (hg.block k (Nat.lt_of_lt_of_le hk hE.size) (fun e => by have := hr k e.symm; omega)).trans (hE.block k hk hx)⟩
end Go.Proofs.YtemjonibpachbaaDoor
