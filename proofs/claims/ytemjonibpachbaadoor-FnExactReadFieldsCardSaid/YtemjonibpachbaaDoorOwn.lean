/- Plain facts: of two rows of the call's own one stays where the other is written. No condition. -/
import Derived.Test.YtemjonibpachbaaDoorMem
namespace Go.Proofs.YtemjonibpachbaaDoor
open Go.RowKit
variable {w w' : World} {B1 B2 : Nat} {e : TypeId} {s : Nat} {v : Value} {n : Nat} {xs : List Value} {row : Option Nat}
/-- A row below B2 stays where one from B2 on is written. -/
theorem kept_low (h : w.ownsRow B1 e s v n xs) (hk : ∀ k, v.ownBlock = some k → k < B2) (hg : w.grownBy w' row) (hr : ∀ k, row = some k → B2 ≤ k) : w'.ownsRow B1 e s v n xs :=
  h.kept hg (by
    cases hv : v.ownBlock with
    | none => exact .inl rfl
    | some g => exact .inr (fun e2 => by have h1 := hk g hv; have h2 := hr g e2.symm; omega))
/-- A row from B2 on stays where one below B2 is written. -/
theorem kept_high (h : w.ownsRow B2 e s v n xs) (hg : w.grownBy w' row) (hr : ∀ k, row = some k → k < B2) : w'.ownsRow B2 e s v n xs :=
  h.kept hg (by
    cases hv : v.ownBlock with
    | none => exact .inl rfl
    | some g => exact .inr (fun e2 => by have h1 := (h.lt g hv).1; have h2 := hr g e2.symm; omega))
end Go.Proofs.YtemjonibpachbaaDoor
