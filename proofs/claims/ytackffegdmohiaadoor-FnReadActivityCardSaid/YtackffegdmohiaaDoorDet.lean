/- Small lemmas on guards in a region that draws its order. No condition. -/
import Derived.Test.YtackffegdmohiaaDoorReg
import Derived.Test.YtackffegdmohiaaDoorMem
namespace Go.Proofs.YtackffegdmohiaaDoor
open Go

theorem wanted_yes {o : Oper} {y : Nat → Option Bool} {g : Nat} {b : Bool} (hg : o.guard = some (g, b)) (hy : y g = some b) : Region.wanted o y = true := by simp [Region.wanted, hg, hy]
theorem wanted_no {o : Oper} {y : Nat → Option Bool} {g : Nat} {b c : Bool} (hg : o.guard = some (g, b)) (hy : y g = some c) (hne : c ≠ b) : ¬ Region.wanted o y = true := by simp [Region.wanted, hg, hy, hne]
theorem yielded_of {ops : Array Oper} {tmps : Array Value} {g d : Nat} {o : Oper} {b : Bool} (ho : ops[g]? = some o) (hd : o.dst = some d) (ht : tmps[d]? = some (.bool b)) : yielded ops tmps g = some b := by simp [yielded, ho, hd, ht]
end Go.Proofs.YtackffegdmohiaaDoor
