/-
  No cell of these rows narrows 'for every input' (looked for: loops, veiled, ifaces, maps, wideKeys, modest, calm, conditions, laid).
  DERIVED. THE GIVEN ROWS OF THIS SEAT. 10 by the template 'for every input the law returns true; each argument reads behind the call as it read before'; 0 by the template 'total and deterministic' (their statements: YtgmkopnhkmihmaaTotals.lean).
  GIVEN WITH THE SEED: the statements are not yours to turn. If you find one false, say at which input.
  Laid BY PROGRAM, IN A SANDBOX (cutbox-rows.mjs): the forced cells as the released guide's own fill.sh prints them over the translation 98f94e3451f2ff8d… (all of the seat's roots in one cut). By AI agents, Wed Nov 11 2026. No macro, syntax, notation, axiom, sorry.
-/
import Derived.Test.YtgmkopnhkmihmaaChecked
import GoSem.Claim
import GoSem.ClaimJoined
import GoSem.ClaimMapViews
import Derived.JoinedTies
import Derived.KernelRfl
namespace Go.Proofs.Ytgmkopnhkmihmaa
/- THE CELL 'sum', in the pinned program and in every row, IS THE sha256 OF THE DUMP (.gsa) THAT YtgmkopnhkmihmaaProg.lean LOADS. Nothing in Lean hashes anything: it is a label: what it is worth is what the hold of that sum in a sandbox is worth. -/
noncomputable def Try.pinned : Pinned := { name := "ytgmkopnhkmihmaa", sum := "98f94e3451f2ff8d2469aef3e9256fb9893b5016a5384ca027a40f3846f1214b", checked := Try.checked }
namespace Rows
def none {H : Type} : Left H := { results := [], args := [] }

/-- 'laws.FnExactDigestMore': WHATEVER THE INPUT: true; the input reads as it did. -/
def fnExactDigestMoreSpec : ChangeSpec := { name := "fnExactDigestMore", fn := fun _ => fun
  | [d1, d2] => { results := [.lit (.bool true)], args := [d1, d2] }
  | _ => none }
def fnExactDigestMoreRow : OpenClaim := { program := "ytgmkopnhkmihmaa", sum := "98f94e3451f2ff8d2469aef3e9256fb9893b5016a5384ca027a40f3846f1214b", func := "loop.example/feedbridge/laws.FnExactDigestMore", spec := "fnExactDigestMore", apart := false }
def FnExactDigestMoreSaid : Prop := fnExactDigestMoreRow.holds Try.pinned (OpenSpec.ofChange fnExactDigestMoreSpec)

/-- ITS FALSE NEIGHBOUR: 'it returns false'. Refute it at one input. -/
def fnExactDigestMoreWrong : ChangeSpec := { name := "fnExactDigestMore", fn := fun _ => fun
  | [d1, d2] => { results := [.lit (.bool false)], args := [d1, d2] }
  | _ => none }
def FnExactDigestMoreWrongFalsely : Prop := fnExactDigestMoreRow.holds Try.pinned (OpenSpec.ofChange fnExactDigestMoreWrong)

/-- 'laws.FnExactMulMod': WHATEVER THE INPUT: true; the input reads as it did. -/
def fnExactMulModSpec : ChangeSpec := { name := "fnExactMulMod", fn := fun _ => fun
  | [d1, d2, d3] => { results := [.lit (.bool true)], args := [d1, d2, d3] }
  | _ => none }
def fnExactMulModRow : OpenClaim := { program := "ytgmkopnhkmihmaa", sum := "98f94e3451f2ff8d2469aef3e9256fb9893b5016a5384ca027a40f3846f1214b", func := "loop.example/feedbridge/laws.FnExactMulMod", spec := "fnExactMulMod", apart := false }
def FnExactMulModSaid : Prop := fnExactMulModRow.holds Try.pinned (OpenSpec.ofChange fnExactMulModSpec)

/-- ITS FALSE NEIGHBOUR: 'it returns false'. Refute it at one input. -/
def fnExactMulModWrong : ChangeSpec := { name := "fnExactMulMod", fn := fun _ => fun
  | [d1, d2, d3] => { results := [.lit (.bool false)], args := [d1, d2, d3] }
  | _ => none }
def FnExactMulModWrongFalsely : Prop := fnExactMulModRow.holds Try.pinned (OpenSpec.ofChange fnExactMulModWrong)

/-- 'laws.FnExactIsPrime': WHATEVER THE INPUT: true; the input reads as it did. -/
def fnExactIsPrimeSpec : ChangeSpec := { name := "fnExactIsPrime", fn := fun _ => fun
  | [d] => { results := [.lit (.bool true)], args := [d] }
  | _ => none }
def fnExactIsPrimeRow : OpenClaim := { program := "ytgmkopnhkmihmaa", sum := "98f94e3451f2ff8d2469aef3e9256fb9893b5016a5384ca027a40f3846f1214b", func := "loop.example/feedbridge/laws.FnExactIsPrime", spec := "fnExactIsPrime", apart := false }
def FnExactIsPrimeSaid : Prop := fnExactIsPrimeRow.holds Try.pinned (OpenSpec.ofChange fnExactIsPrimeSpec)

/-- ITS FALSE NEIGHBOUR: 'it returns false'. Refute it at one input. -/
def fnExactIsPrimeWrong : ChangeSpec := { name := "fnExactIsPrime", fn := fun _ => fun
  | [d] => { results := [.lit (.bool false)], args := [d] }
  | _ => none }
def FnExactIsPrimeWrongFalsely : Prop := fnExactIsPrimeRow.holds Try.pinned (OpenSpec.ofChange fnExactIsPrimeWrong)

/-- 'laws.FnExactPowMod': WHATEVER THE INPUT: true; the input reads as it did. -/
def fnExactPowModSpec : ChangeSpec := { name := "fnExactPowMod", fn := fun _ => fun
  | [d1, d2, d3] => { results := [.lit (.bool true)], args := [d1, d2, d3] }
  | _ => none }
def fnExactPowModRow : OpenClaim := { program := "ytgmkopnhkmihmaa", sum := "98f94e3451f2ff8d2469aef3e9256fb9893b5016a5384ca027a40f3846f1214b", func := "loop.example/feedbridge/laws.FnExactPowMod", spec := "fnExactPowMod", apart := false }
def FnExactPowModSaid : Prop := fnExactPowModRow.holds Try.pinned (OpenSpec.ofChange fnExactPowModSpec)

/-- ITS FALSE NEIGHBOUR: 'it returns false'. Refute it at one input. -/
def fnExactPowModWrong : ChangeSpec := { name := "fnExactPowMod", fn := fun _ => fun
  | [d1, d2, d3] => { results := [.lit (.bool false)], args := [d1, d2, d3] }
  | _ => none }
def FnExactPowModWrongFalsely : Prop := fnExactPowModRow.holds Try.pinned (OpenSpec.ofChange fnExactPowModWrong)

/-- 'laws.FnExactInverseMod': WHATEVER THE INPUT: true; the input reads as it did. -/
def fnExactInverseModSpec : ChangeSpec := { name := "fnExactInverseMod", fn := fun _ => fun
  | [d1, d2] => { results := [.lit (.bool true)], args := [d1, d2] }
  | _ => none }
def fnExactInverseModRow : OpenClaim := { program := "ytgmkopnhkmihmaa", sum := "98f94e3451f2ff8d2469aef3e9256fb9893b5016a5384ca027a40f3846f1214b", func := "loop.example/feedbridge/laws.FnExactInverseMod", spec := "fnExactInverseMod", apart := false }
def FnExactInverseModSaid : Prop := fnExactInverseModRow.holds Try.pinned (OpenSpec.ofChange fnExactInverseModSpec)

/-- ITS FALSE NEIGHBOUR: 'it returns false'. Refute it at one input. -/
def fnExactInverseModWrong : ChangeSpec := { name := "fnExactInverseMod", fn := fun _ => fun
  | [d1, d2] => { results := [.lit (.bool false)], args := [d1, d2] }
  | _ => none }
def FnExactInverseModWrongFalsely : Prop := fnExactInverseModRow.holds Try.pinned (OpenSpec.ofChange fnExactInverseModWrong)

/-- 'laws.FnExactDigestList': WHATEVER THE INPUT: true; the input reads as it did. -/
def fnExactDigestListSpec : ChangeSpec := { name := "fnExactDigestList", fn := fun _ => fun
  | [d] => { results := [.lit (.bool true)], args := [d] }
  | _ => none }
def fnExactDigestListRow : OpenClaim := { program := "ytgmkopnhkmihmaa", sum := "98f94e3451f2ff8d2469aef3e9256fb9893b5016a5384ca027a40f3846f1214b", func := "loop.example/feedbridge/laws.FnExactDigestList", spec := "fnExactDigestList", apart := false }
def FnExactDigestListSaid : Prop := fnExactDigestListRow.holds Try.pinned (OpenSpec.ofChange fnExactDigestListSpec)

/-- ITS FALSE NEIGHBOUR: 'it returns false'. Refute it at one input. -/
def fnExactDigestListWrong : ChangeSpec := { name := "fnExactDigestList", fn := fun _ => fun
  | [d] => { results := [.lit (.bool false)], args := [d] }
  | _ => none }
def FnExactDigestListWrongFalsely : Prop := fnExactDigestListRow.holds Try.pinned (OpenSpec.ofChange fnExactDigestListWrong)

/-- 'laws.FnExactOpenNumber': WHATEVER THE INPUT: true; the input reads as it did. -/
def fnExactOpenNumberSpec : ChangeSpec := { name := "fnExactOpenNumber", fn := fun _ => fun
  | [d1, d2, d3] => { results := [.lit (.bool true)], args := [d1, d2, d3] }
  | _ => none }
def fnExactOpenNumberRow : OpenClaim := { program := "ytgmkopnhkmihmaa", sum := "98f94e3451f2ff8d2469aef3e9256fb9893b5016a5384ca027a40f3846f1214b", func := "loop.example/feedbridge/laws.FnExactOpenNumber", spec := "fnExactOpenNumber", apart := false }
def FnExactOpenNumberSaid : Prop := fnExactOpenNumberRow.holds Try.pinned (OpenSpec.ofChange fnExactOpenNumberSpec)

/-- ITS FALSE NEIGHBOUR: 'it returns false'. Refute it at one input. -/
def fnExactOpenNumberWrong : ChangeSpec := { name := "fnExactOpenNumber", fn := fun _ => fun
  | [d1, d2, d3] => { results := [.lit (.bool false)], args := [d1, d2, d3] }
  | _ => none }
def FnExactOpenNumberWrongFalsely : Prop := fnExactOpenNumberRow.holds Try.pinned (OpenSpec.ofChange fnExactOpenNumberWrong)

/-- 'laws.FnExactDigestOf': WHATEVER THE INPUT: true; the input reads as it did. -/
def fnExactDigestOfSpec : ChangeSpec := { name := "fnExactDigestOf", fn := fun _ => fun
  | [d] => { results := [.lit (.bool true)], args := [d] }
  | _ => none }
def fnExactDigestOfRow : OpenClaim := { program := "ytgmkopnhkmihmaa", sum := "98f94e3451f2ff8d2469aef3e9256fb9893b5016a5384ca027a40f3846f1214b", func := "loop.example/feedbridge/laws.FnExactDigestOf", spec := "fnExactDigestOf", apart := false }
def FnExactDigestOfSaid : Prop := fnExactDigestOfRow.holds Try.pinned (OpenSpec.ofChange fnExactDigestOfSpec)

/-- ITS FALSE NEIGHBOUR: 'it returns false'. Refute it at one input. -/
def fnExactDigestOfWrong : ChangeSpec := { name := "fnExactDigestOf", fn := fun _ => fun
  | [d] => { results := [.lit (.bool false)], args := [d] }
  | _ => none }
def FnExactDigestOfWrongFalsely : Prop := fnExactDigestOfRow.holds Try.pinned (OpenSpec.ofChange fnExactDigestOfWrong)

/-- 'laws.FnExactKeyValid': WHATEVER THE INPUT: true; the input reads as it did. -/
def fnExactKeyValidSpec : ChangeSpec := { name := "fnExactKeyValid", fn := fun _ => fun
  | [d] => { results := [.lit (.bool true)], args := [d] }
  | _ => none }
def fnExactKeyValidRow : OpenClaim := { program := "ytgmkopnhkmihmaa", sum := "98f94e3451f2ff8d2469aef3e9256fb9893b5016a5384ca027a40f3846f1214b", func := "loop.example/feedbridge/laws.FnExactKeyValid", spec := "fnExactKeyValid", apart := false }
def FnExactKeyValidSaid : Prop := fnExactKeyValidRow.holds Try.pinned (OpenSpec.ofChange fnExactKeyValidSpec)

/-- ITS FALSE NEIGHBOUR: 'it returns false'. Refute it at one input. -/
def fnExactKeyValidWrong : ChangeSpec := { name := "fnExactKeyValid", fn := fun _ => fun
  | [d] => { results := [.lit (.bool false)], args := [d] }
  | _ => none }
def FnExactKeyValidWrongFalsely : Prop := fnExactKeyValidRow.holds Try.pinned (OpenSpec.ofChange fnExactKeyValidWrong)

/-- 'laws.FnExactKeyModulus': WHATEVER THE INPUT: true; the input reads as it did. -/
def fnExactKeyModulusSpec : ChangeSpec := { name := "fnExactKeyModulus", fn := fun _ => fun
  | [d] => { results := [.lit (.bool true)], args := [d] }
  | _ => none }
def fnExactKeyModulusRow : OpenClaim := { program := "ytgmkopnhkmihmaa", sum := "98f94e3451f2ff8d2469aef3e9256fb9893b5016a5384ca027a40f3846f1214b", func := "loop.example/feedbridge/laws.FnExactKeyModulus", spec := "fnExactKeyModulus", apart := false }
def FnExactKeyModulusSaid : Prop := fnExactKeyModulusRow.holds Try.pinned (OpenSpec.ofChange fnExactKeyModulusSpec)

/-- ITS FALSE NEIGHBOUR: 'it returns false'. Refute it at one input. -/
def fnExactKeyModulusWrong : ChangeSpec := { name := "fnExactKeyModulus", fn := fun _ => fun
  | [d] => { results := [.lit (.bool false)], args := [d] }
  | _ => none }
def FnExactKeyModulusWrongFalsely : Prop := fnExactKeyModulusRow.holds Try.pinned (OpenSpec.ofChange fnExactKeyModulusWrong)

/- THE SECOND FORM. 'bulk': how many values and letters a reading holds, each counted each time it is reached (what is shared counts as often as it is met; a slice's spare places count too). A statement '..UptoSaid' is the law's where the arguments, and the package variables that the reading takes, are together of bulk at most 1048576: NARROWER than '..Said'. Prove '..Said' where nothing that the law and all that it calls make is longer than what came in: it says more and counts as full. Else prove '..UptoSaid'. A law counts once. -/
mutual
def uptoBulk {H : Type} : DataW H → Nat
  | .lit (.string bytes) => bytes.length + 1
  | .lit _ => 1
  | .nil => 1
  | .ptr d => uptoBulk d + 1
  | .slice elems spare => uptoBulkAll elems + uptoBulkAll spare + 1
  | .agg parts => uptoBulkAll parts + 1
  | .iface _ d => uptoBulk d + 1
  | .map entries => uptoBulkEntries entries + 1
  | .held _ => 1
def uptoBulkAll {H : Type} : List (DataW H) → Nat
  | [] => 0
  | d :: r => uptoBulk d + uptoBulkAll r
def uptoBulkEntries {H : Type} : List (Lit × DataW H) → Nat
  | [] => 0
  | x :: r => uptoBulkEntry x + uptoBulkEntries r
def uptoBulkEntry {H : Type} : Lit × DataW H → Nat
  | (.string bytes, d) => bytes.length + uptoBulk d + 1
  | (_, d) => uptoBulk d + 1
 end
def uptoSmall : (H : Type) → List (DataW H) → Bool := fun _ ds => decide (uptoBulkAll ds ≤ 1048576)
def OpenSpec.upto (s : _root_.Go.ChangeSpec) : _root_.Go.OpenSpec := { _root_.Go.OpenSpec.ofChange s with cond := some uptoSmall }

/-- 'laws.FnExactDigestMore', WHERE WHAT IT READS IS OF BULK AT MOST 1048576: true; the input reads as it did. -/
def fnExactDigestMoreUptoRow : OpenClaim := { program := "ytgmkopnhkmihmaa", sum := "98f94e3451f2ff8d2469aef3e9256fb9893b5016a5384ca027a40f3846f1214b", func := "loop.example/feedbridge/laws.FnExactDigestMore", spec := "fnExactDigestMore", apart := false, narrowed := true }
def FnExactDigestMoreUptoSaid : Prop := fnExactDigestMoreUptoRow.holds Try.pinned (OpenSpec.upto fnExactDigestMoreSpec)

/-- 'laws.FnExactMulMod', WHERE WHAT IT READS IS OF BULK AT MOST 1048576: true; the input reads as it did. -/
def fnExactMulModUptoRow : OpenClaim := { program := "ytgmkopnhkmihmaa", sum := "98f94e3451f2ff8d2469aef3e9256fb9893b5016a5384ca027a40f3846f1214b", func := "loop.example/feedbridge/laws.FnExactMulMod", spec := "fnExactMulMod", apart := false, narrowed := true }
def FnExactMulModUptoSaid : Prop := fnExactMulModUptoRow.holds Try.pinned (OpenSpec.upto fnExactMulModSpec)

/-- 'laws.FnExactIsPrime', WHERE WHAT IT READS IS OF BULK AT MOST 1048576: true; the input reads as it did. -/
def fnExactIsPrimeUptoRow : OpenClaim := { program := "ytgmkopnhkmihmaa", sum := "98f94e3451f2ff8d2469aef3e9256fb9893b5016a5384ca027a40f3846f1214b", func := "loop.example/feedbridge/laws.FnExactIsPrime", spec := "fnExactIsPrime", apart := false, narrowed := true }
def FnExactIsPrimeUptoSaid : Prop := fnExactIsPrimeUptoRow.holds Try.pinned (OpenSpec.upto fnExactIsPrimeSpec)

/-- 'laws.FnExactPowMod', WHERE WHAT IT READS IS OF BULK AT MOST 1048576: true; the input reads as it did. -/
def fnExactPowModUptoRow : OpenClaim := { program := "ytgmkopnhkmihmaa", sum := "98f94e3451f2ff8d2469aef3e9256fb9893b5016a5384ca027a40f3846f1214b", func := "loop.example/feedbridge/laws.FnExactPowMod", spec := "fnExactPowMod", apart := false, narrowed := true }
def FnExactPowModUptoSaid : Prop := fnExactPowModUptoRow.holds Try.pinned (OpenSpec.upto fnExactPowModSpec)

/-- 'laws.FnExactInverseMod', WHERE WHAT IT READS IS OF BULK AT MOST 1048576: true; the input reads as it did. -/
def fnExactInverseModUptoRow : OpenClaim := { program := "ytgmkopnhkmihmaa", sum := "98f94e3451f2ff8d2469aef3e9256fb9893b5016a5384ca027a40f3846f1214b", func := "loop.example/feedbridge/laws.FnExactInverseMod", spec := "fnExactInverseMod", apart := false, narrowed := true }
def FnExactInverseModUptoSaid : Prop := fnExactInverseModUptoRow.holds Try.pinned (OpenSpec.upto fnExactInverseModSpec)

/-- 'laws.FnExactDigestList', WHERE WHAT IT READS IS OF BULK AT MOST 1048576: true; the input reads as it did. -/
def fnExactDigestListUptoRow : OpenClaim := { program := "ytgmkopnhkmihmaa", sum := "98f94e3451f2ff8d2469aef3e9256fb9893b5016a5384ca027a40f3846f1214b", func := "loop.example/feedbridge/laws.FnExactDigestList", spec := "fnExactDigestList", apart := false, narrowed := true }
def FnExactDigestListUptoSaid : Prop := fnExactDigestListUptoRow.holds Try.pinned (OpenSpec.upto fnExactDigestListSpec)

/-- 'laws.FnExactOpenNumber', WHERE WHAT IT READS IS OF BULK AT MOST 1048576: true; the input reads as it did. -/
def fnExactOpenNumberUptoRow : OpenClaim := { program := "ytgmkopnhkmihmaa", sum := "98f94e3451f2ff8d2469aef3e9256fb9893b5016a5384ca027a40f3846f1214b", func := "loop.example/feedbridge/laws.FnExactOpenNumber", spec := "fnExactOpenNumber", apart := false, narrowed := true }
def FnExactOpenNumberUptoSaid : Prop := fnExactOpenNumberUptoRow.holds Try.pinned (OpenSpec.upto fnExactOpenNumberSpec)

/-- 'laws.FnExactDigestOf', WHERE WHAT IT READS IS OF BULK AT MOST 1048576: true; the input reads as it did. -/
def fnExactDigestOfUptoRow : OpenClaim := { program := "ytgmkopnhkmihmaa", sum := "98f94e3451f2ff8d2469aef3e9256fb9893b5016a5384ca027a40f3846f1214b", func := "loop.example/feedbridge/laws.FnExactDigestOf", spec := "fnExactDigestOf", apart := false, narrowed := true }
def FnExactDigestOfUptoSaid : Prop := fnExactDigestOfUptoRow.holds Try.pinned (OpenSpec.upto fnExactDigestOfSpec)

/-- 'laws.FnExactKeyValid', WHERE WHAT IT READS IS OF BULK AT MOST 1048576: true; the input reads as it did. -/
def fnExactKeyValidUptoRow : OpenClaim := { program := "ytgmkopnhkmihmaa", sum := "98f94e3451f2ff8d2469aef3e9256fb9893b5016a5384ca027a40f3846f1214b", func := "loop.example/feedbridge/laws.FnExactKeyValid", spec := "fnExactKeyValid", apart := false, narrowed := true }
def FnExactKeyValidUptoSaid : Prop := fnExactKeyValidUptoRow.holds Try.pinned (OpenSpec.upto fnExactKeyValidSpec)

/-- 'laws.FnExactKeyModulus', WHERE WHAT IT READS IS OF BULK AT MOST 1048576: true; the input reads as it did. -/
def fnExactKeyModulusUptoRow : OpenClaim := { program := "ytgmkopnhkmihmaa", sum := "98f94e3451f2ff8d2469aef3e9256fb9893b5016a5384ca027a40f3846f1214b", func := "loop.example/feedbridge/laws.FnExactKeyModulus", spec := "fnExactKeyModulus", apart := false, narrowed := true }
def FnExactKeyModulusUptoSaid : Prop := fnExactKeyModulusUptoRow.holds Try.pinned (OpenSpec.upto fnExactKeyModulusSpec)

end Rows
end Go.Proofs.Ytgmkopnhkmihmaa
