/-
  No cell of these rows narrows 'for every input' (looked for: loops, veiled, ifaces, maps, wideKeys, modest, calm, conditions, laid).
  DERIVED. THE GIVEN ROWS OF THIS SEAT. 7 by the template 'for every input the law returns true; each argument reads behind the call as it read before'; 0 by the template 'total and deterministic' (their statements: YtikebbdkcpcmkaaTotals.lean).
  GIVEN WITH THE SEED: the statements are not yours to turn. If you find one false, say at which input.
  Laid BY PROGRAM, IN A SANDBOX (cutbox-rows.mjs): the forced cells as the released guide's own fill.sh prints them over the translation 81cd32090827f4f9… (all of the seat's roots in one cut). By AI agents, Wed Nov 11 2026. No macro, syntax, notation, axiom, sorry.
-/
import Derived.Test.YtikebbdkcpcmkaaChecked
import GoSem.Claim
import GoSem.ClaimJoined
import GoSem.ClaimMapViews
import Derived.JoinedTies
import Derived.KernelRfl
namespace Go.Proofs.Ytikebbdkcpcmkaa
/- THE CELL 'sum', in the pinned program and in every row, IS THE sha256 OF THE DUMP (.gsa) THAT YtikebbdkcpcmkaaProg.lean LOADS. Nothing in Lean hashes anything: it is a label: what it is worth is what the hold of that sum in a sandbox is worth. -/
noncomputable def Try.pinned : Pinned := { name := "ytikebbdkcpcmkaa", sum := "81cd32090827f4f93342547f6d418755eacd632a4df2fe15d070debb905e8b00", checked := Try.checked }
namespace Rows
def none {H : Type} : Left H := { results := [], args := [] }

/-- 'laws.FnDigestMore': WHATEVER THE INPUT: true; the input reads as it did. -/
def fnDigestMoreSpec : ChangeSpec := { name := "fnDigestMore", fn := fun _ => fun
  | [d] => { results := [.lit (.bool true)], args := [d] }
  | _ => none }
def fnDigestMoreRow : OpenClaim := { program := "ytikebbdkcpcmkaa", sum := "81cd32090827f4f93342547f6d418755eacd632a4df2fe15d070debb905e8b00", func := "loop.example/feedbridge/laws.FnDigestMore", spec := "fnDigestMore", apart := false }
def FnDigestMoreSaid : Prop := fnDigestMoreRow.holds Try.pinned (OpenSpec.ofChange fnDigestMoreSpec)

/-- ITS FALSE NEIGHBOUR: 'it returns false'. Refute it at one input. -/
def fnDigestMoreWrong : ChangeSpec := { name := "fnDigestMore", fn := fun _ => fun
  | [d] => { results := [.lit (.bool false)], args := [d] }
  | _ => none }
def FnDigestMoreWrongFalsely : Prop := fnDigestMoreRow.holds Try.pinned (OpenSpec.ofChange fnDigestMoreWrong)

/-- 'laws.FnMulMod': WHATEVER THE INPUT: true; the input reads as it did. -/
def fnMulModSpec : ChangeSpec := { name := "fnMulMod", fn := fun _ => fun
  | [d] => { results := [.lit (.bool true)], args := [d] }
  | _ => none }
def fnMulModRow : OpenClaim := { program := "ytikebbdkcpcmkaa", sum := "81cd32090827f4f93342547f6d418755eacd632a4df2fe15d070debb905e8b00", func := "loop.example/feedbridge/laws.FnMulMod", spec := "fnMulMod", apart := false }
def FnMulModSaid : Prop := fnMulModRow.holds Try.pinned (OpenSpec.ofChange fnMulModSpec)

/-- ITS FALSE NEIGHBOUR: 'it returns false'. Refute it at one input. -/
def fnMulModWrong : ChangeSpec := { name := "fnMulMod", fn := fun _ => fun
  | [d] => { results := [.lit (.bool false)], args := [d] }
  | _ => none }
def FnMulModWrongFalsely : Prop := fnMulModRow.holds Try.pinned (OpenSpec.ofChange fnMulModWrong)

/-- 'laws.FnDigestList': WHATEVER THE INPUT: true; the input reads as it did. -/
def fnDigestListSpec : ChangeSpec := { name := "fnDigestList", fn := fun _ => fun
  | [d] => { results := [.lit (.bool true)], args := [d] }
  | _ => none }
def fnDigestListRow : OpenClaim := { program := "ytikebbdkcpcmkaa", sum := "81cd32090827f4f93342547f6d418755eacd632a4df2fe15d070debb905e8b00", func := "loop.example/feedbridge/laws.FnDigestList", spec := "fnDigestList", apart := false }
def FnDigestListSaid : Prop := fnDigestListRow.holds Try.pinned (OpenSpec.ofChange fnDigestListSpec)

/-- ITS FALSE NEIGHBOUR: 'it returns false'. Refute it at one input. -/
def fnDigestListWrong : ChangeSpec := { name := "fnDigestList", fn := fun _ => fun
  | [d] => { results := [.lit (.bool false)], args := [d] }
  | _ => none }
def FnDigestListWrongFalsely : Prop := fnDigestListRow.holds Try.pinned (OpenSpec.ofChange fnDigestListWrong)

/-- 'laws.FnIsPrime': WHATEVER THE INPUT: true; the input reads as it did. -/
def fnIsPrimeSpec : ChangeSpec := { name := "fnIsPrime", fn := fun _ => fun
  | [d] => { results := [.lit (.bool true)], args := [d] }
  | _ => none }
def fnIsPrimeRow : OpenClaim := { program := "ytikebbdkcpcmkaa", sum := "81cd32090827f4f93342547f6d418755eacd632a4df2fe15d070debb905e8b00", func := "loop.example/feedbridge/laws.FnIsPrime", spec := "fnIsPrime", apart := false }
def FnIsPrimeSaid : Prop := fnIsPrimeRow.holds Try.pinned (OpenSpec.ofChange fnIsPrimeSpec)

/-- ITS FALSE NEIGHBOUR: 'it returns false'. Refute it at one input. -/
def fnIsPrimeWrong : ChangeSpec := { name := "fnIsPrime", fn := fun _ => fun
  | [d] => { results := [.lit (.bool false)], args := [d] }
  | _ => none }
def FnIsPrimeWrongFalsely : Prop := fnIsPrimeRow.holds Try.pinned (OpenSpec.ofChange fnIsPrimeWrong)

/-- 'laws.FnPowMod': WHATEVER THE INPUT: true; the input reads as it did. -/
def fnPowModSpec : ChangeSpec := { name := "fnPowMod", fn := fun _ => fun
  | [d] => { results := [.lit (.bool true)], args := [d] }
  | _ => none }
def fnPowModRow : OpenClaim := { program := "ytikebbdkcpcmkaa", sum := "81cd32090827f4f93342547f6d418755eacd632a4df2fe15d070debb905e8b00", func := "loop.example/feedbridge/laws.FnPowMod", spec := "fnPowMod", apart := false }
def FnPowModSaid : Prop := fnPowModRow.holds Try.pinned (OpenSpec.ofChange fnPowModSpec)

/-- ITS FALSE NEIGHBOUR: 'it returns false'. Refute it at one input. -/
def fnPowModWrong : ChangeSpec := { name := "fnPowMod", fn := fun _ => fun
  | [d] => { results := [.lit (.bool false)], args := [d] }
  | _ => none }
def FnPowModWrongFalsely : Prop := fnPowModRow.holds Try.pinned (OpenSpec.ofChange fnPowModWrong)

/-- 'laws.FnDigestOf': WHATEVER THE INPUT: true; the input reads as it did. -/
def fnDigestOfSpec : ChangeSpec := { name := "fnDigestOf", fn := fun _ => fun
  | [d] => { results := [.lit (.bool true)], args := [d] }
  | _ => none }
def fnDigestOfRow : OpenClaim := { program := "ytikebbdkcpcmkaa", sum := "81cd32090827f4f93342547f6d418755eacd632a4df2fe15d070debb905e8b00", func := "loop.example/feedbridge/laws.FnDigestOf", spec := "fnDigestOf", apart := false }
def FnDigestOfSaid : Prop := fnDigestOfRow.holds Try.pinned (OpenSpec.ofChange fnDigestOfSpec)

/-- ITS FALSE NEIGHBOUR: 'it returns false'. Refute it at one input. -/
def fnDigestOfWrong : ChangeSpec := { name := "fnDigestOf", fn := fun _ => fun
  | [d] => { results := [.lit (.bool false)], args := [d] }
  | _ => none }
def FnDigestOfWrongFalsely : Prop := fnDigestOfRow.holds Try.pinned (OpenSpec.ofChange fnDigestOfWrong)

/-- 'laws.FnInverseMod': WHATEVER THE INPUT: true; the input reads as it did. -/
def fnInverseModSpec : ChangeSpec := { name := "fnInverseMod", fn := fun _ => fun
  | [d] => { results := [.lit (.bool true)], args := [d] }
  | _ => none }
def fnInverseModRow : OpenClaim := { program := "ytikebbdkcpcmkaa", sum := "81cd32090827f4f93342547f6d418755eacd632a4df2fe15d070debb905e8b00", func := "loop.example/feedbridge/laws.FnInverseMod", spec := "fnInverseMod", apart := false }
def FnInverseModSaid : Prop := fnInverseModRow.holds Try.pinned (OpenSpec.ofChange fnInverseModSpec)

/-- ITS FALSE NEIGHBOUR: 'it returns false'. Refute it at one input. -/
def fnInverseModWrong : ChangeSpec := { name := "fnInverseMod", fn := fun _ => fun
  | [d] => { results := [.lit (.bool false)], args := [d] }
  | _ => none }
def FnInverseModWrongFalsely : Prop := fnInverseModRow.holds Try.pinned (OpenSpec.ofChange fnInverseModWrong)

/- THE SECOND FORM. 'bulk': how many values and letters a reading holds, each counted each time it is reached (what is shared counts as often as it is met; a slice's spare places count too). A statement '..UptoSaid' is the law's where the arguments, and the package variables that the reading takes, are together of bulk at most 1048576: NARROWER than '..Said'. Prove '..Said' where nothing that the law and all that it calls make is longer than what came in: it says more and counts as full. Else prove '..UptoSaid'. A law counts once. -/
mutual
def uptoBulk {H : Type} : DataW H → Nat
  | .lit (.string bytes) => bytes.length + 1
  | .lit _ => 1
  | .nil => 1
  | .ptr d => uptoBulk d + 1
  | .slice elems spare => uptoBulkAll elems + uptoBulkAll spare + 1
  | .agg parts => uptoBulkAll parts + 1
  | .iface _ d => uptoBulk d + 1
  | .map entries => uptoBulkEntries entries + 1
  | .held _ => 1
def uptoBulkAll {H : Type} : List (DataW H) → Nat
  | [] => 0
  | d :: r => uptoBulk d + uptoBulkAll r
def uptoBulkEntries {H : Type} : List (Lit × DataW H) → Nat
  | [] => 0
  | x :: r => uptoBulkEntry x + uptoBulkEntries r
def uptoBulkEntry {H : Type} : Lit × DataW H → Nat
  | (.string bytes, d) => bytes.length + uptoBulk d + 1
  | (_, d) => uptoBulk d + 1
 end
def uptoSmall : (H : Type) → List (DataW H) → Bool := fun _ ds => decide (uptoBulkAll ds ≤ 1048576)
def OpenSpec.upto (s : _root_.Go.ChangeSpec) : _root_.Go.OpenSpec := { _root_.Go.OpenSpec.ofChange s with cond := some uptoSmall }

/-- 'laws.FnDigestMore', WHERE WHAT IT READS IS OF BULK AT MOST 1048576: true; the input reads as it did. -/
def fnDigestMoreUptoRow : OpenClaim := { program := "ytikebbdkcpcmkaa", sum := "81cd32090827f4f93342547f6d418755eacd632a4df2fe15d070debb905e8b00", func := "loop.example/feedbridge/laws.FnDigestMore", spec := "fnDigestMore", apart := false, narrowed := true }
def FnDigestMoreUptoSaid : Prop := fnDigestMoreUptoRow.holds Try.pinned (OpenSpec.upto fnDigestMoreSpec)

/-- 'laws.FnMulMod', WHERE WHAT IT READS IS OF BULK AT MOST 1048576: true; the input reads as it did. -/
def fnMulModUptoRow : OpenClaim := { program := "ytikebbdkcpcmkaa", sum := "81cd32090827f4f93342547f6d418755eacd632a4df2fe15d070debb905e8b00", func := "loop.example/feedbridge/laws.FnMulMod", spec := "fnMulMod", apart := false, narrowed := true }
def FnMulModUptoSaid : Prop := fnMulModUptoRow.holds Try.pinned (OpenSpec.upto fnMulModSpec)

/-- 'laws.FnDigestList', WHERE WHAT IT READS IS OF BULK AT MOST 1048576: true; the input reads as it did. -/
def fnDigestListUptoRow : OpenClaim := { program := "ytikebbdkcpcmkaa", sum := "81cd32090827f4f93342547f6d418755eacd632a4df2fe15d070debb905e8b00", func := "loop.example/feedbridge/laws.FnDigestList", spec := "fnDigestList", apart := false, narrowed := true }
def FnDigestListUptoSaid : Prop := fnDigestListUptoRow.holds Try.pinned (OpenSpec.upto fnDigestListSpec)

/-- 'laws.FnIsPrime', WHERE WHAT IT READS IS OF BULK AT MOST 1048576: true; the input reads as it did. -/
def fnIsPrimeUptoRow : OpenClaim := { program := "ytikebbdkcpcmkaa", sum := "81cd32090827f4f93342547f6d418755eacd632a4df2fe15d070debb905e8b00", func := "loop.example/feedbridge/laws.FnIsPrime", spec := "fnIsPrime", apart := false, narrowed := true }
def FnIsPrimeUptoSaid : Prop := fnIsPrimeUptoRow.holds Try.pinned (OpenSpec.upto fnIsPrimeSpec)

/-- 'laws.FnPowMod', WHERE WHAT IT READS IS OF BULK AT MOST 1048576: true; the input reads as it did. -/
def fnPowModUptoRow : OpenClaim := { program := "ytikebbdkcpcmkaa", sum := "81cd32090827f4f93342547f6d418755eacd632a4df2fe15d070debb905e8b00", func := "loop.example/feedbridge/laws.FnPowMod", spec := "fnPowMod", apart := false, narrowed := true }
def FnPowModUptoSaid : Prop := fnPowModUptoRow.holds Try.pinned (OpenSpec.upto fnPowModSpec)

/-- 'laws.FnDigestOf', WHERE WHAT IT READS IS OF BULK AT MOST 1048576: true; the input reads as it did. -/
def fnDigestOfUptoRow : OpenClaim := { program := "ytikebbdkcpcmkaa", sum := "81cd32090827f4f93342547f6d418755eacd632a4df2fe15d070debb905e8b00", func := "loop.example/feedbridge/laws.FnDigestOf", spec := "fnDigestOf", apart := false, narrowed := true }
def FnDigestOfUptoSaid : Prop := fnDigestOfUptoRow.holds Try.pinned (OpenSpec.upto fnDigestOfSpec)

/-- 'laws.FnInverseMod', WHERE WHAT IT READS IS OF BULK AT MOST 1048576: true; the input reads as it did. -/
def fnInverseModUptoRow : OpenClaim := { program := "ytikebbdkcpcmkaa", sum := "81cd32090827f4f93342547f6d418755eacd632a4df2fe15d070debb905e8b00", func := "loop.example/feedbridge/laws.FnInverseMod", spec := "fnInverseMod", apart := false, narrowed := true }
def FnInverseModUptoSaid : Prop := fnInverseModUptoRow.holds Try.pinned (OpenSpec.upto fnInverseModSpec)

end Rows
end Go.Proofs.Ytikebbdkcpcmkaa
