/-
  No cell of these rows narrows 'for every input' (looked for: loops, veiled, ifaces, maps, wideKeys, modest, calm, conditions, laid).
  DERIVED. THE GIVEN ROWS OF THIS SEAT. 8 by the template 'for every input the law returns true; each argument reads behind the call as it read before'; 0 by the template 'total and deterministic' (their statements: YtkfcbjhfioblgaaTotals.lean).
  GIVEN WITH THE SEED: the statements are not yours to turn. If you find one false, say at which input.
  Laid BY PROGRAM, IN A SANDBOX (cutbox-rows.mjs): the forced cells as the released guide's own fill.sh prints them over the translation 8269220bed7f236f… (all of the seat's roots in one cut). By AI agents, Wed Nov 11 2026. No macro, syntax, notation, axiom, sorry.
-/
import Derived.Test.YtkfcbjhfioblgaaChecked
import GoSem.Claim
import GoSem.ClaimJoined
import GoSem.ClaimMapViews
import Derived.JoinedTies
import Derived.KernelRfl
namespace Go.Proofs.Ytkfcbjhfioblgaa
/- THE CELL 'sum', in the pinned program and in every row, IS THE sha256 OF THE DUMP (.gsa) THAT YtkfcbjhfioblgaaProg.lean LOADS. Nothing in Lean hashes anything: it is a label: what it is worth is what the hold of that sum in a sandbox is worth. -/
noncomputable def Try.pinned : Pinned := { name := "ytkfcbjhfioblgaa", sum := "8269220bed7f236f6333972366e8c7c5942efdeba7ad6010b25de2dfeaeb0c28", checked := Try.checked }
namespace Rows
def none {H : Type} : Left H := { results := [], args := [] }

/-- 'laws.FnExactHandleBefore': WHATEVER THE INPUT: true; the input reads as it did. -/
def fnExactHandleBeforeSpec : ChangeSpec := { name := "fnExactHandleBefore", fn := fun _ => fun
  | [d1, d2] => { results := [.lit (.bool true)], args := [d1, d2] }
  | _ => none }
def fnExactHandleBeforeRow : OpenClaim := { program := "ytkfcbjhfioblgaa", sum := "8269220bed7f236f6333972366e8c7c5942efdeba7ad6010b25de2dfeaeb0c28", func := "loop.example/feedbridge/laws.FnExactHandleBefore", spec := "fnExactHandleBefore", apart := false }
def FnExactHandleBeforeSaid : Prop := fnExactHandleBeforeRow.holds Try.pinned (OpenSpec.ofChange fnExactHandleBeforeSpec)

/-- ITS FALSE NEIGHBOUR: 'it returns false'. Refute it at one input. -/
def fnExactHandleBeforeWrong : ChangeSpec := { name := "fnExactHandleBefore", fn := fun _ => fun
  | [d1, d2] => { results := [.lit (.bool false)], args := [d1, d2] }
  | _ => none }
def FnExactHandleBeforeWrongFalsely : Prop := fnExactHandleBeforeRow.holds Try.pinned (OpenSpec.ofChange fnExactHandleBeforeWrong)

/-- 'laws.FnExactHandleValid': WHATEVER THE INPUT: true; the input reads as it did. -/
def fnExactHandleValidSpec : ChangeSpec := { name := "fnExactHandleValid", fn := fun _ => fun
  | [d] => { results := [.lit (.bool true)], args := [d] }
  | _ => none }
def fnExactHandleValidRow : OpenClaim := { program := "ytkfcbjhfioblgaa", sum := "8269220bed7f236f6333972366e8c7c5942efdeba7ad6010b25de2dfeaeb0c28", func := "loop.example/feedbridge/laws.FnExactHandleValid", spec := "fnExactHandleValid", apart := false }
def FnExactHandleValidSaid : Prop := fnExactHandleValidRow.holds Try.pinned (OpenSpec.ofChange fnExactHandleValidSpec)

/-- ITS FALSE NEIGHBOUR: 'it returns false'. Refute it at one input. -/
def fnExactHandleValidWrong : ChangeSpec := { name := "fnExactHandleValid", fn := fun _ => fun
  | [d] => { results := [.lit (.bool false)], args := [d] }
  | _ => none }
def FnExactHandleValidWrongFalsely : Prop := fnExactHandleValidRow.holds Try.pinned (OpenSpec.ofChange fnExactHandleValidWrong)

/-- 'laws.FnExactHandleText': WHATEVER THE INPUT: true; the input reads as it did. -/
def fnExactHandleTextSpec : ChangeSpec := { name := "fnExactHandleText", fn := fun _ => fun
  | [d] => { results := [.lit (.bool true)], args := [d] }
  | _ => none }
def fnExactHandleTextRow : OpenClaim := { program := "ytkfcbjhfioblgaa", sum := "8269220bed7f236f6333972366e8c7c5942efdeba7ad6010b25de2dfeaeb0c28", func := "loop.example/feedbridge/laws.FnExactHandleText", spec := "fnExactHandleText", apart := false }
def FnExactHandleTextSaid : Prop := fnExactHandleTextRow.holds Try.pinned (OpenSpec.ofChange fnExactHandleTextSpec)

/-- ITS FALSE NEIGHBOUR: 'it returns false'. Refute it at one input. -/
def fnExactHandleTextWrong : ChangeSpec := { name := "fnExactHandleText", fn := fun _ => fun
  | [d] => { results := [.lit (.bool false)], args := [d] }
  | _ => none }
def FnExactHandleTextWrongFalsely : Prop := fnExactHandleTextRow.holds Try.pinned (OpenSpec.ofChange fnExactHandleTextWrong)

/-- 'laws.FnHandleBefore': WHATEVER THE INPUT: true; the input reads as it did. -/
def fnHandleBeforeSpec : ChangeSpec := { name := "fnHandleBefore", fn := fun _ => fun
  | [d] => { results := [.lit (.bool true)], args := [d] }
  | _ => none }
def fnHandleBeforeRow : OpenClaim := { program := "ytkfcbjhfioblgaa", sum := "8269220bed7f236f6333972366e8c7c5942efdeba7ad6010b25de2dfeaeb0c28", func := "loop.example/feedbridge/laws.FnHandleBefore", spec := "fnHandleBefore", apart := false }
def FnHandleBeforeSaid : Prop := fnHandleBeforeRow.holds Try.pinned (OpenSpec.ofChange fnHandleBeforeSpec)

/-- ITS FALSE NEIGHBOUR: 'it returns false'. Refute it at one input. -/
def fnHandleBeforeWrong : ChangeSpec := { name := "fnHandleBefore", fn := fun _ => fun
  | [d] => { results := [.lit (.bool false)], args := [d] }
  | _ => none }
def FnHandleBeforeWrongFalsely : Prop := fnHandleBeforeRow.holds Try.pinned (OpenSpec.ofChange fnHandleBeforeWrong)

/-- 'laws.FnHandleValid': WHATEVER THE INPUT: true; the input reads as it did. -/
def fnHandleValidSpec : ChangeSpec := { name := "fnHandleValid", fn := fun _ => fun
  | [d] => { results := [.lit (.bool true)], args := [d] }
  | _ => none }
def fnHandleValidRow : OpenClaim := { program := "ytkfcbjhfioblgaa", sum := "8269220bed7f236f6333972366e8c7c5942efdeba7ad6010b25de2dfeaeb0c28", func := "loop.example/feedbridge/laws.FnHandleValid", spec := "fnHandleValid", apart := false }
def FnHandleValidSaid : Prop := fnHandleValidRow.holds Try.pinned (OpenSpec.ofChange fnHandleValidSpec)

/-- ITS FALSE NEIGHBOUR: 'it returns false'. Refute it at one input. -/
def fnHandleValidWrong : ChangeSpec := { name := "fnHandleValid", fn := fun _ => fun
  | [d] => { results := [.lit (.bool false)], args := [d] }
  | _ => none }
def FnHandleValidWrongFalsely : Prop := fnHandleValidRow.holds Try.pinned (OpenSpec.ofChange fnHandleValidWrong)

/-- 'laws.FnExactReadHandle': WHATEVER THE INPUT: true; the input reads as it did. -/
def fnExactReadHandleSpec : ChangeSpec := { name := "fnExactReadHandle", fn := fun _ => fun
  | [d] => { results := [.lit (.bool true)], args := [d] }
  | _ => none }
def fnExactReadHandleRow : OpenClaim := { program := "ytkfcbjhfioblgaa", sum := "8269220bed7f236f6333972366e8c7c5942efdeba7ad6010b25de2dfeaeb0c28", func := "loop.example/feedbridge/laws.FnExactReadHandle", spec := "fnExactReadHandle", inPlace := ["internal/bytealg.IndexByteString", "internal/bytealg.IndexString"], named := ["internal/bytealg.MaxLen"], apart := false }
def FnExactReadHandleSaid : Prop := fnExactReadHandleRow.holds Try.pinned (OpenSpec.ofChange fnExactReadHandleSpec)

/-- ITS FALSE NEIGHBOUR: 'it returns false'. Refute it at one input. -/
def fnExactReadHandleWrong : ChangeSpec := { name := "fnExactReadHandle", fn := fun _ => fun
  | [d] => { results := [.lit (.bool false)], args := [d] }
  | _ => none }
def FnExactReadHandleWrongFalsely : Prop := fnExactReadHandleRow.holds Try.pinned (OpenSpec.ofChange fnExactReadHandleWrong)

/-- 'laws.FnHandleText': WHATEVER THE INPUT: true; the input reads as it did. -/
def fnHandleTextSpec : ChangeSpec := { name := "fnHandleText", fn := fun _ => fun
  | [d] => { results := [.lit (.bool true)], args := [d] }
  | _ => none }
def fnHandleTextRow : OpenClaim := { program := "ytkfcbjhfioblgaa", sum := "8269220bed7f236f6333972366e8c7c5942efdeba7ad6010b25de2dfeaeb0c28", func := "loop.example/feedbridge/laws.FnHandleText", spec := "fnHandleText", inPlace := ["internal/bytealg.IndexByteString", "internal/bytealg.IndexString"], named := ["internal/bytealg.MaxLen"], apart := false }
def FnHandleTextSaid : Prop := fnHandleTextRow.holds Try.pinned (OpenSpec.ofChange fnHandleTextSpec)

/-- ITS FALSE NEIGHBOUR: 'it returns false'. Refute it at one input. -/
def fnHandleTextWrong : ChangeSpec := { name := "fnHandleText", fn := fun _ => fun
  | [d] => { results := [.lit (.bool false)], args := [d] }
  | _ => none }
def FnHandleTextWrongFalsely : Prop := fnHandleTextRow.holds Try.pinned (OpenSpec.ofChange fnHandleTextWrong)

/-- 'laws.FnReadHandle': WHATEVER THE INPUT: true; the input reads as it did. -/
def fnReadHandleSpec : ChangeSpec := { name := "fnReadHandle", fn := fun _ => fun
  | [d] => { results := [.lit (.bool true)], args := [d] }
  | _ => none }
def fnReadHandleRow : OpenClaim := { program := "ytkfcbjhfioblgaa", sum := "8269220bed7f236f6333972366e8c7c5942efdeba7ad6010b25de2dfeaeb0c28", func := "loop.example/feedbridge/laws.FnReadHandle", spec := "fnReadHandle", inPlace := ["internal/bytealg.IndexByteString", "internal/bytealg.IndexString"], named := ["internal/bytealg.MaxLen"], apart := false }
def FnReadHandleSaid : Prop := fnReadHandleRow.holds Try.pinned (OpenSpec.ofChange fnReadHandleSpec)

/-- ITS FALSE NEIGHBOUR: 'it returns false'. Refute it at one input. -/
def fnReadHandleWrong : ChangeSpec := { name := "fnReadHandle", fn := fun _ => fun
  | [d] => { results := [.lit (.bool false)], args := [d] }
  | _ => none }
def FnReadHandleWrongFalsely : Prop := fnReadHandleRow.holds Try.pinned (OpenSpec.ofChange fnReadHandleWrong)

/- THE SECOND FORM. 'bulk': how many values and letters a reading holds, each counted each time it is reached (what is shared counts as often as it is met; a slice's spare places count too). A statement '..UptoSaid' is the law's where the arguments, and the package variables that the reading takes, are together of bulk at most 1048576: NARROWER than '..Said'. Prove '..Said' where nothing that the law and all that it calls make is longer than what came in: it says more and counts as full. Else prove '..UptoSaid'. A law counts once. -/
mutual
def uptoBulk {H : Type} : DataW H → Nat
  | .lit (.string bytes) => bytes.length + 1
  | .lit _ => 1
  | .nil => 1
  | .ptr d => uptoBulk d + 1
  | .slice elems spare => uptoBulkAll elems + uptoBulkAll spare + 1
  | .agg parts => uptoBulkAll parts + 1
  | .iface _ d => uptoBulk d + 1
  | .map entries => uptoBulkEntries entries + 1
  | .held _ => 1
def uptoBulkAll {H : Type} : List (DataW H) → Nat
  | [] => 0
  | d :: r => uptoBulk d + uptoBulkAll r
def uptoBulkEntries {H : Type} : List (Lit × DataW H) → Nat
  | [] => 0
  | x :: r => uptoBulkEntry x + uptoBulkEntries r
def uptoBulkEntry {H : Type} : Lit × DataW H → Nat
  | (.string bytes, d) => bytes.length + uptoBulk d + 1
  | (_, d) => uptoBulk d + 1
 end
def uptoSmall : (H : Type) → List (DataW H) → Bool := fun _ ds => decide (uptoBulkAll ds ≤ 1048576)
def OpenSpec.upto (s : _root_.Go.ChangeSpec) : _root_.Go.OpenSpec := { _root_.Go.OpenSpec.ofChange s with cond := some uptoSmall }

/-- 'laws.FnExactHandleBefore', WHERE WHAT IT READS IS OF BULK AT MOST 1048576: true; the input reads as it did. -/
def fnExactHandleBeforeUptoRow : OpenClaim := { program := "ytkfcbjhfioblgaa", sum := "8269220bed7f236f6333972366e8c7c5942efdeba7ad6010b25de2dfeaeb0c28", func := "loop.example/feedbridge/laws.FnExactHandleBefore", spec := "fnExactHandleBefore", apart := false, narrowed := true }
def FnExactHandleBeforeUptoSaid : Prop := fnExactHandleBeforeUptoRow.holds Try.pinned (OpenSpec.upto fnExactHandleBeforeSpec)

/-- 'laws.FnExactHandleValid', WHERE WHAT IT READS IS OF BULK AT MOST 1048576: true; the input reads as it did. -/
def fnExactHandleValidUptoRow : OpenClaim := { program := "ytkfcbjhfioblgaa", sum := "8269220bed7f236f6333972366e8c7c5942efdeba7ad6010b25de2dfeaeb0c28", func := "loop.example/feedbridge/laws.FnExactHandleValid", spec := "fnExactHandleValid", apart := false, narrowed := true }
def FnExactHandleValidUptoSaid : Prop := fnExactHandleValidUptoRow.holds Try.pinned (OpenSpec.upto fnExactHandleValidSpec)

/-- 'laws.FnExactHandleText', WHERE WHAT IT READS IS OF BULK AT MOST 1048576: true; the input reads as it did. -/
def fnExactHandleTextUptoRow : OpenClaim := { program := "ytkfcbjhfioblgaa", sum := "8269220bed7f236f6333972366e8c7c5942efdeba7ad6010b25de2dfeaeb0c28", func := "loop.example/feedbridge/laws.FnExactHandleText", spec := "fnExactHandleText", apart := false, narrowed := true }
def FnExactHandleTextUptoSaid : Prop := fnExactHandleTextUptoRow.holds Try.pinned (OpenSpec.upto fnExactHandleTextSpec)

/-- 'laws.FnHandleBefore', WHERE WHAT IT READS IS OF BULK AT MOST 1048576: true; the input reads as it did. -/
def fnHandleBeforeUptoRow : OpenClaim := { program := "ytkfcbjhfioblgaa", sum := "8269220bed7f236f6333972366e8c7c5942efdeba7ad6010b25de2dfeaeb0c28", func := "loop.example/feedbridge/laws.FnHandleBefore", spec := "fnHandleBefore", apart := false, narrowed := true }
def FnHandleBeforeUptoSaid : Prop := fnHandleBeforeUptoRow.holds Try.pinned (OpenSpec.upto fnHandleBeforeSpec)

/-- 'laws.FnHandleValid', WHERE WHAT IT READS IS OF BULK AT MOST 1048576: true; the input reads as it did. -/
def fnHandleValidUptoRow : OpenClaim := { program := "ytkfcbjhfioblgaa", sum := "8269220bed7f236f6333972366e8c7c5942efdeba7ad6010b25de2dfeaeb0c28", func := "loop.example/feedbridge/laws.FnHandleValid", spec := "fnHandleValid", apart := false, narrowed := true }
def FnHandleValidUptoSaid : Prop := fnHandleValidUptoRow.holds Try.pinned (OpenSpec.upto fnHandleValidSpec)

/-- 'laws.FnExactReadHandle', WHERE WHAT IT READS IS OF BULK AT MOST 1048576: true; the input reads as it did. -/
def fnExactReadHandleUptoRow : OpenClaim := { program := "ytkfcbjhfioblgaa", sum := "8269220bed7f236f6333972366e8c7c5942efdeba7ad6010b25de2dfeaeb0c28", func := "loop.example/feedbridge/laws.FnExactReadHandle", spec := "fnExactReadHandle", inPlace := ["internal/bytealg.IndexByteString", "internal/bytealg.IndexString"], named := ["internal/bytealg.MaxLen"], apart := false, narrowed := true }
def FnExactReadHandleUptoSaid : Prop := fnExactReadHandleUptoRow.holds Try.pinned (OpenSpec.upto fnExactReadHandleSpec)

/-- 'laws.FnHandleText', WHERE WHAT IT READS IS OF BULK AT MOST 1048576: true; the input reads as it did. -/
def fnHandleTextUptoRow : OpenClaim := { program := "ytkfcbjhfioblgaa", sum := "8269220bed7f236f6333972366e8c7c5942efdeba7ad6010b25de2dfeaeb0c28", func := "loop.example/feedbridge/laws.FnHandleText", spec := "fnHandleText", inPlace := ["internal/bytealg.IndexByteString", "internal/bytealg.IndexString"], named := ["internal/bytealg.MaxLen"], apart := false, narrowed := true }
def FnHandleTextUptoSaid : Prop := fnHandleTextUptoRow.holds Try.pinned (OpenSpec.upto fnHandleTextSpec)

/-- 'laws.FnReadHandle', WHERE WHAT IT READS IS OF BULK AT MOST 1048576: true; the input reads as it did. -/
def fnReadHandleUptoRow : OpenClaim := { program := "ytkfcbjhfioblgaa", sum := "8269220bed7f236f6333972366e8c7c5942efdeba7ad6010b25de2dfeaeb0c28", func := "loop.example/feedbridge/laws.FnReadHandle", spec := "fnReadHandle", inPlace := ["internal/bytealg.IndexByteString", "internal/bytealg.IndexString"], named := ["internal/bytealg.MaxLen"], apart := false, narrowed := true }
def FnReadHandleUptoSaid : Prop := fnReadHandleUptoRow.holds Try.pinned (OpenSpec.upto fnReadHandleSpec)

end Rows
end Go.Proofs.Ytkfcbjhfioblgaa
