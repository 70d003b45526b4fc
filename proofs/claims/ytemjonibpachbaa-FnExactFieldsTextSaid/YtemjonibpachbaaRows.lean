/-
  No cell of these rows narrows 'for every input' (looked for: loops, veiled, ifaces, maps, wideKeys, modest, calm, conditions, laid).
  DERIVED. THE GIVEN ROWS OF THIS SEAT. 5 by the template 'for every input the law returns true; each argument reads behind the call as it read before'; 0 by the template 'total and deterministic' (their statements: YtemjonibpachbaaTotals.lean).
  GIVEN WITH THE SEED: the statements are not yours to turn. If you find one false, say at which input.
  Laid BY PROGRAM, IN A SANDBOX (cutbox-rows.mjs): the forced cells as the released guide's own fill.sh prints them over the translation 017b8081370f62fb… (all of the seat's roots in one cut). By AI agents, Wed Nov 11 2026. No macro, syntax, notation, axiom, sorry.
-/
import Derived.Test.YtemjonibpachbaaChecked
import GoSem.Claim
import GoSem.ClaimJoined
import GoSem.ClaimMapViews
import Derived.JoinedTies
import Derived.KernelRfl
namespace Go.Proofs.Ytemjonibpachbaa
/- THE CELL 'sum', in the pinned program and in every row, IS THE sha256 OF THE DUMP (.gsa) THAT YtemjonibpachbaaProg.lean LOADS. Nothing in Lean hashes anything: it is a label: what it is worth is what the hold of that sum in a sandbox is worth. -/
noncomputable def Try.pinned : Pinned := { name := "ytemjonibpachbaa", sum := "017b8081370f62fba7b6ad849192ae822c252286f80dceae2b1b8efe162c7cdd", checked := Try.checked }
namespace Rows
def none {H : Type} : Left H := { results := [], args := [] }

/-- 'laws.FnFieldsValid': WHATEVER THE INPUT: true; the input reads as it did. -/
def fnFieldsValidSpec : ChangeSpec := { name := "fnFieldsValid", fn := fun _ => fun
  | [d] => { results := [.lit (.bool true)], args := [d] }
  | _ => none }
def fnFieldsValidRow : OpenClaim := { program := "ytemjonibpachbaa", sum := "017b8081370f62fba7b6ad849192ae822c252286f80dceae2b1b8efe162c7cdd", func := "loop.example/feedbridge/laws.FnFieldsValid", spec := "fnFieldsValid", apart := false }
def FnFieldsValidSaid : Prop := fnFieldsValidRow.holds Try.pinned (OpenSpec.ofChange fnFieldsValidSpec)

/-- ITS FALSE NEIGHBOUR: 'it returns false'. Refute it at one input. -/
def fnFieldsValidWrong : ChangeSpec := { name := "fnFieldsValid", fn := fun _ => fun
  | [d] => { results := [.lit (.bool false)], args := [d] }
  | _ => none }
def FnFieldsValidWrongFalsely : Prop := fnFieldsValidRow.holds Try.pinned (OpenSpec.ofChange fnFieldsValidWrong)

/-- 'laws.FnExactFieldsValid': WHATEVER THE INPUT: true; the input reads as it did. -/
def fnExactFieldsValidSpec : ChangeSpec := { name := "fnExactFieldsValid", fn := fun _ => fun
  | [d] => { results := [.lit (.bool true)], args := [d] }
  | _ => none }
def fnExactFieldsValidRow : OpenClaim := { program := "ytemjonibpachbaa", sum := "017b8081370f62fba7b6ad849192ae822c252286f80dceae2b1b8efe162c7cdd", func := "loop.example/feedbridge/laws.FnExactFieldsValid", spec := "fnExactFieldsValid", apart := false }
def FnExactFieldsValidSaid : Prop := fnExactFieldsValidRow.holds Try.pinned (OpenSpec.ofChange fnExactFieldsValidSpec)

/-- ITS FALSE NEIGHBOUR: 'it returns false'. Refute it at one input. -/
def fnExactFieldsValidWrong : ChangeSpec := { name := "fnExactFieldsValid", fn := fun _ => fun
  | [d] => { results := [.lit (.bool false)], args := [d] }
  | _ => none }
def FnExactFieldsValidWrongFalsely : Prop := fnExactFieldsValidRow.holds Try.pinned (OpenSpec.ofChange fnExactFieldsValidWrong)

/-- 'laws.FnSortFields': WHATEVER THE INPUT: true; the input reads as it did. -/
def fnSortFieldsSpec : ChangeSpec := { name := "fnSortFields", fn := fun _ => fun
  | [d] => { results := [.lit (.bool true)], args := [d] }
  | _ => none }
def fnSortFieldsRow : OpenClaim := { program := "ytemjonibpachbaa", sum := "017b8081370f62fba7b6ad849192ae822c252286f80dceae2b1b8efe162c7cdd", func := "loop.example/feedbridge/laws.FnSortFields", spec := "fnSortFields", inPlace := ["internal/bytealg.abigen_runtime_cmpstring"], unfollowed := true, recurses := true, apart := false }
def FnSortFieldsSaid : Prop := fnSortFieldsRow.holds Try.pinned (OpenSpec.ofChange fnSortFieldsSpec)

/-- ITS FALSE NEIGHBOUR: 'it returns false'. Refute it at one input. -/
def fnSortFieldsWrong : ChangeSpec := { name := "fnSortFields", fn := fun _ => fun
  | [d] => { results := [.lit (.bool false)], args := [d] }
  | _ => none }
def FnSortFieldsWrongFalsely : Prop := fnSortFieldsRow.holds Try.pinned (OpenSpec.ofChange fnSortFieldsWrong)

/-- 'laws.FnExactSortFields': WHATEVER THE INPUT: true; the input reads as it did. -/
def fnExactSortFieldsSpec : ChangeSpec := { name := "fnExactSortFields", fn := fun _ => fun
  | [d] => { results := [.lit (.bool true)], args := [d] }
  | _ => none }
def fnExactSortFieldsRow : OpenClaim := { program := "ytemjonibpachbaa", sum := "017b8081370f62fba7b6ad849192ae822c252286f80dceae2b1b8efe162c7cdd", func := "loop.example/feedbridge/laws.FnExactSortFields", spec := "fnExactSortFields", inPlace := ["internal/bytealg.abigen_runtime_cmpstring"], unfollowed := true, recurses := true, apart := false }
def FnExactSortFieldsSaid : Prop := fnExactSortFieldsRow.holds Try.pinned (OpenSpec.ofChange fnExactSortFieldsSpec)

/-- ITS FALSE NEIGHBOUR: 'it returns false'. Refute it at one input. -/
def fnExactSortFieldsWrong : ChangeSpec := { name := "fnExactSortFields", fn := fun _ => fun
  | [d] => { results := [.lit (.bool false)], args := [d] }
  | _ => none }
def FnExactSortFieldsWrongFalsely : Prop := fnExactSortFieldsRow.holds Try.pinned (OpenSpec.ofChange fnExactSortFieldsWrong)

/-- 'laws.FnExactFieldsText': WHATEVER THE INPUT: true; the input reads as it did. -/
def fnExactFieldsTextSpec : ChangeSpec := { name := "fnExactFieldsText", fn := fun _ => fun
  | [d] => { results := [.lit (.bool true)], args := [d] }
  | _ => none }
def fnExactFieldsTextRow : OpenClaim := { program := "ytemjonibpachbaa", sum := "017b8081370f62fba7b6ad849192ae822c252286f80dceae2b1b8efe162c7cdd", func := "loop.example/feedbridge/laws.FnExactFieldsText", spec := "fnExactFieldsText", inPlace := ["internal/bytealg.abigen_runtime_cmpstring", "internal/abi.NoEscape", "internal/bytealg.MakeNoZero"], unfollowed := true, recurses := true, apart := false }
def FnExactFieldsTextSaid : Prop := fnExactFieldsTextRow.holds Try.pinned (OpenSpec.ofChange fnExactFieldsTextSpec)

/-- ITS FALSE NEIGHBOUR: 'it returns false'. Refute it at one input. -/
def fnExactFieldsTextWrong : ChangeSpec := { name := "fnExactFieldsText", fn := fun _ => fun
  | [d] => { results := [.lit (.bool false)], args := [d] }
  | _ => none }
def FnExactFieldsTextWrongFalsely : Prop := fnExactFieldsTextRow.holds Try.pinned (OpenSpec.ofChange fnExactFieldsTextWrong)

/- THE SECOND FORM. 'bulk': how many values and letters a reading holds, each counted each time it is reached (what is shared counts as often as it is met; a slice's spare places count too). A statement '..UptoSaid' is the law's where the arguments, and the package variables that the reading takes, are together of bulk at most 1048576: NARROWER than '..Said'. Prove '..Said' where nothing that the law and all that it calls make is longer than what came in: it says more and counts as full. Else prove '..UptoSaid'. A law counts once. -/
mutual
def uptoBulk {H : Type} : DataW H → Nat
  | .lit (.string bytes) => bytes.length + 1
  | .lit _ => 1
  | .nil => 1
  | .ptr d => uptoBulk d + 1
  | .slice elems spare => uptoBulkAll elems + uptoBulkAll spare + 1
  | .agg parts => uptoBulkAll parts + 1
  | .iface _ d => uptoBulk d + 1
  | .map entries => uptoBulkEntries entries + 1
  | .held _ => 1
def uptoBulkAll {H : Type} : List (DataW H) → Nat
  | [] => 0
  | d :: r => uptoBulk d + uptoBulkAll r
def uptoBulkEntries {H : Type} : List (Lit × DataW H) → Nat
  | [] => 0
  | x :: r => uptoBulkEntry x + uptoBulkEntries r
def uptoBulkEntry {H : Type} : Lit × DataW H → Nat
  | (.string bytes, d) => bytes.length + uptoBulk d + 1
  | (_, d) => uptoBulk d + 1
 end
def uptoSmall : (H : Type) → List (DataW H) → Bool := fun _ ds => decide (uptoBulkAll ds ≤ 1048576)
def OpenSpec.upto (s : _root_.Go.ChangeSpec) : _root_.Go.OpenSpec := { _root_.Go.OpenSpec.ofChange s with cond := some uptoSmall }

/-- 'laws.FnFieldsValid', WHERE WHAT IT READS IS OF BULK AT MOST 1048576: true; the input reads as it did. -/
def fnFieldsValidUptoRow : OpenClaim := { program := "ytemjonibpachbaa", sum := "017b8081370f62fba7b6ad849192ae822c252286f80dceae2b1b8efe162c7cdd", func := "loop.example/feedbridge/laws.FnFieldsValid", spec := "fnFieldsValid", apart := false, narrowed := true }
def FnFieldsValidUptoSaid : Prop := fnFieldsValidUptoRow.holds Try.pinned (OpenSpec.upto fnFieldsValidSpec)

/-- 'laws.FnExactFieldsValid', WHERE WHAT IT READS IS OF BULK AT MOST 1048576: true; the input reads as it did. -/
def fnExactFieldsValidUptoRow : OpenClaim := { program := "ytemjonibpachbaa", sum := "017b8081370f62fba7b6ad849192ae822c252286f80dceae2b1b8efe162c7cdd", func := "loop.example/feedbridge/laws.FnExactFieldsValid", spec := "fnExactFieldsValid", apart := false, narrowed := true }
def FnExactFieldsValidUptoSaid : Prop := fnExactFieldsValidUptoRow.holds Try.pinned (OpenSpec.upto fnExactFieldsValidSpec)

/-- 'laws.FnSortFields', WHERE WHAT IT READS IS OF BULK AT MOST 1048576: true; the input reads as it did. -/
def fnSortFieldsUptoRow : OpenClaim := { program := "ytemjonibpachbaa", sum := "017b8081370f62fba7b6ad849192ae822c252286f80dceae2b1b8efe162c7cdd", func := "loop.example/feedbridge/laws.FnSortFields", spec := "fnSortFields", inPlace := ["internal/bytealg.abigen_runtime_cmpstring"], unfollowed := true, recurses := true, apart := false, narrowed := true }
def FnSortFieldsUptoSaid : Prop := fnSortFieldsUptoRow.holds Try.pinned (OpenSpec.upto fnSortFieldsSpec)

/-- 'laws.FnExactSortFields', WHERE WHAT IT READS IS OF BULK AT MOST 1048576: true; the input reads as it did. -/
def fnExactSortFieldsUptoRow : OpenClaim := { program := "ytemjonibpachbaa", sum := "017b8081370f62fba7b6ad849192ae822c252286f80dceae2b1b8efe162c7cdd", func := "loop.example/feedbridge/laws.FnExactSortFields", spec := "fnExactSortFields", inPlace := ["internal/bytealg.abigen_runtime_cmpstring"], unfollowed := true, recurses := true, apart := false, narrowed := true }
def FnExactSortFieldsUptoSaid : Prop := fnExactSortFieldsUptoRow.holds Try.pinned (OpenSpec.upto fnExactSortFieldsSpec)

/-- 'laws.FnExactFieldsText', WHERE WHAT IT READS IS OF BULK AT MOST 1048576: true; the input reads as it did. -/
def fnExactFieldsTextUptoRow : OpenClaim := { program := "ytemjonibpachbaa", sum := "017b8081370f62fba7b6ad849192ae822c252286f80dceae2b1b8efe162c7cdd", func := "loop.example/feedbridge/laws.FnExactFieldsText", spec := "fnExactFieldsText", inPlace := ["internal/bytealg.abigen_runtime_cmpstring", "internal/abi.NoEscape", "internal/bytealg.MakeNoZero"], unfollowed := true, recurses := true, apart := false, narrowed := true }
def FnExactFieldsTextUptoSaid : Prop := fnExactFieldsTextUptoRow.holds Try.pinned (OpenSpec.upto fnExactFieldsTextSpec)

end Rows
end Go.Proofs.Ytemjonibpachbaa
