/-
  No cell of these rows narrows 'for every input' (looked for: loops, veiled, ifaces, maps, wideKeys, modest, calm, conditions, laid).
  DERIVED. THE GIVEN ROWS OF THIS SEAT. 4 by the template 'for every input the law returns true; each argument reads behind the call as it read before'; 0 by the template 'total and deterministic' (their statements: YtackffegdmohiaaTotals.lean).
  GIVEN WITH THE SEED: the statements are not yours to turn. If you find one false, say at which input.
  Laid BY PROGRAM, IN A SANDBOX (cutbox-rows.mjs): the forced cells as the released guide's own fill.sh prints them over the translation 48d5733f4093afde… (all of the seat's roots in one cut). By AI agents, Wed Nov 11 2026. No macro, syntax, notation, axiom, sorry.
-/
import Derived.Test.YtackffegdmohiaaChecked
import GoSem.Claim
import GoSem.ClaimJoined
import GoSem.ClaimMapViews
import Derived.JoinedTies
import Derived.KernelRfl
namespace Go.Proofs.Ytackffegdmohiaa
/- THE CELL 'sum', in the pinned program and in every row, IS THE sha256 OF THE DUMP (.gsa) THAT YtackffegdmohiaaProg.lean LOADS. Nothing in Lean hashes anything: it is a label: what it is worth is what the hold of that sum in a sandbox is worth. -/
noncomputable def Try.pinned : Pinned := { name := "ytackffegdmohiaa", sum := "48d5733f4093afdefb0d855dc9491d236d0106276c5656cf879344916cecdc93", checked := Try.checked }
namespace Rows
def none {H : Type} : Left H := { results := [], args := [] }

/-- 'laws.FnExactActivityValid': WHATEVER THE INPUT: true; the input reads as it did. -/
def fnExactActivityValidSpec : ChangeSpec := { name := "fnExactActivityValid", fn := fun _ => fun
  | [d] => { results := [.lit (.bool true)], args := [d] }
  | _ => none }
def fnExactActivityValidRow : OpenClaim := { program := "ytackffegdmohiaa", sum := "48d5733f4093afdefb0d855dc9491d236d0106276c5656cf879344916cecdc93", func := "loop.example/feedbridge/laws.FnExactActivityValid", spec := "fnExactActivityValid", apart := false }
def FnExactActivityValidSaid : Prop := fnExactActivityValidRow.holds Try.pinned (OpenSpec.ofChange fnExactActivityValidSpec)

/-- ITS FALSE NEIGHBOUR: 'it returns false'. Refute it at one input. -/
def fnExactActivityValidWrong : ChangeSpec := { name := "fnExactActivityValid", fn := fun _ => fun
  | [d] => { results := [.lit (.bool false)], args := [d] }
  | _ => none }
def FnExactActivityValidWrongFalsely : Prop := fnExactActivityValidRow.holds Try.pinned (OpenSpec.ofChange fnExactActivityValidWrong)

/-- 'laws.FnActivityValid': WHATEVER THE INPUT: true; the input reads as it did. -/
def fnActivityValidSpec : ChangeSpec := { name := "fnActivityValid", fn := fun _ => fun
  | [d] => { results := [.lit (.bool true)], args := [d] }
  | _ => none }
def fnActivityValidRow : OpenClaim := { program := "ytackffegdmohiaa", sum := "48d5733f4093afdefb0d855dc9491d236d0106276c5656cf879344916cecdc93", func := "loop.example/feedbridge/laws.FnActivityValid", spec := "fnActivityValid", apart := false }
def FnActivityValidSaid : Prop := fnActivityValidRow.holds Try.pinned (OpenSpec.ofChange fnActivityValidSpec)

/-- ITS FALSE NEIGHBOUR: 'it returns false'. Refute it at one input. -/
def fnActivityValidWrong : ChangeSpec := { name := "fnActivityValid", fn := fun _ => fun
  | [d] => { results := [.lit (.bool false)], args := [d] }
  | _ => none }
def FnActivityValidWrongFalsely : Prop := fnActivityValidRow.holds Try.pinned (OpenSpec.ofChange fnActivityValidWrong)

/-- 'laws.FnUndoOf': WHATEVER THE INPUT: true; the input reads as it did. -/
def fnUndoOfSpec : ChangeSpec := { name := "fnUndoOf", fn := fun _ => fun
  | [d] => { results := [.lit (.bool true)], args := [d] }
  | _ => none }
def fnUndoOfRow : OpenClaim := { program := "ytackffegdmohiaa", sum := "48d5733f4093afdefb0d855dc9491d236d0106276c5656cf879344916cecdc93", func := "loop.example/feedbridge/laws.FnUndoOf", spec := "fnUndoOf", apart := false }
def FnUndoOfSaid : Prop := fnUndoOfRow.holds Try.pinned (OpenSpec.ofChange fnUndoOfSpec)

/-- ITS FALSE NEIGHBOUR: 'it returns false'. Refute it at one input. -/
def fnUndoOfWrong : ChangeSpec := { name := "fnUndoOf", fn := fun _ => fun
  | [d] => { results := [.lit (.bool false)], args := [d] }
  | _ => none }
def FnUndoOfWrongFalsely : Prop := fnUndoOfRow.holds Try.pinned (OpenSpec.ofChange fnUndoOfWrong)

/-- 'laws.FnExactUndoOf': WHATEVER THE INPUT: true; the input reads as it did. -/
def fnExactUndoOfSpec : ChangeSpec := { name := "fnExactUndoOf", fn := fun _ => fun
  | [d1, d2] => { results := [.lit (.bool true)], args := [d1, d2] }
  | _ => none }
def fnExactUndoOfRow : OpenClaim := { program := "ytackffegdmohiaa", sum := "48d5733f4093afdefb0d855dc9491d236d0106276c5656cf879344916cecdc93", func := "loop.example/feedbridge/laws.FnExactUndoOf", spec := "fnExactUndoOf", apart := false }
def FnExactUndoOfSaid : Prop := fnExactUndoOfRow.holds Try.pinned (OpenSpec.ofChange fnExactUndoOfSpec)

/-- ITS FALSE NEIGHBOUR: 'it returns false'. Refute it at one input. -/
def fnExactUndoOfWrong : ChangeSpec := { name := "fnExactUndoOf", fn := fun _ => fun
  | [d1, d2] => { results := [.lit (.bool false)], args := [d1, d2] }
  | _ => none }
def FnExactUndoOfWrongFalsely : Prop := fnExactUndoOfRow.holds Try.pinned (OpenSpec.ofChange fnExactUndoOfWrong)

/- THE SECOND FORM. 'bulk': how many values and letters a reading holds, each counted each time it is reached (what is shared counts as often as it is met; a slice's spare places count too). A statement '..UptoSaid' is the law's where the arguments, and the package variables that the reading takes, are together of bulk at most 1048576: NARROWER than '..Said'. Prove '..Said' where nothing that the law and all that it calls make is longer than what came in: it says more and counts as full. Else prove '..UptoSaid'. A law counts once. -/
mutual
def uptoBulk {H : Type} : DataW H → Nat
  | .lit (.string bytes) => bytes.length + 1
  | .lit _ => 1
  | .nil => 1
  | .ptr d => uptoBulk d + 1
  | .slice elems spare => uptoBulkAll elems + uptoBulkAll spare + 1
  | .agg parts => uptoBulkAll parts + 1
  | .iface _ d => uptoBulk d + 1
  | .map entries => uptoBulkEntries entries + 1
  | .held _ => 1
def uptoBulkAll {H : Type} : List (DataW H) → Nat
  | [] => 0
  | d :: r => uptoBulk d + uptoBulkAll r
def uptoBulkEntries {H : Type} : List (Lit × DataW H) → Nat
  | [] => 0
  | x :: r => uptoBulkEntry x + uptoBulkEntries r
def uptoBulkEntry {H : Type} : Lit × DataW H → Nat
  | (.string bytes, d) => bytes.length + uptoBulk d + 1
  | (_, d) => uptoBulk d + 1
 end
def uptoSmall : (H : Type) → List (DataW H) → Bool := fun _ ds => decide (uptoBulkAll ds ≤ 1048576)
def OpenSpec.upto (s : _root_.Go.ChangeSpec) : _root_.Go.OpenSpec := { _root_.Go.OpenSpec.ofChange s with cond := some uptoSmall }

/-- 'laws.FnExactActivityValid', WHERE WHAT IT READS IS OF BULK AT MOST 1048576: true; the input reads as it did. -/
def fnExactActivityValidUptoRow : OpenClaim := { program := "ytackffegdmohiaa", sum := "48d5733f4093afdefb0d855dc9491d236d0106276c5656cf879344916cecdc93", func := "loop.example/feedbridge/laws.FnExactActivityValid", spec := "fnExactActivityValid", apart := false, narrowed := true }
def FnExactActivityValidUptoSaid : Prop := fnExactActivityValidUptoRow.holds Try.pinned (OpenSpec.upto fnExactActivityValidSpec)

/-- 'laws.FnActivityValid', WHERE WHAT IT READS IS OF BULK AT MOST 1048576: true; the input reads as it did. -/
def fnActivityValidUptoRow : OpenClaim := { program := "ytackffegdmohiaa", sum := "48d5733f4093afdefb0d855dc9491d236d0106276c5656cf879344916cecdc93", func := "loop.example/feedbridge/laws.FnActivityValid", spec := "fnActivityValid", apart := false, narrowed := true }
def FnActivityValidUptoSaid : Prop := fnActivityValidUptoRow.holds Try.pinned (OpenSpec.upto fnActivityValidSpec)

/-- 'laws.FnUndoOf', WHERE WHAT IT READS IS OF BULK AT MOST 1048576: true; the input reads as it did. -/
def fnUndoOfUptoRow : OpenClaim := { program := "ytackffegdmohiaa", sum := "48d5733f4093afdefb0d855dc9491d236d0106276c5656cf879344916cecdc93", func := "loop.example/feedbridge/laws.FnUndoOf", spec := "fnUndoOf", apart := false, narrowed := true }
def FnUndoOfUptoSaid : Prop := fnUndoOfUptoRow.holds Try.pinned (OpenSpec.upto fnUndoOfSpec)

/-- 'laws.FnExactUndoOf', WHERE WHAT IT READS IS OF BULK AT MOST 1048576: true; the input reads as it did. -/
def fnExactUndoOfUptoRow : OpenClaim := { program := "ytackffegdmohiaa", sum := "48d5733f4093afdefb0d855dc9491d236d0106276c5656cf879344916cecdc93", func := "loop.example/feedbridge/laws.FnExactUndoOf", spec := "fnExactUndoOf", apart := false, narrowed := true }
def FnExactUndoOfUptoSaid : Prop := fnExactUndoOfUptoRow.holds Try.pinned (OpenSpec.upto fnExactUndoOfSpec)

end Rows
end Go.Proofs.Ytackffegdmohiaa
