/-
  No cell of these rows narrows 'for every input' (looked for: loops, veiled, ifaces, maps, wideKeys, modest, calm, conditions, laid).
  DERIVED. THE GIVEN ROWS OF THIS SEAT. 6 by the template 'for every input the law returns true; each argument reads behind the call as it read before'; 0 by the template 'total and deterministic' (their statements: YtipalcmfhmmdiaaTotals.lean).
  GIVEN WITH THE SEED: the statements are not yours to turn. If you find one false, say at which input.
  Laid BY PROGRAM, IN A SANDBOX (cutbox-rows.mjs): the forced cells as the released guide's own fill.sh prints them over the translation e29afd766367293b… (all of the seat's roots in one cut). By AI agents, Wed Nov 11 2026. No macro, syntax, notation, axiom, sorry.
-/
import Derived.Test.YtipalcmfhmmdiaaChecked
import GoSem.Claim
import GoSem.ClaimJoined
import GoSem.ClaimMapViews
import Derived.JoinedTies
import Derived.KernelRfl
namespace Go.Proofs.Ytipalcmfhmmdiaa
/- THE CELL 'sum', in the pinned program and in every row, IS THE sha256 OF THE DUMP (.gsa) THAT YtipalcmfhmmdiaaProg.lean LOADS. Nothing in Lean hashes anything: it is a label: what it is worth is what the hold of that sum in a sandbox is worth. -/
noncomputable def Try.pinned : Pinned := { name := "ytipalcmfhmmdiaa", sum := "e29afd766367293b9db07f95df8d65cf9d79edf95fe59f83691e54869766ec0c", checked := Try.checked }
namespace Rows
def none {H : Type} : Left H := { results := [], args := [] }

/-- 'laws.FnExactActorsValid': WHATEVER THE INPUT: true; the input reads as it did. -/
def fnExactActorsValidSpec : ChangeSpec := { name := "fnExactActorsValid", fn := fun _ => fun
  | [d] => { results := [.lit (.bool true)], args := [d] }
  | _ => none }
def fnExactActorsValidRow : OpenClaim := { program := "ytipalcmfhmmdiaa", sum := "e29afd766367293b9db07f95df8d65cf9d79edf95fe59f83691e54869766ec0c", func := "loop.example/feedbridge/laws.FnExactActorsValid", spec := "fnExactActorsValid", apart := false }
def FnExactActorsValidSaid : Prop := fnExactActorsValidRow.holds Try.pinned (OpenSpec.ofChange fnExactActorsValidSpec)

/-- ITS FALSE NEIGHBOUR: 'it returns false'. Refute it at one input. -/
def fnExactActorsValidWrong : ChangeSpec := { name := "fnExactActorsValid", fn := fun _ => fun
  | [d] => { results := [.lit (.bool false)], args := [d] }
  | _ => none }
def FnExactActorsValidWrongFalsely : Prop := fnExactActorsValidRow.holds Try.pinned (OpenSpec.ofChange fnExactActorsValidWrong)

/-- 'laws.FnActorsValid': WHATEVER THE INPUT: true; the input reads as it did. -/
def fnActorsValidSpec : ChangeSpec := { name := "fnActorsValid", fn := fun _ => fun
  | [d] => { results := [.lit (.bool true)], args := [d] }
  | _ => none }
def fnActorsValidRow : OpenClaim := { program := "ytipalcmfhmmdiaa", sum := "e29afd766367293b9db07f95df8d65cf9d79edf95fe59f83691e54869766ec0c", func := "loop.example/feedbridge/laws.FnActorsValid", spec := "fnActorsValid", apart := false }
def FnActorsValidSaid : Prop := fnActorsValidRow.holds Try.pinned (OpenSpec.ofChange fnActorsValidSpec)

/-- ITS FALSE NEIGHBOUR: 'it returns false'. Refute it at one input. -/
def fnActorsValidWrong : ChangeSpec := { name := "fnActorsValid", fn := fun _ => fun
  | [d] => { results := [.lit (.bool false)], args := [d] }
  | _ => none }
def FnActorsValidWrongFalsely : Prop := fnActorsValidRow.holds Try.pinned (OpenSpec.ofChange fnActorsValidWrong)

/-- 'laws.FnExactActorNamed': WHATEVER THE INPUT: true; the input reads as it did. -/
def fnExactActorNamedSpec : ChangeSpec := { name := "fnExactActorNamed", fn := fun _ => fun
  | [d1, d2] => { results := [.lit (.bool true)], args := [d1, d2] }
  | _ => none }
def fnExactActorNamedRow : OpenClaim := { program := "ytipalcmfhmmdiaa", sum := "e29afd766367293b9db07f95df8d65cf9d79edf95fe59f83691e54869766ec0c", func := "loop.example/feedbridge/laws.FnExactActorNamed", spec := "fnExactActorNamed", apart := false }
def FnExactActorNamedSaid : Prop := fnExactActorNamedRow.holds Try.pinned (OpenSpec.ofChange fnExactActorNamedSpec)

/-- ITS FALSE NEIGHBOUR: 'it returns false'. Refute it at one input. -/
def fnExactActorNamedWrong : ChangeSpec := { name := "fnExactActorNamed", fn := fun _ => fun
  | [d1, d2] => { results := [.lit (.bool false)], args := [d1, d2] }
  | _ => none }
def FnExactActorNamedWrongFalsely : Prop := fnExactActorNamedRow.holds Try.pinned (OpenSpec.ofChange fnExactActorNamedWrong)

/-- 'laws.FnActorNamed': WHATEVER THE INPUT: true; the input reads as it did. -/
def fnActorNamedSpec : ChangeSpec := { name := "fnActorNamed", fn := fun _ => fun
  | [d] => { results := [.lit (.bool true)], args := [d] }
  | _ => none }
def fnActorNamedRow : OpenClaim := { program := "ytipalcmfhmmdiaa", sum := "e29afd766367293b9db07f95df8d65cf9d79edf95fe59f83691e54869766ec0c", func := "loop.example/feedbridge/laws.FnActorNamed", spec := "fnActorNamed", apart := false }
def FnActorNamedSaid : Prop := fnActorNamedRow.holds Try.pinned (OpenSpec.ofChange fnActorNamedSpec)

/-- ITS FALSE NEIGHBOUR: 'it returns false'. Refute it at one input. -/
def fnActorNamedWrong : ChangeSpec := { name := "fnActorNamed", fn := fun _ => fun
  | [d] => { results := [.lit (.bool false)], args := [d] }
  | _ => none }
def FnActorNamedWrongFalsely : Prop := fnActorNamedRow.holds Try.pinned (OpenSpec.ofChange fnActorNamedWrong)

/-- 'laws.FnAddActor': WHATEVER THE INPUT: true; the input reads as it did. -/
def fnAddActorSpec : ChangeSpec := { name := "fnAddActor", fn := fun _ => fun
  | [d] => { results := [.lit (.bool true)], args := [d] }
  | _ => none }
def fnAddActorRow : OpenClaim := { program := "ytipalcmfhmmdiaa", sum := "e29afd766367293b9db07f95df8d65cf9d79edf95fe59f83691e54869766ec0c", func := "loop.example/feedbridge/laws.FnAddActor", spec := "fnAddActor", apart := false }
def FnAddActorSaid : Prop := fnAddActorRow.holds Try.pinned (OpenSpec.ofChange fnAddActorSpec)

/-- ITS FALSE NEIGHBOUR: 'it returns false'. Refute it at one input. -/
def fnAddActorWrong : ChangeSpec := { name := "fnAddActor", fn := fun _ => fun
  | [d] => { results := [.lit (.bool false)], args := [d] }
  | _ => none }
def FnAddActorWrongFalsely : Prop := fnAddActorRow.holds Try.pinned (OpenSpec.ofChange fnAddActorWrong)

/-- 'laws.FnExactAddActor': WHATEVER THE INPUT: true; the input reads as it did. -/
def fnExactAddActorSpec : ChangeSpec := { name := "fnExactAddActor", fn := fun _ => fun
  | [d1, d2] => { results := [.lit (.bool true)], args := [d1, d2] }
  | _ => none }
def fnExactAddActorRow : OpenClaim := { program := "ytipalcmfhmmdiaa", sum := "e29afd766367293b9db07f95df8d65cf9d79edf95fe59f83691e54869766ec0c", func := "loop.example/feedbridge/laws.FnExactAddActor", spec := "fnExactAddActor", apart := false }
def FnExactAddActorSaid : Prop := fnExactAddActorRow.holds Try.pinned (OpenSpec.ofChange fnExactAddActorSpec)

/-- ITS FALSE NEIGHBOUR: 'it returns false'. Refute it at one input. -/
def fnExactAddActorWrong : ChangeSpec := { name := "fnExactAddActor", fn := fun _ => fun
  | [d1, d2] => { results := [.lit (.bool false)], args := [d1, d2] }
  | _ => none }
def FnExactAddActorWrongFalsely : Prop := fnExactAddActorRow.holds Try.pinned (OpenSpec.ofChange fnExactAddActorWrong)

/- THE SECOND FORM. 'bulk': how many values and letters a reading holds, each counted each time it is reached (what is shared counts as often as it is met; a slice's spare places count too). A statement '..UptoSaid' is the law's where the arguments, and the package variables that the reading takes, are together of bulk at most 1048576: NARROWER than '..Said'. Prove '..Said' where nothing that the law and all that it calls make is longer than what came in: it says more and counts as full. Else prove '..UptoSaid'. A law counts once. -/
mutual
def uptoBulk {H : Type} : DataW H → Nat
  | .lit (.string bytes) => bytes.length + 1
  | .lit _ => 1
  | .nil => 1
  | .ptr d => uptoBulk d + 1
  | .slice elems spare => uptoBulkAll elems + uptoBulkAll spare + 1
  | .agg parts => uptoBulkAll parts + 1
  | .iface _ d => uptoBulk d + 1
  | .map entries => uptoBulkEntries entries + 1
  | .held _ => 1
def uptoBulkAll {H : Type} : List (DataW H) → Nat
  | [] => 0
  | d :: r => uptoBulk d + uptoBulkAll r
def uptoBulkEntries {H : Type} : List (Lit × DataW H) → Nat
  | [] => 0
  | x :: r => uptoBulkEntry x + uptoBulkEntries r
def uptoBulkEntry {H : Type} : Lit × DataW H → Nat
  | (.string bytes, d) => bytes.length + uptoBulk d + 1
  | (_, d) => uptoBulk d + 1
 end
def uptoSmall : (H : Type) → List (DataW H) → Bool := fun _ ds => decide (uptoBulkAll ds ≤ 1048576)
def OpenSpec.upto (s : _root_.Go.ChangeSpec) : _root_.Go.OpenSpec := { _root_.Go.OpenSpec.ofChange s with cond := some uptoSmall }

/-- 'laws.FnExactActorsValid', WHERE WHAT IT READS IS OF BULK AT MOST 1048576: true; the input reads as it did. -/
def fnExactActorsValidUptoRow : OpenClaim := { program := "ytipalcmfhmmdiaa", sum := "e29afd766367293b9db07f95df8d65cf9d79edf95fe59f83691e54869766ec0c", func := "loop.example/feedbridge/laws.FnExactActorsValid", spec := "fnExactActorsValid", apart := false, narrowed := true }
def FnExactActorsValidUptoSaid : Prop := fnExactActorsValidUptoRow.holds Try.pinned (OpenSpec.upto fnExactActorsValidSpec)

/-- 'laws.FnActorsValid', WHERE WHAT IT READS IS OF BULK AT MOST 1048576: true; the input reads as it did. -/
def fnActorsValidUptoRow : OpenClaim := { program := "ytipalcmfhmmdiaa", sum := "e29afd766367293b9db07f95df8d65cf9d79edf95fe59f83691e54869766ec0c", func := "loop.example/feedbridge/laws.FnActorsValid", spec := "fnActorsValid", apart := false, narrowed := true }
def FnActorsValidUptoSaid : Prop := fnActorsValidUptoRow.holds Try.pinned (OpenSpec.upto fnActorsValidSpec)

/-- 'laws.FnExactActorNamed', WHERE WHAT IT READS IS OF BULK AT MOST 1048576: true; the input reads as it did. -/
def fnExactActorNamedUptoRow : OpenClaim := { program := "ytipalcmfhmmdiaa", sum := "e29afd766367293b9db07f95df8d65cf9d79edf95fe59f83691e54869766ec0c", func := "loop.example/feedbridge/laws.FnExactActorNamed", spec := "fnExactActorNamed", apart := false, narrowed := true }
def FnExactActorNamedUptoSaid : Prop := fnExactActorNamedUptoRow.holds Try.pinned (OpenSpec.upto fnExactActorNamedSpec)

/-- 'laws.FnActorNamed', WHERE WHAT IT READS IS OF BULK AT MOST 1048576: true; the input reads as it did. -/
def fnActorNamedUptoRow : OpenClaim := { program := "ytipalcmfhmmdiaa", sum := "e29afd766367293b9db07f95df8d65cf9d79edf95fe59f83691e54869766ec0c", func := "loop.example/feedbridge/laws.FnActorNamed", spec := "fnActorNamed", apart := false, narrowed := true }
def FnActorNamedUptoSaid : Prop := fnActorNamedUptoRow.holds Try.pinned (OpenSpec.upto fnActorNamedSpec)

/-- 'laws.FnAddActor', WHERE WHAT IT READS IS OF BULK AT MOST 1048576: true; the input reads as it did. -/
def fnAddActorUptoRow : OpenClaim := { program := "ytipalcmfhmmdiaa", sum := "e29afd766367293b9db07f95df8d65cf9d79edf95fe59f83691e54869766ec0c", func := "loop.example/feedbridge/laws.FnAddActor", spec := "fnAddActor", apart := false, narrowed := true }
def FnAddActorUptoSaid : Prop := fnAddActorUptoRow.holds Try.pinned (OpenSpec.upto fnAddActorSpec)

/-- 'laws.FnExactAddActor', WHERE WHAT IT READS IS OF BULK AT MOST 1048576: true; the input reads as it did. -/
def fnExactAddActorUptoRow : OpenClaim := { program := "ytipalcmfhmmdiaa", sum := "e29afd766367293b9db07f95df8d65cf9d79edf95fe59f83691e54869766ec0c", func := "loop.example/feedbridge/laws.FnExactAddActor", spec := "fnExactAddActor", apart := false, narrowed := true }
def FnExactAddActorUptoSaid : Prop := fnExactAddActorUptoRow.holds Try.pinned (OpenSpec.upto fnExactAddActorSpec)

end Rows
end Go.Proofs.Ytipalcmfhmmdiaa
