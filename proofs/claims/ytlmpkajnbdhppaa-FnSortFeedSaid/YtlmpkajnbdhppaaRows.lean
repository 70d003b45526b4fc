/-
  No cell of these rows narrows 'for every input' (looked for: loops, veiled, ifaces, maps, wideKeys, modest, calm, conditions, laid).
  DERIVED. THE GIVEN ROWS OF THIS SEAT. 4 by the template 'for every input the law returns true; each argument reads behind the call as it read before'; 0 by the template 'total and deterministic' (their statements: YtlmpkajnbdhppaaTotals.lean).
  GIVEN WITH THE SEED: the statements are not yours to turn. If you find one false, say at which input.
  Laid BY PROGRAM, IN A SANDBOX (cutbox-rows.mjs): the forced cells as the released guide's own fill.sh prints them over the translation 5ee867811cb0d363… (all of the seat's roots in one cut). By AI agents, Wed Nov 11 2026. No macro, syntax, notation, axiom, sorry.
-/
import Derived.Test.YtlmpkajnbdhppaaChecked
import GoSem.Claim
import GoSem.ClaimJoined
import GoSem.ClaimMapViews
import Derived.JoinedTies
import Derived.KernelRfl
namespace Go.Proofs.Ytlmpkajnbdhppaa
/- THE CELL 'sum', in the pinned program and in every row, IS THE sha256 OF THE DUMP (.gsa) THAT YtlmpkajnbdhppaaProg.lean LOADS. Nothing in Lean hashes anything: it is a label: what it is worth is what the hold of that sum in a sandbox is worth. -/
noncomputable def Try.pinned : Pinned := { name := "ytlmpkajnbdhppaa", sum := "5ee867811cb0d363405fd5b2300f424ff9e07fb907bf457be832dd6368bde019", checked := Try.checked }
namespace Rows
def none {H : Type} : Left H := { results := [], args := [] }

/-- 'laws.FnSortFeed': WHATEVER THE INPUT: true; the input reads as it did. -/
def fnSortFeedSpec : ChangeSpec := { name := "fnSortFeed", fn := fun _ => fun
  | [d] => { results := [.lit (.bool true)], args := [d] }
  | _ => none }
def fnSortFeedRow : OpenClaim := { program := "ytlmpkajnbdhppaa", sum := "5ee867811cb0d363405fd5b2300f424ff9e07fb907bf457be832dd6368bde019", func := "loop.example/feedbridge/laws.FnSortFeed", spec := "fnSortFeed", inPlace := ["internal/bytealg.abigen_runtime_cmpstring"], unfollowed := true, recurses := true, apart := false }
def FnSortFeedSaid : Prop := fnSortFeedRow.holds Try.pinned (OpenSpec.ofChange fnSortFeedSpec)

/-- ITS FALSE NEIGHBOUR: 'it returns false'. Refute it at one input. -/
def fnSortFeedWrong : ChangeSpec := { name := "fnSortFeed", fn := fun _ => fun
  | [d] => { results := [.lit (.bool false)], args := [d] }
  | _ => none }
def FnSortFeedWrongFalsely : Prop := fnSortFeedRow.holds Try.pinned (OpenSpec.ofChange fnSortFeedWrong)

/-- 'laws.FnGoneKeys': WHATEVER THE INPUT: true; the input reads as it did. -/
def fnGoneKeysSpec : ChangeSpec := { name := "fnGoneKeys", fn := fun _ => fun
  | [d] => { results := [.lit (.bool true)], args := [d] }
  | _ => none }
def fnGoneKeysRow : OpenClaim := { program := "ytlmpkajnbdhppaa", sum := "5ee867811cb0d363405fd5b2300f424ff9e07fb907bf457be832dd6368bde019", func := "loop.example/feedbridge/laws.FnGoneKeys", spec := "fnGoneKeys", apart := false }
def FnGoneKeysSaid : Prop := fnGoneKeysRow.holds Try.pinned (OpenSpec.ofChange fnGoneKeysSpec)

/-- ITS FALSE NEIGHBOUR: 'it returns false'. Refute it at one input. -/
def fnGoneKeysWrong : ChangeSpec := { name := "fnGoneKeys", fn := fun _ => fun
  | [d] => { results := [.lit (.bool false)], args := [d] }
  | _ => none }
def FnGoneKeysWrongFalsely : Prop := fnGoneKeysRow.holds Try.pinned (OpenSpec.ofChange fnGoneKeysWrong)

/-- 'laws.FnExactMergeFeeds': WHATEVER THE INPUT: true; the input reads as it did. -/
def fnExactMergeFeedsSpec : ChangeSpec := { name := "fnExactMergeFeeds", fn := fun _ => fun
  | [d1, d2] => { results := [.lit (.bool true)], args := [d1, d2] }
  | _ => none }
def fnExactMergeFeedsRow : OpenClaim := { program := "ytlmpkajnbdhppaa", sum := "5ee867811cb0d363405fd5b2300f424ff9e07fb907bf457be832dd6368bde019", func := "loop.example/feedbridge/laws.FnExactMergeFeeds", spec := "fnExactMergeFeeds", apart := false }
def FnExactMergeFeedsSaid : Prop := fnExactMergeFeedsRow.holds Try.pinned (OpenSpec.ofChange fnExactMergeFeedsSpec)

/-- ITS FALSE NEIGHBOUR: 'it returns false'. Refute it at one input. -/
def fnExactMergeFeedsWrong : ChangeSpec := { name := "fnExactMergeFeeds", fn := fun _ => fun
  | [d1, d2] => { results := [.lit (.bool false)], args := [d1, d2] }
  | _ => none }
def FnExactMergeFeedsWrongFalsely : Prop := fnExactMergeFeedsRow.holds Try.pinned (OpenSpec.ofChange fnExactMergeFeedsWrong)

/-- 'laws.FnMergeFeeds': WHATEVER THE INPUT: true; the input reads as it did. -/
def fnMergeFeedsSpec : ChangeSpec := { name := "fnMergeFeeds", fn := fun _ => fun
  | [d] => { results := [.lit (.bool true)], args := [d] }
  | _ => none }
def fnMergeFeedsRow : OpenClaim := { program := "ytlmpkajnbdhppaa", sum := "5ee867811cb0d363405fd5b2300f424ff9e07fb907bf457be832dd6368bde019", func := "loop.example/feedbridge/laws.FnMergeFeeds", spec := "fnMergeFeeds", apart := false }
def FnMergeFeedsSaid : Prop := fnMergeFeedsRow.holds Try.pinned (OpenSpec.ofChange fnMergeFeedsSpec)

/-- ITS FALSE NEIGHBOUR: 'it returns false'. Refute it at one input. -/
def fnMergeFeedsWrong : ChangeSpec := { name := "fnMergeFeeds", fn := fun _ => fun
  | [d] => { results := [.lit (.bool false)], args := [d] }
  | _ => none }
def FnMergeFeedsWrongFalsely : Prop := fnMergeFeedsRow.holds Try.pinned (OpenSpec.ofChange fnMergeFeedsWrong)

/- THE SECOND FORM. 'bulk': how many values and letters a reading holds, each counted each time it is reached (what is shared counts as often as it is met; a slice's spare places count too). A statement '..UptoSaid' is the law's where the arguments, and the package variables that the reading takes, are together of bulk at most 1048576: NARROWER than '..Said'. Prove '..Said' where nothing that the law and all that it calls make is longer than what came in: it says more and counts as full. Else prove '..UptoSaid'. A law counts once. -/
mutual
def uptoBulk {H : Type} : DataW H → Nat
  | .lit (.string bytes) => bytes.length + 1
  | .lit _ => 1
  | .nil => 1
  | .ptr d => uptoBulk d + 1
  | .slice elems spare => uptoBulkAll elems + uptoBulkAll spare + 1
  | .agg parts => uptoBulkAll parts + 1
  | .iface _ d => uptoBulk d + 1
  | .map entries => uptoBulkEntries entries + 1
  | .held _ => 1
def uptoBulkAll {H : Type} : List (DataW H) → Nat
  | [] => 0
  | d :: r => uptoBulk d + uptoBulkAll r
def uptoBulkEntries {H : Type} : List (Lit × DataW H) → Nat
  | [] => 0
  | x :: r => uptoBulkEntry x + uptoBulkEntries r
def uptoBulkEntry {H : Type} : Lit × DataW H → Nat
  | (.string bytes, d) => bytes.length + uptoBulk d + 1
  | (_, d) => uptoBulk d + 1
 end
def uptoSmall : (H : Type) → List (DataW H) → Bool := fun _ ds => decide (uptoBulkAll ds ≤ 1048576)
def OpenSpec.upto (s : _root_.Go.ChangeSpec) : _root_.Go.OpenSpec := { _root_.Go.OpenSpec.ofChange s with cond := some uptoSmall }

/-- 'laws.FnSortFeed', WHERE WHAT IT READS IS OF BULK AT MOST 1048576: true; the input reads as it did. -/
def fnSortFeedUptoRow : OpenClaim := { program := "ytlmpkajnbdhppaa", sum := "5ee867811cb0d363405fd5b2300f424ff9e07fb907bf457be832dd6368bde019", func := "loop.example/feedbridge/laws.FnSortFeed", spec := "fnSortFeed", inPlace := ["internal/bytealg.abigen_runtime_cmpstring"], unfollowed := true, recurses := true, apart := false, narrowed := true }
def FnSortFeedUptoSaid : Prop := fnSortFeedUptoRow.holds Try.pinned (OpenSpec.upto fnSortFeedSpec)

/-- 'laws.FnGoneKeys', WHERE WHAT IT READS IS OF BULK AT MOST 1048576: true; the input reads as it did. -/
def fnGoneKeysUptoRow : OpenClaim := { program := "ytlmpkajnbdhppaa", sum := "5ee867811cb0d363405fd5b2300f424ff9e07fb907bf457be832dd6368bde019", func := "loop.example/feedbridge/laws.FnGoneKeys", spec := "fnGoneKeys", apart := false, narrowed := true }
def FnGoneKeysUptoSaid : Prop := fnGoneKeysUptoRow.holds Try.pinned (OpenSpec.upto fnGoneKeysSpec)

/-- 'laws.FnExactMergeFeeds', WHERE WHAT IT READS IS OF BULK AT MOST 1048576: true; the input reads as it did. -/
def fnExactMergeFeedsUptoRow : OpenClaim := { program := "ytlmpkajnbdhppaa", sum := "5ee867811cb0d363405fd5b2300f424ff9e07fb907bf457be832dd6368bde019", func := "loop.example/feedbridge/laws.FnExactMergeFeeds", spec := "fnExactMergeFeeds", apart := false, narrowed := true }
def FnExactMergeFeedsUptoSaid : Prop := fnExactMergeFeedsUptoRow.holds Try.pinned (OpenSpec.upto fnExactMergeFeedsSpec)

/-- 'laws.FnMergeFeeds', WHERE WHAT IT READS IS OF BULK AT MOST 1048576: true; the input reads as it did. -/
def fnMergeFeedsUptoRow : OpenClaim := { program := "ytlmpkajnbdhppaa", sum := "5ee867811cb0d363405fd5b2300f424ff9e07fb907bf457be832dd6368bde019", func := "loop.example/feedbridge/laws.FnMergeFeeds", spec := "fnMergeFeeds", apart := false, narrowed := true }
def FnMergeFeedsUptoSaid : Prop := fnMergeFeedsUptoRow.holds Try.pinned (OpenSpec.upto fnMergeFeedsSpec)

end Rows
end Go.Proofs.Ytlmpkajnbdhppaa
