/-
  DERIVED. GIVEN WITH THE SEED: THE CARDS: each row of YtemjonibpachbaaDoorRows.lean that lists a variable, with what it lists TIED to the program's text (the seventh form; the later family's looks); each row that meets fmt, with fmt's text TOLD by the authors' own Lean function (tested against real Go, not proved from fmt's source: count such statements apart). THE CARD IS WHAT COUNTS. Prove the row's statement (the work); the ties are given (YtemjonibpachbaaDoorTie.lean); close each card by the builder's one call (the guide's Derived/Test/ToyasCard.lean, 'card_holds'). Laid BY PROGRAM, IN A SANDBOX (cutbox-door.mjs). By AI agents, Wed Nov 11 2026. No macro, syntax, notation, axiom, sorry.
-/
import Derived.Test.YtemjonibpachbaaDoorRows
import GoSem.ClaimSeven
namespace Go.Proofs.YtemjonibpachbaaDoor
namespace Rows

/-- THE TIED CARD OF 'laws.FnFieldsText'. -/
def fnFieldsTextCard : Claim7 := { stood := { row := fnFieldsTextRow, standIns := [], harness := (true, "181d55fd93934a6ae79c2a1c01d5d7558bf898ab9062f24197cd0f7fb54a9c15"), looks := false }, kinds := [], alts := [], laidByText := true, laidKinds := [.data, .pinned], laidTests := true, laidLooks := .later }
def FnFieldsTextCardSaid : Prop := Claim7.holds Tryd.pinned (.plain (OpenSpec.ofChange fnFieldsTextSpec)) fnFieldsTextCard

/-- THE TIED CARD OF 'laws.FnReadFields'. -/
def fnReadFieldsCard : Claim7 := { stood := { row := fnReadFieldsRow, standIns := [], harness := (true, "181d55fd93934a6ae79c2a1c01d5d7558bf898ab9062f24197cd0f7fb54a9c15"), looks := false }, kinds := [], alts := [], laidByText := true, laidKinds := [.data, .pinned], laidTests := true, laidLooks := .later }
def FnReadFieldsCardSaid : Prop := Claim7.holds Tryd.pinned (.plain (OpenSpec.ofChange fnReadFieldsSpec)) fnReadFieldsCard

/-- THE TIED CARD OF 'laws.FnExactReadFields'. -/
def fnExactReadFieldsCard : Claim7 := { stood := { row := fnExactReadFieldsRow, standIns := [], harness := (true, "181d55fd93934a6ae79c2a1c01d5d7558bf898ab9062f24197cd0f7fb54a9c15"), looks := false }, kinds := [], alts := [], laidByText := true, laidKinds := [.data, .pinned], laidTests := true, laidLooks := .later }
def FnExactReadFieldsCardSaid : Prop := Claim7.holds Tryd.pinned (.plain (OpenSpec.ofChange fnExactReadFieldsSpec)) fnExactReadFieldsCard

/-- THE SECOND FORM's CARD OF 'laws.FnFieldsText'. -/
def fnFieldsTextUptoCard : Claim7 := { stood := { row := fnFieldsTextUptoRow, standIns := [], harness := (true, "181d55fd93934a6ae79c2a1c01d5d7558bf898ab9062f24197cd0f7fb54a9c15"), looks := false }, kinds := [], alts := [], laidByText := true, laidKinds := [.data, .pinned], laidTests := true, laidLooks := .later }
def FnFieldsTextUptoCardSaid : Prop := Claim7.holds Tryd.pinned (.plain (OpenSpec.upto fnFieldsTextSpec)) fnFieldsTextUptoCard

/-- THE SECOND FORM's CARD OF 'laws.FnReadFields'. -/
def fnReadFieldsUptoCard : Claim7 := { stood := { row := fnReadFieldsUptoRow, standIns := [], harness := (true, "181d55fd93934a6ae79c2a1c01d5d7558bf898ab9062f24197cd0f7fb54a9c15"), looks := false }, kinds := [], alts := [], laidByText := true, laidKinds := [.data, .pinned], laidTests := true, laidLooks := .later }
def FnReadFieldsUptoCardSaid : Prop := Claim7.holds Tryd.pinned (.plain (OpenSpec.upto fnReadFieldsSpec)) fnReadFieldsUptoCard

/-- THE SECOND FORM's CARD OF 'laws.FnExactReadFields'. -/
def fnExactReadFieldsUptoCard : Claim7 := { stood := { row := fnExactReadFieldsUptoRow, standIns := [], harness := (true, "181d55fd93934a6ae79c2a1c01d5d7558bf898ab9062f24197cd0f7fb54a9c15"), looks := false }, kinds := [], alts := [], laidByText := true, laidKinds := [.data, .pinned], laidTests := true, laidLooks := .later }
def FnExactReadFieldsUptoCardSaid : Prop := Claim7.holds Tryd.pinned (.plain (OpenSpec.upto fnExactReadFieldsSpec)) fnExactReadFieldsUptoCard
end Rows
end Go.Proofs.YtemjonibpachbaaDoor
