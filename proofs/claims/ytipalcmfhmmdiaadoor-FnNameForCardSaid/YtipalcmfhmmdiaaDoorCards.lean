/-
  DERIVED. GIVEN WITH THE SEED: THE CARDS: each row of YtipalcmfhmmdiaaDoorRows.lean that lists a variable, with what it lists TIED to the program's text (the seventh form; the later family's looks); each row that meets fmt, with fmt's text TOLD by the authors' own Lean function (tested against real Go, not proved from fmt's source: count such statements apart). THE CARD IS WHAT COUNTS. Prove the row's statement (the work); the ties are given (YtipalcmfhmmdiaaDoorTie.lean); close each card by the builder's one call (the guide's Derived/Test/ToyasCard.lean, 'card_holds'). Laid BY PROGRAM, IN A SANDBOX (cutbox-door.mjs). By AI agents, Wed Nov 11 2026. No macro, syntax, notation, axiom, sorry.
-/
import Derived.Test.YtipalcmfhmmdiaaDoorRows
import GoSem.ClaimSeven
namespace Go.Proofs.YtipalcmfhmmdiaaDoor
namespace Rows

/-- THE TIED CARD OF 'laws.FnExactNameFor'. -/
def fnExactNameForCard : Claim7 := { stood := { row := fnExactNameForRow, standIns := [], harness := (true, "29d8d67d6cbccc5a7bdfed95d0c05fc81bf22e7b98a7084f8a13de1959399f95"), looks := false }, kinds := [], alts := [], laidByText := true, laidKinds := [.data, .data, .data], laidTests := true, laidLooks := .later }
def FnExactNameForCardSaid : Prop := Claim7.holds Tryd.pinned (.plain (OpenSpec.ofChange fnExactNameForSpec)) fnExactNameForCard

/-- THE TIED CARD OF 'laws.FnNameFor'. -/
def fnNameForCard : Claim7 := { stood := { row := fnNameForRow, standIns := [], harness := (true, "29d8d67d6cbccc5a7bdfed95d0c05fc81bf22e7b98a7084f8a13de1959399f95"), looks := false }, kinds := [], alts := [], laidByText := true, laidKinds := [.data, .data, .data], laidTests := true, laidLooks := .later }
def FnNameForCardSaid : Prop := Claim7.holds Tryd.pinned (.plain (OpenSpec.ofChange fnNameForSpec)) fnNameForCard

/-- THE SECOND FORM's CARD OF 'laws.FnExactNameFor'. -/
def fnExactNameForUptoCard : Claim7 := { stood := { row := fnExactNameForUptoRow, standIns := [], harness := (true, "29d8d67d6cbccc5a7bdfed95d0c05fc81bf22e7b98a7084f8a13de1959399f95"), looks := false }, kinds := [], alts := [], laidByText := true, laidKinds := [.data, .data, .data], laidTests := true, laidLooks := .later }
def FnExactNameForUptoCardSaid : Prop := Claim7.holds Tryd.pinned (.plain (OpenSpec.upto fnExactNameForSpec)) fnExactNameForUptoCard

/-- THE SECOND FORM's CARD OF 'laws.FnNameFor'. -/
def fnNameForUptoCard : Claim7 := { stood := { row := fnNameForUptoRow, standIns := [], harness := (true, "29d8d67d6cbccc5a7bdfed95d0c05fc81bf22e7b98a7084f8a13de1959399f95"), looks := false }, kinds := [], alts := [], laidByText := true, laidKinds := [.data, .data, .data], laidTests := true, laidLooks := .later }
def FnNameForUptoCardSaid : Prop := Claim7.holds Tryd.pinned (.plain (OpenSpec.upto fnNameForSpec)) fnNameForUptoCard
end Rows
end Go.Proofs.YtipalcmfhmmdiaaDoor
