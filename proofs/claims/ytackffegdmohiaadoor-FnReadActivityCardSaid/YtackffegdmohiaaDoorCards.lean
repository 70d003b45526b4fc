/-
  DERIVED. GIVEN WITH THE SEED: THE CARDS: each row of YtackffegdmohiaaDoorRows.lean that lists a variable, with what it lists TIED to the program's text (the seventh form; the later family's looks); each row that meets fmt, with fmt's text TOLD by the authors' own Lean function (tested against real Go, not proved from fmt's source: count such statements apart). THE CARD IS WHAT COUNTS. Prove the row's statement (the work); the ties are given (YtackffegdmohiaaDoorTie.lean); close each card by the builder's one call (the guide's Derived/Test/ToyasCard.lean, 'card_holds'). Laid BY PROGRAM, IN A SANDBOX (cutbox-door.mjs). By AI agents, Wed Nov 11 2026. No macro, syntax, notation, axiom, sorry.
-/
import Derived.Test.YtackffegdmohiaaDoorRows
import GoSem.ClaimSeven
namespace Go.Proofs.YtackffegdmohiaaDoor
namespace Rows

/-- THE TIED CARD OF 'laws.FnExactActivityText'. -/
def fnExactActivityTextCard : Claim7 := { stood := { row := fnExactActivityTextRow, standIns := [], harness := (true, "65ff4a08d2004c067f5cc8d8e5dbd9831d02fcde3a672a16ac33b20f990b7295"), looks := false }, kinds := [], alts := [], laidByText := true, laidKinds := [.data], laidTests := true, laidLooks := .later }
def FnExactActivityTextCardSaid : Prop := Claim7.holds Tryd.pinned (.plain (OpenSpec.ofChange fnExactActivityTextSpec)) fnExactActivityTextCard

/-- THE TIED CARD OF 'laws.FnActivityText'. -/
def fnActivityTextCard : Claim7 := { stood := { row := fnActivityTextRow, standIns := [], harness := (true, "65ff4a08d2004c067f5cc8d8e5dbd9831d02fcde3a672a16ac33b20f990b7295"), looks := false }, kinds := [], alts := [], laidByText := true, laidKinds := [.data, .data, .pinned], laidTests := true, laidLooks := .later }
def FnActivityTextCardSaid : Prop := Claim7.holds Tryd.pinned (.plain (OpenSpec.ofChange fnActivityTextSpec)) fnActivityTextCard

/-- THE TIED CARD OF 'laws.FnExactReadActivity'. -/
def fnExactReadActivityCard : Claim7 := { stood := { row := fnExactReadActivityRow, standIns := [], harness := (true, "65ff4a08d2004c067f5cc8d8e5dbd9831d02fcde3a672a16ac33b20f990b7295"), looks := false }, kinds := [], alts := [], laidByText := true, laidKinds := [.data, .data, .pinned], laidTests := true, laidLooks := .later }
def FnExactReadActivityCardSaid : Prop := Claim7.holds Tryd.pinned (.plain (OpenSpec.ofChange fnExactReadActivitySpec)) fnExactReadActivityCard

/-- THE TIED CARD OF 'laws.FnReadActivity'. -/
def fnReadActivityCard : Claim7 := { stood := { row := fnReadActivityRow, standIns := [], harness := (true, "65ff4a08d2004c067f5cc8d8e5dbd9831d02fcde3a672a16ac33b20f990b7295"), looks := false }, kinds := [], alts := [], laidByText := true, laidKinds := [.data, .data, .pinned], laidTests := true, laidLooks := .later }
def FnReadActivityCardSaid : Prop := Claim7.holds Tryd.pinned (.plain (OpenSpec.ofChange fnReadActivitySpec)) fnReadActivityCard

/-- THE SECOND FORM's CARD OF 'laws.FnExactActivityText'. -/
def fnExactActivityTextUptoCard : Claim7 := { stood := { row := fnExactActivityTextUptoRow, standIns := [], harness := (true, "65ff4a08d2004c067f5cc8d8e5dbd9831d02fcde3a672a16ac33b20f990b7295"), looks := false }, kinds := [], alts := [], laidByText := true, laidKinds := [.data], laidTests := true, laidLooks := .later }
def FnExactActivityTextUptoCardSaid : Prop := Claim7.holds Tryd.pinned (.plain (OpenSpec.upto fnExactActivityTextSpec)) fnExactActivityTextUptoCard

/-- THE SECOND FORM's CARD OF 'laws.FnActivityText'. -/
def fnActivityTextUptoCard : Claim7 := { stood := { row := fnActivityTextUptoRow, standIns := [], harness := (true, "65ff4a08d2004c067f5cc8d8e5dbd9831d02fcde3a672a16ac33b20f990b7295"), looks := false }, kinds := [], alts := [], laidByText := true, laidKinds := [.data, .data, .pinned], laidTests := true, laidLooks := .later }
def FnActivityTextUptoCardSaid : Prop := Claim7.holds Tryd.pinned (.plain (OpenSpec.upto fnActivityTextSpec)) fnActivityTextUptoCard

/-- THE SECOND FORM's CARD OF 'laws.FnExactReadActivity'. -/
def fnExactReadActivityUptoCard : Claim7 := { stood := { row := fnExactReadActivityUptoRow, standIns := [], harness := (true, "65ff4a08d2004c067f5cc8d8e5dbd9831d02fcde3a672a16ac33b20f990b7295"), looks := false }, kinds := [], alts := [], laidByText := true, laidKinds := [.data, .data, .pinned], laidTests := true, laidLooks := .later }
def FnExactReadActivityUptoCardSaid : Prop := Claim7.holds Tryd.pinned (.plain (OpenSpec.upto fnExactReadActivitySpec)) fnExactReadActivityUptoCard

/-- THE SECOND FORM's CARD OF 'laws.FnReadActivity'. -/
def fnReadActivityUptoCard : Claim7 := { stood := { row := fnReadActivityUptoRow, standIns := [], harness := (true, "65ff4a08d2004c067f5cc8d8e5dbd9831d02fcde3a672a16ac33b20f990b7295"), looks := false }, kinds := [], alts := [], laidByText := true, laidKinds := [.data, .data, .pinned], laidTests := true, laidLooks := .later }
def FnReadActivityUptoCardSaid : Prop := Claim7.holds Tryd.pinned (.plain (OpenSpec.upto fnReadActivitySpec)) fnReadActivityUptoCard
end Rows
end Go.Proofs.YtackffegdmohiaaDoor
