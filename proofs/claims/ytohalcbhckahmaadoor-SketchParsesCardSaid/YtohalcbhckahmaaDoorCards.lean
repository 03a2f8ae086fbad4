/-
  DERIVED. GIVEN WITH THE SEED: THE CARDS: each row of YtohalcbhckahmaaDoorRows.lean that lists a variable, with what it lists TIED to the program's text (the seventh form; the later family's looks); each row that meets fmt, with fmt's text TOLD by the authors' own Lean function (tested against real Go, not proved from fmt's source: count such statements apart). THE CARD IS WHAT COUNTS. Prove the row's statement (the work); the ties are given (YtohalcbhckahmaaDoorTie.lean); close each card by the builder's one call (the guide's Derived/Test/ToyasCard.lean, 'card_holds'). Laid BY PROGRAM, IN A SANDBOX (cutbox-door.mjs). By AI agents, Wed Nov 11 2026. No macro, syntax, notation, axiom, sorry.
-/
import Derived.Test.YtohalcbhckahmaaDoorRows
import GoSem.ClaimSeven
namespace Go.Proofs.YtohalcbhckahmaaDoor
namespace Rows

/-- THE TIED CARD OF 'pianolalaw05.SketchParses'. -/
def sketchParsesCard : Claim7 := { stood := { row := sketchParsesRow, standIns := [], harness := (true, "936f23c2060fd58d606dca0109518fcec8cc0e1cdf499fae447a016cd510ffcc"), looks := true }, kinds := [], alts := [], laidByText := true, laidKinds := [.data, .data, .data, .sentinel, .sentinel], laidTests := true, laidLooks := .later }
def SketchParsesCardSaid : Prop := Claim7.holds Tryd.pinned (.plain (OpenSpec.ofChange sketchParsesSpec)) sketchParsesCard

/-- THE TIED CARD OF 'pianolalaw05.SketchPrints'. -/
def sketchPrintsCard : Claim7 := { stood := { row := sketchPrintsRow, standIns := [], harness := (true, "936f23c2060fd58d606dca0109518fcec8cc0e1cdf499fae447a016cd510ffcc"), looks := true }, kinds := [], alts := [], laidByText := true, laidKinds := [.data, .data, .data, .sentinel, .sentinel], laidTests := true, laidLooks := .later }
def SketchPrintsCardSaid : Prop := Claim7.holds Tryd.pinned (.plain (OpenSpec.ofChange sketchPrintsSpec)) sketchPrintsCard

/-- THE TIED CARD OF 'pianolalaw05.SketchBack'. -/
def sketchBackCard : Claim7 := { stood := { row := sketchBackRow, standIns := [], harness := (true, "936f23c2060fd58d606dca0109518fcec8cc0e1cdf499fae447a016cd510ffcc"), looks := true }, kinds := [], alts := [], laidByText := true, laidKinds := [.data, .data, .data, .sentinel, .sentinel], laidTests := true, laidLooks := .later }
def SketchBackCardSaid : Prop := Claim7.holds Tryd.pinned (.plain (OpenSpec.ofChange sketchBackSpec)) sketchBackCard

/-- THE TIED CARD OF 'pianolalaw05.SketchAgain'. -/
def sketchAgainCard : Claim7 := { stood := { row := sketchAgainRow, standIns := [], harness := (true, "936f23c2060fd58d606dca0109518fcec8cc0e1cdf499fae447a016cd510ffcc"), looks := true }, kinds := [], alts := [], laidByText := true, laidKinds := [.data, .data, .data, .sentinel, .sentinel], laidTests := true, laidLooks := .later }
def SketchAgainCardSaid : Prop := Claim7.holds Tryd.pinned (.plain (OpenSpec.ofChange sketchAgainSpec)) sketchAgainCard

/-- THE TIED CARD OF 'pianolalaw05.SketchPlaces'. -/
def sketchPlacesCard : Claim7 := { stood := { row := sketchPlacesRow, standIns := [], harness := (true, "936f23c2060fd58d606dca0109518fcec8cc0e1cdf499fae447a016cd510ffcc"), looks := true }, kinds := [], alts := [], laidByText := true, laidKinds := [.data, .data, .data, .sentinel, .sentinel], laidTests := true, laidLooks := .later }
def SketchPlacesCardSaid : Prop := Claim7.holds Tryd.pinned (.plain (OpenSpec.ofChange sketchPlacesSpec)) sketchPlacesCard

/-- THE TIED CARD OF 'pianolalaw05.SketchLoose'. -/
def sketchLooseCard : Claim7 := { stood := { row := sketchLooseRow, standIns := [], harness := (true, "936f23c2060fd58d606dca0109518fcec8cc0e1cdf499fae447a016cd510ffcc"), looks := true }, kinds := [], alts := [], laidByText := true, laidKinds := [.data, .data, .data, .sentinel, .sentinel], laidTests := true, laidLooks := .later }
def SketchLooseCardSaid : Prop := Claim7.holds Tryd.pinned (.plain (OpenSpec.ofChange sketchLooseSpec)) sketchLooseCard

/-- THE TIED CARD OF 'pianolalaw05.SketchAhead'. -/
def sketchAheadCard : Claim7 := { stood := { row := sketchAheadRow, standIns := [], harness := (true, "936f23c2060fd58d606dca0109518fcec8cc0e1cdf499fae447a016cd510ffcc"), looks := true }, kinds := [], alts := [], laidByText := true, laidKinds := [.data, .data, .data, .sentinel, .sentinel], laidTests := true, laidLooks := .later }
def SketchAheadCardSaid : Prop := Claim7.holds Tryd.pinned (.plain (OpenSpec.ofChange sketchAheadSpec)) sketchAheadCard

/-- THE TIED CARD OF 'pianolalaw05.SketchNames'. -/
def sketchNamesCard : Claim7 := { stood := { row := sketchNamesRow, standIns := [], harness := (true, "936f23c2060fd58d606dca0109518fcec8cc0e1cdf499fae447a016cd510ffcc"), looks := true }, kinds := [], alts := [], laidByText := true, laidKinds := [.data, .data, .data, .sentinel, .sentinel], laidTests := true, laidLooks := .later }
def SketchNamesCardSaid : Prop := Claim7.holds Tryd.pinned (.plain (OpenSpec.ofChange sketchNamesSpec)) sketchNamesCard

/-- THE SECOND FORM's CARD OF 'pianolalaw05.SketchParses'. -/
def sketchParsesUptoCard : Claim7 := { stood := { row := sketchParsesUptoRow, standIns := [], harness := (true, "936f23c2060fd58d606dca0109518fcec8cc0e1cdf499fae447a016cd510ffcc"), looks := true }, kinds := [], alts := [], laidByText := true, laidKinds := [.data, .data, .data, .sentinel, .sentinel], laidTests := true, laidLooks := .later }
def SketchParsesUptoCardSaid : Prop := Claim7.holds Tryd.pinned (.plain (OpenSpec.upto sketchParsesSpec)) sketchParsesUptoCard

/-- THE SECOND FORM's CARD OF 'pianolalaw05.SketchPrints'. -/
def sketchPrintsUptoCard : Claim7 := { stood := { row := sketchPrintsUptoRow, standIns := [], harness := (true, "936f23c2060fd58d606dca0109518fcec8cc0e1cdf499fae447a016cd510ffcc"), looks := true }, kinds := [], alts := [], laidByText := true, laidKinds := [.data, .data, .data, .sentinel, .sentinel], laidTests := true, laidLooks := .later }
def SketchPrintsUptoCardSaid : Prop := Claim7.holds Tryd.pinned (.plain (OpenSpec.upto sketchPrintsSpec)) sketchPrintsUptoCard

/-- THE SECOND FORM's CARD OF 'pianolalaw05.SketchBack'. -/
def sketchBackUptoCard : Claim7 := { stood := { row := sketchBackUptoRow, standIns := [], harness := (true, "936f23c2060fd58d606dca0109518fcec8cc0e1cdf499fae447a016cd510ffcc"), looks := true }, kinds := [], alts := [], laidByText := true, laidKinds := [.data, .data, .data, .sentinel, .sentinel], laidTests := true, laidLooks := .later }
def SketchBackUptoCardSaid : Prop := Claim7.holds Tryd.pinned (.plain (OpenSpec.upto sketchBackSpec)) sketchBackUptoCard

/-- THE SECOND FORM's CARD OF 'pianolalaw05.SketchAgain'. -/
def sketchAgainUptoCard : Claim7 := { stood := { row := sketchAgainUptoRow, standIns := [], harness := (true, "936f23c2060fd58d606dca0109518fcec8cc0e1cdf499fae447a016cd510ffcc"), looks := true }, kinds := [], alts := [], laidByText := true, laidKinds := [.data, .data, .data, .sentinel, .sentinel], laidTests := true, laidLooks := .later }
def SketchAgainUptoCardSaid : Prop := Claim7.holds Tryd.pinned (.plain (OpenSpec.upto sketchAgainSpec)) sketchAgainUptoCard

/-- THE SECOND FORM's CARD OF 'pianolalaw05.SketchPlaces'. -/
def sketchPlacesUptoCard : Claim7 := { stood := { row := sketchPlacesUptoRow, standIns := [], harness := (true, "936f23c2060fd58d606dca0109518fcec8cc0e1cdf499fae447a016cd510ffcc"), looks := true }, kinds := [], alts := [], laidByText := true, laidKinds := [.data, .data, .data, .sentinel, .sentinel], laidTests := true, laidLooks := .later }
def SketchPlacesUptoCardSaid : Prop := Claim7.holds Tryd.pinned (.plain (OpenSpec.upto sketchPlacesSpec)) sketchPlacesUptoCard

/-- THE SECOND FORM's CARD OF 'pianolalaw05.SketchLoose'. -/
def sketchLooseUptoCard : Claim7 := { stood := { row := sketchLooseUptoRow, standIns := [], harness := (true, "936f23c2060fd58d606dca0109518fcec8cc0e1cdf499fae447a016cd510ffcc"), looks := true }, kinds := [], alts := [], laidByText := true, laidKinds := [.data, .data, .data, .sentinel, .sentinel], laidTests := true, laidLooks := .later }
def SketchLooseUptoCardSaid : Prop := Claim7.holds Tryd.pinned (.plain (OpenSpec.upto sketchLooseSpec)) sketchLooseUptoCard

/-- THE SECOND FORM's CARD OF 'pianolalaw05.SketchAhead'. -/
def sketchAheadUptoCard : Claim7 := { stood := { row := sketchAheadUptoRow, standIns := [], harness := (true, "936f23c2060fd58d606dca0109518fcec8cc0e1cdf499fae447a016cd510ffcc"), looks := true }, kinds := [], alts := [], laidByText := true, laidKinds := [.data, .data, .data, .sentinel, .sentinel], laidTests := true, laidLooks := .later }
def SketchAheadUptoCardSaid : Prop := Claim7.holds Tryd.pinned (.plain (OpenSpec.upto sketchAheadSpec)) sketchAheadUptoCard

/-- THE SECOND FORM's CARD OF 'pianolalaw05.SketchNames'. -/
def sketchNamesUptoCard : Claim7 := { stood := { row := sketchNamesUptoRow, standIns := [], harness := (true, "936f23c2060fd58d606dca0109518fcec8cc0e1cdf499fae447a016cd510ffcc"), looks := true }, kinds := [], alts := [], laidByText := true, laidKinds := [.data, .data, .data, .sentinel, .sentinel], laidTests := true, laidLooks := .later }
def SketchNamesUptoCardSaid : Prop := Claim7.holds Tryd.pinned (.plain (OpenSpec.upto sketchNamesSpec)) sketchNamesUptoCard
end Rows
end Go.Proofs.YtohalcbhckahmaaDoor
