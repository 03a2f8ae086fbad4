/-
  DERIVED. GIVEN WITH THE SEED: THE CARDS: each row of YtnedmonlofbahaaGreatDoorRows.lean that lists a variable, with what it lists TIED to the program's text (the seventh form; the later family's looks); each row that meets fmt, with fmt's text TOLD by the authors' own Lean function (tested against real Go, not proved from fmt's source: count such statements apart). THE CARD IS WHAT COUNTS. Prove the row's statement (the work); the ties are given (YtnedmonlofbahaaGreatDoorTie.lean); close each card by the builder's one call (the guide's Derived/Test/ToyasCard.lean, 'card_holds'). Laid BY PROGRAM, IN A SANDBOX (cutbox-door.mjs). By AI agents, Wed Nov 11 2026. No macro, syntax, notation, axiom, sorry.
-/
import Derived.Test.YtnedmonlofbahaaGreatDoorRows
import GoSem.ClaimSeven
namespace Go.Proofs.YtnedmonlofbahaaGreatDoor
namespace Rows

/-- THE TIED CARD OF 'pianolalaw09.SourceParses'. -/
def sourceParsesCard : Claim7 := { stood := { row := sourceParsesRow, standIns := [], harness := (true, "fe2f34ae8f1be8bc46f1eca5eac08dfcfbf4fd20852a0cfa7132c1a12b9ec2a3"), looks := true }, kinds := [], alts := [], laidByText := true, laidKinds := [.data, .data, .data, .handle, .sentinel, .sentinel], laidTests := true, laidLooks := .later }
def SourceParsesCardSaid : Prop := Claim7.holds Tryz.pinned (.plain (OpenSpec.ofChange sourceParsesSpec)) sourceParsesCard

/-- THE TIED CARD OF 'pianolalaw09.SourcePrints'. -/
def sourcePrintsCard : Claim7 := { stood := { row := sourcePrintsRow, standIns := [], harness := (true, "fe2f34ae8f1be8bc46f1eca5eac08dfcfbf4fd20852a0cfa7132c1a12b9ec2a3"), looks := true }, kinds := [], alts := [], laidByText := true, laidKinds := [.data, .data, .data, .handle, .sentinel, .sentinel], laidTests := true, laidLooks := .later }
def SourcePrintsCardSaid : Prop := Claim7.holds Tryz.pinned (.plain (OpenSpec.ofChange sourcePrintsSpec)) sourcePrintsCard

/-- THE TIED CARD OF 'pianolalaw09.SourceBack'. -/
def sourceBackCard : Claim7 := { stood := { row := sourceBackRow, standIns := [], harness := (true, "fe2f34ae8f1be8bc46f1eca5eac08dfcfbf4fd20852a0cfa7132c1a12b9ec2a3"), looks := true }, kinds := [], alts := [], laidByText := true, laidKinds := [.data, .data, .data, .handle, .sentinel, .sentinel], laidTests := true, laidLooks := .later }
def SourceBackCardSaid : Prop := Claim7.holds Tryz.pinned (.plain (OpenSpec.ofChange sourceBackSpec)) sourceBackCard

/-- THE TIED CARD OF 'pianolalaw09.SourceAgain'. -/
def sourceAgainCard : Claim7 := { stood := { row := sourceAgainRow, standIns := [], harness := (true, "fe2f34ae8f1be8bc46f1eca5eac08dfcfbf4fd20852a0cfa7132c1a12b9ec2a3"), looks := true }, kinds := [], alts := [], laidByText := true, laidKinds := [.data, .data, .data, .handle, .sentinel, .sentinel], laidTests := true, laidLooks := .later }
def SourceAgainCardSaid : Prop := Claim7.holds Tryz.pinned (.plain (OpenSpec.ofChange sourceAgainSpec)) sourceAgainCard

/-- THE TIED CARD OF 'pianolalaw09.SourceWhere'. -/
def sourceWhereCard : Claim7 := { stood := { row := sourceWhereRow, standIns := [], harness := (true, "fe2f34ae8f1be8bc46f1eca5eac08dfcfbf4fd20852a0cfa7132c1a12b9ec2a3"), looks := true }, kinds := [], alts := [], laidByText := true, laidKinds := [.data, .data, .data, .handle, .sentinel, .sentinel], laidTests := true, laidLooks := .later }
def SourceWhereCardSaid : Prop := Claim7.holds Tryz.pinned (.plain (OpenSpec.ofChange sourceWhereSpec)) sourceWhereCard

/-- THE TIED CARD OF 'pianolalaw09.SourceOne'. -/
def sourceOneCard : Claim7 := { stood := { row := sourceOneRow, standIns := [], harness := (true, "fe2f34ae8f1be8bc46f1eca5eac08dfcfbf4fd20852a0cfa7132c1a12b9ec2a3"), looks := true }, kinds := [], alts := [], laidByText := true, laidKinds := [.data, .data, .data, .handle, .sentinel, .sentinel], laidTests := true, laidLooks := .later }
def SourceOneCardSaid : Prop := Claim7.holds Tryz.pinned (.plain (OpenSpec.ofChange sourceOneSpec)) sourceOneCard

/-- THE TIED CARD OF 'pianolalaw09.SourceNames'. -/
def sourceNamesCard : Claim7 := { stood := { row := sourceNamesRow, standIns := [], harness := (true, "fe2f34ae8f1be8bc46f1eca5eac08dfcfbf4fd20852a0cfa7132c1a12b9ec2a3"), looks := true }, kinds := [], alts := [], laidByText := true, laidKinds := [.data, .data, .data, .handle, .sentinel, .sentinel], laidTests := true, laidLooks := .later }
def SourceNamesCardSaid : Prop := Claim7.holds Tryz.pinned (.plain (OpenSpec.ofChange sourceNamesSpec)) sourceNamesCard

/-- THE SECOND FORM's CARD OF 'pianolalaw09.SourceParses'. -/
def sourceParsesUptoCard : Claim7 := { stood := { row := sourceParsesUptoRow, standIns := [], harness := (true, "fe2f34ae8f1be8bc46f1eca5eac08dfcfbf4fd20852a0cfa7132c1a12b9ec2a3"), looks := true }, kinds := [], alts := [], laidByText := true, laidKinds := [.data, .data, .data, .handle, .sentinel, .sentinel], laidTests := true, laidLooks := .later }
def SourceParsesUptoCardSaid : Prop := Claim7.holds Tryz.pinned (.plain (OpenSpec.upto sourceParsesSpec)) sourceParsesUptoCard

/-- THE SECOND FORM's CARD OF 'pianolalaw09.SourcePrints'. -/
def sourcePrintsUptoCard : Claim7 := { stood := { row := sourcePrintsUptoRow, standIns := [], harness := (true, "fe2f34ae8f1be8bc46f1eca5eac08dfcfbf4fd20852a0cfa7132c1a12b9ec2a3"), looks := true }, kinds := [], alts := [], laidByText := true, laidKinds := [.data, .data, .data, .handle, .sentinel, .sentinel], laidTests := true, laidLooks := .later }
def SourcePrintsUptoCardSaid : Prop := Claim7.holds Tryz.pinned (.plain (OpenSpec.upto sourcePrintsSpec)) sourcePrintsUptoCard

/-- THE SECOND FORM's CARD OF 'pianolalaw09.SourceBack'. -/
def sourceBackUptoCard : Claim7 := { stood := { row := sourceBackUptoRow, standIns := [], harness := (true, "fe2f34ae8f1be8bc46f1eca5eac08dfcfbf4fd20852a0cfa7132c1a12b9ec2a3"), looks := true }, kinds := [], alts := [], laidByText := true, laidKinds := [.data, .data, .data, .handle, .sentinel, .sentinel], laidTests := true, laidLooks := .later }
def SourceBackUptoCardSaid : Prop := Claim7.holds Tryz.pinned (.plain (OpenSpec.upto sourceBackSpec)) sourceBackUptoCard

/-- THE SECOND FORM's CARD OF 'pianolalaw09.SourceAgain'. -/
def sourceAgainUptoCard : Claim7 := { stood := { row := sourceAgainUptoRow, standIns := [], harness := (true, "fe2f34ae8f1be8bc46f1eca5eac08dfcfbf4fd20852a0cfa7132c1a12b9ec2a3"), looks := true }, kinds := [], alts := [], laidByText := true, laidKinds := [.data, .data, .data, .handle, .sentinel, .sentinel], laidTests := true, laidLooks := .later }
def SourceAgainUptoCardSaid : Prop := Claim7.holds Tryz.pinned (.plain (OpenSpec.upto sourceAgainSpec)) sourceAgainUptoCard

/-- THE SECOND FORM's CARD OF 'pianolalaw09.SourceWhere'. -/
def sourceWhereUptoCard : Claim7 := { stood := { row := sourceWhereUptoRow, standIns := [], harness := (true, "fe2f34ae8f1be8bc46f1eca5eac08dfcfbf4fd20852a0cfa7132c1a12b9ec2a3"), looks := true }, kinds := [], alts := [], laidByText := true, laidKinds := [.data, .data, .data, .handle, .sentinel, .sentinel], laidTests := true, laidLooks := .later }
def SourceWhereUptoCardSaid : Prop := Claim7.holds Tryz.pinned (.plain (OpenSpec.upto sourceWhereSpec)) sourceWhereUptoCard

/-- THE SECOND FORM's CARD OF 'pianolalaw09.SourceOne'. -/
def sourceOneUptoCard : Claim7 := { stood := { row := sourceOneUptoRow, standIns := [], harness := (true, "fe2f34ae8f1be8bc46f1eca5eac08dfcfbf4fd20852a0cfa7132c1a12b9ec2a3"), looks := true }, kinds := [], alts := [], laidByText := true, laidKinds := [.data, .data, .data, .handle, .sentinel, .sentinel], laidTests := true, laidLooks := .later }
def SourceOneUptoCardSaid : Prop := Claim7.holds Tryz.pinned (.plain (OpenSpec.upto sourceOneSpec)) sourceOneUptoCard

/-- THE SECOND FORM's CARD OF 'pianolalaw09.SourceNames'. -/
def sourceNamesUptoCard : Claim7 := { stood := { row := sourceNamesUptoRow, standIns := [], harness := (true, "fe2f34ae8f1be8bc46f1eca5eac08dfcfbf4fd20852a0cfa7132c1a12b9ec2a3"), looks := true }, kinds := [], alts := [], laidByText := true, laidKinds := [.data, .data, .data, .handle, .sentinel, .sentinel], laidTests := true, laidLooks := .later }
def SourceNamesUptoCardSaid : Prop := Claim7.holds Tryz.pinned (.plain (OpenSpec.upto sourceNamesSpec)) sourceNamesUptoCard
end Rows
end Go.Proofs.YtnedmonlofbahaaGreatDoor
