/-
  DERIVED. GIVEN WITH THE SEED: THE CARDS: each row of YtjhbpcdaojajdaaDoorRows.lean that lists a variable, with what it lists TIED to the program's text (the seventh form; the later family's looks); each row that meets fmt, with fmt's text TOLD by the authors' own Lean function (tested against real Go, not proved from fmt's source: count such statements apart). THE CARD IS WHAT COUNTS. Prove the row's statement (the work); the ties are given (YtjhbpcdaojajdaaDoorTie.lean); close each card by the builder's one call (the guide's Derived/Test/ToyasCard.lean, 'card_holds'). Laid BY PROGRAM, IN A SANDBOX (cutbox-door.mjs). By AI agents, Wed Nov 11 2026. No macro, syntax, notation, axiom, sorry.
-/
import Derived.Test.YtjhbpcdaojajdaaDoorRows
import GoSem.ClaimSeven
namespace Go.Proofs.YtjhbpcdaojajdaaDoor
namespace Rows

/-- THE TIED CARD OF 'tabardlaw02.DescNames'. -/
def descNamesCard : Claim7 := { stood := { row := descNamesRow, standIns := [], harness := (true, "c775b1104b98808edd06c33514972483a8ff53cb9c4537683b72e5f7356d9ebf"), looks := true }, kinds := [], alts := [], laidByText := true, laidKinds := [.data, .pinned], laidTests := true, laidLooks := .later }
def DescNamesCardSaid : Prop := Claim7.holds Tryd.pinned (.plain (OpenSpec.ofChange descNamesSpec)) descNamesCard

/-- THE TIED CARD OF 'tabardlaw02.DescReads'. -/
def descReadsCard : Claim7 := { stood := { row := descReadsRow, standIns := [], harness := (true, "c775b1104b98808edd06c33514972483a8ff53cb9c4537683b72e5f7356d9ebf"), looks := true }, kinds := [], alts := [], laidByText := true, laidKinds := [.data, .pinned], laidTests := true, laidLooks := .later }
def DescReadsCardSaid : Prop := Claim7.holds Tryd.pinned (.plain (OpenSpec.ofChange descReadsSpec)) descReadsCard

/-- THE TIED CARD OF 'tabardlaw02.DescArrays'. -/
def descArraysCard : Claim7 := { stood := { row := descArraysRow, standIns := [], harness := (true, "c775b1104b98808edd06c33514972483a8ff53cb9c4537683b72e5f7356d9ebf"), looks := true }, kinds := [], alts := [], laidByText := true, laidKinds := [.data, .pinned], laidTests := true, laidLooks := .later }
def DescArraysCardSaid : Prop := Claim7.holds Tryd.pinned (.plain (OpenSpec.ofChange descArraysSpec)) descArraysCard

/-- THE TIED CARD OF 'tabardlaw02.DescElems'. -/
def descElemsCard : Claim7 := { stood := { row := descElemsRow, standIns := [], harness := (true, "c775b1104b98808edd06c33514972483a8ff53cb9c4537683b72e5f7356d9ebf"), looks := true }, kinds := [], alts := [], laidByText := true, laidKinds := [.data, .pinned], laidTests := true, laidLooks := .later }
def DescElemsCardSaid : Prop := Claim7.holds Tryd.pinned (.plain (OpenSpec.ofChange descElemsSpec)) descElemsCard

/-- THE TIED CARD OF 'tabardlaw02.DescPrints'. -/
def descPrintsCard : Claim7 := { stood := { row := descPrintsRow, standIns := [], harness := (true, "c775b1104b98808edd06c33514972483a8ff53cb9c4537683b72e5f7356d9ebf"), looks := true }, kinds := [], alts := [], laidByText := true, laidKinds := [.data, .pinned], laidTests := true, laidLooks := .later }
def DescPrintsCardSaid : Prop := Claim7.holds Tryd.pinned (.plain (OpenSpec.ofChange descPrintsSpec)) descPrintsCard

/-- THE TIED CARD OF 'tabardlaw02.DescBack'. -/
def descBackCard : Claim7 := { stood := { row := descBackRow, standIns := [], harness := (true, "c775b1104b98808edd06c33514972483a8ff53cb9c4537683b72e5f7356d9ebf"), looks := true }, kinds := [], alts := [], laidByText := true, laidKinds := [.data, .pinned], laidTests := true, laidLooks := .later }
def DescBackCardSaid : Prop := Claim7.holds Tryd.pinned (.plain (OpenSpec.ofChange descBackSpec)) descBackCard

/-- THE TIED CARD OF 'tabardlaw02.DescOneWay'. -/
def descOneWayCard : Claim7 := { stood := { row := descOneWayRow, standIns := [], harness := (true, "c775b1104b98808edd06c33514972483a8ff53cb9c4537683b72e5f7356d9ebf"), looks := true }, kinds := [], alts := [], laidByText := true, laidKinds := [.data, .pinned], laidTests := true, laidLooks := .later }
def DescOneWayCardSaid : Prop := Claim7.holds Tryd.pinned (.plain (OpenSpec.ofChange descOneWaySpec)) descOneWayCard

/-- THE SECOND FORM's CARD OF 'tabardlaw02.DescNames'. -/
def descNamesUptoCard : Claim7 := { stood := { row := descNamesUptoRow, standIns := [], harness := (true, "c775b1104b98808edd06c33514972483a8ff53cb9c4537683b72e5f7356d9ebf"), looks := true }, kinds := [], alts := [], laidByText := true, laidKinds := [.data, .pinned], laidTests := true, laidLooks := .later }
def DescNamesUptoCardSaid : Prop := Claim7.holds Tryd.pinned (.plain (OpenSpec.upto descNamesSpec)) descNamesUptoCard

/-- THE SECOND FORM's CARD OF 'tabardlaw02.DescReads'. -/
def descReadsUptoCard : Claim7 := { stood := { row := descReadsUptoRow, standIns := [], harness := (true, "c775b1104b98808edd06c33514972483a8ff53cb9c4537683b72e5f7356d9ebf"), looks := true }, kinds := [], alts := [], laidByText := true, laidKinds := [.data, .pinned], laidTests := true, laidLooks := .later }
def DescReadsUptoCardSaid : Prop := Claim7.holds Tryd.pinned (.plain (OpenSpec.upto descReadsSpec)) descReadsUptoCard

/-- THE SECOND FORM's CARD OF 'tabardlaw02.DescArrays'. -/
def descArraysUptoCard : Claim7 := { stood := { row := descArraysUptoRow, standIns := [], harness := (true, "c775b1104b98808edd06c33514972483a8ff53cb9c4537683b72e5f7356d9ebf"), looks := true }, kinds := [], alts := [], laidByText := true, laidKinds := [.data, .pinned], laidTests := true, laidLooks := .later }
def DescArraysUptoCardSaid : Prop := Claim7.holds Tryd.pinned (.plain (OpenSpec.upto descArraysSpec)) descArraysUptoCard

/-- THE SECOND FORM's CARD OF 'tabardlaw02.DescElems'. -/
def descElemsUptoCard : Claim7 := { stood := { row := descElemsUptoRow, standIns := [], harness := (true, "c775b1104b98808edd06c33514972483a8ff53cb9c4537683b72e5f7356d9ebf"), looks := true }, kinds := [], alts := [], laidByText := true, laidKinds := [.data, .pinned], laidTests := true, laidLooks := .later }
def DescElemsUptoCardSaid : Prop := Claim7.holds Tryd.pinned (.plain (OpenSpec.upto descElemsSpec)) descElemsUptoCard

/-- THE SECOND FORM's CARD OF 'tabardlaw02.DescPrints'. -/
def descPrintsUptoCard : Claim7 := { stood := { row := descPrintsUptoRow, standIns := [], harness := (true, "c775b1104b98808edd06c33514972483a8ff53cb9c4537683b72e5f7356d9ebf"), looks := true }, kinds := [], alts := [], laidByText := true, laidKinds := [.data, .pinned], laidTests := true, laidLooks := .later }
def DescPrintsUptoCardSaid : Prop := Claim7.holds Tryd.pinned (.plain (OpenSpec.upto descPrintsSpec)) descPrintsUptoCard

/-- THE SECOND FORM's CARD OF 'tabardlaw02.DescBack'. -/
def descBackUptoCard : Claim7 := { stood := { row := descBackUptoRow, standIns := [], harness := (true, "c775b1104b98808edd06c33514972483a8ff53cb9c4537683b72e5f7356d9ebf"), looks := true }, kinds := [], alts := [], laidByText := true, laidKinds := [.data, .pinned], laidTests := true, laidLooks := .later }
def DescBackUptoCardSaid : Prop := Claim7.holds Tryd.pinned (.plain (OpenSpec.upto descBackSpec)) descBackUptoCard

/-- THE SECOND FORM's CARD OF 'tabardlaw02.DescOneWay'. -/
def descOneWayUptoCard : Claim7 := { stood := { row := descOneWayUptoRow, standIns := [], harness := (true, "c775b1104b98808edd06c33514972483a8ff53cb9c4537683b72e5f7356d9ebf"), looks := true }, kinds := [], alts := [], laidByText := true, laidKinds := [.data, .pinned], laidTests := true, laidLooks := .later }
def DescOneWayUptoCardSaid : Prop := Claim7.holds Tryd.pinned (.plain (OpenSpec.upto descOneWaySpec)) descOneWayUptoCard
end Rows
end Go.Proofs.YtjhbpcdaojajdaaDoor
