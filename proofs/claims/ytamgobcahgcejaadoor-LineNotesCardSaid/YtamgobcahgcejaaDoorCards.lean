/-
  DERIVED. GIVEN WITH THE SEED: THE CARDS: each row of YtamgobcahgcejaaDoorRows.lean that lists a variable, with what it lists TIED to the program's text (the seventh form; the later family's looks); each row that meets fmt, with fmt's text TOLD by the authors' own Lean function (tested against real Go, not proved from fmt's source: count such statements apart). THE CARD IS WHAT COUNTS. Prove the row's statement (the work); the ties are given (YtamgobcahgcejaaDoorTie.lean); close each card by the builder's one call (the guide's Derived/Test/ToyasCard.lean, 'card_holds'). Laid BY PROGRAM, IN A SANDBOX (cutbox-door.mjs). By AI agents, Wed Nov 11 2026. No macro, syntax, notation, axiom, sorry.
-/
import Derived.Test.YtamgobcahgcejaaDoorRows
import GoSem.ClaimSeven
namespace Go.Proofs.YtamgobcahgcejaaDoor
namespace Rows

/-- THE TIED CARD OF 'entaillaw12.LineNotes'. -/
def lineNotesCard : Claim7 := { stood := { row := lineNotesRow, standIns := [], harness := (true, "3e8940ee44d0441507ce6d6122f5310e3c28967ac04d3ec6d6e18e311d0cf6e0"), looks := false }, kinds := [], alts := [], laidByText := true, laidKinds := [.data, .pinned], laidTests := true, laidLooks := .later }
def LineNotesCardSaid : Prop := Claim7.holds Tryd.pinned (.plain (OpenSpec.ofChange lineNotesSpec)) lineNotesCard

/-- THE TIED CARD OF 'entaillaw12.LineTells'. -/
def lineTellsCard : Claim7 := { stood := { row := lineTellsRow, standIns := [], harness := (true, "3e8940ee44d0441507ce6d6122f5310e3c28967ac04d3ec6d6e18e311d0cf6e0"), looks := false }, kinds := [], alts := [], laidByText := true, laidKinds := [.data, .pinned], laidTests := true, laidLooks := .later }
def LineTellsCardSaid : Prop := Claim7.holds Tryd.pinned (.plain (OpenSpec.ofChange lineTellsSpec)) lineTellsCard

/-- THE TIED CARD OF 'entaillaw12.LineBack'. -/
def lineBackCard : Claim7 := { stood := { row := lineBackRow, standIns := [], harness := (true, "3e8940ee44d0441507ce6d6122f5310e3c28967ac04d3ec6d6e18e311d0cf6e0"), looks := false }, kinds := [], alts := [], laidByText := true, laidKinds := [.data, .pinned], laidTests := true, laidLooks := .later }
def LineBackCardSaid : Prop := Claim7.holds Tryd.pinned (.plain (OpenSpec.ofChange lineBackSpec)) lineBackCard

/-- THE TIED CARD OF 'entaillaw12.LineBounds'. -/
def lineBoundsCard : Claim7 := { stood := { row := lineBoundsRow, standIns := [], harness := (true, "3e8940ee44d0441507ce6d6122f5310e3c28967ac04d3ec6d6e18e311d0cf6e0"), looks := false }, kinds := [], alts := [], laidByText := true, laidKinds := [.data, .pinned], laidTests := true, laidLooks := .later }
def LineBoundsCardSaid : Prop := Claim7.holds Tryd.pinned (.plain (OpenSpec.ofChange lineBoundsSpec)) lineBoundsCard

/-- THE SECOND FORM's CARD OF 'entaillaw12.LineNotes'. -/
def lineNotesUptoCard : Claim7 := { stood := { row := lineNotesUptoRow, standIns := [], harness := (true, "3e8940ee44d0441507ce6d6122f5310e3c28967ac04d3ec6d6e18e311d0cf6e0"), looks := false }, kinds := [], alts := [], laidByText := true, laidKinds := [.data, .pinned], laidTests := true, laidLooks := .later }
def LineNotesUptoCardSaid : Prop := Claim7.holds Tryd.pinned (.plain (OpenSpec.upto lineNotesSpec)) lineNotesUptoCard

/-- THE SECOND FORM's CARD OF 'entaillaw12.LineTells'. -/
def lineTellsUptoCard : Claim7 := { stood := { row := lineTellsUptoRow, standIns := [], harness := (true, "3e8940ee44d0441507ce6d6122f5310e3c28967ac04d3ec6d6e18e311d0cf6e0"), looks := false }, kinds := [], alts := [], laidByText := true, laidKinds := [.data, .pinned], laidTests := true, laidLooks := .later }
def LineTellsUptoCardSaid : Prop := Claim7.holds Tryd.pinned (.plain (OpenSpec.upto lineTellsSpec)) lineTellsUptoCard

/-- THE SECOND FORM's CARD OF 'entaillaw12.LineBack'. -/
def lineBackUptoCard : Claim7 := { stood := { row := lineBackUptoRow, standIns := [], harness := (true, "3e8940ee44d0441507ce6d6122f5310e3c28967ac04d3ec6d6e18e311d0cf6e0"), looks := false }, kinds := [], alts := [], laidByText := true, laidKinds := [.data, .pinned], laidTests := true, laidLooks := .later }
def LineBackUptoCardSaid : Prop := Claim7.holds Tryd.pinned (.plain (OpenSpec.upto lineBackSpec)) lineBackUptoCard

/-- THE SECOND FORM's CARD OF 'entaillaw12.LineBounds'. -/
def lineBoundsUptoCard : Claim7 := { stood := { row := lineBoundsUptoRow, standIns := [], harness := (true, "3e8940ee44d0441507ce6d6122f5310e3c28967ac04d3ec6d6e18e311d0cf6e0"), looks := false }, kinds := [], alts := [], laidByText := true, laidKinds := [.data, .pinned], laidTests := true, laidLooks := .later }
def LineBoundsUptoCardSaid : Prop := Claim7.holds Tryd.pinned (.plain (OpenSpec.upto lineBoundsSpec)) lineBoundsUptoCard
end Rows
end Go.Proofs.YtamgobcahgcejaaDoor
