/-
  DERIVED. GIVEN WITH THE SEED: THE CARDS: each row of YtpnapnmkjpolmaaDoorRows.lean that lists a variable, with what it lists TIED to the program's text (the seventh form; the later family's looks); each row that meets fmt, with fmt's text TOLD by the authors' own Lean function (tested against real Go, not proved from fmt's source: count such statements apart). THE CARD IS WHAT COUNTS. Prove the row's statement (the work); the ties are given (YtpnapnmkjpolmaaDoorTie.lean); close each card by the builder's one call (the guide's Derived/Test/ToyasCard.lean, 'card_holds'). Laid BY PROGRAM, IN A SANDBOX (cutbox-door.mjs). By AI agents, Wed Nov 11 2026. No macro, syntax, notation, axiom, sorry.
-/
import Derived.Test.YtpnapnmkjpolmaaDoorRows
import GoSem.ClaimSeven
namespace Go.Proofs.YtpnapnmkjpolmaaDoor
namespace Rows

/-- THE TIED CARD OF 'tierlinelaw.SheetShows'. -/
def sheetShowsCard : Claim7 := { stood := { row := sheetShowsRow, standIns := [], harness := (true, "9d2d38fe9336421dde29669e5a07bb3cba48e8dea580c008503066744da10698"), looks := true }, kinds := [], alts := [], laidByText := true, laidKinds := [.data, .data, .data, .data, .data], laidTests := true, laidLooks := .later }
def SheetShowsCardSaid : Prop := Claim7.holds Tryd.pinned (.plain (OpenSpec.ofChange sheetShowsSpec)) sheetShowsCard

/-- THE TIED CARD OF 'tierlinelaw.SheetReads'. -/
def sheetReadsCard : Claim7 := { stood := { row := sheetReadsRow, standIns := [], harness := (true, "9d2d38fe9336421dde29669e5a07bb3cba48e8dea580c008503066744da10698"), looks := true }, kinds := [], alts := [], laidByText := true, laidKinds := [.data, .data, .data, .data, .sentinel, .sentinel, .data, .data, .pinned], laidTests := true, laidLooks := .later }
def SheetReadsCardSaid : Prop := Claim7.holds Tryd.pinned (.plain (OpenSpec.ofChange sheetReadsSpec)) sheetReadsCard

/-- THE SECOND FORM's CARD OF 'tierlinelaw.SheetShows'. -/
def sheetShowsUptoCard : Claim7 := { stood := { row := sheetShowsUptoRow, standIns := [], harness := (true, "9d2d38fe9336421dde29669e5a07bb3cba48e8dea580c008503066744da10698"), looks := true }, kinds := [], alts := [], laidByText := true, laidKinds := [.data, .data, .data, .data, .data], laidTests := true, laidLooks := .later }
def SheetShowsUptoCardSaid : Prop := Claim7.holds Tryd.pinned (.plain (OpenSpec.upto sheetShowsSpec)) sheetShowsUptoCard

/-- THE SECOND FORM's CARD OF 'tierlinelaw.SheetReads'. -/
def sheetReadsUptoCard : Claim7 := { stood := { row := sheetReadsUptoRow, standIns := [], harness := (true, "9d2d38fe9336421dde29669e5a07bb3cba48e8dea580c008503066744da10698"), looks := true }, kinds := [], alts := [], laidByText := true, laidKinds := [.data, .data, .data, .data, .sentinel, .sentinel, .data, .data, .pinned], laidTests := true, laidLooks := .later }
def SheetReadsUptoCardSaid : Prop := Claim7.holds Tryd.pinned (.plain (OpenSpec.upto sheetReadsSpec)) sheetReadsUptoCard
end Rows
end Go.Proofs.YtpnapnmkjpolmaaDoor
