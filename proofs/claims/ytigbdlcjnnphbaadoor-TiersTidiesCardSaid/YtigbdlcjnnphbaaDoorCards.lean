/-
  DERIVED. GIVEN WITH THE SEED: THE CARDS: each row of YtigbdlcjnnphbaaDoorRows.lean that lists a variable, with what it lists TIED to the program's text (the seventh form; the later family's looks); each row that meets fmt, with fmt's text TOLD by the authors' own Lean function (tested against real Go, not proved from fmt's source: count such statements apart). THE CARD IS WHAT COUNTS. Prove the row's statement (the work); the ties are given (YtigbdlcjnnphbaaDoorTie.lean); close each card by the builder's one call (the guide's Derived/Test/ToyasCard.lean, 'card_holds'). Laid BY PROGRAM, IN A SANDBOX (cutbox-door.mjs). By AI agents, Wed Nov 11 2026. No macro, syntax, notation, axiom, sorry.
-/
import Derived.Test.YtigbdlcjnnphbaaDoorRows
import GoSem.ClaimSeven
namespace Go.Proofs.YtigbdlcjnnphbaaDoor
namespace Rows

/-- THE TIED CARD OF 'tierlinelaw.TiersTidies'. -/
def tiersTidiesCard : Claim7 := { stood := { row := tiersTidiesRow, standIns := [], harness := (true, "6a9bcf00c7baf374b60286895473cde53a97fb2119699dae9020309de1c99c0f"), looks := false }, kinds := [], alts := [], laidByText := true, laidKinds := [.data], laidTests := true, laidLooks := .later }
def TiersTidiesCardSaid : Prop := Claim7.holds Tryd.pinned (.plain (OpenSpec.ofChange tiersTidiesSpec)) tiersTidiesCard

/-- THE SECOND FORM's CARD OF 'tierlinelaw.TiersTidies'. -/
def tiersTidiesUptoCard : Claim7 := { stood := { row := tiersTidiesUptoRow, standIns := [], harness := (true, "6a9bcf00c7baf374b60286895473cde53a97fb2119699dae9020309de1c99c0f"), looks := false }, kinds := [], alts := [], laidByText := true, laidKinds := [.data], laidTests := true, laidLooks := .later }
def TiersTidiesUptoCardSaid : Prop := Claim7.holds Tryd.pinned (.plain (OpenSpec.upto tiersTidiesSpec)) tiersTidiesUptoCard
end Rows
end Go.Proofs.YtigbdlcjnnphbaaDoor
