/-
  DERIVED. GIVEN WITH THE SEED: THE CARDS: each row of YtohindaklpdeeaaDoorRows.lean that lists a variable, with what it lists TIED to the program's text (the seventh form; the later family's looks); each row that meets fmt, with fmt's text TOLD by the authors' own Lean function (tested against real Go, not proved from fmt's source: count such statements apart). THE CARD IS WHAT COUNTS. Prove the row's statement (the work); the ties are given (YtohindaklpdeeaaDoorTie.lean); close each card by the builder's one call (the guide's Derived/Test/ToyasCard.lean, 'card_holds'). Laid BY PROGRAM, IN A SANDBOX (cutbox-door.mjs). By AI agents, Wed Nov 11 2026. No macro, syntax, notation, axiom, sorry.
-/
import Derived.Test.YtohindaklpdeeaaDoorRows
import GoSem.ClaimSeven
namespace Go.Proofs.YtohindaklpdeeaaDoor
namespace Rows

/-- THE TIED CARD OF 'tierlinelaw.CodeDecodes'. -/
def codeDecodesCard : Claim7 := { stood := { row := codeDecodesRow, standIns := [], harness := (true, "f9d6d6dee7761ef02093f7a03cf17414a23d6e1adbe5cee1eb6fee438871f3e9"), looks := true }, kinds := [], alts := [], laidByText := true, laidKinds := [.data], laidTests := true, laidLooks := .later }
def CodeDecodesCardSaid : Prop := Claim7.holds Tryd.pinned (.plain (OpenSpec.ofChange codeDecodesSpec)) codeDecodesCard

/-- THE TIED CARD OF 'tierlinelaw.RvDecodes'. -/
def rvDecodesCard : Claim7 := { stood := { row := rvDecodesRow, standIns := [], harness := (true, "f9d6d6dee7761ef02093f7a03cf17414a23d6e1adbe5cee1eb6fee438871f3e9"), looks := true }, kinds := [], alts := [], laidByText := true, laidKinds := [.data, .data], laidTests := true, laidLooks := .later }
def RvDecodesCardSaid : Prop := Claim7.holds Tryd.pinned (.plain (OpenSpec.ofChange rvDecodesSpec)) rvDecodesCard

/-- THE SECOND FORM's CARD OF 'tierlinelaw.CodeDecodes'. -/
def codeDecodesUptoCard : Claim7 := { stood := { row := codeDecodesUptoRow, standIns := [], harness := (true, "f9d6d6dee7761ef02093f7a03cf17414a23d6e1adbe5cee1eb6fee438871f3e9"), looks := true }, kinds := [], alts := [], laidByText := true, laidKinds := [.data], laidTests := true, laidLooks := .later }
def CodeDecodesUptoCardSaid : Prop := Claim7.holds Tryd.pinned (.plain (OpenSpec.upto codeDecodesSpec)) codeDecodesUptoCard

/-- THE SECOND FORM's CARD OF 'tierlinelaw.RvDecodes'. -/
def rvDecodesUptoCard : Claim7 := { stood := { row := rvDecodesUptoRow, standIns := [], harness := (true, "f9d6d6dee7761ef02093f7a03cf17414a23d6e1adbe5cee1eb6fee438871f3e9"), looks := true }, kinds := [], alts := [], laidByText := true, laidKinds := [.data, .data], laidTests := true, laidLooks := .later }
def RvDecodesUptoCardSaid : Prop := Claim7.holds Tryd.pinned (.plain (OpenSpec.upto rvDecodesSpec)) rvDecodesUptoCard
end Rows
end Go.Proofs.YtohindaklpdeeaaDoor
