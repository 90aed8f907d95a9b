/-
  DERIVED. GIVEN WITH THE SEED: THE CARDS: each row of YtceilfmfidmfpaaDoorRows.lean that lists a variable, with what it lists TIED to the program's text (the seventh form; the later family's looks); each row that meets fmt, with fmt's text TOLD by the authors' own Lean function (tested against real Go, not proved from fmt's source: count such statements apart). THE CARD IS WHAT COUNTS. Prove the row's statement (the work); the ties are given (YtceilfmfidmfpaaDoorTie.lean); close each card by the builder's one call (the guide's Derived/Test/ToyasCard.lean, 'card_holds'). Laid BY PROGRAM, IN A SANDBOX (cutbox-door.mjs). By AI agents, Wed Nov 11 2026. No macro, syntax, notation, axiom, sorry.
-/
import Derived.Test.YtceilfmfidmfpaaDoorRows
import GoSem.ClaimSeven
namespace Go.Proofs.YtceilfmfidmfpaaDoor
namespace Rows

/-- THE TIED CARD OF 'tierlinelaw.EmitFars'. -/
def emitFarsCard : Claim7 := { stood := { row := emitFarsRow, standIns := [], harness := (true, "7028af690fd152539ecbc0821652d17d23628c302d10346e23ab55ae675d30da"), looks := false }, kinds := [], alts := [], laidByText := true, laidKinds := [.data], laidTests := true, laidLooks := .later }
def EmitFarsCardSaid : Prop := Claim7.holds Tryd.pinned (.plain (OpenSpec.ofChange emitFarsSpec)) emitFarsCard

/-- THE SECOND FORM's CARD OF 'tierlinelaw.EmitFars'. -/
def emitFarsUptoCard : Claim7 := { stood := { row := emitFarsUptoRow, standIns := [], harness := (true, "7028af690fd152539ecbc0821652d17d23628c302d10346e23ab55ae675d30da"), looks := false }, kinds := [], alts := [], laidByText := true, laidKinds := [.data], laidTests := true, laidLooks := .later }
def EmitFarsUptoCardSaid : Prop := Claim7.holds Tryd.pinned (.plain (OpenSpec.upto emitFarsSpec)) emitFarsUptoCard
end Rows
end Go.Proofs.YtceilfmfidmfpaaDoor
