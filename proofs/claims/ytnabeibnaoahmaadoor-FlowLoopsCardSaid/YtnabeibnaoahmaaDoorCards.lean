/-
  DERIVED. GIVEN WITH THE SEED: THE CARDS: each row of YtnabeibnaoahmaaDoorRows.lean that lists a variable, with what it lists TIED to the program's text (the seventh form; the later family's looks); each row that meets fmt, with fmt's text TOLD by the authors' own Lean function (tested against real Go, not proved from fmt's source: count such statements apart). THE CARD IS WHAT COUNTS. Prove the row's statement (the work); the ties are given (YtnabeibnaoahmaaDoorTie.lean); close each card by the builder's one call (the guide's Derived/Test/ToyasCard.lean, 'card_holds'). Laid BY PROGRAM, IN A SANDBOX (cutbox-door.mjs). By AI agents, Wed Nov 11 2026. No macro, syntax, notation, axiom, sorry.
-/
import Derived.Test.YtnabeibnaoahmaaDoorRows
import GoSem.ClaimSeven
namespace Go.Proofs.YtnabeibnaoahmaaDoor
namespace Rows

/-- THE TIED CARD OF 'tierlinelaw.FlowLives'. -/
def flowLivesCard : Claim7 := { stood := { row := flowLivesRow, standIns := [], harness := (true, "9c9076412af46776cc440038f48cdfedfc73c8af6fb980a18c56ed72d6358ca9"), looks := false }, kinds := [], alts := [], laidByText := true, laidKinds := [.data], laidTests := true, laidLooks := .later }
def FlowLivesCardSaid : Prop := Claim7.holds Tryd.pinned (.plain (OpenSpec.ofChange flowLivesSpec)) flowLivesCard

/-- THE TIED CARD OF 'tierlinelaw.FlowBlocks'. -/
def flowBlocksCard : Claim7 := { stood := { row := flowBlocksRow, standIns := [], harness := (true, "9c9076412af46776cc440038f48cdfedfc73c8af6fb980a18c56ed72d6358ca9"), looks := false }, kinds := [], alts := [], laidByText := true, laidKinds := [.data], laidTests := true, laidLooks := .later }
def FlowBlocksCardSaid : Prop := Claim7.holds Tryd.pinned (.plain (OpenSpec.ofChange flowBlocksSpec)) flowBlocksCard

/-- THE TIED CARD OF 'tierlinelaw.EmitLeaves'. -/
def emitLeavesCard : Claim7 := { stood := { row := emitLeavesRow, standIns := [], harness := (true, "9c9076412af46776cc440038f48cdfedfc73c8af6fb980a18c56ed72d6358ca9"), looks := false }, kinds := [], alts := [], laidByText := true, laidKinds := [.data], laidTests := true, laidLooks := .later }
def EmitLeavesCardSaid : Prop := Claim7.holds Tryd.pinned (.plain (OpenSpec.ofChange emitLeavesSpec)) emitLeavesCard

/-- THE TIED CARD OF 'tierlinelaw.FlowAboves'. -/
def flowAbovesCard : Claim7 := { stood := { row := flowAbovesRow, standIns := [], harness := (true, "9c9076412af46776cc440038f48cdfedfc73c8af6fb980a18c56ed72d6358ca9"), looks := false }, kinds := [], alts := [], laidByText := true, laidKinds := [.data], laidTests := true, laidLooks := .later }
def FlowAbovesCardSaid : Prop := Claim7.holds Tryd.pinned (.plain (OpenSpec.ofChange flowAbovesSpec)) flowAbovesCard

/-- THE TIED CARD OF 'tierlinelaw.FlowLoops'. -/
def flowLoopsCard : Claim7 := { stood := { row := flowLoopsRow, standIns := [], harness := (true, "9c9076412af46776cc440038f48cdfedfc73c8af6fb980a18c56ed72d6358ca9"), looks := false }, kinds := [], alts := [], laidByText := true, laidKinds := [.data], laidTests := true, laidLooks := .later }
def FlowLoopsCardSaid : Prop := Claim7.holds Tryd.pinned (.plain (OpenSpec.ofChange flowLoopsSpec)) flowLoopsCard

/-- THE SECOND FORM's CARD OF 'tierlinelaw.FlowLives'. -/
def flowLivesUptoCard : Claim7 := { stood := { row := flowLivesUptoRow, standIns := [], harness := (true, "9c9076412af46776cc440038f48cdfedfc73c8af6fb980a18c56ed72d6358ca9"), looks := false }, kinds := [], alts := [], laidByText := true, laidKinds := [.data], laidTests := true, laidLooks := .later }
def FlowLivesUptoCardSaid : Prop := Claim7.holds Tryd.pinned (.plain (OpenSpec.upto flowLivesSpec)) flowLivesUptoCard

/-- THE SECOND FORM's CARD OF 'tierlinelaw.FlowBlocks'. -/
def flowBlocksUptoCard : Claim7 := { stood := { row := flowBlocksUptoRow, standIns := [], harness := (true, "9c9076412af46776cc440038f48cdfedfc73c8af6fb980a18c56ed72d6358ca9"), looks := false }, kinds := [], alts := [], laidByText := true, laidKinds := [.data], laidTests := true, laidLooks := .later }
def FlowBlocksUptoCardSaid : Prop := Claim7.holds Tryd.pinned (.plain (OpenSpec.upto flowBlocksSpec)) flowBlocksUptoCard

/-- THE SECOND FORM's CARD OF 'tierlinelaw.EmitLeaves'. -/
def emitLeavesUptoCard : Claim7 := { stood := { row := emitLeavesUptoRow, standIns := [], harness := (true, "9c9076412af46776cc440038f48cdfedfc73c8af6fb980a18c56ed72d6358ca9"), looks := false }, kinds := [], alts := [], laidByText := true, laidKinds := [.data], laidTests := true, laidLooks := .later }
def EmitLeavesUptoCardSaid : Prop := Claim7.holds Tryd.pinned (.plain (OpenSpec.upto emitLeavesSpec)) emitLeavesUptoCard

/-- THE SECOND FORM's CARD OF 'tierlinelaw.FlowAboves'. -/
def flowAbovesUptoCard : Claim7 := { stood := { row := flowAbovesUptoRow, standIns := [], harness := (true, "9c9076412af46776cc440038f48cdfedfc73c8af6fb980a18c56ed72d6358ca9"), looks := false }, kinds := [], alts := [], laidByText := true, laidKinds := [.data], laidTests := true, laidLooks := .later }
def FlowAbovesUptoCardSaid : Prop := Claim7.holds Tryd.pinned (.plain (OpenSpec.upto flowAbovesSpec)) flowAbovesUptoCard

/-- THE SECOND FORM's CARD OF 'tierlinelaw.FlowLoops'. -/
def flowLoopsUptoCard : Claim7 := { stood := { row := flowLoopsUptoRow, standIns := [], harness := (true, "9c9076412af46776cc440038f48cdfedfc73c8af6fb980a18c56ed72d6358ca9"), looks := false }, kinds := [], alts := [], laidByText := true, laidKinds := [.data], laidTests := true, laidLooks := .later }
def FlowLoopsUptoCardSaid : Prop := Claim7.holds Tryd.pinned (.plain (OpenSpec.upto flowLoopsSpec)) flowLoopsUptoCard
end Rows
end Go.Proofs.YtnabeibnaoahmaaDoor
