/-
  DERIVED. GIVEN WITH THE SEED: THE CARDS: each row of YtpgakmopkgbahaaDoorRows.lean that lists a variable, with what it lists TIED to the program's text (the seventh form; the later family's looks); each row that meets fmt, with fmt's text TOLD by the authors' own Lean function (tested against real Go, not proved from fmt's source: count such statements apart). THE CARD IS WHAT COUNTS. Prove the row's statement (the work); the ties are given (YtpgakmopkgbahaaDoorTie.lean); close each card by the builder's one call (the guide's Derived/Test/ToyasCard.lean, 'card_holds'). Laid BY PROGRAM, IN A SANDBOX (cutbox-door.mjs). By AI agents, Wed Nov 11 2026. No macro, syntax, notation, axiom, sorry.
-/
import Derived.Test.YtpgakmopkgbahaaDoorRows
import GoSem.ClaimSeven
namespace Go.Proofs.YtpgakmopkgbahaaDoor
namespace Rows

/-- THE TIED CARD OF 'tierlinelaw.RvChecks'. -/
def rvChecksCard : Claim7 := { stood := { row := rvChecksRow, standIns := [], harness := (true, "69b54718e328a8fc137df73ecc0add83273f58871e7e2c918be15da48ecb770b"), looks := true }, kinds := [], alts := [], laidByText := true, laidKinds := [.data, .data], laidTests := true, laidLooks := .later }
def RvChecksCardSaid : Prop := Claim7.holds Tryd.pinned (.plain (OpenSpec.ofChange rvChecksSpec)) rvChecksCard

/-- THE TIED CARD OF 'tierlinelaw.CodeChecks'. -/
def codeChecksCard : Claim7 := { stood := { row := codeChecksRow, standIns := [], harness := (true, "69b54718e328a8fc137df73ecc0add83273f58871e7e2c918be15da48ecb770b"), looks := true }, kinds := [], alts := [], laidByText := true, laidKinds := [.data], laidTests := true, laidLooks := .later }
def CodeChecksCardSaid : Prop := Claim7.holds Tryd.pinned (.plain (OpenSpec.ofChange codeChecksSpec)) codeChecksCard

/-- THE TIED CARD OF 'tierlinelaw.RvEncodes'. -/
def rvEncodesCard : Claim7 := { stood := { row := rvEncodesRow, standIns := [], harness := (true, "69b54718e328a8fc137df73ecc0add83273f58871e7e2c918be15da48ecb770b"), looks := true }, kinds := [], alts := [], laidByText := true, laidKinds := [.data, .data], laidTests := true, laidLooks := .later }
def RvEncodesCardSaid : Prop := Claim7.holds Tryd.pinned (.plain (OpenSpec.ofChange rvEncodesSpec)) rvEncodesCard

/-- THE TIED CARD OF 'tierlinelaw.CodeEncodes'. -/
def codeEncodesCard : Claim7 := { stood := { row := codeEncodesRow, standIns := [], harness := (true, "69b54718e328a8fc137df73ecc0add83273f58871e7e2c918be15da48ecb770b"), looks := true }, kinds := [], alts := [], laidByText := true, laidKinds := [.data], laidTests := true, laidLooks := .later }
def CodeEncodesCardSaid : Prop := Claim7.holds Tryd.pinned (.plain (OpenSpec.ofChange codeEncodesSpec)) codeEncodesCard

/-- THE TIED CARD OF 'tierlinelaw.ProofReads'. -/
def proofReadsCard : Claim7 := { stood := { row := proofReadsRow, standIns := [], harness := (true, "69b54718e328a8fc137df73ecc0add83273f58871e7e2c918be15da48ecb770b"), looks := true }, kinds := [], alts := [], laidByText := true, laidKinds := [.data], laidTests := true, laidLooks := .later }
def ProofReadsCardSaid : Prop := Claim7.holds Tryd.pinned (.plain (OpenSpec.ofChange proofReadsSpec)) proofReadsCard

/-- THE TIED CARD OF 'tierlinelaw.CodeDecodes'. -/
def codeDecodesCard : Claim7 := { stood := { row := codeDecodesRow, standIns := [], harness := (true, "69b54718e328a8fc137df73ecc0add83273f58871e7e2c918be15da48ecb770b"), looks := true }, kinds := [], alts := [], laidByText := true, laidKinds := [.data], laidTests := true, laidLooks := .later }
def CodeDecodesCardSaid : Prop := Claim7.holds Tryd.pinned (.plain (OpenSpec.ofChange codeDecodesSpec)) codeDecodesCard

/-- THE TIED CARD OF 'tierlinelaw.RvDecodes'. -/
def rvDecodesCard : Claim7 := { stood := { row := rvDecodesRow, standIns := [], harness := (true, "69b54718e328a8fc137df73ecc0add83273f58871e7e2c918be15da48ecb770b"), looks := true }, kinds := [], alts := [], laidByText := true, laidKinds := [.data, .data], laidTests := true, laidLooks := .later }
def RvDecodesCardSaid : Prop := Claim7.holds Tryd.pinned (.plain (OpenSpec.ofChange rvDecodesSpec)) rvDecodesCard

/-- THE TIED CARD OF 'tierlinelaw.ProofSures'. -/
def proofSuresCard : Claim7 := { stood := { row := proofSuresRow, standIns := [], harness := (true, "69b54718e328a8fc137df73ecc0add83273f58871e7e2c918be15da48ecb770b"), looks := true }, kinds := [], alts := [], laidByText := true, laidKinds := [.data], laidTests := true, laidLooks := .later }
def ProofSuresCardSaid : Prop := Claim7.holds Tryd.pinned (.plain (OpenSpec.ofChange proofSuresSpec)) proofSuresCard

/-- THE TIED CARD OF 'tierlinelaw.ProofChecks'. -/
def proofChecksCard : Claim7 := { stood := { row := proofChecksRow, standIns := [], harness := (true, "69b54718e328a8fc137df73ecc0add83273f58871e7e2c918be15da48ecb770b"), looks := true }, kinds := [], alts := [], laidByText := true, laidKinds := [.data], laidTests := true, laidLooks := .later }
def ProofChecksCardSaid : Prop := Claim7.holds Tryd.pinned (.plain (OpenSpec.ofChange proofChecksSpec)) proofChecksCard

/-- THE TIED CARD OF 'tierlinelaw.StepChecks'. -/
def stepChecksCard : Claim7 := { stood := { row := stepChecksRow, standIns := [], harness := (true, "69b54718e328a8fc137df73ecc0add83273f58871e7e2c918be15da48ecb770b"), looks := true }, kinds := [], alts := [], laidByText := true, laidKinds := [.data], laidTests := true, laidLooks := .later }
def StepChecksCardSaid : Prop := Claim7.holds Tryd.pinned (.plain (OpenSpec.ofChange stepChecksSpec)) stepChecksCard

/-- THE SECOND FORM's CARD OF 'tierlinelaw.RvChecks'. -/
def rvChecksUptoCard : Claim7 := { stood := { row := rvChecksUptoRow, standIns := [], harness := (true, "69b54718e328a8fc137df73ecc0add83273f58871e7e2c918be15da48ecb770b"), looks := true }, kinds := [], alts := [], laidByText := true, laidKinds := [.data, .data], laidTests := true, laidLooks := .later }
def RvChecksUptoCardSaid : Prop := Claim7.holds Tryd.pinned (.plain (OpenSpec.upto rvChecksSpec)) rvChecksUptoCard

/-- THE SECOND FORM's CARD OF 'tierlinelaw.CodeChecks'. -/
def codeChecksUptoCard : Claim7 := { stood := { row := codeChecksUptoRow, standIns := [], harness := (true, "69b54718e328a8fc137df73ecc0add83273f58871e7e2c918be15da48ecb770b"), looks := true }, kinds := [], alts := [], laidByText := true, laidKinds := [.data], laidTests := true, laidLooks := .later }
def CodeChecksUptoCardSaid : Prop := Claim7.holds Tryd.pinned (.plain (OpenSpec.upto codeChecksSpec)) codeChecksUptoCard

/-- THE SECOND FORM's CARD OF 'tierlinelaw.RvEncodes'. -/
def rvEncodesUptoCard : Claim7 := { stood := { row := rvEncodesUptoRow, standIns := [], harness := (true, "69b54718e328a8fc137df73ecc0add83273f58871e7e2c918be15da48ecb770b"), looks := true }, kinds := [], alts := [], laidByText := true, laidKinds := [.data, .data], laidTests := true, laidLooks := .later }
def RvEncodesUptoCardSaid : Prop := Claim7.holds Tryd.pinned (.plain (OpenSpec.upto rvEncodesSpec)) rvEncodesUptoCard

/-- THE SECOND FORM's CARD OF 'tierlinelaw.CodeEncodes'. -/
def codeEncodesUptoCard : Claim7 := { stood := { row := codeEncodesUptoRow, standIns := [], harness := (true, "69b54718e328a8fc137df73ecc0add83273f58871e7e2c918be15da48ecb770b"), looks := true }, kinds := [], alts := [], laidByText := true, laidKinds := [.data], laidTests := true, laidLooks := .later }
def CodeEncodesUptoCardSaid : Prop := Claim7.holds Tryd.pinned (.plain (OpenSpec.upto codeEncodesSpec)) codeEncodesUptoCard

/-- THE SECOND FORM's CARD OF 'tierlinelaw.ProofReads'. -/
def proofReadsUptoCard : Claim7 := { stood := { row := proofReadsUptoRow, standIns := [], harness := (true, "69b54718e328a8fc137df73ecc0add83273f58871e7e2c918be15da48ecb770b"), looks := true }, kinds := [], alts := [], laidByText := true, laidKinds := [.data], laidTests := true, laidLooks := .later }
def ProofReadsUptoCardSaid : Prop := Claim7.holds Tryd.pinned (.plain (OpenSpec.upto proofReadsSpec)) proofReadsUptoCard

/-- THE SECOND FORM's CARD OF 'tierlinelaw.CodeDecodes'. -/
def codeDecodesUptoCard : Claim7 := { stood := { row := codeDecodesUptoRow, standIns := [], harness := (true, "69b54718e328a8fc137df73ecc0add83273f58871e7e2c918be15da48ecb770b"), looks := true }, kinds := [], alts := [], laidByText := true, laidKinds := [.data], laidTests := true, laidLooks := .later }
def CodeDecodesUptoCardSaid : Prop := Claim7.holds Tryd.pinned (.plain (OpenSpec.upto codeDecodesSpec)) codeDecodesUptoCard

/-- THE SECOND FORM's CARD OF 'tierlinelaw.RvDecodes'. -/
def rvDecodesUptoCard : Claim7 := { stood := { row := rvDecodesUptoRow, standIns := [], harness := (true, "69b54718e328a8fc137df73ecc0add83273f58871e7e2c918be15da48ecb770b"), looks := true }, kinds := [], alts := [], laidByText := true, laidKinds := [.data, .data], laidTests := true, laidLooks := .later }
def RvDecodesUptoCardSaid : Prop := Claim7.holds Tryd.pinned (.plain (OpenSpec.upto rvDecodesSpec)) rvDecodesUptoCard

/-- THE SECOND FORM's CARD OF 'tierlinelaw.ProofSures'. -/
def proofSuresUptoCard : Claim7 := { stood := { row := proofSuresUptoRow, standIns := [], harness := (true, "69b54718e328a8fc137df73ecc0add83273f58871e7e2c918be15da48ecb770b"), looks := true }, kinds := [], alts := [], laidByText := true, laidKinds := [.data], laidTests := true, laidLooks := .later }
def ProofSuresUptoCardSaid : Prop := Claim7.holds Tryd.pinned (.plain (OpenSpec.upto proofSuresSpec)) proofSuresUptoCard

/-- THE SECOND FORM's CARD OF 'tierlinelaw.ProofChecks'. -/
def proofChecksUptoCard : Claim7 := { stood := { row := proofChecksUptoRow, standIns := [], harness := (true, "69b54718e328a8fc137df73ecc0add83273f58871e7e2c918be15da48ecb770b"), looks := true }, kinds := [], alts := [], laidByText := true, laidKinds := [.data], laidTests := true, laidLooks := .later }
def ProofChecksUptoCardSaid : Prop := Claim7.holds Tryd.pinned (.plain (OpenSpec.upto proofChecksSpec)) proofChecksUptoCard

/-- THE SECOND FORM's CARD OF 'tierlinelaw.StepChecks'. -/
def stepChecksUptoCard : Claim7 := { stood := { row := stepChecksUptoRow, standIns := [], harness := (true, "69b54718e328a8fc137df73ecc0add83273f58871e7e2c918be15da48ecb770b"), looks := true }, kinds := [], alts := [], laidByText := true, laidKinds := [.data], laidTests := true, laidLooks := .later }
def StepChecksUptoCardSaid : Prop := Claim7.holds Tryd.pinned (.plain (OpenSpec.upto stepChecksSpec)) stepChecksUptoCard
end Rows
end Go.Proofs.YtpgakmopkgbahaaDoor
