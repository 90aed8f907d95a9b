/-
  DERIVED. GIVEN WITH THE SEED: THE CARDS: each row of YtfhoffpdodjfeaaDoorRows.lean that lists a variable, with what it lists TIED to the program's text (the seventh form; the later family's looks); each row that meets fmt, with fmt's text TOLD by the authors' own Lean function (tested against real Go, not proved from fmt's source: count such statements apart). THE CARD IS WHAT COUNTS. Prove the row's statement (the work); the ties are given (YtfhoffpdodjfeaaDoorTie.lean); close each card by the builder's one call (the guide's Derived/Test/ToyasCard.lean, 'card_holds'). Laid BY PROGRAM, IN A SANDBOX (cutbox-door.mjs). By AI agents, Wed Nov 11 2026. No macro, syntax, notation, axiom, sorry.
-/
import Derived.Test.YtfhoffpdodjfeaaDoorRows
import GoSem.ClaimSeven
namespace Go.Proofs.YtfhoffpdodjfeaaDoor
namespace Rows

/-- THE TIED CARD OF 'tierlinelaw.StepBegins'. -/
def stepBeginsCard : Claim7 := { stood := { row := stepBeginsRow, standIns := [], harness := (true, "1aef464478be5c9bb72a73fb491f75cbf1fbeaa7113dccae19db9d49e983a386"), looks := false }, kinds := [], alts := [], laidByText := true, laidKinds := [.data], laidTests := true, laidLooks := .later }
def StepBeginsCardSaid : Prop := Claim7.holds Tryd.pinned (.plain (OpenSpec.ofChange stepBeginsSpec)) stepBeginsCard

/-- THE TIED CARD OF 'tierlinelaw.TrimWheres'. -/
def trimWheresCard : Claim7 := { stood := { row := trimWheresRow, standIns := [], harness := (true, "1aef464478be5c9bb72a73fb491f75cbf1fbeaa7113dccae19db9d49e983a386"), looks := false }, kinds := [], alts := [], laidByText := true, laidKinds := [.data], laidTests := true, laidLooks := .later }
def TrimWheresCardSaid : Prop := Claim7.holds Tryd.pinned (.plain (OpenSpec.ofChange trimWheresSpec)) trimWheresCard

/-- THE TIED CARD OF 'tierlinelaw.EmitEnters'. -/
def emitEntersCard : Claim7 := { stood := { row := emitEntersRow, standIns := [], harness := (true, "1aef464478be5c9bb72a73fb491f75cbf1fbeaa7113dccae19db9d49e983a386"), looks := false }, kinds := [], alts := [], laidByText := true, laidKinds := [.data], laidTests := true, laidLooks := .later }
def EmitEntersCardSaid : Prop := Claim7.holds Tryd.pinned (.plain (OpenSpec.ofChange emitEntersSpec)) emitEntersCard

/-- THE TIED CARD OF 'tierlinelaw.TrimCalleds'. -/
def trimCalledsCard : Claim7 := { stood := { row := trimCalledsRow, standIns := [], harness := (true, "1aef464478be5c9bb72a73fb491f75cbf1fbeaa7113dccae19db9d49e983a386"), looks := false }, kinds := [], alts := [], laidByText := true, laidKinds := [.data], laidTests := true, laidLooks := .later }
def TrimCalledsCardSaid : Prop := Claim7.holds Tryd.pinned (.plain (OpenSpec.ofChange trimCalledsSpec)) trimCalledsCard

/-- THE TIED CARD OF 'tierlinelaw.TrimPrograms'. -/
def trimProgramsCard : Claim7 := { stood := { row := trimProgramsRow, standIns := [], harness := (true, "1aef464478be5c9bb72a73fb491f75cbf1fbeaa7113dccae19db9d49e983a386"), looks := false }, kinds := [], alts := [], laidByText := true, laidKinds := [.data], laidTests := true, laidLooks := .later }
def TrimProgramsCardSaid : Prop := Claim7.holds Tryd.pinned (.plain (OpenSpec.ofChange trimProgramsSpec)) trimProgramsCard

/-- THE TIED CARD OF 'tierlinelaw.CpuSteps'. -/
def cpuStepsCard : Claim7 := { stood := { row := cpuStepsRow, standIns := [], harness := (true, "1aef464478be5c9bb72a73fb491f75cbf1fbeaa7113dccae19db9d49e983a386"), looks := false }, kinds := [], alts := [], laidByText := true, laidKinds := [.data, .data], laidTests := true, laidLooks := .later }
def CpuStepsCardSaid : Prop := Claim7.holds Tryd.pinned (.plain (OpenSpec.ofChange cpuStepsSpec)) cpuStepsCard

/-- THE TIED CARD OF 'tierlinelaw.CpuRuns'. -/
def cpuRunsCard : Claim7 := { stood := { row := cpuRunsRow, standIns := [], harness := (true, "1aef464478be5c9bb72a73fb491f75cbf1fbeaa7113dccae19db9d49e983a386"), looks := false }, kinds := [], alts := [], laidByText := true, laidKinds := [.data, .data], laidTests := true, laidLooks := .later }
def CpuRunsCardSaid : Prop := Claim7.holds Tryd.pinned (.plain (OpenSpec.ofChange cpuRunsSpec)) cpuRunsCard

/-- THE TIED CARD OF 'tierlinelaw.StepNexts'. -/
def stepNextsCard : Claim7 := { stood := { row := stepNextsRow, standIns := [], harness := (true, "1aef464478be5c9bb72a73fb491f75cbf1fbeaa7113dccae19db9d49e983a386"), looks := false }, kinds := [], alts := [], laidByText := true, laidKinds := [.data], laidTests := true, laidLooks := .later }
def StepNextsCardSaid : Prop := Claim7.holds Tryd.pinned (.plain (OpenSpec.ofChange stepNextsSpec)) stepNextsCard

/-- THE TIED CARD OF 'tierlinelaw.StepRuns'. -/
def stepRunsCard : Claim7 := { stood := { row := stepRunsRow, standIns := [], harness := (true, "1aef464478be5c9bb72a73fb491f75cbf1fbeaa7113dccae19db9d49e983a386"), looks := false }, kinds := [], alts := [], laidByText := true, laidKinds := [.data], laidTests := true, laidLooks := .later }
def StepRunsCardSaid : Prop := Claim7.holds Tryd.pinned (.plain (OpenSpec.ofChange stepRunsSpec)) stepRunsCard

/-- THE TIED CARD OF 'tierlinelaw.ProfileCounts'. -/
def profileCountsCard : Claim7 := { stood := { row := profileCountsRow, standIns := [], harness := (true, "1aef464478be5c9bb72a73fb491f75cbf1fbeaa7113dccae19db9d49e983a386"), looks := false }, kinds := [], alts := [], laidByText := true, laidKinds := [.data], laidTests := true, laidLooks := .later }
def ProfileCountsCardSaid : Prop := Claim7.holds Tryd.pinned (.plain (OpenSpec.ofChange profileCountsSpec)) profileCountsCard

/-- THE TIED CARD OF 'tierlinelaw.ProfileHots'. -/
def profileHotsCard : Claim7 := { stood := { row := profileHotsRow, standIns := [], harness := (true, "1aef464478be5c9bb72a73fb491f75cbf1fbeaa7113dccae19db9d49e983a386"), looks := false }, kinds := [], alts := [], laidByText := true, laidKinds := [.data], laidTests := true, laidLooks := .later }
def ProfileHotsCardSaid : Prop := Claim7.holds Tryd.pinned (.plain (OpenSpec.ofChange profileHotsSpec)) profileHotsCard

/-- THE SECOND FORM's CARD OF 'tierlinelaw.StepBegins'. -/
def stepBeginsUptoCard : Claim7 := { stood := { row := stepBeginsUptoRow, standIns := [], harness := (true, "1aef464478be5c9bb72a73fb491f75cbf1fbeaa7113dccae19db9d49e983a386"), looks := false }, kinds := [], alts := [], laidByText := true, laidKinds := [.data], laidTests := true, laidLooks := .later }
def StepBeginsUptoCardSaid : Prop := Claim7.holds Tryd.pinned (.plain (OpenSpec.upto stepBeginsSpec)) stepBeginsUptoCard

/-- THE SECOND FORM's CARD OF 'tierlinelaw.TrimWheres'. -/
def trimWheresUptoCard : Claim7 := { stood := { row := trimWheresUptoRow, standIns := [], harness := (true, "1aef464478be5c9bb72a73fb491f75cbf1fbeaa7113dccae19db9d49e983a386"), looks := false }, kinds := [], alts := [], laidByText := true, laidKinds := [.data], laidTests := true, laidLooks := .later }
def TrimWheresUptoCardSaid : Prop := Claim7.holds Tryd.pinned (.plain (OpenSpec.upto trimWheresSpec)) trimWheresUptoCard

/-- THE SECOND FORM's CARD OF 'tierlinelaw.EmitEnters'. -/
def emitEntersUptoCard : Claim7 := { stood := { row := emitEntersUptoRow, standIns := [], harness := (true, "1aef464478be5c9bb72a73fb491f75cbf1fbeaa7113dccae19db9d49e983a386"), looks := false }, kinds := [], alts := [], laidByText := true, laidKinds := [.data], laidTests := true, laidLooks := .later }
def EmitEntersUptoCardSaid : Prop := Claim7.holds Tryd.pinned (.plain (OpenSpec.upto emitEntersSpec)) emitEntersUptoCard

/-- THE SECOND FORM's CARD OF 'tierlinelaw.TrimCalleds'. -/
def trimCalledsUptoCard : Claim7 := { stood := { row := trimCalledsUptoRow, standIns := [], harness := (true, "1aef464478be5c9bb72a73fb491f75cbf1fbeaa7113dccae19db9d49e983a386"), looks := false }, kinds := [], alts := [], laidByText := true, laidKinds := [.data], laidTests := true, laidLooks := .later }
def TrimCalledsUptoCardSaid : Prop := Claim7.holds Tryd.pinned (.plain (OpenSpec.upto trimCalledsSpec)) trimCalledsUptoCard

/-- THE SECOND FORM's CARD OF 'tierlinelaw.TrimPrograms'. -/
def trimProgramsUptoCard : Claim7 := { stood := { row := trimProgramsUptoRow, standIns := [], harness := (true, "1aef464478be5c9bb72a73fb491f75cbf1fbeaa7113dccae19db9d49e983a386"), looks := false }, kinds := [], alts := [], laidByText := true, laidKinds := [.data], laidTests := true, laidLooks := .later }
def TrimProgramsUptoCardSaid : Prop := Claim7.holds Tryd.pinned (.plain (OpenSpec.upto trimProgramsSpec)) trimProgramsUptoCard

/-- THE SECOND FORM's CARD OF 'tierlinelaw.CpuSteps'. -/
def cpuStepsUptoCard : Claim7 := { stood := { row := cpuStepsUptoRow, standIns := [], harness := (true, "1aef464478be5c9bb72a73fb491f75cbf1fbeaa7113dccae19db9d49e983a386"), looks := false }, kinds := [], alts := [], laidByText := true, laidKinds := [.data, .data], laidTests := true, laidLooks := .later }
def CpuStepsUptoCardSaid : Prop := Claim7.holds Tryd.pinned (.plain (OpenSpec.upto cpuStepsSpec)) cpuStepsUptoCard

/-- THE SECOND FORM's CARD OF 'tierlinelaw.CpuRuns'. -/
def cpuRunsUptoCard : Claim7 := { stood := { row := cpuRunsUptoRow, standIns := [], harness := (true, "1aef464478be5c9bb72a73fb491f75cbf1fbeaa7113dccae19db9d49e983a386"), looks := false }, kinds := [], alts := [], laidByText := true, laidKinds := [.data, .data], laidTests := true, laidLooks := .later }
def CpuRunsUptoCardSaid : Prop := Claim7.holds Tryd.pinned (.plain (OpenSpec.upto cpuRunsSpec)) cpuRunsUptoCard

/-- THE SECOND FORM's CARD OF 'tierlinelaw.StepNexts'. -/
def stepNextsUptoCard : Claim7 := { stood := { row := stepNextsUptoRow, standIns := [], harness := (true, "1aef464478be5c9bb72a73fb491f75cbf1fbeaa7113dccae19db9d49e983a386"), looks := false }, kinds := [], alts := [], laidByText := true, laidKinds := [.data], laidTests := true, laidLooks := .later }
def StepNextsUptoCardSaid : Prop := Claim7.holds Tryd.pinned (.plain (OpenSpec.upto stepNextsSpec)) stepNextsUptoCard

/-- THE SECOND FORM's CARD OF 'tierlinelaw.StepRuns'. -/
def stepRunsUptoCard : Claim7 := { stood := { row := stepRunsUptoRow, standIns := [], harness := (true, "1aef464478be5c9bb72a73fb491f75cbf1fbeaa7113dccae19db9d49e983a386"), looks := false }, kinds := [], alts := [], laidByText := true, laidKinds := [.data], laidTests := true, laidLooks := .later }
def StepRunsUptoCardSaid : Prop := Claim7.holds Tryd.pinned (.plain (OpenSpec.upto stepRunsSpec)) stepRunsUptoCard

/-- THE SECOND FORM's CARD OF 'tierlinelaw.ProfileCounts'. -/
def profileCountsUptoCard : Claim7 := { stood := { row := profileCountsUptoRow, standIns := [], harness := (true, "1aef464478be5c9bb72a73fb491f75cbf1fbeaa7113dccae19db9d49e983a386"), looks := false }, kinds := [], alts := [], laidByText := true, laidKinds := [.data], laidTests := true, laidLooks := .later }
def ProfileCountsUptoCardSaid : Prop := Claim7.holds Tryd.pinned (.plain (OpenSpec.upto profileCountsSpec)) profileCountsUptoCard

/-- THE SECOND FORM's CARD OF 'tierlinelaw.ProfileHots'. -/
def profileHotsUptoCard : Claim7 := { stood := { row := profileHotsUptoRow, standIns := [], harness := (true, "1aef464478be5c9bb72a73fb491f75cbf1fbeaa7113dccae19db9d49e983a386"), looks := false }, kinds := [], alts := [], laidByText := true, laidKinds := [.data], laidTests := true, laidLooks := .later }
def ProfileHotsUptoCardSaid : Prop := Claim7.holds Tryd.pinned (.plain (OpenSpec.upto profileHotsSpec)) profileHotsUptoCard
end Rows
end Go.Proofs.YtfhoffpdodjfeaaDoor
