/-
  NARROWER THAN 'FOR EVERY INPUT', by the rows' own cells (each row's printed sentence says how): StepBegins: laid · TrimWheres: laid · EmitEnters: laid · TrimCalleds: laid · TrimPrograms: laid · CpuSteps: laid · CpuRuns: laid · StepNexts: laid · StepRuns: laid · ProfileCounts: laid · ProfileHots: laid.
  DERIVED. THE GIVEN ROWS OF THIS SEAT. 11 by the template 'for every input the law returns true; each argument reads behind the call as it read before'; 0 by the template 'total and deterministic' (their statements: YtfhoffpdodjfeaaDoorTotals.lean).
  GIVEN WITH THE SEED: the statements are not yours to turn. If you find one false, say at which input.
  Laid BY PROGRAM, IN A SANDBOX (cutbox-rows.mjs): the forced cells as the released guide's own fill.sh prints them over the translation a307fdf06f8582f0… (all of the seat's roots in one cut). By AI agents, Wed Nov 11 2026. No macro, syntax, notation, axiom, sorry.
-/
import Derived.Test.YtfhoffpdodjfeaaDoorChecked
import GoSem.Claim
import GoSem.ClaimJoined
import GoSem.ClaimMapViews
import Derived.JoinedTies
import Derived.KernelRfl
namespace Go.Proofs.YtfhoffpdodjfeaaDoor
/- THE CELL 'sum', in the pinned program and in every row, IS THE sha256 OF THE DUMP (.gsa) THAT YtfhoffpdodjfeaaDoorProg.lean LOADS. Nothing in Lean hashes anything: it is a label: what it is worth is what the hold of that sum in a sandbox is worth. -/
noncomputable def Tryd.pinned : Pinned := { name := "ytfhoffpdodjfeaadoor", sum := "a307fdf06f8582f08751f5afae9bcb82fb54afb29cde064b0677c5ecd06254e0", checked := Tryd.checked }
namespace Rows
def none {H : Type} : Left H := { results := [], args := [] }

/- WHAT THE LISTED PACKAGE-LEVEL VARIABLES READ AS WHEN THE CALL BEGINS. Each datum BY PROGRAM (the guide's laid-datum.mjs) off the statement by which the dump's own 'gosem.cut.vars' lays the variable. In a bare row this is a premise. The card (YtfhoffpdodjfeaaDoorCards.lean) ties it to the program's text. -/
def laid_tierline_code_has {H : Type} : DataW H := .agg [.lit (.int .i64 0), .lit (.int .i64 9), .lit (.int .i64 7), .lit (.int .i64 7), .lit (.int .i64 7), .lit (.int .i64 7), .lit (.int .i64 7), .lit (.int .i64 7), .lit (.int .i64 7), .lit (.int .i64 7), .lit (.int .i64 7), .lit (.int .i64 7), .lit (.int .i64 7), .lit (.int .i64 3), .lit (.int .i64 6), .lit (.int .i64 16), .lit (.int .i64 18), .lit (.int .i64 39), .lit (.int .i64 3), .lit (.int .i64 2)]
def laid_tierline_rv_forms {H : Type} : DataW H := .agg [.agg [.lit (.int .i64 0), .lit (.int .i64 0), .lit (.int .i64 0), .lit (.int .i64 0)], .agg [.lit (.int .i64 0), .lit (.int .i64 51), .lit (.int .i64 0), .lit (.int .i64 0)], .agg [.lit (.int .i64 0), .lit (.int .i64 51), .lit (.int .i64 0), .lit (.int .i64 32)], .agg [.lit (.int .i64 0), .lit (.int .i64 51), .lit (.int .i64 0), .lit (.int .i64 1)], .agg [.lit (.int .i64 0), .lit (.int .i64 51), .lit (.int .i64 4), .lit (.int .i64 1)], .agg [.lit (.int .i64 0), .lit (.int .i64 51), .lit (.int .i64 7), .lit (.int .i64 0)], .agg [.lit (.int .i64 0), .lit (.int .i64 51), .lit (.int .i64 6), .lit (.int .i64 0)], .agg [.lit (.int .i64 0), .lit (.int .i64 51), .lit (.int .i64 4), .lit (.int .i64 0)], .agg [.lit (.int .i64 0), .lit (.int .i64 51), .lit (.int .i64 1), .lit (.int .i64 0)], .agg [.lit (.int .i64 0), .lit (.int .i64 51), .lit (.int .i64 5), .lit (.int .i64 32)], .agg [.lit (.int .i64 0), .lit (.int .i64 51), .lit (.int .i64 2), .lit (.int .i64 0)], .agg [.lit (.int .i64 0), .lit (.int .i64 51), .lit (.int .i64 3), .lit (.int .i64 0)], .agg [.lit (.int .i64 1), .lit (.int .i64 19), .lit (.int .i64 0), .lit (.int .i64 0)], .agg [.lit (.int .i64 1), .lit (.int .i64 19), .lit (.int .i64 7), .lit (.int .i64 0)], .agg [.lit (.int .i64 1), .lit (.int .i64 19), .lit (.int .i64 6), .lit (.int .i64 0)], .agg [.lit (.int .i64 1), .lit (.int .i64 19), .lit (.int .i64 4), .lit (.int .i64 0)], .agg [.lit (.int .i64 1), .lit (.int .i64 19), .lit (.int .i64 2), .lit (.int .i64 0)], .agg [.lit (.int .i64 1), .lit (.int .i64 19), .lit (.int .i64 3), .lit (.int .i64 0)], .agg [.lit (.int .i64 2), .lit (.int .i64 19), .lit (.int .i64 1), .lit (.int .i64 0)], .agg [.lit (.int .i64 2), .lit (.int .i64 19), .lit (.int .i64 5), .lit (.int .i64 16)], .agg [.lit (.int .i64 1), .lit (.int .i64 3), .lit (.int .i64 3), .lit (.int .i64 0)], .agg [.lit (.int .i64 3), .lit (.int .i64 35), .lit (.int .i64 3), .lit (.int .i64 0)], .agg [.lit (.int .i64 4), .lit (.int .i64 99), .lit (.int .i64 0), .lit (.int .i64 0)], .agg [.lit (.int .i64 4), .lit (.int .i64 99), .lit (.int .i64 1), .lit (.int .i64 0)], .agg [.lit (.int .i64 4), .lit (.int .i64 99), .lit (.int .i64 4), .lit (.int .i64 0)], .agg [.lit (.int .i64 4), .lit (.int .i64 99), .lit (.int .i64 5), .lit (.int .i64 0)], .agg [.lit (.int .i64 5), .lit (.int .i64 111), .lit (.int .i64 0), .lit (.int .i64 0)], .agg [.lit (.int .i64 1), .lit (.int .i64 103), .lit (.int .i64 0), .lit (.int .i64 0)], .agg [.lit (.int .i64 6), .lit (.int .i64 55), .lit (.int .i64 0), .lit (.int .i64 0)], .agg [.lit (.int .i64 7), .lit (.int .i64 115), .lit (.int .i64 0), .lit (.int .i64 0)]]
def laid_tierline_rv_fields {H : Type} : DataW H := .agg [.agg [.lit (.bool true), .lit (.bool true), .lit (.bool true)], .agg [.lit (.bool true), .lit (.bool true), .lit (.bool false)], .agg [.lit (.bool true), .lit (.bool true), .lit (.bool false)], .agg [.lit (.bool false), .lit (.bool true), .lit (.bool true)], .agg [.lit (.bool false), .lit (.bool true), .lit (.bool true)], .agg [.lit (.bool true), .lit (.bool false), .lit (.bool false)], .agg [.lit (.bool true), .lit (.bool false), .lit (.bool false)], .agg [.lit (.bool false), .lit (.bool false), .lit (.bool false)]]

/-- 'tierlinelaw.StepBegins': WHATEVER THE INPUT: true; the input reads as it did. -/
def stepBeginsSpec : ChangeSpec := { name := "stepBegins", fn := fun _ => fun
  | [d1, d2, d3, d4] => { results := [.lit (.bool true)], args := [d1, d2, d3, d4] }
  | _ => none }
def stepBeginsRow : OpenClaim := { program := "ytfhoffpdodjfeaadoor", sum := "a307fdf06f8582f08751f5afae9bcb82fb54afb29cde064b0677c5ecd06254e0", func := "tierline/tierlinelaw.StepBegins", spec := "stepBegins", named := ["tierline/code.has"], apart := false, laid := [("tierline/code.has", laid_tierline_code_has)] }
def StepBeginsSaid : Prop := stepBeginsRow.holds Tryd.pinned (OpenSpec.ofChange stepBeginsSpec)

/-- ITS FALSE NEIGHBOUR: 'it returns false'. Refute it at one input. -/
def stepBeginsWrong : ChangeSpec := { name := "stepBegins", fn := fun _ => fun
  | [d1, d2, d3, d4] => { results := [.lit (.bool false)], args := [d1, d2, d3, d4] }
  | _ => none }
def StepBeginsWrongFalsely : Prop := stepBeginsRow.holds Tryd.pinned (OpenSpec.ofChange stepBeginsWrong)

/-- 'tierlinelaw.TrimWheres': WHATEVER THE INPUT: true; the input reads as it did. -/
def trimWheresSpec : ChangeSpec := { name := "trimWheres", fn := fun _ => fun
  | [d1, d2] => { results := [.lit (.bool true)], args := [d1, d2] }
  | _ => none }
def trimWheresRow : OpenClaim := { program := "ytfhoffpdodjfeaadoor", sum := "a307fdf06f8582f08751f5afae9bcb82fb54afb29cde064b0677c5ecd06254e0", func := "tierline/tierlinelaw.TrimWheres", spec := "trimWheres", named := ["tierline/code.has"], apart := false, laid := [("tierline/code.has", laid_tierline_code_has)] }
def TrimWheresSaid : Prop := trimWheresRow.holds Tryd.pinned (OpenSpec.ofChange trimWheresSpec)

/-- ITS FALSE NEIGHBOUR: 'it returns false'. Refute it at one input. -/
def trimWheresWrong : ChangeSpec := { name := "trimWheres", fn := fun _ => fun
  | [d1, d2] => { results := [.lit (.bool false)], args := [d1, d2] }
  | _ => none }
def TrimWheresWrongFalsely : Prop := trimWheresRow.holds Tryd.pinned (OpenSpec.ofChange trimWheresWrong)

/-- 'tierlinelaw.EmitEnters': WHATEVER THE INPUT: true; the input reads as it did. -/
def emitEntersSpec : ChangeSpec := { name := "emitEnters", fn := fun _ => fun
  | [d1, d2] => { results := [.lit (.bool true)], args := [d1, d2] }
  | _ => none }
def emitEntersRow : OpenClaim := { program := "ytfhoffpdodjfeaadoor", sum := "a307fdf06f8582f08751f5afae9bcb82fb54afb29cde064b0677c5ecd06254e0", func := "tierline/tierlinelaw.EmitEnters", spec := "emitEnters", named := ["tierline/code.has"], apart := false, laid := [("tierline/code.has", laid_tierline_code_has)] }
def EmitEntersSaid : Prop := emitEntersRow.holds Tryd.pinned (OpenSpec.ofChange emitEntersSpec)

/-- ITS FALSE NEIGHBOUR: 'it returns false'. Refute it at one input. -/
def emitEntersWrong : ChangeSpec := { name := "emitEnters", fn := fun _ => fun
  | [d1, d2] => { results := [.lit (.bool false)], args := [d1, d2] }
  | _ => none }
def EmitEntersWrongFalsely : Prop := emitEntersRow.holds Tryd.pinned (OpenSpec.ofChange emitEntersWrong)

/-- 'tierlinelaw.TrimCalleds': WHATEVER THE INPUT: true; the input reads as it did. -/
def trimCalledsSpec : ChangeSpec := { name := "trimCalleds", fn := fun _ => fun
  | [d] => { results := [.lit (.bool true)], args := [d] }
  | _ => none }
def trimCalledsRow : OpenClaim := { program := "ytfhoffpdodjfeaadoor", sum := "a307fdf06f8582f08751f5afae9bcb82fb54afb29cde064b0677c5ecd06254e0", func := "tierline/tierlinelaw.TrimCalleds", spec := "trimCalleds", named := ["tierline/code.has"], apart := false, laid := [("tierline/code.has", laid_tierline_code_has)] }
def TrimCalledsSaid : Prop := trimCalledsRow.holds Tryd.pinned (OpenSpec.ofChange trimCalledsSpec)

/-- ITS FALSE NEIGHBOUR: 'it returns false'. Refute it at one input. -/
def trimCalledsWrong : ChangeSpec := { name := "trimCalleds", fn := fun _ => fun
  | [d] => { results := [.lit (.bool false)], args := [d] }
  | _ => none }
def TrimCalledsWrongFalsely : Prop := trimCalledsRow.holds Tryd.pinned (OpenSpec.ofChange trimCalledsWrong)

/-- 'tierlinelaw.TrimPrograms': WHATEVER THE INPUT: true; the input reads as it did. -/
def trimProgramsSpec : ChangeSpec := { name := "trimPrograms", fn := fun _ => fun
  | [d] => { results := [.lit (.bool true)], args := [d] }
  | _ => none }
def trimProgramsRow : OpenClaim := { program := "ytfhoffpdodjfeaadoor", sum := "a307fdf06f8582f08751f5afae9bcb82fb54afb29cde064b0677c5ecd06254e0", func := "tierline/tierlinelaw.TrimPrograms", spec := "trimPrograms", named := ["tierline/code.has"], apart := false, laid := [("tierline/code.has", laid_tierline_code_has)] }
def TrimProgramsSaid : Prop := trimProgramsRow.holds Tryd.pinned (OpenSpec.ofChange trimProgramsSpec)

/-- ITS FALSE NEIGHBOUR: 'it returns false'. Refute it at one input. -/
def trimProgramsWrong : ChangeSpec := { name := "trimPrograms", fn := fun _ => fun
  | [d] => { results := [.lit (.bool false)], args := [d] }
  | _ => none }
def TrimProgramsWrongFalsely : Prop := trimProgramsRow.holds Tryd.pinned (OpenSpec.ofChange trimProgramsWrong)

/-- 'tierlinelaw.CpuSteps': WHATEVER THE INPUT: true; the input reads as it did. -/
def cpuStepsSpec : ChangeSpec := { name := "cpuSteps", fn := fun _ => fun
  | [d1, d2] => { results := [.lit (.bool true)], args := [d1, d2] }
  | _ => none }
def cpuStepsRow : OpenClaim := { program := "ytfhoffpdodjfeaadoor", sum := "a307fdf06f8582f08751f5afae9bcb82fb54afb29cde064b0677c5ecd06254e0", func := "tierline/tierlinelaw.CpuSteps", spec := "cpuSteps", named := ["tierline/rv.forms", "tierline/rv.fields"], apart := false, laid := [("tierline/rv.forms", laid_tierline_rv_forms), ("tierline/rv.fields", laid_tierline_rv_fields)] }
def CpuStepsSaid : Prop := cpuStepsRow.holds Tryd.pinned (OpenSpec.ofChange cpuStepsSpec)

/-- ITS FALSE NEIGHBOUR: 'it returns false'. Refute it at one input. -/
def cpuStepsWrong : ChangeSpec := { name := "cpuSteps", fn := fun _ => fun
  | [d1, d2] => { results := [.lit (.bool false)], args := [d1, d2] }
  | _ => none }
def CpuStepsWrongFalsely : Prop := cpuStepsRow.holds Tryd.pinned (OpenSpec.ofChange cpuStepsWrong)

/-- 'tierlinelaw.CpuRuns': WHATEVER THE INPUT: true; the input reads as it did. -/
def cpuRunsSpec : ChangeSpec := { name := "cpuRuns", fn := fun _ => fun
  | [d1, d2, d3] => { results := [.lit (.bool true)], args := [d1, d2, d3] }
  | _ => none }
def cpuRunsRow : OpenClaim := { program := "ytfhoffpdodjfeaadoor", sum := "a307fdf06f8582f08751f5afae9bcb82fb54afb29cde064b0677c5ecd06254e0", func := "tierline/tierlinelaw.CpuRuns", spec := "cpuRuns", named := ["tierline/rv.forms", "tierline/rv.fields"], apart := false, laid := [("tierline/rv.forms", laid_tierline_rv_forms), ("tierline/rv.fields", laid_tierline_rv_fields)] }
def CpuRunsSaid : Prop := cpuRunsRow.holds Tryd.pinned (OpenSpec.ofChange cpuRunsSpec)

/-- ITS FALSE NEIGHBOUR: 'it returns false'. Refute it at one input. -/
def cpuRunsWrong : ChangeSpec := { name := "cpuRuns", fn := fun _ => fun
  | [d1, d2, d3] => { results := [.lit (.bool false)], args := [d1, d2, d3] }
  | _ => none }
def CpuRunsWrongFalsely : Prop := cpuRunsRow.holds Tryd.pinned (OpenSpec.ofChange cpuRunsWrong)

/-- 'tierlinelaw.StepNexts': WHATEVER THE INPUT: true; the input reads as it did. -/
def stepNextsSpec : ChangeSpec := { name := "stepNexts", fn := fun _ => fun
  | [d1, d2] => { results := [.lit (.bool true)], args := [d1, d2] }
  | _ => none }
def stepNextsRow : OpenClaim := { program := "ytfhoffpdodjfeaadoor", sum := "a307fdf06f8582f08751f5afae9bcb82fb54afb29cde064b0677c5ecd06254e0", func := "tierline/tierlinelaw.StepNexts", spec := "stepNexts", named := ["tierline/code.has"], apart := false, laid := [("tierline/code.has", laid_tierline_code_has)] }
def StepNextsSaid : Prop := stepNextsRow.holds Tryd.pinned (OpenSpec.ofChange stepNextsSpec)

/-- ITS FALSE NEIGHBOUR: 'it returns false'. Refute it at one input. -/
def stepNextsWrong : ChangeSpec := { name := "stepNexts", fn := fun _ => fun
  | [d1, d2] => { results := [.lit (.bool false)], args := [d1, d2] }
  | _ => none }
def StepNextsWrongFalsely : Prop := stepNextsRow.holds Tryd.pinned (OpenSpec.ofChange stepNextsWrong)

/-- 'tierlinelaw.StepRuns': WHATEVER THE INPUT: true; the input reads as it did. -/
def stepRunsSpec : ChangeSpec := { name := "stepRuns", fn := fun _ => fun
  | [d1, d2, d3, d4] => { results := [.lit (.bool true)], args := [d1, d2, d3, d4] }
  | _ => none }
def stepRunsRow : OpenClaim := { program := "ytfhoffpdodjfeaadoor", sum := "a307fdf06f8582f08751f5afae9bcb82fb54afb29cde064b0677c5ecd06254e0", func := "tierline/tierlinelaw.StepRuns", spec := "stepRuns", named := ["tierline/code.has"], apart := false, laid := [("tierline/code.has", laid_tierline_code_has)] }
def StepRunsSaid : Prop := stepRunsRow.holds Tryd.pinned (OpenSpec.ofChange stepRunsSpec)

/-- ITS FALSE NEIGHBOUR: 'it returns false'. Refute it at one input. -/
def stepRunsWrong : ChangeSpec := { name := "stepRuns", fn := fun _ => fun
  | [d1, d2, d3, d4] => { results := [.lit (.bool false)], args := [d1, d2, d3, d4] }
  | _ => none }
def StepRunsWrongFalsely : Prop := stepRunsRow.holds Tryd.pinned (OpenSpec.ofChange stepRunsWrong)

/-- 'tierlinelaw.ProfileCounts': WHATEVER THE INPUT: true; the input reads as it did. -/
def profileCountsSpec : ChangeSpec := { name := "profileCounts", fn := fun _ => fun
  | [d1, d2, d3, d4] => { results := [.lit (.bool true)], args := [d1, d2, d3, d4] }
  | _ => none }
def profileCountsRow : OpenClaim := { program := "ytfhoffpdodjfeaadoor", sum := "a307fdf06f8582f08751f5afae9bcb82fb54afb29cde064b0677c5ecd06254e0", func := "tierline/tierlinelaw.ProfileCounts", spec := "profileCounts", named := ["tierline/code.has"], apart := false, laid := [("tierline/code.has", laid_tierline_code_has)] }
def ProfileCountsSaid : Prop := profileCountsRow.holds Tryd.pinned (OpenSpec.ofChange profileCountsSpec)

/-- ITS FALSE NEIGHBOUR: 'it returns false'. Refute it at one input. -/
def profileCountsWrong : ChangeSpec := { name := "profileCounts", fn := fun _ => fun
  | [d1, d2, d3, d4] => { results := [.lit (.bool false)], args := [d1, d2, d3, d4] }
  | _ => none }
def ProfileCountsWrongFalsely : Prop := profileCountsRow.holds Tryd.pinned (OpenSpec.ofChange profileCountsWrong)

/-- 'tierlinelaw.ProfileHots': WHATEVER THE INPUT: true; the input reads as it did. -/
def profileHotsSpec : ChangeSpec := { name := "profileHots", fn := fun _ => fun
  | [d1, d2, d3, d4] => { results := [.lit (.bool true)], args := [d1, d2, d3, d4] }
  | _ => none }
def profileHotsRow : OpenClaim := { program := "ytfhoffpdodjfeaadoor", sum := "a307fdf06f8582f08751f5afae9bcb82fb54afb29cde064b0677c5ecd06254e0", func := "tierline/tierlinelaw.ProfileHots", spec := "profileHots", named := ["tierline/code.has"], apart := false, laid := [("tierline/code.has", laid_tierline_code_has)] }
def ProfileHotsSaid : Prop := profileHotsRow.holds Tryd.pinned (OpenSpec.ofChange profileHotsSpec)

/-- ITS FALSE NEIGHBOUR: 'it returns false'. Refute it at one input. -/
def profileHotsWrong : ChangeSpec := { name := "profileHots", fn := fun _ => fun
  | [d1, d2, d3, d4] => { results := [.lit (.bool false)], args := [d1, d2, d3, d4] }
  | _ => none }
def ProfileHotsWrongFalsely : Prop := profileHotsRow.holds Tryd.pinned (OpenSpec.ofChange profileHotsWrong)

/- THE SECOND FORM. 'bulk': how many values and letters a reading holds, each counted each time it is reached (what is shared counts as often as it is met; a slice's spare places count too). A statement '..UptoSaid' is the law's where the arguments, and the package variables that the reading takes, are together of bulk at most 1048576: NARROWER than '..Said'. Prove '..Said' where nothing that the law and all that it calls make is longer than what came in: it says more and counts as full. Else prove '..UptoSaid'. A law counts once. -/
mutual
def uptoBulk {H : Type} : DataW H → Nat
  | .lit (.string bytes) => bytes.length + 1
  | .lit _ => 1
  | .nil => 1
  | .ptr d => uptoBulk d + 1
  | .slice elems spare => uptoBulkAll elems + uptoBulkAll spare + 1
  | .agg parts => uptoBulkAll parts + 1
  | .iface _ d => uptoBulk d + 1
  | .map entries => uptoBulkEntries entries + 1
  | .held _ => 1
def uptoBulkAll {H : Type} : List (DataW H) → Nat
  | [] => 0
  | d :: r => uptoBulk d + uptoBulkAll r
def uptoBulkEntries {H : Type} : List (Lit × DataW H) → Nat
  | [] => 0
  | x :: r => uptoBulkEntry x + uptoBulkEntries r
def uptoBulkEntry {H : Type} : Lit × DataW H → Nat
  | (.string bytes, d) => bytes.length + uptoBulk d + 1
  | (_, d) => uptoBulk d + 1
 end
def uptoSmall : (H : Type) → List (DataW H) → Bool := fun _ ds => decide (uptoBulkAll ds ≤ 1048576)
def OpenSpec.upto (s : _root_.Go.ChangeSpec) : _root_.Go.OpenSpec := { _root_.Go.OpenSpec.ofChange s with cond := some uptoSmall }

/-- 'tierlinelaw.StepBegins', WHERE WHAT IT READS IS OF BULK AT MOST 1048576: true; the input reads as it did. -/
def stepBeginsUptoRow : OpenClaim := { program := "ytfhoffpdodjfeaadoor", sum := "a307fdf06f8582f08751f5afae9bcb82fb54afb29cde064b0677c5ecd06254e0", func := "tierline/tierlinelaw.StepBegins", spec := "stepBegins", named := ["tierline/code.has"], apart := false, laid := [("tierline/code.has", laid_tierline_code_has)], narrowed := true }
def StepBeginsUptoSaid : Prop := stepBeginsUptoRow.holds Tryd.pinned (OpenSpec.upto stepBeginsSpec)

/-- 'tierlinelaw.TrimWheres', WHERE WHAT IT READS IS OF BULK AT MOST 1048576: true; the input reads as it did. -/
def trimWheresUptoRow : OpenClaim := { program := "ytfhoffpdodjfeaadoor", sum := "a307fdf06f8582f08751f5afae9bcb82fb54afb29cde064b0677c5ecd06254e0", func := "tierline/tierlinelaw.TrimWheres", spec := "trimWheres", named := ["tierline/code.has"], apart := false, laid := [("tierline/code.has", laid_tierline_code_has)], narrowed := true }
def TrimWheresUptoSaid : Prop := trimWheresUptoRow.holds Tryd.pinned (OpenSpec.upto trimWheresSpec)

/-- 'tierlinelaw.EmitEnters', WHERE WHAT IT READS IS OF BULK AT MOST 1048576: true; the input reads as it did. -/
def emitEntersUptoRow : OpenClaim := { program := "ytfhoffpdodjfeaadoor", sum := "a307fdf06f8582f08751f5afae9bcb82fb54afb29cde064b0677c5ecd06254e0", func := "tierline/tierlinelaw.EmitEnters", spec := "emitEnters", named := ["tierline/code.has"], apart := false, laid := [("tierline/code.has", laid_tierline_code_has)], narrowed := true }
def EmitEntersUptoSaid : Prop := emitEntersUptoRow.holds Tryd.pinned (OpenSpec.upto emitEntersSpec)

/-- 'tierlinelaw.TrimCalleds', WHERE WHAT IT READS IS OF BULK AT MOST 1048576: true; the input reads as it did. -/
def trimCalledsUptoRow : OpenClaim := { program := "ytfhoffpdodjfeaadoor", sum := "a307fdf06f8582f08751f5afae9bcb82fb54afb29cde064b0677c5ecd06254e0", func := "tierline/tierlinelaw.TrimCalleds", spec := "trimCalleds", named := ["tierline/code.has"], apart := false, laid := [("tierline/code.has", laid_tierline_code_has)], narrowed := true }
def TrimCalledsUptoSaid : Prop := trimCalledsUptoRow.holds Tryd.pinned (OpenSpec.upto trimCalledsSpec)

/-- 'tierlinelaw.TrimPrograms', WHERE WHAT IT READS IS OF BULK AT MOST 1048576: true; the input reads as it did. -/
def trimProgramsUptoRow : OpenClaim := { program := "ytfhoffpdodjfeaadoor", sum := "a307fdf06f8582f08751f5afae9bcb82fb54afb29cde064b0677c5ecd06254e0", func := "tierline/tierlinelaw.TrimPrograms", spec := "trimPrograms", named := ["tierline/code.has"], apart := false, laid := [("tierline/code.has", laid_tierline_code_has)], narrowed := true }
def TrimProgramsUptoSaid : Prop := trimProgramsUptoRow.holds Tryd.pinned (OpenSpec.upto trimProgramsSpec)

/-- 'tierlinelaw.CpuSteps', WHERE WHAT IT READS IS OF BULK AT MOST 1048576: true; the input reads as it did. -/
def cpuStepsUptoRow : OpenClaim := { program := "ytfhoffpdodjfeaadoor", sum := "a307fdf06f8582f08751f5afae9bcb82fb54afb29cde064b0677c5ecd06254e0", func := "tierline/tierlinelaw.CpuSteps", spec := "cpuSteps", named := ["tierline/rv.forms", "tierline/rv.fields"], apart := false, laid := [("tierline/rv.forms", laid_tierline_rv_forms), ("tierline/rv.fields", laid_tierline_rv_fields)], narrowed := true }
def CpuStepsUptoSaid : Prop := cpuStepsUptoRow.holds Tryd.pinned (OpenSpec.upto cpuStepsSpec)

/-- 'tierlinelaw.CpuRuns', WHERE WHAT IT READS IS OF BULK AT MOST 1048576: true; the input reads as it did. -/
def cpuRunsUptoRow : OpenClaim := { program := "ytfhoffpdodjfeaadoor", sum := "a307fdf06f8582f08751f5afae9bcb82fb54afb29cde064b0677c5ecd06254e0", func := "tierline/tierlinelaw.CpuRuns", spec := "cpuRuns", named := ["tierline/rv.forms", "tierline/rv.fields"], apart := false, laid := [("tierline/rv.forms", laid_tierline_rv_forms), ("tierline/rv.fields", laid_tierline_rv_fields)], narrowed := true }
def CpuRunsUptoSaid : Prop := cpuRunsUptoRow.holds Tryd.pinned (OpenSpec.upto cpuRunsSpec)

/-- 'tierlinelaw.StepNexts', WHERE WHAT IT READS IS OF BULK AT MOST 1048576: true; the input reads as it did. -/
def stepNextsUptoRow : OpenClaim := { program := "ytfhoffpdodjfeaadoor", sum := "a307fdf06f8582f08751f5afae9bcb82fb54afb29cde064b0677c5ecd06254e0", func := "tierline/tierlinelaw.StepNexts", spec := "stepNexts", named := ["tierline/code.has"], apart := false, laid := [("tierline/code.has", laid_tierline_code_has)], narrowed := true }
def StepNextsUptoSaid : Prop := stepNextsUptoRow.holds Tryd.pinned (OpenSpec.upto stepNextsSpec)

/-- 'tierlinelaw.StepRuns', WHERE WHAT IT READS IS OF BULK AT MOST 1048576: true; the input reads as it did. -/
def stepRunsUptoRow : OpenClaim := { program := "ytfhoffpdodjfeaadoor", sum := "a307fdf06f8582f08751f5afae9bcb82fb54afb29cde064b0677c5ecd06254e0", func := "tierline/tierlinelaw.StepRuns", spec := "stepRuns", named := ["tierline/code.has"], apart := false, laid := [("tierline/code.has", laid_tierline_code_has)], narrowed := true }
def StepRunsUptoSaid : Prop := stepRunsUptoRow.holds Tryd.pinned (OpenSpec.upto stepRunsSpec)

/-- 'tierlinelaw.ProfileCounts', WHERE WHAT IT READS IS OF BULK AT MOST 1048576: true; the input reads as it did. -/
def profileCountsUptoRow : OpenClaim := { program := "ytfhoffpdodjfeaadoor", sum := "a307fdf06f8582f08751f5afae9bcb82fb54afb29cde064b0677c5ecd06254e0", func := "tierline/tierlinelaw.ProfileCounts", spec := "profileCounts", named := ["tierline/code.has"], apart := false, laid := [("tierline/code.has", laid_tierline_code_has)], narrowed := true }
def ProfileCountsUptoSaid : Prop := profileCountsUptoRow.holds Tryd.pinned (OpenSpec.upto profileCountsSpec)

/-- 'tierlinelaw.ProfileHots', WHERE WHAT IT READS IS OF BULK AT MOST 1048576: true; the input reads as it did. -/
def profileHotsUptoRow : OpenClaim := { program := "ytfhoffpdodjfeaadoor", sum := "a307fdf06f8582f08751f5afae9bcb82fb54afb29cde064b0677c5ecd06254e0", func := "tierline/tierlinelaw.ProfileHots", spec := "profileHots", named := ["tierline/code.has"], apart := false, laid := [("tierline/code.has", laid_tierline_code_has)], narrowed := true }
def ProfileHotsUptoSaid : Prop := profileHotsUptoRow.holds Tryd.pinned (OpenSpec.upto profileHotsSpec)

end Rows
end Go.Proofs.YtfhoffpdodjfeaaDoor
