/- A region that draws its order: loads of whole rows in its still part. -/
import Derived.Test.YtpnapnmkjpolmaaDoorMem
import Derived.StillTailTactics
set_option linter.unusedSimpArgs false
set_option linter.unusedVariables false
namespace Go.Proofs.YtpnapnmkjpolmaaDoor
open Go.RowKit
theorem Blk.cell' {w : World} {g g' : Nat} {t : TypeId} {cs : Array Value} (h : Blk w g t cs) (e : g = g') (i : Nat) : w.cell? ⟨g', i, none⟩ = cs[i]? := e ▸ h.cell i
theorem At.drew {w : World} {a : Addr} {cs : List Value} (h : At w a cs) : At w.drew a cs := h
section
variable {P : Program}
theorem wpStill_load_at {ops : Array Oper} {rest : List Oper} {op : Oper} {a : Act} {w : World} {Q : Act → Prop} (hgd : op.guard = none) (ty : TypeId) (x : Operand) (ho : op.op = .load ty x)
    (ad : Addr) (hx : a.eval x = .pointer (some ad)) (cs : List Value) (d : TypeDesc) (hc : At w ad cs)
    (hu : P.underlying ty = some d) (hd : d.isRow = true) (hi : (P.info? ty).map (·.size) = some cs.length)
    (h : wpStill P ops w Q rest (a.put op.dst (.agg cs.toArray))) : wpStill P ops w Q (op :: rest) a := by
  have hw : Region.wanted op (yielded ops a.tmps) = true := by simp [Region.wanted, hgd]
  unfold wpStill
  rw [if_pos hw]
  unfold Oper.still execOp
  simp only [ho, hx, Instr.loadAt, Instr.sureAddr, Sem.run_bind, Sem.run_pure, Result.andThen_ok, run_loadVar_at w ad ty cs d hc hu hd hi]
  exact ⟨rfl, h⟩
end
end Go.Proofs.YtpnapnmkjpolmaaDoor
