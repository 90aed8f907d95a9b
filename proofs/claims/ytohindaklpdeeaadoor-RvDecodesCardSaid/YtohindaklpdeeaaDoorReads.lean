/- proof.reads. -/
import Derived.Test.YtohindaklpdeeaaDoorPr
import Derived.Test.YtohindaklpdeeaaDoorBits
import Derived.Test.YtohindaklpdeeaaDoorValid
import Derived.BigQuiet
set_option linter.unusedSimpArgs false
set_option linter.unusedVariables false
namespace Go.Proofs.YtohindaklpdeeaaDoor
open Go.RowKit Plain64
attribute [local irreducible] wpList Code.wp Oper.wp
theorem rep_prg_at {p : Prg} {u : Value} {w : World} {S : Nat → Prop} (h : Lay.rep w S p [u]) : ∃ (A : Option Addr) (c : Nat), u = .slice A p.funcs.length c ∧ p.funcs.length ≤ c ∧ c ≤ maxLen ∧
    ∀ (k : Nat) (hk : k < p.funcs.length), ∃ (a : Addr) (v : Value), A = some a ∧ S a.block ∧ At w (a.add (k * 3)) [.int .i64 p.funcs[k].params, .int .i64 p.funcs[k].regs, v] ∧ Lay.rep w S p.funcs[k].code [v] := rep_funs_at (rep_prg.1 h)
theorem index0 (a b c : Int) (w : World) : (Instr.index 59 (.agg #[.int .i64 a, .int .i64 b, .int .i64 c]) (.int .i64 0)).run Tryd.prog w = .ok (.int .i64 a) w := by kernel_rfl
theorem index1 (a b c : Int) (w : World) : (Instr.index 59 (.agg #[.int .i64 a, .int .i64 b, .int .i64 c]) (.int .i64 1)).run Tryd.prog w = .ok (.int .i64 b) w := by kernel_rfl
theorem index2 (a b c : Int) (w : World) : (Instr.index 59 (.agg #[.int .i64 a, .int .i64 b, .int .i64 c]) (.int .i64 2)).run Tryd.prog w = .ok (.int .i64 c) w := by kernel_rfl
end Go.Proofs.YtohindaklpdeeaaDoor
