/- P4.1: how a run begins. No program is named here. -/
import Derived.Test.YtfhoffpdodjfeaaDoorState
import Derived.Test.YtfhoffpdodjfeaaDoorStateLaw
set_option linter.unusedSimpArgs false
set_option linter.unusedVariables false
namespace Go.Proofs.YtfhoffpdodjfeaaDoor
open Go.RowKit
/-- The first frame. -/
def begF (xs : List Int) : Frm := ⟨0, 0, #v[xs.getD 0 0, xs.getD 1 0, 0, 0, 0, 0, 0, 0, 0, 0, 0, 0]⟩
def begS (xs ys : List Int) (fuel : Int) : Sta := ⟨0, 0, [begF xs], #v[0, 0, 0, 0, 0, 0, 0, 0, 0, 0, 0, 0, 0, 0, 0, 0], fuel, [], ys⟩
def zeroS : Sta := ⟨0, 0, [], #v[0, 0, 0, 0, 0, 0, 0, 0, 0, 0, 0, 0, 0, 0, 0, 0], 0, [], []⟩
theorem beg_cells (xs : List Int) (h : xs.length ≤ 2) : List.take 2 [iV 0, iV 0, iV 0, iV 0, iV 0, iV 0, iV 0, iV 0, iV 0, iV 0, iV 0, iV 0, iV 0, iV 0] ++ (List.map (Value.int .i64) xs ++ List.drop (2 + (List.map (Value.int .i64) xs).length) [iV 0, iV 0, iV 0, iV 0, iV 0, iV 0, iV 0, iV 0, iV 0, iV 0, iV 0, iV 0, iV 0, iV 0]) = frmCells (begF xs) := by
  match xs, h with
  | [], _ => rfl
  | [x0], _ => rfl
  | [x0, x1], _ => rfl
/-- P4.1, at every argument. -/
noncomputable def begunAns (p : Prg) (xs ys : List Int) (fuel : Int) : Sta × Int :=
  if proven p ≠ 0 then (zeroS, proven p) else
  if (xs.length : Int) ≠ ((p.funcs[0]?).map Fun.params).getD 0 ∨ 100 < ys.length then (zeroS, 1) else
  if fuel < 0 ∨ 10000 < fuel then (zeroS, 2) else (begS xs ys fuel, 0)
end Go.Proofs.YtfhoffpdodjfeaaDoor
