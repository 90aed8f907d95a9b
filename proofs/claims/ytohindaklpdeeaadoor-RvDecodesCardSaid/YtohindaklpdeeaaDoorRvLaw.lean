/- P11.1: an instruction of the machine. No program is named here. -/
import Derived.Test.YtohindaklpdeeaaDoorRvTab
set_option linter.unusedSimpArgs false
set_option linter.unusedVariables false
namespace Go.Proofs.YtohindaklpdeeaaDoor
open Go.RowKit
/-- The shape of an op. -/
def shapeZ (op : Int) : Nat := (formsL.getD op.toNat default).shape.toNat
def regZ (n : Int) (has : Bool) : Bool := decide (0 ≤ n) && decide (n ≤ if has then 31 else 0)
def fieldB (s i : Nat) : Bool := (fieldsL.getD s []).getD i false
def lowZ (s : Nat) : Int := match s with | 1 => -2048 | 3 => -2048 | 2 => 0 | 4 => -4096 | 5 => -1048576 | 6 => -524288 | _ => 0
def highZ (s : Nat) : Int := match s with | 1 => 2047 | 3 => 2047 | 2 => 63 | 4 => 4092 | 5 => 1048572 | 6 => 524287 | _ => 0
def stepZ (s : Nat) : Int := match s with | 4 => 4 | 5 => 4 | _ => 1
def immZ (s : Nat) (n : Int) : Bool := decide (lowZ s ≤ n) && decide (n ≤ highZ s) && decide (n % stepZ s = 0)
def rvFault (x : Rvi) : Int :=
  if ¬ (1 ≤ x.op ∧ x.op ≤ 29) then 3 else
  if regZ x.rd (fieldB (shapeZ x.op) 0) && regZ x.rs1 (fieldB (shapeZ x.op) 1) && regZ x.rs2 (fieldB (shapeZ x.op) 2) && immZ (shapeZ x.op) x.imm then 0 else 2
theorem shapeZ_lt (op : Int) : shapeZ op < 8 := by
  unfold shapeZ
  by_cases h : op.toNat < 30
  · generalize op.toNat = k at h
    have : ∀ k : Fin 30, (formsL.getD k.1 default).shape.toNat < 8 := by decide +kernel
    exact this ⟨k, h⟩
  · rw [List.getD_eq_getElem?_getD, List.getElem?_eq_none (by show 30 ≤ _; omega)]
    decide
theorem shape_at (k : Nat) (h : k < 30) : (formsL.getD k default).shape = ((shapeZ (k : Int) : Nat) : Int) := by
  have : ∀ k : Fin 30, (formsL.getD k.1 default).shape = (((formsL.getD k.1 default).shape.toNat : Nat) : Int) := by decide +kernel
  have h2 := this ⟨k, h⟩
  unfold shapeZ
  rw [Int.toNat_natCast]
  exact h2
theorem tmod4 (x : Int) : x.tmod 4 = 0 ↔ x % 4 = 0 := ⟨fun h => Int.emod_eq_zero_of_dvd (Int.dvd_of_tmod_eq_zero h), fun h => Int.tmod_eq_zero_of_dvd (Int.dvd_of_emod_eq_zero h)⟩
end Go.Proofs.YtohindaklpdeeaaDoor
