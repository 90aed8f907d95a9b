/- P3.2: the sure registers of a function. No program is named here. -/
import Derived.Test.YtnabeibnaoahmaaDoorWay
set_option linter.unusedSimpArgs false
set_option linter.unusedVariables false
namespace Go.Proofs.YtnabeibnaoahmaaDoor
open Go.RowKit Plain64
/-- Numbers below k that are so, as bits. -/
def mskZ (g : Nat → Bool) : Nat → Int
  | 0 => 0
  | k + 1 => mskZ g k + if g k then 2 ^ k else 0
theorem mskZ_range (g : Nat → Bool) : ∀ k, 0 ≤ mskZ g k ∧ mskZ g k ≤ 2 ^ k - 1
  | 0 => by simp [mskZ]
  | k + 1 => by
    have := mskZ_range g k
    have h : (0 : Int) < 2 ^ k := Int.pow_pos (by decide)
    rw [mskZ, Int.pow_succ]
    split <;> omega
/-- Up to a register: what is known of a place. -/
noncomputable def sureUpto (f : Fun) (r pc : Nat) : Int := if (wayL f (-1)).getD pc false then mskZ (fun r => !(wayL f r).getD pc false) r else -1
noncomputable def sureL (f : Fun) : List Int := (List.range (f.code.length + 1)).map (sureUpto f 12)
theorem sureL_len (f : Fun) : (sureL f).length = f.code.length + 1 := by simp [sureL]
theorem sureUpto_range (f : Fun) (r pc : Nat) (hr : r ≤ 12) : -1 ≤ sureUpto f r pc ∧ sureUpto f r pc ≤ 4095 := by
  unfold sureUpto
  split
  · have h1 := mskZ_range (fun r => !(wayL f r).getD pc false) r
    have h2 := Nat.pow_le_pow_right (n := 2) (by decide) hr
    have e : ((2 ^ r : Nat) : Int) = 2 ^ r := by simp
    have : (2 : Int) ^ r ≤ 4096 := by rw [← e]; exact Int.ofNat_le.2 h2
    omega
  · omega
theorem sureL_of {f : Fun} {os : List Int} (hl : os.length = f.code.length + 1) (h : ∀ q, q < f.code.length + 1 → os[q]? = some (sureUpto f 12 q)) : os = sureL f := by
  apply List.ext_getElem?
  intro q
  by_cases hq : q < f.code.length + 1
  · rw [h q hq, sureL, List.getElem?_map, List.getElem?_range hq]; rfl
  · rw [List.getElem?_eq_none (by omega), List.getElem?_eq_none (by rw [sureL_len]; omega)]
theorem sureUpto_succ (f : Fun) (r pc : Nat) : sureUpto f (r + 1) pc = sureUpto f r pc + if (wayL f (-1)).getD pc false && !(wayL f r).getD pc false then 2 ^ r else 0 := by
  unfold sureUpto
  cases (wayL f (-1)).getD pc false
  · simp
  · simp only [if_true, mskZ, Bool.true_and]
end Go.Proofs.YtnabeibnaoahmaaDoor
