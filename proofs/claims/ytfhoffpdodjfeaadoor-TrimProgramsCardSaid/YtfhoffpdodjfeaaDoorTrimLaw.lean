/- P5.1: where each place of a function goes. No program is named here. -/
import Derived.Test.YtfhoffpdodjfeaaDoorSureLaw
import Derived.Test.YtfhoffpdodjfeaaDoorProvenLaw
set_option linter.unusedSimpArgs false
set_option linter.unusedVariables false
namespace Go.Proofs.YtfhoffpdodjfeaaDoor
open Go.RowKit Plain64
/-- Is a place come to? -/
noncomputable def wayB (f : Fun) (pc : Nat) : Bool := (wayL f (-1)).getD pc false
/-- How many places ahead of this one are come to. -/
noncomputable def cntW (f : Fun) : Nat → Nat
  | 0 => 0
  | k + 1 => cntW f k + (wayB f k).toNat
noncomputable def whereZ (f : Fun) (pc : Nat) : Int := if wayB f pc then (cntW f pc : Int) else -1
noncomputable def whereL (f : Fun) : List Int := (List.range f.code.length).map (whereZ f)
theorem whereL_len (f : Fun) : (whereL f).length = f.code.length := by simp [whereL]
theorem cntW_le (f : Fun) : ∀ k, cntW f k ≤ k
  | 0 => Nat.le_refl _
  | k + 1 => by
    have := cntW_le f k
    rw [cntW]; cases wayB f k <;> simp <;> omega
theorem whereL_of {f : Fun} {os : List Int} (hl : os.length = f.code.length) (h : ∀ q, q < f.code.length → os[q]? = some (whereZ f q)) : os = whereL f := by
  apply List.ext_getElem?
  intro q
  by_cases hq : q < f.code.length
  · rw [h q hq, whereL, List.getElem?_map, List.getElem?_range hq]; rfl
  · rw [List.getElem?_eq_none (by omega), List.getElem?_eq_none (by rw [whereL_len]; omega)]
theorem sure_way (f : Fun) (pc : Nat) : 0 ≤ sureUpto f 12 pc ↔ wayB f pc = true := by
  unfold sureUpto
  have e : (wayL f (-1)).getD pc false = wayB f pc := rfl
  rw [e]
  have := mskZ_range (fun r => !(wayL f r).getD pc false) 12
  cases wayB f pc
  · simp
  · simp only [if_true, iff_true]; exact this.1
theorem whereZ_yes {f : Fun} {pc : Nat} (h : wayB f pc = true) : whereZ f pc = (cntW f pc : Int) := by unfold whereZ; rw [if_pos h]
theorem whereZ_no {f : Fun} {pc : Nat} (h : wayB f pc = false) : whereZ f pc = -1 := by unfold whereZ; rw [h]; rfl
/-- P5.1, at every argument. -/
noncomputable def whereAns (p : Prg) (fn : Int) : List Int × Int :=
  if proven p ≠ 0 then ([], proven p) else if fn < 0 ∨ (p.funcs.length : Int) ≤ fn then ([], 2) else
  match p.funcs[fn.toNat]? with
  | some f => (whereL f, 0)
  | none => ([], 0)
theorem whereAns_bad {p : Prg} (h : proven p ≠ 0) (fn : Int) : whereAns p fn = ([], proven p) := by unfold whereAns; rw [if_pos h]
theorem whereAns_out {p : Prg} (h : proven p = 0) {fn : Int} (hf : fn < 0 ∨ (p.funcs.length : Int) ≤ fn) : whereAns p fn = ([], 2) := by
  unfold whereAns; rw [if_neg (by simpa using h), if_pos hf]
theorem whereAns_in {p : Prg} (h : proven p = 0) {k : Nat} {f : Fun} (hf : p.funcs[k]? = some f) : whereAns p (k : Int) = (whereL f, 0) := by
  have hk := (List.getElem?_eq_some_iff.1 hf).1
  unfold whereAns
  rw [if_neg (by simpa using h), if_neg (by omega), Int.toNat_natCast, hf]
end Go.Proofs.YtfhoffpdodjfeaaDoor
