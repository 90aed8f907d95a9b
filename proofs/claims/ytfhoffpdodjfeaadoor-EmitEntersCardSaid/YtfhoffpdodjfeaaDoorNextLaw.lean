/- P4.3: the next state. No program is named here. -/
import Derived.Test.YtfhoffpdodjfeaaDoorState
import Derived.Test.YtfhoffpdodjfeaaDoorMgStateLawWrapS2
import Derived.Test.YtfhoffpdodjfeaaDoorMgValidPureLaw2
set_option linter.unusedSimpArgs false
set_option linter.unusedVariables false
namespace Go.Proofs.YtfhoffpdodjfeaaDoor
open Go.RowKit Plain64
def putF (f : Frm) (i n : Int) : Frm := ⟨f.fn, f.pc + 1, f.regs.setIfInBounds i.toNat n⟩
def goF (f : Frm) (pc : Int) : Frm := ⟨f.fn, pc, f.regs⟩
def callF (fn par a b : Int) : Frm := ⟨fn, 0, #v[if 0 < par then a else 0, if 1 < par then b else 0, 0, 0, 0, 0, 0, 0, 0, 0, 0, 0]⟩
/-- P4.3: of a state that runs, whose frames are fs and then f. -/
def nextOf (p : Prg) (s : Sta) (fs : List Frm) (f : Frm) : Sta :=
  if s.fuel = 0 then { s with status := 2 } else
  if pureB (insAt p f).op (f.rg (insAt p f).b.toNat) = true then { s with frames := fs ++ [putF f (insAt p f).dst (pureV (insAt p f).op (f.rg (insAt p f).a.toNat) (f.rg (insAt p f).b.toNat) (insAt p f).imm)], fuel := s.fuel - 1 } else
  if (insAt p f).op = 5 then { s with status := 3 } else
  if ((insAt p f).op = 13 ∨ (insAt p f).op = 14) ∧ (f.rg (insAt p f).a.toNat < 0 ∨ 15 < f.rg (insAt p f).a.toNat) then { s with status := 4 } else
  if (insAt p f).op = 13 then { s with frames := fs ++ [putF f (insAt p f).dst (s.mm (f.rg (insAt p f).a.toNat).toNat)], fuel := s.fuel - 1 } else
  if (insAt p f).op = 14 then { s with frames := fs ++ [goF f (f.pc + 1)], memory := s.memory.setIfInBounds (f.rg (insAt p f).a.toNat).toNat (f.rg (insAt p f).b.toNat), fuel := s.fuel - 1 } else
  if (insAt p f).op = 15 then { s with frames := fs ++ [goF f (insAt p f).imm], fuel := s.fuel - 1 } else
  if (insAt p f).op = 16 then { s with frames := fs ++ [goF f (if f.rg (insAt p f).a.toNat = 0 then f.pc + 1 else (insAt p f).imm)], fuel := s.fuel - 1 } else
  if (insAt p f).op = 17 then
    if fs.length = 7 then { s with status := 5, fuel := s.fuel - 1 }
    else { s with frames := fs ++ [f] ++ [callF (insAt p f).imm (parZ p (insAt p f).imm) (f.rg (insAt p f).a.toNat) (f.rg (insAt p f).b.toNat)], fuel := s.fuel - 1 } else
  if (insAt p f).op = 18 then { s with frames := fs ++ [putF f (insAt p f).dst (s.answers.headD 0)], events := s.events ++ [f.rg (insAt p f).a.toNat], answers := s.answers.tail, fuel := s.fuel - 1 } else
  match fs.getLast? with
  | none => { s with frames := [], status := 1, value := f.rg (insAt p f).a.toNat, fuel := s.fuel - 1 }
  | some g => { s with frames := fs.dropLast ++ [putF g (insAt p g).dst (f.rg (insAt p f).a.toNat)], fuel := s.fuel - 1 }
def nextS (p : Prg) (s : Sta) : Sta := match s.frames.getLast? with
  | none => s
  | some f => nextOf p s s.frames.dropLast f
theorem nextS_eq {p : Prg} {s : Sta} {fs : List Frm} {f : Frm} (h : s.frames = fs ++ [f]) : nextS p s = nextOf p s fs f := by
  unfold nextS; rw [h]; simp
theorem frames_last {s : Sta} (h : s.frames ≠ []) : ∃ fs f, s.frames = fs ++ [f] := ⟨s.frames.dropLast, s.frames.getLast h, (List.dropLast_concat_getLast h).symm⟩
theorem rg_put (f : Frm) (i : Nat) (n : Int) (k : Nat) : (Frm.rg ⟨f.fn, f.pc, f.regs.setIfInBounds i n⟩ k) = if i = k ∧ k < 12 then n else f.rg k := by
  unfold Frm.rg
  simp only [Vector.toList_setIfInBounds, List.getD_eq_getElem?_getD, List.getElem?_set]
  by_cases h : i = k
  · subst h
    by_cases h2 : i < 12
    · simp [h2]
    · simp [h2]
  · simp [h]
theorem frm_set (f : Frm) (i : Nat) (hi : i < 12) (n : Int) : (frmCells f).set (2 + i) (iV n) = frmCells ⟨f.fn, f.pc, f.regs.setIfInBounds i n⟩ := by
  unfold frmCells
  simp only [rg_put]
  have : i = 0 ∨ i = 1 ∨ i = 2 ∨ i = 3 ∨ i = 4 ∨ i = 5 ∨ i = 6 ∨ i = 7 ∨ i = 8 ∨ i = 9 ∨ i = 10 ∨ i = 11 := by omega
  rcases this with rfl | rfl | rfl | rfl | rfl | rfl | rfl | rfl | rfl | rfl | rfl | rfl <;> rfl
theorem frm_pc (f : Frm) (n : Int) : (frmCells f).set 1 (iV n) = frmCells ⟨f.fn, n, f.regs⟩ := rfl
theorem frm_reg (f : Frm) (i : Nat) (hi : i < 12) : (frmCells f)[2 + i]? = some (iV (f.rg i)) := by
  have : i = 0 ∨ i = 1 ∨ i = 2 ∨ i = 3 ∨ i = 4 ∨ i = 5 ∨ i = 6 ∨ i = 7 ∨ i = 8 ∨ i = 9 ∨ i = 10 ∨ i = 11 := by omega
  rcases this with rfl | rfl | rfl | rfl | rfl | rfl | rfl | rfl | rfl | rfl | rfl | rfl <;> rfl
theorem frms_len (fs : List Frm) : (fs.flatMap frmCells).length = fs.length * 14 := flat_len frmCells 14 (fun _ => rfl) fs
theorem frms_at (fs : List Frm) (cs : List Value) (j : Nat) : (fs.flatMap frmCells ++ cs)[fs.length * 14 + j]? = cs[j]? := by
  rw [List.getElem?_append_right (by rw [frms_len]; omega), frms_len]; congr 1; omega
theorem frms_set (fs : List Frm) (cs : List Value) (j : Nat) (v : Value) : (fs.flatMap frmCells ++ cs).set (fs.length * 14 + j) v = fs.flatMap frmCells ++ cs.set j v := by
  rw [List.set_append_right _ _ (by rw [frms_len]; omega), frms_len]; congr 2; omega
theorem frms_snoc (fs : List Frm) (f : Frm) : (fs ++ [f]).flatMap frmCells = fs.flatMap frmCells ++ frmCells f := by simp
theorem mm_set (s : Sta) (i : Nat) (n : Int) (k : Nat) : Sta.mm { s with memory := s.memory.setIfInBounds i n } k = if i = k ∧ k < 16 then n else s.mm k := by
  unfold Sta.mm
  simp only [Vector.toList_setIfInBounds, List.getD_eq_getElem?_getD, List.getElem?_set]
  by_cases h : i = k
  · subst h
    by_cases h2 : i < 16
    · simp [h2]
    · simp [h2]
  · simp [h]
theorem sta_mem (s : Sta) (u e a : Value) (i : Nat) (hi : i < 16) : (staCells s u e a)[3 + i]? = some (iV (s.mm i)) := by
  have : i = 0 ∨ i = 1 ∨ i = 2 ∨ i = 3 ∨ i = 4 ∨ i = 5 ∨ i = 6 ∨ i = 7 ∨ i = 8 ∨ i = 9 ∨ i = 10 ∨ i = 11 ∨ i = 12 ∨ i = 13 ∨ i = 14 ∨ i = 15 := by omega
  rcases this with rfl | rfl | rfl | rfl | rfl | rfl | rfl | rfl | rfl | rfl | rfl | rfl | rfl | rfl | rfl | rfl <;> rfl
theorem sta_store (s : Sta) (u e a : Value) (i : Nat) (hi : i < 16) (n : Int) : (staCells s u e a).set (3 + i) (iV n) = staCells { s with memory := s.memory.setIfInBounds i n } u e a := by
  unfold staCells
  simp only [mm_set]
  have : i = 0 ∨ i = 1 ∨ i = 2 ∨ i = 3 ∨ i = 4 ∨ i = 5 ∨ i = 6 ∨ i = 7 ∨ i = 8 ∨ i = 9 ∨ i = 10 ∨ i = 11 ∨ i = 12 ∨ i = 13 ∨ i = 14 ∨ i = 15 := by omega
  rcases this with rfl | rfl | rfl | rfl | rfl | rfl | rfl | rfl | rfl | rfl | rfl | rfl | rfl | rfl | rfl | rfl <;> rfl
end Go.Proofs.YtfhoffpdodjfeaaDoor
