/- What an op makes of two numbers. No program is named here. P4.3: the next state. No program is named here. P4.1: how a run begins. No program is named here. P4.3, at every argument. No program is named here. -/
import Derived.Test.YtfhoffpdodjfeaaDoorMgPr2
import Derived.Test.YtfhoffpdodjfeaaDoorData
import Derived.Test.YtfhoffpdodjfeaaDoorMgState3
import Derived.Test.YtfhoffpdodjfeaaDoorMgProvenLaw2
import Derived.Test.YtfhoffpdodjfeaaDoorMgBits3
set_option linter.unusedSimpArgs false
set_option linter.unusedVariables false
namespace Go.Proofs.YtfhoffpdodjfeaaDoor
open Go.RowKit Plain64
def pureV (op a b imm : Int) : Int := if op = 1 then imm else if op = 2 then wrap64 (a + b) else if op = 3 then wrap64 (a - b) else if op = 4 then wrap64 (a * b) else if op = 5 then (if b = 0 then 0 else wrap64 (a.tdiv b))
  else if op = 6 then bits .and .i64 a b else if op = 7 then bits .or .i64 a b else if op = 8 then bits .xor .i64 a b else if op = 9 then wrap64 (a * 2 ^ (b % 64).toNat) else if op = 10 then a / 2 ^ (b % 64).toNat
  else if op = 11 then (if a < b then 1 else 0) else if op = 12 then (if a = b then 1 else 0) else 0
def pureB (op b : Int) : Bool := decide (1 ≤ op) && decide (op ≤ 12) && !(decide (op = 5) && decide (b = 0))


def makeE (op b : Int) : Int := if op < 1 ∨ 12 < op then 3 else if op = 5 ∧ b = 0 then 9 else 0
end Go.Proofs.YtfhoffpdodjfeaaDoor
namespace Go.Proofs.YtfhoffpdodjfeaaDoor
open Go.RowKit Plain64
def putF (f : Frm) (i n : Int) : Frm := ⟨f.fn, f.pc + 1, f.regs.setIfInBounds i.toNat n⟩
def goF (f : Frm) (pc : Int) : Frm := ⟨f.fn, pc, f.regs⟩
def callF (fn par a b : Int) : Frm := ⟨fn, 0, #v[if 0 < par then a else 0, if 1 < par then b else 0, 0, 0, 0, 0, 0, 0, 0, 0, 0, 0]⟩
/-- P4.3: of a state that runs, whose frames are fs and then f. -/
def nextOf (p : Prg) (s : Sta) (fs : List Frm) (f : Frm) : Sta :=
  if s.fuel = 0 then { s with status := 2 } else
  if pureB (insAt p f).op (f.rg (insAt p f).b.toNat) = true then { s with frames := fs ++ [putF f (insAt p f).dst (pureV (insAt p f).op (f.rg (insAt p f).a.toNat) (f.rg (insAt p f).b.toNat) (insAt p f).imm)], fuel := s.fuel - 1 } else
  if (insAt p f).op = 5 then { s with status := 3 } else
  if ((insAt p f).op = 13 ∨ (insAt p f).op = 14) ∧ (f.rg (insAt p f).a.toNat < 0 ∨ 15 < f.rg (insAt p f).a.toNat) then { s with status := 4 } else
  if (insAt p f).op = 13 then { s with frames := fs ++ [putF f (insAt p f).dst (s.mm (f.rg (insAt p f).a.toNat).toNat)], fuel := s.fuel - 1 } else
  if (insAt p f).op = 14 then { s with frames := fs ++ [goF f (f.pc + 1)], memory := s.memory.setIfInBounds (f.rg (insAt p f).a.toNat).toNat (f.rg (insAt p f).b.toNat), fuel := s.fuel - 1 } else
  if (insAt p f).op = 15 then { s with frames := fs ++ [goF f (insAt p f).imm], fuel := s.fuel - 1 } else
  if (insAt p f).op = 16 then { s with frames := fs ++ [goF f (if f.rg (insAt p f).a.toNat = 0 then f.pc + 1 else (insAt p f).imm)], fuel := s.fuel - 1 } else
  if (insAt p f).op = 17 then
    if fs.length = 7 then { s with status := 5, fuel := s.fuel - 1 }
    else { s with frames := fs ++ [f] ++ [callF (insAt p f).imm (parZ p (insAt p f).imm) (f.rg (insAt p f).a.toNat) (f.rg (insAt p f).b.toNat)], fuel := s.fuel - 1 } else
  if (insAt p f).op = 18 then { s with frames := fs ++ [putF f (insAt p f).dst (s.answers.headD 0)], events := s.events ++ [f.rg (insAt p f).a.toNat], answers := s.answers.tail, fuel := s.fuel - 1 } else
  match fs.getLast? with
  | none => { s with frames := [], status := 1, value := f.rg (insAt p f).a.toNat, fuel := s.fuel - 1 }
  | some g => { s with frames := fs.dropLast ++ [putF g (insAt p g).dst (f.rg (insAt p f).a.toNat)], fuel := s.fuel - 1 }
def nextS (p : Prg) (s : Sta) : Sta := match s.frames.getLast? with
  | none => s
  | some f => nextOf p s s.frames.dropLast f
theorem nextS_eq {p : Prg} {s : Sta} {fs : List Frm} {f : Frm} (h : s.frames = fs ++ [f]) : nextS p s = nextOf p s fs f := by
  unfold nextS; rw [h]; simp
theorem frames_last {s : Sta} (h : s.frames ≠ []) : ∃ fs f, s.frames = fs ++ [f] := ⟨s.frames.dropLast, s.frames.getLast h, (List.dropLast_concat_getLast h).symm⟩
theorem rg_put (f : Frm) (i : Nat) (n : Int) (k : Nat) : (Frm.rg ⟨f.fn, f.pc, f.regs.setIfInBounds i n⟩ k) = if i = k ∧ k < 12 then n else f.rg k := by
  unfold Frm.rg
  simp only [Vector.toList_setIfInBounds, List.getD_eq_getElem?_getD, List.getElem?_set]
  by_cases h : i = k
  · subst h
    by_cases h2 : i < 12
    · simp [h2]
    · simp [h2]
  · simp [h]
theorem frm_set (f : Frm) (i : Nat) (hi : i < 12) (n : Int) : (frmCells f).set (2 + i) (iV n) = frmCells ⟨f.fn, f.pc, f.regs.setIfInBounds i n⟩ := by
  unfold frmCells
  simp only [rg_put]
  have : i = 0 ∨ i = 1 ∨ i = 2 ∨ i = 3 ∨ i = 4 ∨ i = 5 ∨ i = 6 ∨ i = 7 ∨ i = 8 ∨ i = 9 ∨ i = 10 ∨ i = 11 := by omega
  rcases this with rfl | rfl | rfl | rfl | rfl | rfl | rfl | rfl | rfl | rfl | rfl | rfl <;> rfl
theorem frm_pc (f : Frm) (n : Int) : (frmCells f).set 1 (iV n) = frmCells ⟨f.fn, n, f.regs⟩ := rfl
theorem frm_reg (f : Frm) (i : Nat) (hi : i < 12) : (frmCells f)[2 + i]? = some (iV (f.rg i)) := by
  have : i = 0 ∨ i = 1 ∨ i = 2 ∨ i = 3 ∨ i = 4 ∨ i = 5 ∨ i = 6 ∨ i = 7 ∨ i = 8 ∨ i = 9 ∨ i = 10 ∨ i = 11 := by omega
  rcases this with rfl | rfl | rfl | rfl | rfl | rfl | rfl | rfl | rfl | rfl | rfl | rfl <;> rfl
theorem frms_len (fs : List Frm) : (fs.flatMap frmCells).length = fs.length * 14 := flat_len frmCells 14 (fun _ => rfl) fs
theorem frms_at (fs : List Frm) (cs : List Value) (j : Nat) : (fs.flatMap frmCells ++ cs)[fs.length * 14 + j]? = cs[j]? := by
  rw [List.getElem?_append_right (by rw [frms_len]; omega), frms_len]; congr 1; omega
theorem frms_set (fs : List Frm) (cs : List Value) (j : Nat) (v : Value) : (fs.flatMap frmCells ++ cs).set (fs.length * 14 + j) v = fs.flatMap frmCells ++ cs.set j v := by
  rw [List.set_append_right _ _ (by rw [frms_len]; omega), frms_len]; congr 2; omega
theorem frms_snoc (fs : List Frm) (f : Frm) : (fs ++ [f]).flatMap frmCells = fs.flatMap frmCells ++ frmCells f := by simp
theorem mm_set (s : Sta) (i : Nat) (n : Int) (k : Nat) : Sta.mm { s with memory := s.memory.setIfInBounds i n } k = if i = k ∧ k < 16 then n else s.mm k := by
  unfold Sta.mm
  simp only [Vector.toList_setIfInBounds, List.getD_eq_getElem?_getD, List.getElem?_set]
  by_cases h : i = k
  · subst h
    by_cases h2 : i < 16
    · simp [h2]
    · simp [h2]
  · simp [h]
theorem sta_mem (s : Sta) (u e a : Value) (i : Nat) (hi : i < 16) : (staCells s u e a)[3 + i]? = some (iV (s.mm i)) := by
  have : i = 0 ∨ i = 1 ∨ i = 2 ∨ i = 3 ∨ i = 4 ∨ i = 5 ∨ i = 6 ∨ i = 7 ∨ i = 8 ∨ i = 9 ∨ i = 10 ∨ i = 11 ∨ i = 12 ∨ i = 13 ∨ i = 14 ∨ i = 15 := by omega
  rcases this with rfl | rfl | rfl | rfl | rfl | rfl | rfl | rfl | rfl | rfl | rfl | rfl | rfl | rfl | rfl | rfl <;> rfl
theorem sta_store (s : Sta) (u e a : Value) (i : Nat) (hi : i < 16) (n : Int) : (staCells s u e a).set (3 + i) (iV n) = staCells { s with memory := s.memory.setIfInBounds i n } u e a := by
  unfold staCells
  simp only [mm_set]
  have : i = 0 ∨ i = 1 ∨ i = 2 ∨ i = 3 ∨ i = 4 ∨ i = 5 ∨ i = 6 ∨ i = 7 ∨ i = 8 ∨ i = 9 ∨ i = 10 ∨ i = 11 ∨ i = 12 ∨ i = 13 ∨ i = 14 ∨ i = 15 := by omega
  rcases this with rfl | rfl | rfl | rfl | rfl | rfl | rfl | rfl | rfl | rfl | rfl | rfl | rfl | rfl | rfl | rfl <;> rfl
end Go.Proofs.YtfhoffpdodjfeaaDoor
namespace Go.Proofs.YtfhoffpdodjfeaaDoor
open Go.RowKit
/-- The first frame. -/
def begF (xs : List Int) : Frm := ⟨0, 0, #v[xs.getD 0 0, xs.getD 1 0, 0, 0, 0, 0, 0, 0, 0, 0, 0, 0]⟩
def begS (xs ys : List Int) (fuel : Int) : Sta := ⟨0, 0, [begF xs], #v[0, 0, 0, 0, 0, 0, 0, 0, 0, 0, 0, 0, 0, 0, 0, 0], fuel, [], ys⟩
def zeroS : Sta := ⟨0, 0, [], #v[0, 0, 0, 0, 0, 0, 0, 0, 0, 0, 0, 0, 0, 0, 0, 0], 0, [], []⟩
theorem beg_cells (xs : List Int) (h : xs.length ≤ 2) : List.take 2 [iV 0, iV 0, iV 0, iV 0, iV 0, iV 0, iV 0, iV 0, iV 0, iV 0, iV 0, iV 0, iV 0, iV 0] ++ (List.map (Value.int .i64) xs ++ List.drop (2 + (List.map (Value.int .i64) xs).length) [iV 0, iV 0, iV 0, iV 0, iV 0, iV 0, iV 0, iV 0, iV 0, iV 0, iV 0, iV 0, iV 0, iV 0]) = frmCells (begF xs) := by
  match xs, h with
  | [], _ => rfl
  | [x0], _ => rfl
  | [x0, x1], _ => rfl
/-- P4.1, at every argument. -/
noncomputable def begunAns (p : Prg) (xs ys : List Int) (fuel : Int) : Sta × Int :=
  if proven p ≠ 0 then (zeroS, proven p) else
  if (xs.length : Int) ≠ ((p.funcs[0]?).map Fun.params).getD 0 ∨ 100 < ys.length then (zeroS, 1) else
  if fuel < 0 ∨ 10000 < fuel then (zeroS, 2) else (begS xs ys fuel, 0)
end Go.Proofs.YtfhoffpdodjfeaaDoor
namespace Go.Proofs.YtfhoffpdodjfeaaDoor
open Go.RowKit Plain64
theorem sf_zero {p : Prg} {s : Sta} (h : stateFault p s = 0) : proven p = 0 ∧ HeadOk s ∧ FramesOk p s.frames := by
  unfold stateFault at h
  by_cases h1 : proven p = 0
  · rw [if_neg (by simpa using h1)] at h
    by_cases h2 : HeadOk s ∧ FramesOk p s.frames
    · exact ⟨h1, h2.1, h2.2⟩
    · rw [if_neg h2] at h; cases h
  · rw [if_pos h1] at h; exact absurd h h1
noncomputable def nextAns (p : Prg) (s : Sta) : Sta × Int := if stateFault p s ≠ 0 then (zeroS, stateFault p s) else if s.status ≠ 0 then (s, 0) else (nextS p s, 0)
theorem frames_run {s : Sta} (h : HeadOk s) (hs : s.status = 0) : ∃ fs f, s.frames = fs ++ [f] := frames_last (fun e => by
  have := h.done.1 (by rw [e]; rfl)
  omega)
/-- What nextOf may be. -/
theorem nextOf_ind {p : Prg} {s : Sta} {fs : List Frm} {f : Frm} {P : Sta → Prop}
    (h0 : s.fuel = 0 → P { s with status := 2 })
    (h1 : s.fuel ≠ 0 → pureB (insAt p f).op (f.rg (insAt p f).b.toNat) = true → P { s with frames := fs ++ [putF f (insAt p f).dst (pureV (insAt p f).op (f.rg (insAt p f).a.toNat) (f.rg (insAt p f).b.toNat) (insAt p f).imm)], fuel := s.fuel - 1 })
    (h2 : s.fuel ≠ 0 → pureB (insAt p f).op (f.rg (insAt p f).b.toNat) ≠ true → (insAt p f).op = 5 → P { s with status := 3 })
    (h3 : s.fuel ≠ 0 → pureB (insAt p f).op (f.rg (insAt p f).b.toNat) ≠ true → (insAt p f).op ≠ 5 → ((insAt p f).op = 13 ∨ (insAt p f).op = 14) → P { s with status := 4 })
    (h4 : s.fuel ≠ 0 → (insAt p f).op = 13 → P { s with frames := fs ++ [putF f (insAt p f).dst (s.mm (f.rg (insAt p f).a.toNat).toNat)], fuel := s.fuel - 1 })
    (h5 : s.fuel ≠ 0 → (insAt p f).op = 14 → P { s with frames := fs ++ [goF f (f.pc + 1)], memory := s.memory.setIfInBounds (f.rg (insAt p f).a.toNat).toNat (f.rg (insAt p f).b.toNat), fuel := s.fuel - 1 })
    (h6 : s.fuel ≠ 0 → (insAt p f).op = 15 → P { s with frames := fs ++ [goF f (insAt p f).imm], fuel := s.fuel - 1 })
    (h7 : s.fuel ≠ 0 → (insAt p f).op = 16 → P { s with frames := fs ++ [goF f (if f.rg (insAt p f).a.toNat = 0 then f.pc + 1 else (insAt p f).imm)], fuel := s.fuel - 1 })
    (h8 : s.fuel ≠ 0 → (insAt p f).op = 17 → fs.length = 7 → P { s with status := 5, fuel := s.fuel - 1 })
    (h9 : s.fuel ≠ 0 → (insAt p f).op = 17 → fs.length ≠ 7 → P { s with frames := fs ++ [f] ++ [callF (insAt p f).imm (parZ p (insAt p f).imm) (f.rg (insAt p f).a.toNat) (f.rg (insAt p f).b.toNat)], fuel := s.fuel - 1 })
    (h10 : s.fuel ≠ 0 → (insAt p f).op = 18 → P { s with frames := fs ++ [putF f (insAt p f).dst (s.answers.headD 0)], events := s.events ++ [f.rg (insAt p f).a.toNat], answers := s.answers.tail, fuel := s.fuel - 1 })
    (h11 : s.fuel ≠ 0 → pureB (insAt p f).op (f.rg (insAt p f).b.toNat) ≠ true → (insAt p f).op ≠ 5 ∧ (insAt p f).op ≠ 13 ∧ (insAt p f).op ≠ 14 ∧ (insAt p f).op ≠ 15 ∧ (insAt p f).op ≠ 16 ∧ (insAt p f).op ≠ 17 ∧ (insAt p f).op ≠ 18 → fs.getLast? = none → P { s with frames := [], status := 1, value := f.rg (insAt p f).a.toNat, fuel := s.fuel - 1 })
    (h12 : s.fuel ≠ 0 → pureB (insAt p f).op (f.rg (insAt p f).b.toNat) ≠ true → (insAt p f).op ≠ 5 ∧ (insAt p f).op ≠ 13 ∧ (insAt p f).op ≠ 14 ∧ (insAt p f).op ≠ 15 ∧ (insAt p f).op ≠ 16 ∧ (insAt p f).op ≠ 17 ∧ (insAt p f).op ≠ 18 → ∀ g, fs.getLast? = some g → P { s with frames := fs.dropLast ++ [putF g (insAt p g).dst (f.rg (insAt p f).a.toNat)], fuel := s.fuel - 1 }) :
    P (nextOf p s fs f) := by
  unfold nextOf
  by_cases e0 : s.fuel = 0
  · rw [if_pos e0]; exact h0 e0
  rw [if_neg e0]
  by_cases e1 : pureB (insAt p f).op (f.rg (insAt p f).b.toNat) = true
  · rw [if_pos e1]; exact h1 e0 e1
  rw [if_neg e1]
  by_cases e2 : (insAt p f).op = 5
  · rw [if_pos e2]; exact h2 e0 e1 e2
  rw [if_neg e2]
  by_cases e3 : ((insAt p f).op = 13 ∨ (insAt p f).op = 14) ∧ (f.rg (insAt p f).a.toNat < 0 ∨ 15 < f.rg (insAt p f).a.toNat)
  · rw [if_pos e3]; exact h3 e0 e1 e2 e3.1
  rw [if_neg e3]
  by_cases e4 : (insAt p f).op = 13
  · rw [if_pos e4]; exact h4 e0 e4
  rw [if_neg e4]
  by_cases e5 : (insAt p f).op = 14
  · rw [if_pos e5]; exact h5 e0 e5
  rw [if_neg e5]
  by_cases e6 : (insAt p f).op = 15
  · rw [if_pos e6]; exact h6 e0 e6
  rw [if_neg e6]
  by_cases e7 : (insAt p f).op = 16
  · rw [if_pos e7]; exact h7 e0 e7
  rw [if_neg e7]
  by_cases e8 : (insAt p f).op = 17
  · rw [if_pos e8]
    by_cases e9 : fs.length = 7
    · rw [if_pos e9]; exact h8 e0 e8 e9
    · rw [if_neg e9]; exact h9 e0 e8 e9
  rw [if_neg e8]
  by_cases e10 : (insAt p f).op = 18
  · rw [if_pos e10]; exact h10 e0 e10
  rw [if_neg e10]
  cases hl : fs.getLast? with
  | none => exact h11 e0 e1 ⟨e2, e4, e5, e6, e7, e8, e10⟩ hl
  | some g => exact h12 e0 e1 ⟨e2, e4, e5, e6, e7, e8, e10⟩ g hl
end Go.Proofs.YtfhoffpdodjfeaaDoor
