/- States: their cells; rows of flat elements. No program is named here. P4.3: the next state. No program is named here. -/
import Derived.Test.YtigbdlcjnnphbaaDoorHpRow
import Derived.Test.YtigbdlcjnnphbaaDoorReadsOf
import Derived.Test.YtigbdlcjnnphbaaDoorMgBitsReadsStateLawWrapS4
import Derived.Test.YtigbdlcjnnphbaaDoorMgValidPureLaw2
set_option linter.unusedSimpArgs false
set_option linter.unusedVariables false
namespace Go.Proofs.YtigbdlcjnnphbaaDoor
open Go.RowKit
/-- A register of a frame. -/
def Frm.rg (x : Frm) (i : Nat) : Int := x.regs.toList.getD i 0
/-- A word of a state's memory. -/
def Sta.mm (x : Sta) (i : Nat) : Int := x.memory.toList.getD i 0
abbrev iV (n : Int) : Value := .int .i64 n
def frmCells (x : Frm) : List Value := [iV x.fn, iV x.pc, iV (x.rg 0), iV (x.rg 1), iV (x.rg 2), iV (x.rg 3), iV (x.rg 4), iV (x.rg 5), iV (x.rg 6), iV (x.rg 7), iV (x.rg 8), iV (x.rg 9), iV (x.rg 10), iV (x.rg 11)]
theorem vec12 (v : Vector Int 12) : v.toList = [v.toList.getD 0 0, v.toList.getD 1 0, v.toList.getD 2 0, v.toList.getD 3 0, v.toList.getD 4 0, v.toList.getD 5 0, v.toList.getD 6 0, v.toList.getD 7 0, v.toList.getD 8 0, v.toList.getD 9 0, v.toList.getD 10 0, v.toList.getD 11 0] := by
  have hl : v.toList.length = 12 := by simp
  generalize v.toList = l at *
  match l, hl with
  | [a0, a1, a2, a3, a4, a5, a6, a7, a8, a9, a10, a11], _ => rfl
theorem vec16 (v : Vector Int 16) : v.toList = [v.toList.getD 0 0, v.toList.getD 1 0, v.toList.getD 2 0, v.toList.getD 3 0, v.toList.getD 4 0, v.toList.getD 5 0, v.toList.getD 6 0, v.toList.getD 7 0, v.toList.getD 8 0, v.toList.getD 9 0, v.toList.getD 10 0, v.toList.getD 11 0, v.toList.getD 12 0, v.toList.getD 13 0, v.toList.getD 14 0, v.toList.getD 15 0] := by
  have hl : v.toList.length = 16 := by simp
  generalize v.toList = l at *
  match l, hl with
  | [a0, a1, a2, a3, a4, a5, a6, a7, a8, a9, a10, a11, a12, a13, a14, a15], _ => rfl
section
variable {w w' : World} {B : Nat → Prop} {cs : List Value}
theorem rep_frm' {x : Frm} : Lay.rep w B x cs ↔ cs = frmCells x := by
  rw [rep_frm, vec12]; rfl
def staCells (x : Sta) (u e a : Value) : List Value := [iV x.status, iV x.value, u, iV (x.mm 0), iV (x.mm 1), iV (x.mm 2), iV (x.mm 3), iV (x.mm 4), iV (x.mm 5), iV (x.mm 6), iV (x.mm 7), iV (x.mm 8), iV (x.mm 9), iV (x.mm 10), iV (x.mm 11), iV (x.mm 12), iV (x.mm 13), iV (x.mm 14), iV (x.mm 15), iV x.fuel, e, a]
theorem rep_sta {x : Sta} : Lay.rep w B x cs ↔ ∃ u e a, cs = staCells x u e a ∧ Lay.rep w B x.frames [u] ∧ Lay.rep w B x.events [e] ∧ Lay.rep w B x.answers [a] := by
  constructor
  · rintro ⟨_, _, rfl, rfl, _, _, rfl, rfl, c1, d1, rfl, hf, c2, d2, rfl, hm, _, _, rfl, rfl, c3, d3, rfl, he, ha⟩
    rw [rep_vec_int, vec16] at hm
    subst hm
    obtain ⟨A1, n1, rfl, h1⟩ := hf
    obtain ⟨A2, n2, rfl, h2⟩ := he
    obtain ⟨A3, n3, rfl, h3⟩ := ha
    exact ⟨_, _, _, rfl, ⟨A1, n1, rfl, h1⟩, ⟨A2, n2, rfl, h2⟩, ⟨A3, n3, rfl, h3⟩⟩
  · rintro ⟨u, e, a, rfl, hf, he, ha⟩
    exact ⟨_, _, rfl, rfl, _, _, rfl, rfl, [u], _, rfl, hf, _, _, rfl, rep_vec_int.2 (by rw [vec16]), _, _, rfl, rfl, [e], _, rfl, he, ha⟩
/-- An element of a slice of frames. -/
theorem rep_frames_at {xs : List Frm} {v : Value} (h : Lay.rep w B xs [v]) : ∃ (A : Option Addr) (c : Nat), v = .slice A xs.length c ∧ xs.length ≤ c ∧ c ≤ maxLen ∧
    ∀ (k : Nat) (hk : k < xs.length), ∃ (a : Addr), A = some a ∧ B a.block ∧ At w (a.add (k * 14)) (frmCells xs[k]) := by
  obtain ⟨A, c, e, h1, h2, h3⟩ := rep_list h
  injection e with e
  refine ⟨A, c, e, h1, h2, fun k hk => ?_⟩
  obtain ⟨a, ds, ha, hb, hat, hr⟩ := h3 k hk
  rw [rep_frm'] at hr
  subst hr
  exact ⟨a, ha, hb, hat⟩
theorem flat_at {α : Type} (enc : α → List Value) (sz : Nat) (henc : ∀ x, (enc x).length = sz) (xs : List α) (k : Nat) (x : α) (hx : xs[k]? = some x) (j : Nat) (v : Value) (hv : (enc x)[j]? = some v) : (xs.flatMap enc)[k * sz + j]? = some v := by
  induction xs generalizing k with
  | nil => simp at hx
  | cons y ys ih =>
    rw [List.flatMap_cons]
    cases k with
    | zero =>
      simp at hx; subst hx
      rw [Nat.zero_mul, Nat.zero_add, List.getElem?_append_left (List.getElem?_eq_some_iff.1 hv).1]; exact hv
    | succ k =>
      have := ih k (by simpa using hx)
      rw [List.getElem?_append_right (by rw [henc, Nat.succ_mul]; omega), henc, show (k + 1) * sz + j - sz = k * sz + j by rw [Nat.succ_mul]; omega]
      exact this
theorem flat_len {α : Type} (enc : α → List Value) (sz : Nat) (henc : ∀ x, (enc x).length = sz) (xs : List α) : (xs.flatMap enc).length = xs.length * sz := by
  induction xs with
  | nil => simp
  | cons y ys ih => rw [List.flatMap_cons, List.length_append, henc, ih, List.length_cons, Nat.succ_mul]; omega
/-- A row of flat elements reads as these. -/
theorem Hp.rowFlat {α : Type} [Lay α] (enc : α → List Value) (sz : Nat) (hsz : Lay.size α = sz) (hpos : 0 < sz) (henc : ∀ x, (enc x).length = sz) (hrep : ∀ (w : World) (S : Nat → Prop) (x : α), Lay.rep w S x (enc x))
    {w0 w : World} {Fs : List Fro} {L : List Res} {v : Value} {e : TypeId} {n : Nat} {cs : List Value} {xs : List α} (h : Hp w0 Fs L w) (hm : Res.row v e sz n cs ∈ L) (hx : cs = xs.flatMap enc) : Lay.rep w (Fresh w0 w) xs [v] := by
  subst hx
  have ho := h.row hm
  have hf := (h.own _ hm).2
  have hl : xs.length = n := by
    have := ho.1
    rw [flat_len enc sz henc] at this
    exact Nat.eq_of_mul_eq_mul_right hpos this
  rcases ho.2 with ⟨rfl, hn⟩ | ⟨g, cap, cur, rfl, hb, hg, hle, hmx, hs, ht⟩
  · subst hn
    have : xs = [] := by cases xs; rfl; simp at hl
    subst this
    exact ⟨none, 0, rfl, Nat.le_refl _, by unfold maxLen; omega, fun k x h => by simp at h⟩
  · subst hl
    refine ⟨_, _, rfl, hle, hmx, fun k x hx => ⟨_, enc x, rfl, ⟨(hf g rfl).1, (hf g rfl).2.1⟩, fun j u hu => ?_, hrep _ _ x⟩⟩
    have := ho.cells (g := g) rfl (k * sz + j) u (flat_at enc sz henc xs k x hx j u hu)
    rw [add_of_add, hsz]
    exact this
theorem Hp.rowFrames {w0 w : World} {Fs : List Fro} {L : List Res} {v : Value} {e : TypeId} {n : Nat} {cs : List Value} {xs : List Frm} (h : Hp w0 Fs L w) (hm : Res.row v e 14 n cs ∈ L) (hx : cs = xs.flatMap frmCells) : Lay.rep w (Fresh w0 w) xs [v] :=
  h.rowFlat frmCells 14 rfl (by decide) (fun _ => rfl) (fun _ _ _ => rep_frm'.2 rfl) hm hx
end
end Go.Proofs.YtigbdlcjnnphbaaDoor
namespace Go.Proofs.YtigbdlcjnnphbaaDoor
open Go.RowKit Plain64
def putF (f : Frm) (i n : Int) : Frm := ⟨f.fn, f.pc + 1, f.regs.setIfInBounds i.toNat n⟩
def goF (f : Frm) (pc : Int) : Frm := ⟨f.fn, pc, f.regs⟩
def callF (fn par a b : Int) : Frm := ⟨fn, 0, #v[if 0 < par then a else 0, if 1 < par then b else 0, 0, 0, 0, 0, 0, 0, 0, 0, 0, 0]⟩
/-- P4.3: of a state that runs, whose frames are fs and then f. -/
def nextOf (p : Prg) (s : Sta) (fs : List Frm) (f : Frm) : Sta :=
  if s.fuel = 0 then { s with status := 2 } else
  if pureB (insAt p f).op (f.rg (insAt p f).b.toNat) = true then { s with frames := fs ++ [putF f (insAt p f).dst (pureV (insAt p f).op (f.rg (insAt p f).a.toNat) (f.rg (insAt p f).b.toNat) (insAt p f).imm)], fuel := s.fuel - 1 } else
  if (insAt p f).op = 5 then { s with status := 3 } else
  if ((insAt p f).op = 13 ∨ (insAt p f).op = 14) ∧ (f.rg (insAt p f).a.toNat < 0 ∨ 15 < f.rg (insAt p f).a.toNat) then { s with status := 4 } else
  if (insAt p f).op = 13 then { s with frames := fs ++ [putF f (insAt p f).dst (s.mm (f.rg (insAt p f).a.toNat).toNat)], fuel := s.fuel - 1 } else
  if (insAt p f).op = 14 then { s with frames := fs ++ [goF f (f.pc + 1)], memory := s.memory.setIfInBounds (f.rg (insAt p f).a.toNat).toNat (f.rg (insAt p f).b.toNat), fuel := s.fuel - 1 } else
  if (insAt p f).op = 15 then { s with frames := fs ++ [goF f (insAt p f).imm], fuel := s.fuel - 1 } else
  if (insAt p f).op = 16 then { s with frames := fs ++ [goF f (if f.rg (insAt p f).a.toNat = 0 then f.pc + 1 else (insAt p f).imm)], fuel := s.fuel - 1 } else
  if (insAt p f).op = 17 then
    if fs.length = 7 then { s with status := 5, fuel := s.fuel - 1 }
    else { s with frames := fs ++ [f] ++ [callF (insAt p f).imm (parZ p (insAt p f).imm) (f.rg (insAt p f).a.toNat) (f.rg (insAt p f).b.toNat)], fuel := s.fuel - 1 } else
  if (insAt p f).op = 18 then { s with frames := fs ++ [putF f (insAt p f).dst (s.answers.headD 0)], events := s.events ++ [f.rg (insAt p f).a.toNat], answers := s.answers.tail, fuel := s.fuel - 1 } else
  match fs.getLast? with
  | none => { s with frames := [], status := 1, value := f.rg (insAt p f).a.toNat, fuel := s.fuel - 1 }
  | some g => { s with frames := fs.dropLast ++ [putF g (insAt p g).dst (f.rg (insAt p f).a.toNat)], fuel := s.fuel - 1 }
def nextS (p : Prg) (s : Sta) : Sta := match s.frames.getLast? with
  | none => s
  | some f => nextOf p s s.frames.dropLast f
theorem nextS_eq {p : Prg} {s : Sta} {fs : List Frm} {f : Frm} (h : s.frames = fs ++ [f]) : nextS p s = nextOf p s fs f := by
  unfold nextS; rw [h]; simp
theorem frames_last {s : Sta} (h : s.frames ≠ []) : ∃ fs f, s.frames = fs ++ [f] := ⟨s.frames.dropLast, s.frames.getLast h, (List.dropLast_concat_getLast h).symm⟩
theorem rg_put (f : Frm) (i : Nat) (n : Int) (k : Nat) : (Frm.rg ⟨f.fn, f.pc, f.regs.setIfInBounds i n⟩ k) = if i = k ∧ k < 12 then n else f.rg k := by
  unfold Frm.rg
  simp only [Vector.toList_setIfInBounds, List.getD_eq_getElem?_getD, List.getElem?_set]
  by_cases h : i = k
  · subst h
    by_cases h2 : i < 12
    · simp [h2]
    · simp [h2]
  · simp [h]
theorem frm_set (f : Frm) (i : Nat) (hi : i < 12) (n : Int) : (frmCells f).set (2 + i) (iV n) = frmCells ⟨f.fn, f.pc, f.regs.setIfInBounds i n⟩ := by
  unfold frmCells
  simp only [rg_put]
  have : i = 0 ∨ i = 1 ∨ i = 2 ∨ i = 3 ∨ i = 4 ∨ i = 5 ∨ i = 6 ∨ i = 7 ∨ i = 8 ∨ i = 9 ∨ i = 10 ∨ i = 11 := by omega
  rcases this with rfl | rfl | rfl | rfl | rfl | rfl | rfl | rfl | rfl | rfl | rfl | rfl <;> rfl
theorem frm_pc (f : Frm) (n : Int) : (frmCells f).set 1 (iV n) = frmCells ⟨f.fn, n, f.regs⟩ := rfl
theorem frm_reg (f : Frm) (i : Nat) (hi : i < 12) : (frmCells f)[2 + i]? = some (iV (f.rg i)) := by
  have : i = 0 ∨ i = 1 ∨ i = 2 ∨ i = 3 ∨ i = 4 ∨ i = 5 ∨ i = 6 ∨ i = 7 ∨ i = 8 ∨ i = 9 ∨ i = 10 ∨ i = 11 := by omega
  rcases this with rfl | rfl | rfl | rfl | rfl | rfl | rfl | rfl | rfl | rfl | rfl | rfl <;> rfl
theorem frms_len (fs : List Frm) : (fs.flatMap frmCells).length = fs.length * 14 := flat_len frmCells 14 (fun _ => rfl) fs
theorem frms_at (fs : List Frm) (cs : List Value) (j : Nat) : (fs.flatMap frmCells ++ cs)[fs.length * 14 + j]? = cs[j]? := by
  rw [List.getElem?_append_right (by rw [frms_len]; omega), frms_len]; congr 1; omega
theorem frms_set (fs : List Frm) (cs : List Value) (j : Nat) (v : Value) : (fs.flatMap frmCells ++ cs).set (fs.length * 14 + j) v = fs.flatMap frmCells ++ cs.set j v := by
  rw [List.set_append_right _ _ (by rw [frms_len]; omega), frms_len]; congr 2; omega
theorem frms_snoc (fs : List Frm) (f : Frm) : (fs ++ [f]).flatMap frmCells = fs.flatMap frmCells ++ frmCells f := by simp
theorem mm_set (s : Sta) (i : Nat) (n : Int) (k : Nat) : Sta.mm { s with memory := s.memory.setIfInBounds i n } k = if i = k ∧ k < 16 then n else s.mm k := by
  unfold Sta.mm
  simp only [Vector.toList_setIfInBounds, List.getD_eq_getElem?_getD, List.getElem?_set]
  by_cases h : i = k
  · subst h
    by_cases h2 : i < 16
    · simp [h2]
    · simp [h2]
  · simp [h]
theorem sta_mem (s : Sta) (u e a : Value) (i : Nat) (hi : i < 16) : (staCells s u e a)[3 + i]? = some (iV (s.mm i)) := by
  have : i = 0 ∨ i = 1 ∨ i = 2 ∨ i = 3 ∨ i = 4 ∨ i = 5 ∨ i = 6 ∨ i = 7 ∨ i = 8 ∨ i = 9 ∨ i = 10 ∨ i = 11 ∨ i = 12 ∨ i = 13 ∨ i = 14 ∨ i = 15 := by omega
  rcases this with rfl | rfl | rfl | rfl | rfl | rfl | rfl | rfl | rfl | rfl | rfl | rfl | rfl | rfl | rfl | rfl <;> rfl
theorem sta_store (s : Sta) (u e a : Value) (i : Nat) (hi : i < 16) (n : Int) : (staCells s u e a).set (3 + i) (iV n) = staCells { s with memory := s.memory.setIfInBounds i n } u e a := by
  unfold staCells
  simp only [mm_set]
  have : i = 0 ∨ i = 1 ∨ i = 2 ∨ i = 3 ∨ i = 4 ∨ i = 5 ∨ i = 6 ∨ i = 7 ∨ i = 8 ∨ i = 9 ∨ i = 10 ∨ i = 11 ∨ i = 12 ∨ i = 13 ∨ i = 14 ∨ i = 15 := by omega
  rcases this with rfl | rfl | rfl | rfl | rfl | rfl | rfl | rfl | rfl | rfl | rfl | rfl | rfl | rfl | rfl | rfl <;> rfl
end Go.Proofs.YtigbdlcjnnphbaaDoor
