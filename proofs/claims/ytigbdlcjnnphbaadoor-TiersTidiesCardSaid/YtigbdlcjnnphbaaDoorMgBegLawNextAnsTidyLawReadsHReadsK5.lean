/- P4.1: how a run begins. No program is named here. P4.3, at every argument. No program is named here. P14.1: a state whose registers that are not live are 0. No program is named here but for the layout of its data. P3.4: what proof.Reads answers. Numbers of read registers as bits. -/
import Derived.Test.YtigbdlcjnnphbaaDoorMgStateNextLaw2
import Derived.Test.YtigbdlcjnnphbaaDoorMgBitsReadsStateLawWrapS4
import Derived.Test.YtigbdlcjnnphbaaDoorLiveLaw
import Derived.Test.YtigbdlcjnnphbaaDoorReadsOf
set_option linter.unusedSimpArgs false
set_option linter.unusedVariables false
namespace Go.Proofs.YtigbdlcjnnphbaaDoor
open Go.RowKit
/-- The first frame. -/
def begF (xs : List Int) : Frm := ⟨0, 0, #v[xs.getD 0 0, xs.getD 1 0, 0, 0, 0, 0, 0, 0, 0, 0, 0, 0]⟩
def begS (xs ys : List Int) (fuel : Int) : Sta := ⟨0, 0, [begF xs], #v[0, 0, 0, 0, 0, 0, 0, 0, 0, 0, 0, 0, 0, 0, 0, 0], fuel, [], ys⟩
def zeroS : Sta := ⟨0, 0, [], #v[0, 0, 0, 0, 0, 0, 0, 0, 0, 0, 0, 0, 0, 0, 0, 0], 0, [], []⟩
theorem beg_cells (xs : List Int) (h : xs.length ≤ 2) : List.take 2 [iV 0, iV 0, iV 0, iV 0, iV 0, iV 0, iV 0, iV 0, iV 0, iV 0, iV 0, iV 0, iV 0, iV 0] ++ (List.map (Value.int .i64) xs ++ List.drop (2 + (List.map (Value.int .i64) xs).length) [iV 0, iV 0, iV 0, iV 0, iV 0, iV 0, iV 0, iV 0, iV 0, iV 0, iV 0, iV 0, iV 0, iV 0]) = frmCells (begF xs) := by
  match xs, h with
  | [], _ => rfl
  | [x0], _ => rfl
  | [x0, x1], _ => rfl
/-- P4.1, at every argument. -/
noncomputable def begunAns (p : Prg) (xs ys : List Int) (fuel : Int) : Sta × Int :=
  if proven p ≠ 0 then (zeroS, proven p) else
  if (xs.length : Int) ≠ ((p.funcs[0]?).map Fun.params).getD 0 ∨ 100 < ys.length then (zeroS, 1) else
  if fuel < 0 ∨ 10000 < fuel then (zeroS, 2) else (begS xs ys fuel, 0)
end Go.Proofs.YtigbdlcjnnphbaaDoor
namespace Go.Proofs.YtigbdlcjnnphbaaDoor
open Go.RowKit Plain64
theorem sf_zero {p : Prg} {s : Sta} (h : stateFault p s = 0) : proven p = 0 ∧ HeadOk s ∧ FramesOk p s.frames := by
  unfold stateFault at h
  by_cases h1 : proven p = 0
  · rw [if_neg (by simpa using h1)] at h
    by_cases h2 : HeadOk s ∧ FramesOk p s.frames
    · exact ⟨h1, h2.1, h2.2⟩
    · rw [if_neg h2] at h; cases h
  · rw [if_pos h1] at h; exact absurd h h1
noncomputable def nextAns (p : Prg) (s : Sta) : Sta × Int := if stateFault p s ≠ 0 then (zeroS, stateFault p s) else if s.status ≠ 0 then (s, 0) else (nextS p s, 0)
theorem frames_run {s : Sta} (h : HeadOk s) (hs : s.status = 0) : ∃ fs f, s.frames = fs ++ [f] := frames_last (fun e => by
  have := h.done.1 (by rw [e]; rfl)
  omega)
/-- What nextOf may be. -/
theorem nextOf_ind {p : Prg} {s : Sta} {fs : List Frm} {f : Frm} {P : Sta → Prop}
    (h0 : s.fuel = 0 → P { s with status := 2 })
    (h1 : s.fuel ≠ 0 → pureB (insAt p f).op (f.rg (insAt p f).b.toNat) = true → P { s with frames := fs ++ [putF f (insAt p f).dst (pureV (insAt p f).op (f.rg (insAt p f).a.toNat) (f.rg (insAt p f).b.toNat) (insAt p f).imm)], fuel := s.fuel - 1 })
    (h2 : s.fuel ≠ 0 → pureB (insAt p f).op (f.rg (insAt p f).b.toNat) ≠ true → (insAt p f).op = 5 → P { s with status := 3 })
    (h3 : s.fuel ≠ 0 → pureB (insAt p f).op (f.rg (insAt p f).b.toNat) ≠ true → (insAt p f).op ≠ 5 → ((insAt p f).op = 13 ∨ (insAt p f).op = 14) → P { s with status := 4 })
    (h4 : s.fuel ≠ 0 → (insAt p f).op = 13 → P { s with frames := fs ++ [putF f (insAt p f).dst (s.mm (f.rg (insAt p f).a.toNat).toNat)], fuel := s.fuel - 1 })
    (h5 : s.fuel ≠ 0 → (insAt p f).op = 14 → P { s with frames := fs ++ [goF f (f.pc + 1)], memory := s.memory.setIfInBounds (f.rg (insAt p f).a.toNat).toNat (f.rg (insAt p f).b.toNat), fuel := s.fuel - 1 })
    (h6 : s.fuel ≠ 0 → (insAt p f).op = 15 → P { s with frames := fs ++ [goF f (insAt p f).imm], fuel := s.fuel - 1 })
    (h7 : s.fuel ≠ 0 → (insAt p f).op = 16 → P { s with frames := fs ++ [goF f (if f.rg (insAt p f).a.toNat = 0 then f.pc + 1 else (insAt p f).imm)], fuel := s.fuel - 1 })
    (h8 : s.fuel ≠ 0 → (insAt p f).op = 17 → fs.length = 7 → P { s with status := 5, fuel := s.fuel - 1 })
    (h9 : s.fuel ≠ 0 → (insAt p f).op = 17 → fs.length ≠ 7 → P { s with frames := fs ++ [f] ++ [callF (insAt p f).imm (parZ p (insAt p f).imm) (f.rg (insAt p f).a.toNat) (f.rg (insAt p f).b.toNat)], fuel := s.fuel - 1 })
    (h10 : s.fuel ≠ 0 → (insAt p f).op = 18 → P { s with frames := fs ++ [putF f (insAt p f).dst (s.answers.headD 0)], events := s.events ++ [f.rg (insAt p f).a.toNat], answers := s.answers.tail, fuel := s.fuel - 1 })
    (h11 : s.fuel ≠ 0 → pureB (insAt p f).op (f.rg (insAt p f).b.toNat) ≠ true → (insAt p f).op ≠ 5 ∧ (insAt p f).op ≠ 13 ∧ (insAt p f).op ≠ 14 ∧ (insAt p f).op ≠ 15 ∧ (insAt p f).op ≠ 16 ∧ (insAt p f).op ≠ 17 ∧ (insAt p f).op ≠ 18 → fs.getLast? = none → P { s with frames := [], status := 1, value := f.rg (insAt p f).a.toNat, fuel := s.fuel - 1 })
    (h12 : s.fuel ≠ 0 → pureB (insAt p f).op (f.rg (insAt p f).b.toNat) ≠ true → (insAt p f).op ≠ 5 ∧ (insAt p f).op ≠ 13 ∧ (insAt p f).op ≠ 14 ∧ (insAt p f).op ≠ 15 ∧ (insAt p f).op ≠ 16 ∧ (insAt p f).op ≠ 17 ∧ (insAt p f).op ≠ 18 → ∀ g, fs.getLast? = some g → P { s with frames := fs.dropLast ++ [putF g (insAt p g).dst (f.rg (insAt p f).a.toNat)], fuel := s.fuel - 1 }) :
    P (nextOf p s fs f) := by
  unfold nextOf
  by_cases e0 : s.fuel = 0
  · rw [if_pos e0]; exact h0 e0
  rw [if_neg e0]
  by_cases e1 : pureB (insAt p f).op (f.rg (insAt p f).b.toNat) = true
  · rw [if_pos e1]; exact h1 e0 e1
  rw [if_neg e1]
  by_cases e2 : (insAt p f).op = 5
  · rw [if_pos e2]; exact h2 e0 e1 e2
  rw [if_neg e2]
  by_cases e3 : ((insAt p f).op = 13 ∨ (insAt p f).op = 14) ∧ (f.rg (insAt p f).a.toNat < 0 ∨ 15 < f.rg (insAt p f).a.toNat)
  · rw [if_pos e3]; exact h3 e0 e1 e2 e3.1
  rw [if_neg e3]
  by_cases e4 : (insAt p f).op = 13
  · rw [if_pos e4]; exact h4 e0 e4
  rw [if_neg e4]
  by_cases e5 : (insAt p f).op = 14
  · rw [if_pos e5]; exact h5 e0 e5
  rw [if_neg e5]
  by_cases e6 : (insAt p f).op = 15
  · rw [if_pos e6]; exact h6 e0 e6
  rw [if_neg e6]
  by_cases e7 : (insAt p f).op = 16
  · rw [if_pos e7]; exact h7 e0 e7
  rw [if_neg e7]
  by_cases e8 : (insAt p f).op = 17
  · rw [if_pos e8]
    by_cases e9 : fs.length = 7
    · rw [if_pos e9]; exact h8 e0 e8 e9
    · rw [if_neg e9]; exact h9 e0 e8 e9
  rw [if_neg e8]
  by_cases e10 : (insAt p f).op = 18
  · rw [if_pos e10]; exact h10 e0 e10
  rw [if_neg e10]
  cases hl : fs.getLast? with
  | none => exact h11 e0 e1 ⟨e2, e4, e5, e6, e7, e8, e10⟩ hl
  | some g => exact h12 e0 e1 ⟨e2, e4, e5, e6, e7, e8, e10⟩ g hl
end Go.Proofs.YtigbdlcjnnphbaaDoor
namespace Go.Proofs.YtigbdlcjnnphbaaDoor
open Go.RowKit Plain64
/-- Is a register kept? -/
def keepB (z : Int) (r : Nat) : Bool := decide (0 ≤ z) && bitZ z r
/-- The first k registers are tidied. -/
def keepK (z : Int) (f : Frm) : Nat → Frm
  | 0 => f
  | k + 1 => if keepB z k then keepK z f k else ⟨(keepK z f k).fn, (keepK z f k).pc, (keepK z f k).regs.setIfInBounds k 0⟩
theorem keepK_rest (z : Int) (f : Frm) (k : Nat) : (keepK z f k).fn = f.fn ∧ (keepK z f k).pc = f.pc := by
  induction k with
  | zero => exact ⟨rfl, rfl⟩
  | succ k ih => rw [keepK]; split <;> exact ih
theorem keepK_yes {z : Int} {f : Frm} {k : Nat} (h : keepB z k = true) : keepK z f (k + 1) = keepK z f k := by rw [keepK, if_pos h]
theorem keepK_no {z : Int} {f : Frm} {k : Nat} (h : keepB z k = false) : keepK z f (k + 1) = ⟨(keepK z f k).fn, (keepK z f k).pc, (keepK z f k).regs.setIfInBounds k 0⟩ := by rw [keepK, if_neg (by simp [h])]
noncomputable def liveZ (p : Prg) (f : Frm) : Int := (liveAns p f.fn).1.getD f.pc.toNat 0
noncomputable def tidyF (p : Prg) (f : Frm) : Frm := keepK (liveZ p f) f 12
noncomputable def tidyS (p : Prg) (s : Sta) : Sta := { s with frames := s.frames.map (tidyF p) }
noncomputable def tidyAns (p : Prg) (s : Sta) : Sta × Int := if stateFault p s ≠ 0 then (zeroS, stateFault p s) else (tidyS p s, 0)
theorem tidy_bad {p : Prg} {s : Sta} (h : stateFault p s ≠ 0) : tidyAns p s = (zeroS, stateFault p s) := by unfold tidyAns; rw [if_pos h]
theorem tidy_ok {p : Prg} {s : Sta} (h : stateFault p s = 0) : tidyAns p s = (tidyS p s, 0) := by unfold tidyAns; rw [if_neg (by simpa using h)]
theorem own_live {p : Prg} (hp : proven p = 0) {f : Frm} (h : ownF p f) : ∃ j : Nat, f.pc = j ∧ j < (liveAns p f.fn).1.length ∧ -1 ≤ (liveAns p f.fn).1.getD j 0 ∧ (liveAns p f.fn).1.getD j 0 ≤ 4095 := by
  obtain ⟨h1, h2, h3, h4⟩ := h
  obtain ⟨k, hk⟩ := Int.eq_ofNat_of_zero_le h1
  obtain ⟨j, hj⟩ := Int.eq_ofNat_of_zero_le h3
  have hkl : k < p.funcs.length := by omega
  have hf := List.getElem?_eq_getElem hkl
  rw [hk] at h4 ⊢
  rw [codeOf_eq hf, hj] at h4
  have e : (liveAns p (k : Int)).1 = liveL p p.funcs[k] := by
    unfold liveAns
    rw [if_neg (by simpa using hp), if_neg (by omega), Int.toNat_natCast, hf]
  have hjl : j < p.funcs[k].code.length := by omega
  refine ⟨j, hj, by rw [e, liveL_len]; exact hjl, ?_⟩
  rw [e]
  unfold liveL
  rw [List.getD_eq_getElem?_getD, List.getElem?_map, List.getElem?_range hjl]
  show -1 ≤ liveUpto p p.funcs[k] 12 j ∧ liveUpto p p.funcs[k] 12 j ≤ 4095
  unfold liveUpto
  split
  · have := mskZ_range (fun r => liveB p p.funcs[k] r j) 12; omega
  · omega
/-- A register of a frame among others. -/
theorem mid_set {fs : List Frm} {f : Frm} {R : List Value} {q d k : Nat} (hq : fs.length = q) (hd : d < 12) (hk : k = q * 14 + (2 + d)) (v : Int) : (fs.flatMap frmCells ++ (frmCells f ++ R)).set k (iV v) = fs.flatMap frmCells ++ (frmCells ⟨f.fn, f.pc, f.regs.setIfInBounds d v⟩ ++ R) := by
  subst hk hq
  rw [frms_set, List.set_append_left _ _ (by show _ < 14; omega), frm_set _ _ hd]
theorem mid_lt {fs : List Frm} {f : Frm} {R : List Value} {q k : Nat} (hq : fs.length = q) (hk : k < q * 14 + 14) : k < (fs.flatMap frmCells ++ (frmCells f ++ R)).length := by
  rw [List.length_append, frms_len, hq, List.length_append, show (frmCells f).length = 14 from rfl]; omega
theorem mid_at {fs : List Frm} {f : Frm} {R : List Value} {q j k : Nat} (hq : fs.length = q) (hj : j < 14) (hk : k = q * 14 + j) : (fs.flatMap frmCells ++ (frmCells f ++ R))[k]? = (frmCells f)[j]? := by
  subst hk hq; rw [frms_at, List.getElem?_append_left (by show _ < 14; omega)]
/-- The frames of a state on the way: the first ones are tidied. -/
theorem frms_step {p : Prg} {l : List Frm} {i : Nat} (h : i < l.length) : ((l.take i).map (tidyF p) ++ l.drop i) = (l.take i).map (tidyF p) ++ l[i] :: l.drop (i + 1) := by rw [List.drop_eq_getElem_cons h]
theorem frms_next {p : Prg} {l : List Frm} {i : Nat} (h : i < l.length) : (l.take (i + 1)).map (tidyF p) ++ l.drop (i + 1) = (l.take i).map (tidyF p) ++ tidyF p l[i] :: l.drop (i + 1) := by
  rw [List.take_add_one, List.getElem?_eq_getElem h, List.map_append, List.append_assoc]; rfl
end Go.Proofs.YtigbdlcjnnphbaaDoor
namespace Go.Proofs.YtigbdlcjnnphbaaDoor
open Go.RowKit Plain64
attribute [local irreducible] wpList Code.wp Oper.wp
/-- P3.4. -/
def readsAns (p : Prg) (fn pc : Int) : Int × Int × Int :=
  if prgFault p ≠ 0 then (0, 0, prgFault p) else
  match p.funcs[fn.toNat]? with
  | none => (0, 0, 2)
  | some f => match f.code[pc.toNat]? with
    | none => (0, 0, 2)
    | some x => if fn < 0 ∨ pc < 0 then (0, 0, 2) else (bitsL (readsL p x), if setsZ x.op then 2 ^ x.dst.toNat else 0, 0)
theorem sets_ok (op : Int) (h : 1 ≤ op) : (decide (op ≤ 13) || decide (op = 17) || decide (op = 18)) = setsZ op := by
  unfold setsZ; rw [Bool.eq_iff_iff]; simp; omega
theorem and_all_nat : ∀ d : Fin 12, bits .and .i64 (2 ^ d.1) 4095 = 2 ^ d.1 := by decide +kernel
theorem and_all (d : Int) (h : 0 ≤ d ∧ d ≤ 11) : bits .and .i64 (2 ^ d.toNat) 4095 = 2 ^ d.toNat := and_all_nat ⟨d.toNat, by omega⟩
theorem and_all0 : bits .and .i64 0 4095 = 0 := by decide +kernel
theorem rep_code {f : List Ins} {u : Value} {w : World} {S : Nat → Prop} (h : Lay.rep w S f [u]) : ∃ (A : Option Addr) (c : Nat), u = .slice A f.length c ∧ f.length ≤ c ∧ c ≤ maxLen ∧
    ∀ (k : Nat) (hk : k < f.length), ∃ (a : Addr), A = some a ∧ S a.block ∧ At w (a.add (k * 5)) [.int .i64 f[k].op, .int .i64 f[k].dst, .int .i64 f[k].a, .int .i64 f[k].b, .int .i64 f[k].imm] := rep_code_at h
end Go.Proofs.YtigbdlcjnnphbaaDoor
namespace Go.Proofs.YtigbdlcjnnphbaaDoor
open Go.RowKit Plain64
attribute [local irreducible] wpList Code.wp Oper.wp
theorem bit_pow_nat : ∀ a b : Fin 12, bitZ (2 ^ a.1) b.1 = decide ((a.1 : Int) = b.1) := by decide +kernel
theorem readsL_len (p : Prg) (x : Ins) : (readsL p x).length ≤ 2 := by
  unfold readsL; split <;> split <;> simp
theorem readsL_in (p : Prg) (x : Ins) {len funcs : Nat} (h : OkI x len funcs) : ∀ a ∈ readsL p x, 0 ≤ a ∧ a ≤ 11 := by
  unfold readsL
  intro a ha
  rcases List.mem_append.1 ha with ha | ha
  · split at ha
    · rw [List.mem_singleton.1 ha]; exact h.a
    · cases ha
  · split at ha
    · rw [List.mem_singleton.1 ha]; exact h.b
    · cases ha
theorem bits_step (l : List Int) (hl : l.length ≤ 2) (hb : ∀ a ∈ l, 0 ≤ a ∧ a ≤ 11) (k : Nat) (hk : k < l.length) :
    bitsL (l.take (k + 1)) = (if bitZ (bitsL (l.take k)) l[k].toNat then bitsL (l.take k) else bitsL (l.take k) + 2 ^ l[k].toNat) ∧ 0 ≤ bitsL (l.take k) ∧ bitsL (l.take k) ≤ 4095 ∧ 0 ≤ bitsL (l.take (k + 1)) ∧ bitsL (l.take (k + 1)) ≤ 4095 := by
  match l, hl, hk with
  | [a], _, hk =>
    obtain rfl : k = 0 := by simpa using hk
    have := pow_small a (hb a (by simp))
    simp [bitsL, bitZ]; omega
  | [a, b], _, hk =>
    have h1 := pow_small a (hb a (by simp))
    have h2 := pow_small b (hb b (by simp))
    have h3 : 0 ≤ bitsL [a, b] ∧ bitsL [a, b] ≤ 4095 := by
      show 0 ≤ (if a = b then _ else _) ∧ (if a = b then _ else _) ≤ _
      by_cases e : a = b
      · rw [if_pos e]; omega
      · rw [if_neg e]
        have : (2 : Int) ^ a.toNat + 2 ^ b.toNat ≤ 4095 := by
          have hn : ∀ a b : Fin 12, a ≠ b → (2 : Int) ^ a.1 + 2 ^ b.1 ≤ 4095 := by decide +kernel
          have ha := hb a (by simp)
          have hb' := hb b (by simp)
          exact hn ⟨a.toNat, by omega⟩ ⟨b.toNat, by omega⟩ (fun h => e (by have := congrArg Fin.val h; simp at this; omega))
        omega
    have hk2 : k = 0 ∨ k = 1 := by simp at hk; omega
    rcases hk2 with rfl | rfl
    · refine ⟨by simp [bitsL, bitZ], by simp [bitsL], by simp [bitsL], by simp [bitsL]; omega, by simp [bitsL]; omega⟩
    · have ha := hb a (by simp)
      have hb' := hb b (by simp)
      have := bit_pow_nat ⟨a.toNat, by omega⟩ ⟨b.toNat, by omega⟩
      simp only at this
      refine ⟨?_, by simp [bitsL]; omega, by simp [bitsL]; omega, h3⟩
      show (if a = b then _ else _) = if bitZ (2 ^ a.toNat) b.toNat then _ else _
      rw [this]
      by_cases e : a = b
      · rw [if_pos e, if_pos (by simp; omega)]; rfl
      · rw [if_neg e, if_neg (by simp; omega)]; rfl
end Go.Proofs.YtigbdlcjnnphbaaDoor
