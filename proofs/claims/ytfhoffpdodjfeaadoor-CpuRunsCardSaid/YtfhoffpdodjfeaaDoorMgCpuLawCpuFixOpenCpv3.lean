/- What a machine does in a step (P12.2). No program is named here but for the layout of its data. What a machine answers when a step fails. A machine's data that came in. -/
import Derived.Test.YtfhoffpdodjfeaaDoorCpu
import Derived.Test.YtfhoffpdodjfeaaDoorMgValidPureLaw2
import Derived.Test.YtfhoffpdodjfeaaDoorRvDec
import Derived.Test.YtfhoffpdodjfeaaDoorFrame
set_option linter.unusedSimpArgs false
set_option linter.unusedVariables false
namespace Go.Proofs.YtfhoffpdodjfeaaDoor
open Go.RowKit Plain64
def ultZ (a b : Int) : Bool := decide (a % 18446744073709551616 < b % 18446744073709551616)
def flagZ (b : Bool) : Int := if b then 1 else 0
def divZ (a b : Int) : Int := if b = 0 then -1 else wrap64 (a.tdiv b)
def arithZ (op a b : Int) : Int :=
  if op = 1 ∨ op = 12 then wrap64 (a + b) else if op = 2 then wrap64 (a - b) else if op = 3 then wrap64 (a * b)
  else if op = 4 then divZ a b else if op = 5 ∨ op = 13 then bits .and .i64 a b
  else if op = 6 ∨ op = 14 then bits .or .i64 a b else if op = 7 ∨ op = 15 then bits .xor .i64 a b
  else if op = 8 ∨ op = 18 then wrap64 (a * 2 ^ (b % 64).toNat) else if op = 9 ∨ op = 19 then a / 2 ^ (b % 64).toNat
  else if op = 10 ∨ op = 16 then flagZ (decide (a < b)) else flagZ (ultZ a b)
def takenZ (op a b : Int) : Bool := if op = 22 then a == b else if op = 23 then a != b else if op = 24 then decide (a < b) else decide (b ≤ a)
def creg (c : Cpv) (k : Nat) : Int := c.regs.toList.getD k 0
def cdat (c : Cpv) (k : Nat) : Int := c.data.toList.getD k 0
def cputR (c : Cpv) (k : Nat) (n : Int) : Cpv := { c with regs := c.regs.setIfInBounds k n }
def cput (c : Cpv) (k : Nat) (n : Int) : Cpv := if k = 0 then c else cputR c k n
def cset (c : Cpv) (k : Nat) (n : Int) : Cpv := { c with data := c.data.setIfInBounds k n }
def evenZ (n : Int) : Int := n - n % 2
/-- Register, next word, error; a register's and the word's number are small. -/
def doZ (op : Int) (rd r1 r2 : Nat) (imm : Int) (c : Cpv) : Cpv × Int × Int :=
  if op ≤ 11 then (cput c rd (arithZ op (creg c r1) (creg c r2)), c.pc + 1, 0)
  else if op ≤ 19 then (cput c rd (arithZ op (creg c r1) imm), c.pc + 1, 0)
  else if op ≤ 21 then
    (if 0 ≤ wrap64 (creg c r1 + imm) ∧ wrap64 (creg c r1 + imm) < 512 ∧ wrap64 (creg c r1 + imm) % 8 = 0 then
      (if op = 21 then (cset c (wrap64 (creg c r1 + imm) / 8).toNat (creg c r2), c.pc + 1, 0) else (cput c rd (cdat c (wrap64 (creg c r1 + imm) / 8).toNat), c.pc + 1, 0))
    else (c, 0, 2))
  else if op ≤ 25 then (c, if takenZ op (creg c r1) (creg c r2) then c.pc + imm.tdiv 4 else c.pc + 1, 0)
  else if op = 26 then (cput c rd (4 * (c.pc + 1)), c.pc + imm.tdiv 4, 0)
  else if op = 27 then (if evenZ (wrap64 (creg c r1 + imm)) % 4 = 0 then (cput c rd (4 * (c.pc + 1)), evenZ (wrap64 (creg c r1 + imm)) / 4, 0) else (c, 0, 5))
  else if op = 28 then (cput c rd (imm * 4096), c.pc + 1, 0)
  else ({ c with halted := true }, c.pc, 0)
def stepC (ws : List Int) (c : Cpv) : Cpv × Int :=
  if 0 ≤ c.pc ∧ c.pc < ws.length then
    (if (decAns (ws.getD c.pc.toNat 0)).2 = 0 then
      (let x := (decAns (ws.getD c.pc.toNat 0)).1
       let r := doZ x.op x.rd.toNat x.rs1.toNat x.rs2.toNat x.imm c
       if r.2.2 = 0 then ({ r.1 with pc := r.2.1 }, 0) else (c, r.2.2))
    else (c, 3))
  else (c, 8)
/-- The layout. -/
theorem cpu_len (c : Cpv) : (cpuCells c).length = 98 := by simp [cpuCells, cpuL]
theorem cpu_reg (c : Cpv) (k : Nat) (h : k < 32) : (cpuCells c)[k]? = some (.int .i64 (creg c k)) := by
  unfold cpuCells cpuL creg
  rw [List.getElem?_append_left (by simpa using h), List.getElem?_map, List.getElem?_eq_getElem (by simpa using h), List.getD_eq_getElem?_getD, List.getElem?_eq_getElem (by simpa using h)]
  rfl
theorem cpu_pc (c : Cpv) : (cpuCells c)[32]? = some (.int .i64 c.pc) := by have := cpu_at1 c; simpa using this
theorem cpu_hl (c : Cpv) : (cpuCells c)[97]? = some (.bool c.halted) := by have := cpu_at3 c; simpa using this
theorem cpu_dat (c : Cpv) (k : Nat) (h : k < 64) : (cpuCells c)[33 + k]? = some (.int .i64 (cdat c k)) := by
  unfold cpuCells cpuL cdat
  rw [List.getElem?_append_right (by simp; omega), List.length_map, Vector.length_toList, show 33 + k - 32 = k + 1 by omega, List.getElem?_cons_succ, List.getElem?_append_left (by simpa using h), List.getElem?_map, List.getElem?_eq_getElem (by simpa using h), List.getD_eq_getElem?_getD, List.getElem?_eq_getElem (by simpa using h)]
  rfl
theorem vec_set {n : Nat} (v : Vector Int n) (k : Nat) (x : Int) : (v.setIfInBounds k x).toList = v.toList.set k x := by
  rw [← Vector.toList_toArray, ← Vector.toList_toArray, Vector.toArray_setIfInBounds, Array.toList_setIfInBounds]
theorem cpu_setr (c : Cpv) (k : Nat) (h : k < 32) (n : Int) : (cpuCells c).set k (.int .i64 n) = cpuCells (cputR c k n) := by
  unfold cpuCells cpuL cputR
  rw [List.set_append_left _ _ (by simpa using h), vec_set, List.map_set]
theorem cpu_setd (c : Cpv) (k : Nat) (h : k < 64) (n : Int) : (cpuCells c).set (33 + k) (.int .i64 n) = cpuCells (cset c k n) := by
  unfold cpuCells cpuL cset
  rw [List.set_append_right _ _ (by simp; omega), List.length_map, Vector.length_toList, show 33 + k - 32 = k + 1 by omega, List.set_cons_succ, List.set_append_left _ _ (by simpa using h), vec_set, List.map_set]
theorem cpu_setpc (c : Cpv) (n : Int) : (cpuCells c).set 32 (.int .i64 n) = cpuCells { c with pc := n } := by
  unfold cpuCells cpuL
  rw [List.set_append_right _ _ (by simp), List.length_map, Vector.length_toList]
  rfl
theorem cpu_seth (c : Cpv) (b : Bool) : (cpuCells c).set 97 (.bool b) = cpuCells { c with halted := b } := by
  unfold cpuCells cpuL
  rw [List.set_append_right _ _ (by simp), List.length_map, Vector.length_toList, show 97 - 32 = 64 + 1 from rfl, List.set_cons_succ, List.set_append_right _ _ (by simp), List.length_map, Vector.length_toList]
  rfl
/-- Numbers stay within bounds. -/
structure CpuOk (c : Cpv) : Prop where
  regs : ∀ k, I64 (creg c k)
  data : ∀ k, I64 (cdat c k)
theorem getD_set (l : List Int) (k j : Nat) (n : Int) : (l.set k n).getD j 0 = l.getD j 0 ∨ (l.set k n).getD j 0 = n := by
  rw [List.getD_eq_getElem?_getD, List.getD_eq_getElem?_getD, List.getElem?_set]
  by_cases h : k = j
  · subst h
    by_cases h2 : k < l.length
    · rw [if_pos rfl, if_pos h2]; right; rfl
    · rw [if_pos rfl, if_neg h2, List.getElem?_eq_none (by omega)]; left; rfl
  · rw [if_neg h]; left; rfl
theorem CpuOk.putR {c : Cpv} (h : CpuOk c) (k : Nat) {n : Int} (hn : I64 n) : CpuOk (cputR c k n) :=
  ⟨fun j => by
    have := getD_set c.regs.toList k j n
    unfold creg cputR; rw [vec_set]
    rcases this with e | e <;> rw [e]
    · exact h.regs j
    · exact hn, h.data⟩
theorem CpuOk.put {c : Cpv} (h : CpuOk c) (k : Nat) {n : Int} (hn : I64 n) : CpuOk (cput c k n) := by
  unfold cput; split
  · exact h
  · exact h.putR k hn
theorem CpuOk.set {c : Cpv} (h : CpuOk c) (k : Nat) {n : Int} (hn : I64 n) : CpuOk (cset c k n) :=
  ⟨h.regs, fun j => by
    have := getD_set c.data.toList k j n
    unfold cdat cset; rw [vec_set]
    rcases this with e | e <;> rw [e]
    · exact h.data j
    · exact hn⟩
theorem i64c_wrap (n : Int) : I64 (wrap64 n) := by unfold I64 wrap64; omega
theorem i64c_toInt (x : BitVec 64) : I64 x.toInt := by rw [← wrap64_toNat]; exact i64c_wrap _
theorem i64c_flag (b : Bool) : I64 (flagZ b) := by cases b <;> exact ⟨by decide, by decide⟩
theorem arithZ_i64 (op a b : Int) (ha : I64 a) : I64 (arithZ op a b) := by
  unfold arithZ
  split
  · exact i64c_wrap _
  split
  · exact i64c_wrap _
  split
  · exact i64c_wrap _
  split
  · unfold divZ; split
    · exact ⟨by decide, by decide⟩
    · exact i64c_wrap _
  split
  · rw [bits_and]; exact i64c_toInt _
  split
  · rw [bits_or]; exact i64c_toInt _
  split
  · rw [bits_xor]; exact i64c_toInt _
  split
  · exact i64c_wrap _
  split
  · rw [sar_eq a ha]; exact i64c_toInt _
  split
  · exact i64c_flag _
  · exact i64c_flag _
/-- What is decoded. -/
structure DecOk (x : Rvi) : Prop where
  op : 1 ≤ x.op ∧ x.op ≤ 29
  rd : 0 ≤ x.rd ∧ x.rd < 32
  r1 : 0 ≤ x.rs1 ∧ x.rs1 < 32
  r2 : 0 ≤ x.rs2 ∧ x.rs2 < 32
  imm : -1048576 ≤ x.imm ∧ x.imm ≤ 1048575
  no : (x.op = 21 ∨ (22 ≤ x.op ∧ x.op ≤ 25) ∨ x.op = 29) → x.rd = 0
theorem immZ_small {s : Nat} {n : Int} (hs : s < 8) (h : immZ s n = true) : -1048576 ≤ n ∧ n ≤ 1048575 := by
  unfold immZ at h
  simp only [Bool.and_eq_true, decide_eq_true_eq] at h
  obtain ⟨⟨h1, h2⟩, -⟩ := h
  have h8 : s = 0 ∨ s = 1 ∨ s = 2 ∨ s = 3 ∨ s = 4 ∨ s = 5 ∨ s = 6 ∨ s = 7 := by omega
  rcases h8 with rfl | rfl | rfl | rfl | rfl | rfl | rfl | rfl <;> simp [lowZ, highZ] at h1 h2 <;> omega
theorem rd_zero {n : Int} (h : regZ n false = true) : n = 0 := by
  unfold regZ at h; simp at h; omega
theorem dec_ok {w : Int} (h : (decAns w).2 = 0) : DecOk (decAns w).1 := by
  unfold decAns at *
  by_cases hw : w < 0 ∨ 4294967296 ≤ w
  · rw [if_pos hw] at h; simp at h
  · rw [if_neg hw] at *
    cases hq : (List.range 30).find? (hitB w) with
    | none => rw [hq] at h; simp at h
    | some k =>
      rw [List.find?_range_eq_some] at hq
      have hh := hq.1
      unfold hitB at hh
      simp only [Bool.and_eq_true, decide_eq_true_eq] at hh
      obtain ⟨o, a, b, c, d⟩ := rvFault_zero hh.2.1
      show DecOk (candZ k w)
      have e : (candZ k w).op = (k : Int) := rfl
      refine ⟨o, ?_, ?_, ?_, immZ_small (shapeZ_lt _) d, fun hno => ?_⟩
      · have := regZ_range a; exact ⟨this.1, this.2.1⟩
      · have := regZ_range b; exact ⟨this.1, this.2.1⟩
      · have := regZ_range c; exact ⟨this.1, this.2.1⟩
      · rw [e] at *
        have hk : k = 21 ∨ k = 22 ∨ k = 23 ∨ k = 24 ∨ k = 25 ∨ k = 29 := by omega
        refine (regZ_range a).2.2 ?_
        show fieldB (shapeZ (k : Int)) 0 = false
        clear a b c d hno o hh hq hw h e
        rcases hk with rfl | rfl | rfl | rfl | rfl | rfl <;> decide +kernel
theorem doZ_ok {x : Rvi} (hx : DecOk x) {c : Cpv} (h : CpuOk c) (hpc : 0 ≤ c.pc ∧ c.pc < 32768) : CpuOk (doZ x.op x.rd.toNat x.rs1.toNat x.rs2.toNat x.imm c).1 := by
  have him := hx.imm
  unfold doZ
  split
  · exact h.put _ (arithZ_i64 _ _ _ (h.regs _))
  split
  · exact h.put _ (arithZ_i64 _ _ _ (h.regs _))
  split
  · split
    · split
      · exact h.set _ (h.regs _)
      · exact h.put _ (h.data _)
    · exact h
  split
  · exact h
  split
  · exact h.put _ (by unfold I64; omega)
  split
  · split
    · exact h.put _ (by unfold I64; omega)
    · exact h
  split
  · exact h.put _ (by unfold I64; omega)
  · exact ⟨h.regs, h.data⟩
theorem stepC_ok {ws : List Int} {c : Cpv} (h : CpuOk c) (hl : ws.length ≤ 32768) : CpuOk (stepC ws c).1 := by
  unfold stepC
  by_cases hp : 0 ≤ c.pc ∧ c.pc < ws.length
  · rw [if_pos hp]
    by_cases hd : (decAns (ws.getD c.pc.toNat 0)).2 = 0
    · rw [if_pos hd]
      have := doZ_ok (dec_ok hd) h ⟨hp.1, by omega⟩
      dsimp only
      split
      · exact ⟨this.regs, this.data⟩
      · exact h
    · rw [if_neg hd]; exact h
  · rw [if_neg hp]; exact h
/-- One out of reach. -/
theorem andNot1 (n : Int) (h : I64 n) : bits .andNot .i64 n 1 = evenZ n := by
  have e1 : bits .andNot .i64 n 1 = (BitVec.ofInt 64 n &&& ~~~ (BitVec.ofInt 64 1)).toInt := by
    show IntKind.i64.wrap _ = _
    rw [IntWalk.i64_left]; exact wrap64_toNat _
  rw [e1]
  have e2 : (BitVec.ofInt 64 n &&& ~~~ (BitVec.ofInt 64 1)) = BitVec.ofInt 64 n - (BitVec.ofInt 64 n &&& BitVec.ofInt 64 1) := by
    generalize BitVec.ofInt 64 n = x
    rw [show BitVec.ofInt 64 1 = 1#64 from rfl]
    have h1 : (x &&& ~~~ (1#64)) + (x &&& 1#64) = x := by
      have := BitVec.add_eq_or_of_and_eq_zero (x &&& ~~~ (1#64)) (x &&& 1#64) (by
        ext i hi; simp only [BitVec.getElem_and, BitVec.getElem_not, BitVec.getElem_zero]; cases x[i] <;> cases (1#64)[i] <;> rfl)
      rw [this]
      ext i hi
      simp only [BitVec.getElem_and, BitVec.getElem_not, BitVec.getElem_or]; cases x[i] <;> cases (1#64)[i] <;> rfl
    exact (BitVec.eq_sub_iff_add_eq.2 h1)
  rw [e2]
  have e3 := and1 n
  rw [bits_and] at e3
  rw [BitVec.toInt_sub, e3, ofInt_toInt n h, ← wrap64_bmod]
  unfold I64 at h
  unfold evenZ
  exact IntWalk.wrap64_in _ (by omega)
end Go.Proofs.YtfhoffpdodjfeaaDoor
namespace Go.Proofs.YtfhoffpdodjfeaaDoor
open Go.RowKit Plain64
theorem cpu_one (c : Cpv) : ∀ v ∈ cpuCells c, v.oneCell' = true := by
  intro v hv
  simp only [cpuCells, cpuL, List.mem_append, List.mem_map, List.mem_cons, List.not_mem_nil, or_false] at hv
  rcases hv with ⟨n, -, rfl⟩ | rfl | ⟨n, -, rfl⟩ | rfl <;> rfl
def nilC : Cpv := ⟨Vector.replicate 32 0, 0, Vector.replicate 64 0, false⟩
def nilL : List Value := cpuL (List.replicate 32 0) 0 (List.replicate 64 0) false
theorem nilC_cells : cpuCells nilC = nilL := by simp [cpuCells, nilC, nilL]
theorem nilL_len : nilL.length = 98 := by rw [← nilC_cells]; exact cpu_len _
theorem nilL_one : ∀ v ∈ nilL, v.oneCell' = true := by rw [← nilC_cells]; exact cpu_one _
def fixZ (r : Cpv × Int) : Cpv × Int := if r.2 = 0 then r else (nilC, r.2)
theorem fix_ok (c : Cpv) : fixZ (c, 0) = (c, 0) := rfl
theorem fix_err (c : Cpv) {e : Int} (h : e ≠ 0) : fixZ (c, e) = (nilC, e) := by unfold fixZ; rw [if_neg h]
theorem cput_pcs (c : Cpv) (k : Nat) (n p : Int) : { cput c k n with pc := p } = cput { c with pc := p } k n := by unfold cput; split <;> rfl
/-- cpu.Step: P12.3. -/
def stepAns (ws : List Int) (c : Cpv) : Cpv × Int := if 32768 < ws.length then (nilC, 1) else if (cputR c 0 0).halted = true then (cputR c 0 0, 0) else fixZ (stepC ws (cputR c 0 0))
end Go.Proofs.YtfhoffpdodjfeaaDoor
namespace Go.Proofs.YtfhoffpdodjfeaaDoor
open Go.RowKit Go.WideShapes Go.ChangeShapes
theorem opensCpv : Opens Tryd.prog 44 Cpv :=
  opens_via _ (fun y => ⟨y.1, y.2.1, y.2.2.1, y.2.2.2⟩) (fun _ => rfl) (opens_struct Tryd.underlying44 (by kernel_rfl) (by decide)
    (fields_cons rfl (by kernel_rfl) (opens_vec (α := Int) Tryd.underlying41 (by kernel_rfl) (by kernel_rfl) opensInt) (fields_cons rfl (by kernel_rfl) opensInt (fields_cons rfl (by kernel_rfl) (opens_vec (α := Int) Tryd.underlying42 (by kernel_rfl) (by kernel_rfl) opensInt) (fields_one rfl (by kernel_rfl) (opens_bool Tryd.underlying4))))))
theorem ok_ints {xs : List Int} (h : Lay.ok xs) : xs.length ≤ 17592186044000 ∧ ∀ n ∈ xs, I64 n := by
  have e1 := h.1
  have b1 : Lay.bytes Int = 8 := rfl
  simp only [b1] at e1
  exact ⟨by omega, fun n hn => h.2 n hn⟩
theorem vec_i64 {n : Nat} {v : Vector Int n} (h : ∀ i (h : i < n), I64 v[i]) (k : Nat) : I64 (v.toList.getD k 0) := by
  rw [List.getD_eq_getElem?_getD]
  by_cases hk : k < n
  · rw [List.getElem?_eq_getElem (by simpa using hk)]
    simpa using h k hk
  · rw [List.getElem?_eq_none (by simpa using hk)]
    exact ⟨by decide, by decide⟩
theorem ok_cpv {c : Cpv} (h : Lay.ok c) : CpuOk c := by
  obtain ⟨h1, _, h2, _⟩ := h
  exact ⟨vec_i64 h1, vec_i64 h2⟩
section
variable {H : Type} {enc : TypeId × Value → H} {P : Program}
theorem open_cpv0 {t : TypeId} {fs : Array Field} (hu : P.underlying t = some (.struct fs)) (hf : Opens P t Cpv)
    {W : World} {v : Value} {d : DataW H} {p : List MemPlace} {r : Reach} {b : Nat} (hv : Value.okWide P W r b t v) (h : DataW.Trod enc P W 0 (fun _ => true) true t v d p) (hw : ∀ m, m ∈ d.weights P t → m ≤ reachBytes) :
    ∃ (c : Cpv), v = .agg (cpuCells c).toArray ∧ Lay.ok c := by
  obtain ⟨cs, rfl, hsz⟩ := okWide_struct hu hv
  obtain ⟨s, h1, h2⟩ := open_arg hf h hw
  have hcs := rep_cpv.1 h1
  obtain ⟨l⟩ := cs
  simp only [Value.cells] at hcs
  subst hcs
  exact ⟨s, rfl, h2⟩
end
end Go.Proofs.YtfhoffpdodjfeaaDoor
