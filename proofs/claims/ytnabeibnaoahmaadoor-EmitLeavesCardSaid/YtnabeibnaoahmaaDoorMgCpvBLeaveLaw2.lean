/- A machine's data that came in (for seats without the decoder: XOpenCpv's twin). P13.4: the state behind machine code. No program is named here but for the layout of its data. -/
import Derived.Test.YtnabeibnaoahmaaDoorMgCpuEntLaw2
import Derived.Test.YtnabeibnaoahmaaDoorMgFrameHas2
import Derived.Test.YtnabeibnaoahmaaDoorMgLiveLawWrapS2
import Derived.Test.YtnabeibnaoahmaaDoorMgReadsOfStateNextLaw3
set_option linter.unusedSimpArgs false
set_option linter.unusedVariables false
namespace Go.Proofs.YtnabeibnaoahmaaDoor
open Go.RowKit Go.WideShapes Go.ChangeShapes
def cdat (c : Cpv) (k : Nat) : Int := c.data.toList.getD k 0
theorem cpu_len (c : Cpv) : (cpuCells c).length = 98 := by simp [cpuCells, cpuL]
theorem cpu_dat (c : Cpv) (k : Nat) (h : k < 64) : (cpuCells c)[33 + k]? = some (.int .i64 (cdat c k)) := by
  unfold cpuCells cpuL cdat
  rw [List.getElem?_append_right (by simp; omega), List.length_map, Vector.length_toList, show 33 + k - 32 = k + 1 by omega, List.getElem?_cons_succ, List.getElem?_append_left (by simpa using h), List.getElem?_map, List.getElem?_eq_getElem (by simpa using h), List.getD_eq_getElem?_getD, List.getElem?_eq_getElem (by simpa using h)]
  rfl
theorem opensCpv : Opens Tryd.prog 44 Cpv :=
  opens_via _ (fun y => ⟨y.1, y.2.1, y.2.2.1, y.2.2.2⟩) (fun _ => rfl) (opens_struct Tryd.underlying44 (by kernel_rfl) (by decide)
    (fields_cons rfl (by kernel_rfl) (opens_vec (α := Int) Tryd.underlying41 (by kernel_rfl) (by kernel_rfl) opensInt) (fields_cons rfl (by kernel_rfl) opensInt (fields_cons rfl (by kernel_rfl) (opens_vec (α := Int) Tryd.underlying42 (by kernel_rfl) (by kernel_rfl) opensInt) (fields_one rfl (by kernel_rfl) (opens_bool Tryd.underlying4))))))
theorem ok_ints {xs : List Int} (h : Lay.ok xs) : xs.length ≤ 17592186044000 ∧ ∀ n ∈ xs, I64 n := by
  have e1 := h.1
  have b1 : Lay.bytes Int = 8 := rfl
  simp only [b1] at e1
  exact ⟨by omega, fun n hn => h.2 n hn⟩
theorem vec_i64 {n : Nat} {v : Vector Int n} (h : ∀ i (h : i < n), I64 v[i]) (k : Nat) : I64 (v.toList.getD k 0) := by
  rw [List.getD_eq_getElem?_getD]
  by_cases hk : k < n
  · rw [List.getElem?_eq_getElem (by simpa using hk)]
    simpa using h k hk
  · rw [List.getElem?_eq_none (by simpa using hk)]
    exact ⟨by decide, by decide⟩
theorem ok_cdat {c : Cpv} (h : Lay.ok c) (k : Nat) : I64 (cdat c k) := by
  obtain ⟨_, _, h2, _⟩ := h
  exact vec_i64 h2 k
section
variable {H : Type} {enc : TypeId × Value → H} {P : Program}
theorem open_cpv0 {t : TypeId} {fs : Array Field} (hu : P.underlying t = some (.struct fs)) (hf : Opens P t Cpv)
    {W : World} {v : Value} {d : DataW H} {p : List MemPlace} {r : Reach} {b : Nat} (hv : Value.okWide P W r b t v) (h : DataW.Trod enc P W 0 (fun _ => true) true t v d p) (hw : ∀ m, m ∈ d.weights P t → m ≤ reachBytes) :
    ∃ (c : Cpv), v = .agg (cpuCells c).toArray ∧ Lay.ok c := by
  obtain ⟨cs, rfl, hsz⟩ := okWide_struct hu hv
  obtain ⟨s, h1, h2⟩ := open_arg hf h hw
  have hcs := rep_cpv.1 h1
  obtain ⟨l⟩ := cs
  simp only [Value.cells] at hcs
  subst hcs
  exact ⟨s, rfl, h2⟩
end
end Go.Proofs.YtnabeibnaoahmaaDoor
namespace Go.Proofs.YtnabeibnaoahmaaDoor
open Go.RowKit Plain64
/-- The first k words of memory are the machine's. -/
def memK (s : Sta) (c : Cpv) : Nat → Sta
  | 0 => s
  | k + 1 => { memK s c k with memory := (memK s c k).memory.setIfInBounds k (cdat c k) }
/-- The first k registers are the machine's, as far as they are live. -/
def regK (f : Frm) (c : Cpv) (b : Int) : Nat → Frm
  | 0 => f
  | k + 1 => ⟨(regK f c b k).fn, (regK f c b k).pc, if bitZ b k then ((regK f c b k).regs.setIfInBounds k 0).setIfInBounds k (cdat c (16 + k)) else (regK f c b k).regs.setIfInBounds k 0⟩
def leaveF (f : Frm) (c : Cpv) (b : Int) : Frm := regK ⟨f.fn, cdat c 29, f.regs⟩ c b 12
def leaveS (s : Sta) (fs : List Frm) (f : Frm) (c : Cpv) (b : Int) : Sta := { memK { s with fuel := cdat c 28 } c 16 with frames := fs ++ [leaveF f c b] }
def leaveOk (s : Sta) (c : Cpv) (l : List Int) : Prop := 0 ≤ cdat c 29 ∧ cdat c 29 < l.length ∧ 0 ≤ l.getD (cdat c 29).toNat 0 ∧ 0 ≤ cdat c 28 ∧ cdat c 28 ≤ s.fuel
def noS : Sta := ⟨0, 0, [], #v[0, 0, 0, 0, 0, 0, 0, 0, 0, 0, 0, 0, 0, 0, 0, 0], 0, [], []⟩
open Classical in
noncomputable def leaveAns (p : Prg) (s : Sta) (c : Cpv) : Sta × Int :=
  if runFault p s ≠ 0 then (noS, runFault p s)
  else if leaveOk s c (liveAns p (lastF s).fn).1 then (leaveS s s.frames.dropLast (lastF s) c ((liveAns p (lastF s).fn).1.getD (cdat c 29).toNat 0), 0) else (noS, 5)
theorem memK_rest (s : Sta) (c : Cpv) (k : Nat) : (memK s c k).status = s.status ∧ (memK s c k).value = s.value ∧ (memK s c k).frames = s.frames ∧ (memK s c k).fuel = s.fuel ∧ (memK s c k).events = s.events ∧ (memK s c k).answers = s.answers := by
  induction k with
  | zero => exact ⟨rfl, rfl, rfl, rfl, rfl, rfl⟩
  | succ k ih => exact ih
theorem memK_mm (s : Sta) (c : Cpv) (k i : Nat) (hi : i < 16) : (memK s c k).mm i = if i < k then cdat c i else s.mm i := by
  induction k with
  | zero => rw [if_neg (by omega)]; rfl
  | succ k ih =>
    show Sta.mm { memK s c k with memory := (memK s c k).memory.setIfInBounds k (cdat c k) } i = _
    rw [mm_set, ih]
    by_cases h : k = i
    · subst h; rw [if_pos ⟨rfl, hi⟩, if_pos (by omega)]
    · rw [if_neg (by omega)]
      by_cases h2 : i < k
      · rw [if_pos h2, if_pos (by omega)]
      · rw [if_neg h2, if_neg (by omega)]
theorem memK_cells (s : Sta) (c : Cpv) (u e a : Value) (k : Nat) (hk : k < 16) : (staCells (memK s c k) u e a).set (3 + k) (iV (cdat c k)) = staCells (memK s c (k + 1)) u e a := by
  rw [sta_store _ _ _ _ k hk]; rfl
theorem regK_rest (f : Frm) (c : Cpv) (b : Int) (k : Nat) : (regK f c b k).fn = f.fn ∧ (regK f c b k).pc = f.pc := by
  induction k with
  | zero => exact ⟨rfl, rfl⟩
  | succ k ih => exact ih
theorem regK_no (f : Frm) (c : Cpv) (b : Int) (k : Nat) (h : bitZ b k = false) : regK f c b (k + 1) = ⟨(regK f c b k).fn, (regK f c b k).pc, (regK f c b k).regs.setIfInBounds k 0⟩ := by rw [regK, h]; rfl
theorem regK_yes (f : Frm) (c : Cpv) (b : Int) (k : Nat) (h : bitZ b k = true) : regK f c b (k + 1) = ⟨(regK f c b k).fn, (regK f c b k).pc, ((regK f c b k).regs.setIfInBounds k 0).setIfInBounds k (cdat c (16 + k))⟩ := by rw [regK, h]; rfl
theorem leave_bad {p : Prg} {s : Sta} (c : Cpv) (h : runFault p s ≠ 0) : leaveAns p s c = (noS, runFault p s) := by unfold leaveAns; rw [if_pos h]
theorem leave_no {p : Prg} {s : Sta} {c : Cpv} (h : runFault p s = 0) {l : List Int} (hl : (liveAns p (lastF s).fn).1 = l) (hn : ¬ leaveOk s c l) : leaveAns p s c = (noS, 5) := by
  subst hl; unfold leaveAns; rw [if_neg (by simpa using h), if_neg hn]
theorem leave_yes {p : Prg} {s : Sta} {c : Cpv} (h : runFault p s = 0) {l : List Int} (hl : (liveAns p (lastF s).fn).1 = l) (hy : leaveOk s c l) {fs : List Frm} {f : Frm} (hf : s.frames = fs ++ [f]) {b : Int} (hb : l.getD (cdat c 29).toNat 0 = b) : leaveAns p s c = (leaveS s fs f c b, 0) := by
  have e : lastF s = f := lastF_eq hf
  have e2 : s.frames.dropLast = fs := by rw [hf]; simp
  subst hl hb
  unfold leaveAns
  rw [if_neg (by simpa using h), if_pos hy, e2, e]
/-- Registers of the topmost frame. -/
theorem top_set {fs : List Frm} {f : Frm} {q d k : Nat} (hq : fs.length = q) (hd : d < 12) (hk : k = q * 14 + (2 + d)) (v : Int) : (fs.flatMap frmCells ++ frmCells f).set k (iV v) = fs.flatMap frmCells ++ frmCells ⟨f.fn, f.pc, f.regs.setIfInBounds d v⟩ := by
  subst hk hq; rw [frms_set, frm_set _ _ hd]
theorem top_pc {fs : List Frm} {f : Frm} {q k : Nat} (hq : fs.length = q) (hk : k = q * 14 + 1) (v : Int) : (fs.flatMap frmCells ++ frmCells f).set k (iV v) = fs.flatMap frmCells ++ frmCells ⟨f.fn, v, f.regs⟩ := by
  subst hk hq; rw [frms_set, frm_pc]
theorem top_lt {fs : List Frm} {f : Frm} {q k : Nat} (hq : fs.length = q) (hk : k < q * 14 + 14) : k < (fs.flatMap frmCells ++ frmCells f).length := by
  rw [List.length_append, frms_len, hq]; exact hk
theorem sta_fuel (s : Sta) (u e a : Value) (n : Int) : (staCells s u e a).set 19 (iV n) = staCells { s with fuel := n } u e a := rfl
theorem rep_frames_nilL {w : World} {S : Nat → Prop} : Lay.rep w S ([] : List Frm) [.slice none 0 0] := ⟨none, 0, rfl, Nat.le_refl _, by unfold maxLen; omega, fun k x h => by simp at h⟩
theorem liveAns_rangeL (p : Prg) (fn : Int) : ∀ b ∈ (liveAns p fn).1, -1 ≤ b ∧ b ≤ 4095 := by
  have key : ∀ (f : Fun) (q : Nat), -1 ≤ liveUpto p f 12 q ∧ liveUpto p f 12 q ≤ 4095 := fun f q => by
    unfold liveUpto
    split
    · have := mskZ_range (fun r => liveB p f r q) 12; omega
    · omega
  unfold liveAns
  split
  · simp
  split
  · simp
  split
  · simp
  · intro b hb
    obtain ⟨q, _, rfl⟩ := List.mem_map.1 hb
    exact key _ q
end Go.Proofs.YtnabeibnaoahmaaDoor
