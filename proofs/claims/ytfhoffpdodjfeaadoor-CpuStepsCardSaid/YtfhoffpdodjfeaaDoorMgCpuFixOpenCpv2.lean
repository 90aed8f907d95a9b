/- What a machine answers when a step fails. A machine's data that came in. -/
import Derived.Test.YtfhoffpdodjfeaaDoorCpuLaw
import Derived.Test.YtfhoffpdodjfeaaDoorFrame
set_option linter.unusedSimpArgs false
set_option linter.unusedVariables false
namespace Go.Proofs.YtfhoffpdodjfeaaDoor
open Go.RowKit Plain64
theorem cpu_one (c : Cpv) : ∀ v ∈ cpuCells c, v.oneCell' = true := by
  intro v hv
  simp only [cpuCells, cpuL, List.mem_append, List.mem_map, List.mem_cons, List.not_mem_nil, or_false] at hv
  rcases hv with ⟨n, -, rfl⟩ | rfl | ⟨n, -, rfl⟩ | rfl <;> rfl
def nilC : Cpv := ⟨Vector.replicate 32 0, 0, Vector.replicate 64 0, false⟩
def nilL : List Value := cpuL (List.replicate 32 0) 0 (List.replicate 64 0) false
theorem nilC_cells : cpuCells nilC = nilL := by simp [cpuCells, nilC, nilL]
theorem nilL_len : nilL.length = 98 := by rw [← nilC_cells]; exact cpu_len _
theorem nilL_one : ∀ v ∈ nilL, v.oneCell' = true := by rw [← nilC_cells]; exact cpu_one _
def fixZ (r : Cpv × Int) : Cpv × Int := if r.2 = 0 then r else (nilC, r.2)
theorem fix_ok (c : Cpv) : fixZ (c, 0) = (c, 0) := rfl
theorem fix_err (c : Cpv) {e : Int} (h : e ≠ 0) : fixZ (c, e) = (nilC, e) := by unfold fixZ; rw [if_neg h]
theorem cput_pcs (c : Cpv) (k : Nat) (n p : Int) : { cput c k n with pc := p } = cput { c with pc := p } k n := by unfold cput; split <;> rfl
/-- cpu.Step: P12.3. -/
def stepAns (ws : List Int) (c : Cpv) : Cpv × Int := if 32768 < ws.length then (nilC, 1) else if (cputR c 0 0).halted = true then (cputR c 0 0, 0) else fixZ (stepC ws (cputR c 0 0))
end Go.Proofs.YtfhoffpdodjfeaaDoor
namespace Go.Proofs.YtfhoffpdodjfeaaDoor
open Go.RowKit Go.WideShapes Go.ChangeShapes
theorem opensCpv : Opens Tryd.prog 44 Cpv :=
  opens_via _ (fun y => ⟨y.1, y.2.1, y.2.2.1, y.2.2.2⟩) (fun _ => rfl) (opens_struct Tryd.underlying44 (by kernel_rfl) (by decide)
    (fields_cons rfl (by kernel_rfl) (opens_vec (α := Int) Tryd.underlying41 (by kernel_rfl) (by kernel_rfl) opensInt) (fields_cons rfl (by kernel_rfl) opensInt (fields_cons rfl (by kernel_rfl) (opens_vec (α := Int) Tryd.underlying42 (by kernel_rfl) (by kernel_rfl) opensInt) (fields_one rfl (by kernel_rfl) (opens_bool Tryd.underlying4))))))
theorem ok_ints {xs : List Int} (h : Lay.ok xs) : xs.length ≤ 17592186044000 ∧ ∀ n ∈ xs, I64 n := by
  have e1 := h.1
  have b1 : Lay.bytes Int = 8 := rfl
  simp only [b1] at e1
  exact ⟨by omega, fun n hn => h.2 n hn⟩
theorem vec_i64 {n : Nat} {v : Vector Int n} (h : ∀ i (h : i < n), I64 v[i]) (k : Nat) : I64 (v.toList.getD k 0) := by
  rw [List.getD_eq_getElem?_getD]
  by_cases hk : k < n
  · rw [List.getElem?_eq_getElem (by simpa using hk)]
    simpa using h k hk
  · rw [List.getElem?_eq_none (by simpa using hk)]
    exact ⟨by decide, by decide⟩
theorem ok_cpv {c : Cpv} (h : Lay.ok c) : CpuOk c := by
  obtain ⟨h1, _, h2, _⟩ := h
  exact ⟨vec_i64 h1, vec_i64 h2⟩
section
variable {H : Type} {enc : TypeId × Value → H} {P : Program}
theorem open_cpv0 {t : TypeId} {fs : Array Field} (hu : P.underlying t = some (.struct fs)) (hf : Opens P t Cpv)
    {W : World} {v : Value} {d : DataW H} {p : List MemPlace} {r : Reach} {b : Nat} (hv : Value.okWide P W r b t v) (h : DataW.Trod enc P W 0 (fun _ => true) true t v d p) (hw : ∀ m, m ∈ d.weights P t → m ≤ reachBytes) :
    ∃ (c : Cpv), v = .agg (cpuCells c).toArray ∧ Lay.ok c := by
  obtain ⟨cs, rfl, hsz⟩ := okWide_struct hu hv
  obtain ⟨s, h1, h2⟩ := open_arg hf h hw
  have hcs := rep_cpv.1 h1
  obtain ⟨l⟩ := cs
  simp only [Value.cells] at hcs
  subst hcs
  exact ⟨s, rfl, h2⟩
end
end Go.Proofs.YtfhoffpdodjfeaaDoor
