/- The machine's data: how it lies in memory; that it equals itself. P13.2: how a machine is entered. -/
import Derived.Test.YtceilfmfidmfpaaDoorEqRow
import Derived.Test.YtceilfmfidmfpaaDoorTypes
import Derived.Laws.StructEq
import Derived.Test.YtceilfmfidmfpaaDoorMgReadsOfStateNextLawBegLawNextAnsRunLawRunLawBBegRun8
set_option linter.unusedSimpArgs false
set_option linter.unusedVariables false
namespace Go.Proofs.YtceilfmfidmfpaaDoor
open Go.RowKit
/-- api.Cpu. -/
structure Cpv where
  regs : Vector Int 32
  pc : Int
  data : Vector Int 64
  halted : Bool
  deriving DecidableEq
instance layCpv : Lay Cpv := Lay.via fun x => (x.regs, x.pc, x.data, x.halted)
def cpuL (regs : List Int) (pc : Int) (data : List Int) (h : Bool) : List Value := regs.map (Value.int .i64) ++ (.int .i64 pc :: (data.map (Value.int .i64) ++ [.bool h]))
def cpuCells (c : Cpv) : List Value := cpuL c.regs.toList c.pc c.data.toList c.halted
theorem rep_cpv {w : World} {B : Nat → Prop} {cs : List Value} {x : Cpv} : Lay.rep w B x cs ↔ cs = cpuCells x := by
  constructor
  · rintro ⟨_, _, rfl, h1, _, _, rfl, rfl, _, _, rfl, h2, rfl⟩
    rw [rep_vec_int] at h1 h2
    subst h1 h2
    rfl
  · rintro rfl
    exact ⟨_, _, rfl, rep_vec_int.2 rfl, _, _, rfl, rfl, _, _, rfl, rep_vec_int.2 rfl, rfl⟩
theorem run_part_row {P : Program} {t : TypeId} {d : TypeDesc} {n : Nat} {xs : Array Value} {off : Nat} (w : World) (hu : P.underlying t = some d) (hd : (match d with | .struct _ | .array _ _ => true | _ => false) = true) (hi : (P.info? t).map (·.size) = some n) :
    (part t xs off).run P w = .ok (.agg (xs.extract off (off + n))) w := by
  cases hq : P.info? t with
  | none => simp [hq] at hi
  | some i =>
    have hs : i.size = n := by simpa [hq] using hi
    cases d <;> simp at hd <;> simp [part, isAgg, run_underlying hu, sizeOf, typeInfo, hq, hs]
theorem eq_arrN {t : TypeId} {n : Nat} (hu : Tryd.prog.underlying t = some (.array n 3)) (vs : List Int) (hl : vs.length = n) (w : World) (d : Nat) : (Op.equalIn (d + 1 + 1) t (.agg (vs.map (Value.int .i64)).toArray) (.agg (vs.map (Value.int .i64)).toArray)).run Tryd.prog w = .ok true w := by
  obtain ⟨i, hi, -⟩ := info_parts info_int
  rw [run_equalIn_array w (d + 1) _ _ hu hi]
  rw [show Tryd.prog.cellsOf 3 = 1 by kernel_rfl]
  exact eq_items d vs w (List.range n) (fun i hi => by rw [hl]; simpa using hi)
theorem eq_bool' (d : Nat) (b : Bool) (w : World) : (Op.equalIn (d + 1) 4 (.bool b) (.bool b)).run Tryd.prog w = .ok true w := by
  simp [Op.equalIn, run_underlying Tryd.underlying4]
theorem cpu_part0 (x : Cpv) : (cpuCells x).toArray.extract 0 (0 + 32) = (x.regs.toList.map (Value.int .i64)).toArray := by
  simp only [List.extract_toArray, cpuCells, cpuL, List.extract_eq_take_drop, List.drop_zero, Nat.zero_add, Nat.sub_zero]
  rw [List.take_left' (by simp)]
theorem cpu_part2 (x : Cpv) : (cpuCells x).toArray.extract 33 (33 + 64) = (x.data.toList.map (Value.int .i64)).toArray := by
  simp only [List.extract_toArray, cpuCells, cpuL, List.extract_eq_take_drop]
  rw [show 33 = 32 + 1 from rfl, ← List.drop_drop, List.drop_left' (by simp), List.drop_succ_cons, List.drop_zero]
  rw [List.take_left' (by simp)]
theorem cpu_at1 (x : Cpv) : (cpuCells x).toArray[32]? = some (.int .i64 x.pc) := by
  simp only [List.getElem?_toArray, cpuCells, cpuL]
  rw [List.getElem?_append_right (by simp)]
  simp
theorem cpu_at3 (x : Cpv) : (cpuCells x).toArray[97]? = some (.bool x.halted) := by
  simp only [List.getElem?_toArray, cpuCells, cpuL]
  rw [List.getElem?_append_right (by simp)]
  simp only [List.length_map, Vector.length_toList]
  rw [show 97 - 32 = 64 + 1 from rfl, List.getElem?_cons_succ, List.getElem?_append_right (by simp)]
  simp
theorem eqf_nil {P : Program} {d : Nat} {xs : Array Value} {w : World} : (Op.eqFields d xs xs []).run P w = .ok true w := by simp [Op.eqFields]
theorem eqf_cons {P : Program} {d : Nat} {xs : Array Value} {w : World} {f : Field} {fs : List Field} {v : Value} (hn : f.name ≠ "_") (hp : (part f.type xs f.offset).run P w = .ok v w) (he : (Op.equalIn d f.type v v).run P w = .ok true w) (hr : (Op.eqFields d xs xs fs).run P w = .ok true w) :
    (Op.eqFields d xs xs (f :: fs)).run P w = .ok true w := by
  simp only [Op.eqFields, hn, ne_eq, not_false_eq_true, if_true, Sem.run_bind, hp, he, Result.andThen_ok, Bool.not_true, Bool.false_eq_true, if_false, hr]
end Go.Proofs.YtceilfmfidmfpaaDoor
namespace Go.Proofs.YtceilfmfidmfpaaDoor
open Go.RowKit Plain64
def z32 : List Int := List.replicate 32 0
def enterL (s : Sta) (f : Frm) : List Int := s.memory.toList ++ (f.regs.toList ++ ([s.fuel, f.pc] ++ List.replicate 34 0))
theorem enterL_len (s : Sta) (f : Frm) : (enterL s f).length = 64 := by simp [enterL]
def zeroC : Cpv := ⟨Vector.replicate 32 0, 0, Vector.replicate 64 0, false⟩
def enterC (s : Sta) (f : Frm) : Cpv := ⟨Vector.replicate 32 0, 0, ⟨(enterL s f).toArray, by simp [enterL_len]⟩, false⟩
theorem zeroC_cells : cpuCells zeroC = cpuL z32 0 (List.replicate 64 0) false := by simp [cpuCells, zeroC, z32]
theorem enterC_cells (s : Sta) (f : Frm) : cpuCells (enterC s f) = cpuL z32 0 (enterL s f) false := by simp [cpuCells, enterC, z32]
theorem cpuL_len {r d : List Int} {p : Int} {h : Bool} (hr : r.length = 32) (hd : d.length = 64) : (cpuL r p d h).length = 98 := by simp [cpuL, hr, hd]
theorem cpuL_one {r d : List Int} {p : Int} {h : Bool} : ∀ v ∈ cpuL r p d h, v.oneCell' = true := by
  intro v hv
  simp only [cpuL, List.mem_append, List.mem_map, List.mem_cons, List.not_mem_nil, or_false] at hv
  rcases hv with ⟨n, -, rfl⟩ | rfl | ⟨n, -, rfl⟩ | rfl <;> rfl
theorem cpuL_set {r d : List Int} {p : Int} {h : Bool} (hr : r.length = 32) (k : Nat) (hk : k < d.length) (n : Int) : (cpuL r p d h).set (33 + k) (.int .i64 n) = cpuL r p (d.set k n) h := by
  unfold cpuL
  rw [List.set_append_right _ _ (by simp [hr]; omega)]
  simp only [List.length_map, hr]
  rw [show 33 + k - 32 = k + 1 by omega, List.set_cons_succ, List.set_append_left _ _ (by simpa using hk), List.map_set]
theorem cpuL_splice {r d : List Int} {p : Int} {h : Bool} (hr : r.length = 32) (k : Nat) (ns : List Int) (hk : k + ns.length ≤ d.length) :
    (cpuL r p d h).take (33 + k) ++ (ns.map (Value.int .i64) ++ (cpuL r p d h).drop (33 + k + (ns.map (Value.int .i64)).length)) = cpuL r p (d.take k ++ ns ++ d.drop (k + ns.length)) h := by
  unfold cpuL
  rw [List.length_map]
  rw [show 33 + k = (r.map (Value.int .i64)).length + (k + 1) by simp [hr]; omega, List.take_length_add_append, List.take_succ_cons]
  rw [show (r.map (Value.int .i64)).length + (k + 1) + ns.length = (r.map (Value.int .i64)).length + ((k + ns.length) + 1) by omega, List.drop_length_add_append, List.drop_succ_cons]
  rw [List.take_append_of_le_length (by simp; omega), List.drop_append_of_le_length (by simpa using hk)]
  simp
/-- What is wrong with a state that is to be entered. -/
noncomputable def runFault (p : Prg) (s : Sta) : Int := if stateFault p s ≠ 0 then stateFault p s else if s.status ≠ 0 then 9 else 0
def lastF (s : Sta) : Frm := (s.frames.getLast?).getD ⟨0, 0, Vector.replicate 12 0⟩
def zeroF : Frm := ⟨0, 0, #v[0, 0, 0, 0, 0, 0, 0, 0, 0, 0, 0, 0]⟩
noncomputable def runningAns (p : Prg) (s : Sta) : Frm × Int := (if runFault p s = 0 then lastF s else zeroF, runFault p s)
noncomputable def enterAns (p : Prg) (s : Sta) : Cpv × Int := if runFault p s ≠ 0 then (zeroC, runFault p s) else (enterC s (lastF s), 0)
theorem rf_zero {p : Prg} {s : Sta} (h : runFault p s = 0) : stateFault p s = 0 ∧ s.status = 0 := by
  unfold runFault at h
  by_cases h1 : stateFault p s = 0
  · rw [if_neg (by simpa using h1)] at h
    by_cases h2 : s.status = 0
    · exact ⟨h1, h2⟩
    · rw [if_pos h2] at h; cases h
  · rw [if_pos h1] at h; exact absurd h h1
theorem lastF_eq {s : Sta} {fs : List Frm} {f : Frm} (h : s.frames = fs ++ [f]) : lastF s = f := by unfold lastF; rw [h]; simp
theorem enterL_eq (s : Sta) (f : Frm) : ((List.take 16 (List.take 0 (List.replicate 64 0) ++ s.memory.toList ++ List.drop (0 + s.memory.toList.length) (List.replicate 64 0)) ++ f.regs.toList ++ List.drop (16 + f.regs.toList.length) (List.take 0 (List.replicate 64 0) ++ s.memory.toList ++ List.drop (0 + s.memory.toList.length) (List.replicate 64 0))).set 28 s.fuel).set 29 f.pc = enterL s f := by
  unfold enterL
  simp only [Vector.length_toList]
  rw [List.take_zero, List.nil_append, List.take_left' (by simp), List.drop_append, List.drop_of_length_le (by simp)]
  rw [List.append_assoc, List.set_append_right _ _ (by simp), List.set_append_right _ _ (by simp), List.set_append_right _ _ (by simp), List.set_append_right _ _ (by simp)]
  simp
end Go.Proofs.YtceilfmfidmfpaaDoor
