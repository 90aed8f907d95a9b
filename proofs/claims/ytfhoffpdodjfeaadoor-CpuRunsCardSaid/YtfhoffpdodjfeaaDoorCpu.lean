/- The machine's data: how it lies in memory; that it equals itself. -/
import Derived.Test.YtfhoffpdodjfeaaDoorEqRow
import Derived.Test.YtfhoffpdodjfeaaDoorTypes
import Derived.Laws.StructEq
set_option linter.unusedSimpArgs false
set_option linter.unusedVariables false
namespace Go.Proofs.YtfhoffpdodjfeaaDoor
open Go.RowKit
/-- api.Cpu. -/
structure Cpv where
  regs : Vector Int 32
  pc : Int
  data : Vector Int 64
  halted : Bool
  deriving DecidableEq
instance layCpv : Lay Cpv := Lay.via fun x => (x.regs, x.pc, x.data, x.halted)
def cpuL (regs : List Int) (pc : Int) (data : List Int) (h : Bool) : List Value := regs.map (Value.int .i64) ++ (.int .i64 pc :: (data.map (Value.int .i64) ++ [.bool h]))
def cpuCells (c : Cpv) : List Value := cpuL c.regs.toList c.pc c.data.toList c.halted
theorem rep_cpv {w : World} {B : Nat → Prop} {cs : List Value} {x : Cpv} : Lay.rep w B x cs ↔ cs = cpuCells x := by
  constructor
  · rintro ⟨_, _, rfl, h1, _, _, rfl, rfl, _, _, rfl, h2, rfl⟩
    rw [rep_vec_int] at h1 h2
    subst h1 h2
    rfl
  · rintro rfl
    exact ⟨_, _, rfl, rep_vec_int.2 rfl, _, _, rfl, rfl, _, _, rfl, rep_vec_int.2 rfl, rfl⟩
theorem run_part_row {P : Program} {t : TypeId} {d : TypeDesc} {n : Nat} {xs : Array Value} {off : Nat} (w : World) (hu : P.underlying t = some d) (hd : (match d with | .struct _ | .array _ _ => true | _ => false) = true) (hi : (P.info? t).map (·.size) = some n) :
    (part t xs off).run P w = .ok (.agg (xs.extract off (off + n))) w := by
  cases hq : P.info? t with
  | none => simp [hq] at hi
  | some i =>
    have hs : i.size = n := by simpa [hq] using hi
    cases d <;> simp at hd <;> simp [part, isAgg, run_underlying hu, sizeOf, typeInfo, hq, hs]
theorem eq_arrN {t : TypeId} {n : Nat} (hu : Tryd.prog.underlying t = some (.array n 3)) (vs : List Int) (hl : vs.length = n) (w : World) (d : Nat) : (Op.equalIn (d + 1 + 1) t (.agg (vs.map (Value.int .i64)).toArray) (.agg (vs.map (Value.int .i64)).toArray)).run Tryd.prog w = .ok true w := by
  obtain ⟨i, hi, -⟩ := info_parts info_int
  rw [run_equalIn_array w (d + 1) _ _ hu hi]
  rw [show Tryd.prog.cellsOf 3 = 1 by kernel_rfl]
  exact eq_items d vs w (List.range n) (fun i hi => by rw [hl]; simpa using hi)
theorem eq_bool' (d : Nat) (b : Bool) (w : World) : (Op.equalIn (d + 1) 4 (.bool b) (.bool b)).run Tryd.prog w = .ok true w := by
  simp [Op.equalIn, run_underlying Tryd.underlying4]
theorem cpu_part0 (x : Cpv) : (cpuCells x).toArray.extract 0 (0 + 32) = (x.regs.toList.map (Value.int .i64)).toArray := by
  simp only [List.extract_toArray, cpuCells, cpuL, List.extract_eq_take_drop, List.drop_zero, Nat.zero_add, Nat.sub_zero]
  rw [List.take_left' (by simp)]
theorem cpu_part2 (x : Cpv) : (cpuCells x).toArray.extract 33 (33 + 64) = (x.data.toList.map (Value.int .i64)).toArray := by
  simp only [List.extract_toArray, cpuCells, cpuL, List.extract_eq_take_drop]
  rw [show 33 = 32 + 1 from rfl, ← List.drop_drop, List.drop_left' (by simp), List.drop_succ_cons, List.drop_zero]
  rw [List.take_left' (by simp)]
theorem cpu_at1 (x : Cpv) : (cpuCells x).toArray[32]? = some (.int .i64 x.pc) := by
  simp only [List.getElem?_toArray, cpuCells, cpuL]
  rw [List.getElem?_append_right (by simp)]
  simp
theorem cpu_at3 (x : Cpv) : (cpuCells x).toArray[97]? = some (.bool x.halted) := by
  simp only [List.getElem?_toArray, cpuCells, cpuL]
  rw [List.getElem?_append_right (by simp)]
  simp only [List.length_map, Vector.length_toList]
  rw [show 97 - 32 = 64 + 1 from rfl, List.getElem?_cons_succ, List.getElem?_append_right (by simp)]
  simp
theorem eqf_nil {P : Program} {d : Nat} {xs : Array Value} {w : World} : (Op.eqFields d xs xs []).run P w = .ok true w := by simp [Op.eqFields]
theorem eqf_cons {P : Program} {d : Nat} {xs : Array Value} {w : World} {f : Field} {fs : List Field} {v : Value} (hn : f.name ≠ "_") (hp : (part f.type xs f.offset).run P w = .ok v w) (he : (Op.equalIn d f.type v v).run P w = .ok true w) (hr : (Op.eqFields d xs xs fs).run P w = .ok true w) :
    (Op.eqFields d xs xs (f :: fs)).run P w = .ok true w := by
  simp only [Op.eqFields, hn, ne_eq, not_false_eq_true, if_true, Sem.run_bind, hp, he, Result.andThen_ok, Bool.not_true, Bool.false_eq_true, if_false, hr]
theorem eq_cpu' (d : Nat) (x : Cpv) (w : World) : (Op.equalIn (d + 1 + 1 + 1) 44 (.agg (cpuCells x).toArray) (.agg (cpuCells x).toArray)).run Tryd.prog w = .ok true w := by
  have h0 := eq_arrN Tryd.underlying41 x.regs.toList (by simp) w d
  have h1 := eq_int (d + 1) x.pc w
  have h2 := eq_arrN Tryd.underlying42 x.data.toList (by simp) w d
  have h3 := eq_bool' (d + 1) x.halted w
  have hp0 : (part 41 (cpuCells x).toArray 0).run Tryd.prog w = .ok (.agg (x.regs.toList.map (Value.int .i64)).toArray) w := by
    rw [run_part_row (n := 32) w Tryd.underlying41 rfl (by kernel_rfl), cpu_part0]
  have hp1 : (part 3 (cpuCells x).toArray 32).run Tryd.prog w = .ok (.int .i64 x.pc) w := run_part_plain w (by kernel_rfl) (cpu_at1 x)
  have hp2 : (part 42 (cpuCells x).toArray 33).run Tryd.prog w = .ok (.agg (x.data.toList.map (Value.int .i64)).toArray) w := by
    rw [run_part_row (n := 64) w Tryd.underlying42 rfl (by kernel_rfl), cpu_part2]
  have hp3 : (part 4 (cpuCells x).toArray 97).run Tryd.prog w = .ok (.bool x.halted) w := run_part_plain w (by kernel_rfl) (cpu_at3 x)
  rw [run_equalIn_struct w _ _ _ _ (by kernel_rfl) (by kernel_rfl)]
  unfold Program.fieldsOf
  rw [Tryd.underlying44]
  exact eqf_cons (by decide) hp0 h0 (eqf_cons (by decide) hp1 h1 (eqf_cons (by decide) hp2 h2 (eqf_cons (by decide) hp3 h3 eqf_nil)))
theorem eq_cpu (x : Cpv) (w : World) : (Op.equal 44 (.agg (cpuCells x).toArray) (.agg (cpuCells x).toArray)).run Tryd.prog w = .ok true w := eq_cpu' 9997 x w
end Go.Proofs.YtfhoffpdodjfeaaDoor
