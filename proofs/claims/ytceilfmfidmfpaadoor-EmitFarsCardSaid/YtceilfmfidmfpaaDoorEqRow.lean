/- Arrays and frames that are the same are equal. -/
import Derived.Test.YtceilfmfidmfpaaDoorMgReadsOfStateNextLawBegLawNextAnsRunLawRunLawBBegRun8
import Derived.ChangeKeysEq
set_option linter.unusedSimpArgs false
set_option linter.unusedVariables false
namespace Go.Proofs.YtceilfmfidmfpaaDoor
open Go.RowKit
theorem eq_int (d : Nat) (n : Int) (w : World) : (Op.equalIn (d + 1) 3 (.int .i64 n) (.int .i64 n)).run Tryd.prog w = .ok true w := by
  simp [Op.equalIn, run_underlying Tryd.underlying3]
theorem eq_items (d : Nat) (vs : List Int) (w : World) : ∀ (is : List Nat), (∀ i ∈ is, i < vs.length) → (Op.eqItems (d + 1) 3 1 (vs.map (Value.int .i64)).toArray (vs.map (Value.int .i64)).toArray is).run Tryd.prog w = .ok true w
  | [], _ => by simp [Op.eqItems]
  | i :: is, h => by
    have hi := h i (by simp)
    have hp : (part 3 (vs.map (Value.int .i64)).toArray (i * 1)).run Tryd.prog w = .ok (.int .i64 vs[i]) w := by
      rw [Nat.mul_one]
      exact run_part_plain w (by kernel_rfl) (by simp [hi])
    simp only [Op.eqItems, Sem.run_bind, hp, Result.andThen_ok, eq_int]
    simpa using eq_items d vs w is (fun j hj => h j (by simp [hj]))
theorem eq_arr16 (vs : List Int) (hl : vs.length = 16) (w : World) (d : Nat) : (Op.equalIn (d + 1 + 1) 26 (.agg (vs.map (Value.int .i64)).toArray) (.agg (vs.map (Value.int .i64)).toArray)).run Tryd.prog w = .ok true w := by
  obtain ⟨i, hi, -⟩ := info_parts info_int
  rw [run_equalIn_array w (d + 1) _ _ Tryd.underlying26 hi]
  rw [show Tryd.prog.cellsOf 3 = 1 by kernel_rfl]
  exact eq_items d vs w (List.range 16) (fun i hi => by rw [hl]; simpa using hi)
theorem eq_arr12 (vs : List Int) (hl : vs.length = 12) (w : World) (d : Nat) : (Op.equalIn (d + 1 + 1) 37 (.agg (vs.map (Value.int .i64)).toArray) (.agg (vs.map (Value.int .i64)).toArray)).run Tryd.prog w = .ok true w := by
  obtain ⟨i, hi, -⟩ := info_parts info_int
  rw [run_equalIn_array w (d + 1) _ _ Tryd.underlying37 hi]
  rw [show Tryd.prog.cellsOf 3 = 1 by kernel_rfl]
  exact eq_items d vs w (List.range 12) (fun i hi => by rw [hl]; simpa using hi)
theorem eq_mem' (d : Nat) (a0 a1 a2 a3 a4 a5 a6 a7 a8 a9 a10 a11 a12 a13 a14 a15 : Int) (w : World) : (Op.equalIn (d + 1 + 1) 26 (.agg #[iV a0, iV a1, iV a2, iV a3, iV a4, iV a5, iV a6, iV a7, iV a8, iV a9, iV a10, iV a11, iV a12, iV a13, iV a14, iV a15]) (.agg #[iV a0, iV a1, iV a2, iV a3, iV a4, iV a5, iV a6, iV a7, iV a8, iV a9, iV a10, iV a11, iV a12, iV a13, iV a14, iV a15])).run Tryd.prog w = .ok true w :=
  eq_arr16 [a0, a1, a2, a3, a4, a5, a6, a7, a8, a9, a10, a11, a12, a13, a14, a15] rfl w d
theorem eq_frm' (d : Nat) (x : Frm) (w : World) : (Op.equalIn (d + 1 + 1 + 1) 39 (.agg (frmCells x).toArray) (.agg (frmCells x).toArray)).run Tryd.prog w = .ok true w := by
  have h12 : (Op.equalIn (d + 1 + 1) 37 (.agg #[iV (x.rg 0), iV (x.rg 1), iV (x.rg 2), iV (x.rg 3), iV (x.rg 4), iV (x.rg 5), iV (x.rg 6), iV (x.rg 7), iV (x.rg 8), iV (x.rg 9), iV (x.rg 10), iV (x.rg 11)]) (.agg #[iV (x.rg 0), iV (x.rg 1), iV (x.rg 2), iV (x.rg 3), iV (x.rg 4), iV (x.rg 5), iV (x.rg 6), iV (x.rg 7), iV (x.rg 8), iV (x.rg 9), iV (x.rg 10), iV (x.rg 11)])).run Tryd.prog w = .ok true w := eq_arr12 [x.rg 0, x.rg 1, x.rg 2, x.rg 3, x.rg 4, x.rg 5, x.rg 6, x.rg 7, x.rg 8, x.rg 9, x.rg 10, x.rg 11] rfl w d
  have hi := fun n => eq_int (d + 1) n w
  have hp0 : (part 3 (frmCells x).toArray 0).run Tryd.prog w = .ok (iV x.fn) w := run_part_plain w (by kernel_rfl) rfl
  have hp1 : (part 3 (frmCells x).toArray 1).run Tryd.prog w = .ok (iV x.pc) w := run_part_plain w (by kernel_rfl) rfl
  have hp2 : (part 37 (frmCells x).toArray 2).run Tryd.prog w = .ok (.agg #[iV (x.rg 0), iV (x.rg 1), iV (x.rg 2), iV (x.rg 3), iV (x.rg 4), iV (x.rg 5), iV (x.rg 6), iV (x.rg 7), iV (x.rg 8), iV (x.rg 9), iV (x.rg 10), iV (x.rg 11)]) w := by kernel_rfl
  generalize (frmCells x).toArray = cs at *
  generalize (Value.agg #[iV (x.rg 0), iV (x.rg 1), iV (x.rg 2), iV (x.rg 3), iV (x.rg 4), iV (x.rg 5), iV (x.rg 6), iV (x.rg 7), iV (x.rg 8), iV (x.rg 9), iV (x.rg 10), iV (x.rg 11)]) = V at *
  unfold Op.equalIn
  simp only [Sem.run_bind, run_underlying Tryd.underlying39, Result.andThen_ok]
  simp [Op.eqFields, hp0, hp1, hp2, hi, h12]
theorem eq_mem (a0 a1 a2 a3 a4 a5 a6 a7 a8 a9 a10 a11 a12 a13 a14 a15 : Int) (w : World) : (Op.equal 26 (.agg #[iV a0, iV a1, iV a2, iV a3, iV a4, iV a5, iV a6, iV a7, iV a8, iV a9, iV a10, iV a11, iV a12, iV a13, iV a14, iV a15]) (.agg #[iV a0, iV a1, iV a2, iV a3, iV a4, iV a5, iV a6, iV a7, iV a8, iV a9, iV a10, iV a11, iV a12, iV a13, iV a14, iV a15])).run Tryd.prog w = .ok true w := eq_mem' 9998 ..
theorem eq_frm (x : Frm) (w : World) : (Op.equal 39 (.agg (frmCells x).toArray) (.agg (frmCells x).toArray)).run Tryd.prog w = .ok true w := eq_frm' 9997 x w
end Go.Proofs.YtceilfmfidmfpaaDoor
