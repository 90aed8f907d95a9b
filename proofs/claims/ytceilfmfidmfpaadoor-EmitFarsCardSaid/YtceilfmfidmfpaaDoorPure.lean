/- step.pure, step.flag. -/
import Derived.Test.YtceilfmfidmfpaaDoorMgValidPureLaw2
import Derived.Test.YtceilfmfidmfpaaDoorRows
import Derived.Test.YtceilfmfidmfpaaDoorMgMemData2
set_option linter.unusedSimpArgs false
set_option linter.unusedVariables false
namespace Go.Proofs.YtceilfmfidmfpaaDoor
open Go.RowKit Plain64
set_option maxHeartbeats 400000 in
theorem flag_any (b : Bool) (w : World) :
    Calls Tryd.prog 68 #[.bool b] w fun e w' => e = .returned (.int .i64 (if b then 1 else 0)) ∧ w = w' := by
  cases b
  all_goals
    go_enter Tryd.func68, Tryd.ntmps68
    go_wp2
    go_ret
    exact ⟨rfl, rfl⟩
theorem shl_at (a b : Int) : Op.shift .shl .i64 a .i64 (b % 64) = pure (.int .i64 (wrap64 (a * 2 ^ (b % 64).toNat))) := by
  rw [shift_shl_any _ _ _ _ (by omega), IntWalk.i64_left, Nat.min_eq_left (by simp [IntKind.bits]; omega)]
theorem shr_at (a b : Int) : Op.shift .shr .i64 a .i64 (b % 64) = pure (.int .i64 (a / 2 ^ (b % 64).toNat)) := by
  rw [shift_shr_any _ _ _ _ (by omega), Nat.min_eq_left (by simp [IntKind.bits]; omega)]

set_option maxHeartbeats 400000 in
theorem pure_any (op a b imm : Int) (w : World) :
    Calls Tryd.prog 52 #[.int .i64 op, .int .i64 a, .int .i64 b, .int .i64 imm] w fun e w' => e = .returned (.tuple #[.int .i64 (pureV op a b imm), .bool (pureB op b)]) ∧ w = w' := by
  have h63 := Plain64.and63 b
  have hl := shl_at a b
  have hr := shr_at a b
  by_cases hb : b = 0
  · have hb0 : (b == 0) = true := by simpa using hb
    have HB := Lib.hid hb
    clear hb
    go_enter Tryd.func52, Tryd.ntmps52
    go_wp2_with (go_at_call 68; refine (flag_any _ _).mono ?_; rintro e w' ⟨rfl, rfl⟩)
    all_goals (go_ret2; refine ⟨?_, rfl⟩; have hb := HB.out; simp only [beq_iff_eq, beq_eq_false_iff_ne, ne_eq] at *; simp [pureV, pureB, *]; try omega)
  · go_enter Tryd.func52, Tryd.ntmps52
    go_wp2_with (go_at_call 68; refine (flag_any _ _).mono ?_; rintro e w' ⟨rfl, rfl⟩)
    all_goals (go_ret2; refine ⟨?_, rfl⟩; simp only [beq_iff_eq, beq_eq_false_iff_ne, ne_eq] at *; simp [pureV, pureB, *]; try omega)
end Go.Proofs.YtceilfmfidmfpaaDoor
