/- rv.imm; ref.shapeOf. -/
import Derived.Test.YtfhoffpdodjfeaaDoorMgRvTabRvLawRvVecOpenInts4
import Derived.Test.YtfhoffpdodjfeaaDoorHpOps
import Derived.Test.YtfhoffpdodjfeaaDoorRows
set_option linter.unusedSimpArgs false
set_option linter.unusedVariables false
namespace Go.Proofs.YtfhoffpdodjfeaaDoor
open Go.RowKit
attribute [local irreducible] wpList Code.wp Oper.wp
theorem lt8 {s : Nat} (h : s < 8) : s = 0 ∨ s = 1 ∨ s = 2 ∨ s = 3 ∨ s = 4 ∨ s = 5 ∨ s = 6 ∨ s = 7 := by omega
theorem imm_any (s : Nat) (hs : s < 8) (w : World) :
    Calls Tryd.prog 120 #[.int .i64 s] w fun e w' => e = .returned (.tuple #[.int .i64 (lowZ s), .int .i64 (highZ s), .int .i64 (stepZ s)]) ∧ w = w' := by
  rcases lt8 hs with rfl | rfl | rfl | rfl | rfl | rfl | rfl | rfl
  all_goals
    clear hs
    go_enter Tryd.func120, Tryd.ntmps120
    go_wp2
    go_ret3
    exact ⟨rfl, rfl⟩
def shapeS (op : Int) : Int := if op ≤ 11 then 0 else if op = 18 ∨ op = 19 then 2 else if op ≤ 20 ∨ op = 27 then 1 else if op = 21 then 3 else if op ≤ 25 then 4 else if op = 26 then 5 else if op = 28 then 6 else 7
theorem shape_eq (op : Int) (h : 1 ≤ op ∧ op ≤ 29) : ((shapeZ op : Nat) : Int) = shapeS op := by
  obtain ⟨k, rfl⟩ := Int.eq_ofNat_of_zero_le (show 0 ≤ op by omega)
  have : ∀ k : Fin 30, 1 ≤ k.1 → ((shapeZ (k.1 : Int) : Nat) : Int) = shapeS (k.1 : Int) := by decide +kernel
  exact this ⟨k, by omega⟩ (by show 1 ≤ k; omega)
set_option maxHeartbeats 1000000 in
theorem shapeOf_any (op : Int) (h : 1 ≤ op ∧ op ≤ 29) (w : World) :
    Calls Tryd.prog 101 #[.int .i64 op] w fun e w' => e = .returned (.int .i64 (shapeZ op)) ∧ w = w' := by
  have HS := Lib.hid (shape_eq op h)
  obtain ⟨h1, h2⟩ := h
  go_enter Tryd.func101, Tryd.ntmps101
  go_wp2
  all_goals
    go_ret
    refine ⟨ret_int ?_, rfl⟩
    rw [HS.out]
    try simp only [beq_iff_eq, beq_eq_false_iff_ne, ne_eq, Bool.or_eq_true, decide_eq_true_eq, Bool.or_eq_false_iff, decide_eq_false_iff_not] at *
    unfold shapeS
    repeat (first | rfl | (rw [if_pos (by omega)]) | (rw [if_neg (by omega)]))
end Go.Proofs.YtfhoffpdodjfeaaDoor
