/- ref.RvFault. -/
import Derived.Test.YtfhoffpdodjfeaaDoorMgRvARvB2
import Derived.Test.YtfhoffpdodjfeaaDoorCodeA
set_option linter.unusedSimpArgs false
set_option linter.unusedVariables false
namespace Go.Proofs.YtfhoffpdodjfeaaDoor
open Go.RowKit
attribute [local irreducible] wpList Code.wp Oper.wp

set_option maxRecDepth 10000 in
set_option maxHeartbeats 2000000 in
theorem RvFault_any (x : Rvi) (w : World) :
    Calls Tryd.prog 116 #[.agg #[.int .i64 x.op, .int .i64 x.rd, .int .i64 x.rs1, .int .i64 x.rs2, .int .i64 x.imm]] w fun e w' => e = .returned (.int .i64 (rvFault x)) ∧ Below w.heap.size w w' := by
  have HP := Lib.hid (Hp.start w)
  go_enter Tryd.func116, Tryd.ntmps116
  by_cases ho : 1 ≤ x.op ∧ x.op ≤ 29
  · have hF : rvFault x = if regZ x.rd (fieldB (shapeZ x.op) 0) && regZ x.rs1 (fieldB (shapeZ x.op) 1) && regZ x.rs2 (fieldB (shapeZ x.op) 2) && immZ (shapeZ x.op) x.imm then 0 else 2 := by
      unfold rvFault; rw [if_neg (by omega)]
    have HO := Lib.hid ho
    obtain ⟨o1, o2⟩ := ho
    go_upto_region 4 with (first | (refine wpList_box_hp (o := ⟨some 1, _, _, _, _, _⟩) rfl _ _ rfl HP.out [_, _, _, _, _] rfl ?_; clear HP; intro g1 w1 HP; replace HP := Lib.hid HP) | (refine wpList_ld0 rfl 3 _ rfl HP.out rfl rfl Tryd.underlying3 rfl ?_) | (go_at_call 47; refine (In_any _ _ _ _).mono ?_; rintro e w' ⟨rfl, rfl⟩) | (go_at_call 101; refine (shapeOf_any _ HO.out _).mono ?_; rintro e w' ⟨rfl, rfl⟩))
    have hs8 := shapeZ_lt x.op
    obtain ⟨sh, hsh⟩ : ∃ sh, shapeZ x.op = sh := ⟨_, rfl⟩
    rw [hsh] at hF hs8
    rw [hsh]
    clear hsh o1 o2 HO
    obtain ⟨b0, hb0⟩ : ∃ b0, regZ x.rd (fieldB sh 0) = b0 := ⟨_, rfl⟩
    obtain ⟨b1, hb1⟩ : ∃ b1, regZ x.rs1 (fieldB sh 1) = b1 := ⟨_, rfl⟩
    obtain ⟨b2, hb2⟩ : ∃ b2, regZ x.rs2 (fieldB sh 2) = b2 := ⟨_, rfl⟩
    rw [hb0, hb1, hb2] at hF
    have HB0 := Lib.hid hb0
    have HB1 := Lib.hid hb1
    have HB2 := Lib.hid hb2
    have HR := Lib.hid hF
    clear hb0 hb1 hb2 hF
    have hc0 := HP.out.cell (.head _) 1 _ rfl
    have hc1 := HP.out.cell (.head _) 2 _ rfl
    have hc2 := HP.out.cell (.head _) 3 _ rfl
    have hc4 := HP.out.cell (.head _) 4 _ rfl
    have t4 := tmod4 x.imm
    have T4 := Lib.hid t4
    clear t4
    rcases lt8 hs8 with rfl | rfl | rfl | rfl | rfl | rfl | rfl | rfl
    all_goals
      clear hs8
      cases b0
      · go_wp2_with (first | (refine wpList_ld0 rfl 3 _ rfl HP.out rfl rfl Tryd.underlying3 rfl ?_) | (go_at_call_of 47 (Value.int IntKind.i64 x.rd); refine (calls_value (In_any _ _ _ _) (congrArg Value.bool HB0.out)).mono ?_; rintro e w' ⟨rfl, rfl⟩) | (go_at_call_of 47 (Value.int IntKind.i64 x.rs1); refine (calls_value (In_any _ _ _ _) (congrArg Value.bool HB1.out)).mono ?_; rintro e w' ⟨rfl, rfl⟩) | (go_at_call_of 47 (Value.int IntKind.i64 x.rs2); refine (calls_value (In_any _ _ _ _) (congrArg Value.bool HB2.out)).mono ?_; rintro e w' ⟨rfl, rfl⟩) | (go_at_call 47; refine (In_any _ _ _ _).mono ?_; rintro e w' ⟨rfl, rfl⟩))
        go_ret
        exact ⟨ret_int (by rw [HR.out]; rfl), HP.out.below⟩
      · cases b1
        · go_wp2_with (first | (refine wpList_ld0 rfl 3 _ rfl HP.out rfl rfl Tryd.underlying3 rfl ?_) | (go_at_call_of 47 (Value.int IntKind.i64 x.rd); refine (calls_value (In_any _ _ _ _) (congrArg Value.bool HB0.out)).mono ?_; rintro e w' ⟨rfl, rfl⟩) | (go_at_call_of 47 (Value.int IntKind.i64 x.rs1); refine (calls_value (In_any _ _ _ _) (congrArg Value.bool HB1.out)).mono ?_; rintro e w' ⟨rfl, rfl⟩) | (go_at_call_of 47 (Value.int IntKind.i64 x.rs2); refine (calls_value (In_any _ _ _ _) (congrArg Value.bool HB2.out)).mono ?_; rintro e w' ⟨rfl, rfl⟩) | (go_at_call 47; refine (In_any _ _ _ _).mono ?_; rintro e w' ⟨rfl, rfl⟩))
          go_ret
          exact ⟨ret_int (by rw [HR.out]; rfl), HP.out.below⟩
        · cases b2
          · go_wp2_with (first | (refine wpList_ld0 rfl 3 _ rfl HP.out rfl rfl Tryd.underlying3 rfl ?_) | (go_at_call_of 47 (Value.int IntKind.i64 x.rd); refine (calls_value (In_any _ _ _ _) (congrArg Value.bool HB0.out)).mono ?_; rintro e w' ⟨rfl, rfl⟩) | (go_at_call_of 47 (Value.int IntKind.i64 x.rs1); refine (calls_value (In_any _ _ _ _) (congrArg Value.bool HB1.out)).mono ?_; rintro e w' ⟨rfl, rfl⟩) | (go_at_call_of 47 (Value.int IntKind.i64 x.rs2); refine (calls_value (In_any _ _ _ _) (congrArg Value.bool HB2.out)).mono ?_; rintro e w' ⟨rfl, rfl⟩) | (go_at_call 47; refine (In_any _ _ _ _).mono ?_; rintro e w' ⟨rfl, rfl⟩))
            go_ret
            exact ⟨ret_int (by rw [HR.out]; rfl), HP.out.below⟩
          · go_wp2_with (first | (refine wpList_ld0 rfl 3 _ rfl HP.out rfl rfl Tryd.underlying3 rfl ?_) | (go_at_call_of 47 (Value.int IntKind.i64 x.rd); refine (calls_value (In_any _ _ _ _) (congrArg Value.bool HB0.out)).mono ?_; rintro e w' ⟨rfl, rfl⟩) | (go_at_call_of 47 (Value.int IntKind.i64 x.rs1); refine (calls_value (In_any _ _ _ _) (congrArg Value.bool HB1.out)).mono ?_; rintro e w' ⟨rfl, rfl⟩) | (go_at_call_of 47 (Value.int IntKind.i64 x.rs2); refine (calls_value (In_any _ _ _ _) (congrArg Value.bool HB2.out)).mono ?_; rintro e w' ⟨rfl, rfl⟩) | (go_at_call 47; refine (In_any _ _ _ _).mono ?_; rintro e w' ⟨rfl, rfl⟩))
            all_goals
              go_ret
              refine ⟨ret_int ?_, HP.out.below⟩
              rw [HR.out]
              have h4 := T4.out
              simp only [immZ, lowZ, highZ, stepZ, Bool.true_and, Bool.and_eq_true, Bool.not_eq_true', Bool.not_eq_false', Bool.and_eq_false_iff, decide_eq_false_iff_not, decide_eq_true_eq, beq_iff_eq, beq_eq_false_iff_ne, ne_eq] at *
              first
                | rw [if_pos (by omega)]
                | rw [if_neg (by omega)]
  · have HF := Lib.hid (show rvFault x = 3 by unfold rvFault; rw [if_pos ho])
    have hd : (decide (1 ≤ x.op) && decide (x.op ≤ 29)) = false := by simp; omega
    clear ho
    have HD := Lib.hid hd
    clear hd
    go_wp2_with (first | (refine wpList_box_hp (o := ⟨some 1, _, _, _, _, _⟩) rfl _ _ rfl HP.out [_, _, _, _, _] rfl ?_; clear HP; intro g1 w1 HP; replace HP := Lib.hid HP) | (refine wpList_ld0 rfl 3 _ rfl HP.out rfl rfl Tryd.underlying3 rfl ?_) | (go_at_call 47; refine (calls_value (In_any _ _ _ _) (congrArg Value.bool HD.out)).mono ?_; rintro e w' ⟨rfl, rfl⟩))
    go_ret
    exact ⟨ret_int HF.out.symm, HP.out.below⟩
end Go.Proofs.YtfhoffpdodjfeaaDoor
