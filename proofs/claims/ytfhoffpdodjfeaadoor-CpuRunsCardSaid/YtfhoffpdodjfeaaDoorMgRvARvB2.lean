/- rv.imm; ref.shapeOf. rv.Check. -/
import Derived.Test.YtfhoffpdodjfeaaDoorMgRvTabRvLawRvVecOpenInts4
import Derived.Test.YtfhoffpdodjfeaaDoorHpOps
import Derived.Test.YtfhoffpdodjfeaaDoorRows
set_option linter.unusedSimpArgs false
set_option linter.unusedVariables false
namespace Go.Proofs.YtfhoffpdodjfeaaDoor
open Go.RowKit
attribute [local irreducible] wpList Code.wp Oper.wp
theorem lt8 {s : Nat} (h : s < 8) : s = 0 ∨ s = 1 ∨ s = 2 ∨ s = 3 ∨ s = 4 ∨ s = 5 ∨ s = 6 ∨ s = 7 := by omega
theorem imm_any (s : Nat) (hs : s < 8) (w : World) :
    Calls Tryd.prog 120 #[.int .i64 s] w fun e w' => e = .returned (.tuple #[.int .i64 (lowZ s), .int .i64 (highZ s), .int .i64 (stepZ s)]) ∧ w = w' := by
  rcases lt8 hs with rfl | rfl | rfl | rfl | rfl | rfl | rfl | rfl
  all_goals
    clear hs
    go_enter Tryd.func120, Tryd.ntmps120
    go_wp2
    go_ret3
    exact ⟨rfl, rfl⟩
def shapeS (op : Int) : Int := if op ≤ 11 then 0 else if op = 18 ∨ op = 19 then 2 else if op ≤ 20 ∨ op = 27 then 1 else if op = 21 then 3 else if op ≤ 25 then 4 else if op = 26 then 5 else if op = 28 then 6 else 7
theorem shape_eq (op : Int) (h : 1 ≤ op ∧ op ≤ 29) : ((shapeZ op : Nat) : Int) = shapeS op := by
  obtain ⟨k, rfl⟩ := Int.eq_ofNat_of_zero_le (show 0 ≤ op by omega)
  have : ∀ k : Fin 30, 1 ≤ k.1 → ((shapeZ (k.1 : Int) : Nat) : Int) = shapeS (k.1 : Int) := by decide +kernel
  exact this ⟨k, by omega⟩ (by show 1 ≤ k; omega)
set_option maxHeartbeats 1000000 in
theorem shapeOf_any (op : Int) (h : 1 ≤ op ∧ op ≤ 29) (w : World) :
    Calls Tryd.prog 101 #[.int .i64 op] w fun e w' => e = .returned (.int .i64 (shapeZ op)) ∧ w = w' := by
  have HS := Lib.hid (shape_eq op h)
  obtain ⟨h1, h2⟩ := h
  go_enter Tryd.func101, Tryd.ntmps101
  go_wp2
  all_goals
    go_ret
    refine ⟨ret_int ?_, rfl⟩
    rw [HS.out]
    try simp only [beq_iff_eq, beq_eq_false_iff_ne, ne_eq, Bool.or_eq_true, decide_eq_true_eq, Bool.or_eq_false_iff, decide_eq_false_iff_not] at *
    unfold shapeS
    repeat (first | rfl | (rw [if_pos (by omega)]) | (rw [if_neg (by omega)]))
end Go.Proofs.YtfhoffpdodjfeaaDoor
namespace Go.Proofs.YtfhoffpdodjfeaaDoor
open Go.RowKit
attribute [local irreducible] wpList Code.wp Oper.wp

theorem rvIndex0 (a b c : Int) (w : World) : (Instr.index 126 (.agg #[.int .i64 a, .int .i64 b, .int .i64 c]) (.int .i64 0)).run Tryd.prog w = .ok (.int .i64 a) w := by kernel_rfl
theorem rvIndex1 (a b c : Int) (w : World) : (Instr.index 126 (.agg #[.int .i64 a, .int .i64 b, .int .i64 c]) (.int .i64 1)).run Tryd.prog w = .ok (.int .i64 b) w := by kernel_rfl
theorem rvIndex2 (a b c : Int) (w : World) : (Instr.index 126 (.agg #[.int .i64 a, .int .i64 b, .int .i64 c]) (.int .i64 2)).run Tryd.prog w = .ok (.int .i64 c) w := by kernel_rfl
def rvCells (x : Rvi) : List Value := [.int .i64 x.op, .int .i64 x.rd, .int .i64 x.rs1, .int .i64 x.rs2, .int .i64 x.imm]
set_option maxRecDepth 10000 in
set_option maxHeartbeats 1000000 in
theorem rvCheck_any (x : Rvi) (w : World) (ht : RvTabs w) :
    Calls Tryd.prog 113 #[.agg #[.int .i64 x.op, .int .i64 x.rd, .int .i64 x.rs1, .int .i64 x.rs2, .int .i64 x.imm]] w fun e w' => e = .returned (.int .i64 (rvFault x)) ∧ Below w.heap.size w w' := by
  have HT := Lib.hid ht
  clear ht
  have HP := Lib.hid (Hp.start w)
  go_enter Tryd.func113, Tryd.ntmps113
  go_upto_region 1 with (first | (refine wpList_box_hp (o := ⟨some 1, _, _, _, _, _⟩) rfl _ _ rfl HP.out [_, _, _, _, _] rfl ?_; clear HP; intro g1 w1 HP; replace HP := Lib.hid HP))
  have hc0 := HP.out.cell (.head _) 0 _ rfl
  have hc1 := HP.out.cell (.head _) 1 _ rfl
  have hc2 := HP.out.cell (.head _) 2 _ rfl
  have hc3 := HP.out.cell (.head _) 3 _ rfl
  have hc4 := HP.out.cell (.head _) 4 _ rfl
  by_cases ho : 1 ≤ x.op ∧ x.op ≤ 29
  · obtain ⟨o1, o2⟩ := ho
    obtain ⟨k, hk⟩ := Int.eq_ofNat_of_zero_le (show 0 ≤ x.op by omega)
    have hk1 : k < 30 := by omega
    have hF : rvFault x = if regZ x.rd (fieldB (shapeZ x.op) 0) && regZ x.rs1 (fieldB (shapeZ x.op) 1) && regZ x.rs2 (fieldB (shapeZ x.op) 2) && immZ (shapeZ x.op) x.imm then 0 else 2 := by
      unfold rvFault; rw [if_neg (by omega)]
    have HT1 := Lib.hid (HT.out.keep HP.out.below rfl)
    have hat := HT1.out.forms k hk1
    rw [shape_at k hk1, ← hk] at hat
    have hs8 := shapeZ_lt x.op
    obtain ⟨sh, hsh⟩ : ∃ sh, shapeZ x.op = sh := ⟨_, rfl⟩
    rw [hsh] at hF hat hs8
    have HF := Lib.hid hF
    have HSH := Lib.hid hsh
    obtain ⟨f1, hf1⟩ : ∃ y, (formsL.getD k default).code = y := ⟨_, rfl⟩
    obtain ⟨f2, hf2⟩ : ∃ y, (formsL.getD k default).f3 = y := ⟨_, rfl⟩
    obtain ⟨f3, hf3⟩ : ∃ y, (formsL.getD k default).f7 = y := ⟨_, rfl⟩
    rw [hf1, hf2, hf3] at hat
    have HAT := Lib.hid hat
    have HK := Lib.hid hk
    rw [hk] at hc0 o1 o2 HP
    clear hF hsh hat hf1 hf2 hf3 hk
    go_upto_region 5 with (first | (refine wpList_alloc_hp (o := ⟨some 2, _, _, _, _, _⟩) rfl _ rfl HP.out (.agg #[.int .i64 0, .int .i64 0, .int .i64 0, .int .i64 0]) (by kernel_rfl) [_, _, _, _] rfl ?_; clear HP; intro g2 w2 HP; replace HP := Lib.hid HP) | (refine wpList_alloc_hp (o := ⟨some 3, _, _, _, _, _⟩) rfl _ rfl HP.out (.agg #[.int .i64 0, .int .i64 0, .int .i64 0, .int .i64 0]) (by kernel_rfl) [_, _, _, _] rfl ?_; clear HP; intro g3 w3 HP; replace HP := Lib.hid HP) | (refine wpList_alloc_hp (o := ⟨some 4, _, _, _, _, _⟩) rfl _ rfl HP.out (.agg #[.int .i64 0, .int .i64 0, .int .i64 0, .int .i64 0]) (by kernel_rfl) [_, _, _, _] rfl ?_; clear HP; intro g4 w4 HP; replace HP := Lib.hid HP) | (refine wpList_alloc_hp (o := ⟨some 5, _, _, _, _, _⟩) rfl _ rfl HP.out (.agg #[.int .i64 0, .int .i64 0, .int .i64 0, .int .i64 0]) (by kernel_rfl) [_, _, _, _] rfl ?_; clear HP; intro g5 w5 HP; replace HP := Lib.hid HP) | (refine wpList_stR0 rfl 119 _ _ rfl HP.out rfl (cs' := [_, _, _, _]) rfl rfl (by simp [Value.oneCell']) (by kernel_rfl) ?_; clear HP; intro wst HP; replace HP := Lib.hid HP) | (refine wpList_ld0 rfl 3 _ rfl HP.out rfl rfl Tryd.underlying3 rfl ?_) | (refine wpList_ld1 rfl 3 _ rfl HP.out rfl rfl Tryd.underlying3 rfl ?_) | (refine wpList_load_at rfl 119 _ rfl _ rfl _ _ HAT.out Tryd.underlying119 rfl (by kernel_rfl) ?_))
    clear hc0 hc1 hc2 hc3 hc4
    have HT2 := Lib.hid (HT.out.keep HP.out.below rfl)
    have hs0 := HP.out.cell (.head _) 0 _ rfl
    have hm4 := HP.out.cell (.tail _ (.head _)) 4 _ rfl
    have hsI : (sh : Int) < 8 := by omega
    have i0 := rvIndex0
    have i1 := rvIndex1
    have i2 := rvIndex2
    go_loopw [28] (fun i wr => ∃ t : Nat, t ≤ 3 ∧ i = .int .i64 t ∧ Hid ((0 < t → regZ x.rd (fieldB sh 0) = true) ∧ (1 < t → regZ x.rs1 (fieldB sh 1) = true) ∧ (2 < t → regZ x.rs2 (fieldB sh 2) = true)) ∧ wr = wst) (fun i _ => 3 - (intOf i).toNat)
    case atStart => exact ⟨0, by omega, rfl, Lib.hid ⟨fun h => by omega, fun h => by omega, fun h => by omega⟩, rfl⟩
    case round =>
      obtain ⟨t, ht, rfl, HB, rfl⟩ := hrel
      by_cases ht3 : t = 3
      · subst ht3
        go_upto_region 11 with (first | (refine wpList_ld0 rfl 3 _ rfl HP.out rfl rfl Tryd.underlying3 rfl ?_) | (go_at_call 120; refine (imm_any sh hs8 _).mono ?_; rintro e w' ⟨rfl, rfl⟩))
        have HALL := HB.out
        have HR : Hid (rvFault x = if immZ sh x.imm then 0 else 2) := Lib.hid (by rw [HF.out, HALL.1 (by omega), HALL.2.1 (by omega), HALL.2.2 (by omega)]; simp)
        have hst : stepZ sh = 1 ∨ stepZ sh = 4 := by
          rcases lt8 hs8 with rfl | rfl | rfl | rfl | rfl | rfl | rfl | rfl <;> decide
        have HIM := Lib.hid (show immZ sh x.imm = (decide (lowZ sh ≤ x.imm) && decide (x.imm ≤ highZ sh) && decide (x.imm % stepZ sh = 0)) from rfl)
        clear HALL
        obtain ⟨lo, hlo⟩ : ∃ lo, lowZ sh = lo := ⟨_, rfl⟩
        obtain ⟨hi, hhi⟩ : ∃ hi, highZ sh = hi := ⟨_, rfl⟩
        obtain ⟨st, hstq⟩ : ∃ st, stepZ sh = st := ⟨_, rfl⟩
        rw [hlo, hhi, hstq] at HIM
        rw [hstq] at hst
        simp only [hlo, hhi, hstq]
        clear hlo hhi hstq
        have hq : x.imm < lo ∨ (lo ≤ x.imm ∧ hi < x.imm) ∨ (lo ≤ x.imm ∧ x.imm ≤ hi) := by omega
        rcases hq with q1 | ⟨q1, q2⟩ | ⟨q1, q2⟩
        · have HB2 := Lib.hid (show rvFault x = 2 by rw [HR.out, HIM.out, decide_eq_false (by omega)]; rfl)
          go_wp2_with fail
          go_ret
          exact ⟨ret_int HB2.out.symm, HP.out.below⟩
        · have HB2 := Lib.hid (show rvFault x = 2 by rw [HR.out, HIM.out, decide_eq_false (p := x.imm ≤ hi) (by omega)]; simp)
          go_wp2_with fail
          go_ret
          exact ⟨ret_int HB2.out.symm, HP.out.below⟩
        · rcases hst with rfl | rfl
          · have HB2 := Lib.hid (show rvFault x = 0 by rw [HR.out, HIM.out, decide_eq_true q1, decide_eq_true q2, decide_eq_true (by omega)]; rfl)
            have hrem : x.imm.tmod 1 = 0 := Int.tmod_one x.imm
            go_wp2_with fail
            go_ret
            exact ⟨ret_int HB2.out.symm, HP.out.below⟩
          · by_cases hd : x.imm % 4 = 0
            · have HB2 := Lib.hid (show rvFault x = 0 by rw [HR.out, HIM.out, decide_eq_true q1, decide_eq_true q2, decide_eq_true hd]; rfl)
              have hrem : x.imm.tmod 4 = 0 := (tmod4 _).2 hd
              clear hd
              go_wp2_with fail
              go_ret
              exact ⟨ret_int HB2.out.symm, HP.out.below⟩
            · have HB2 := Lib.hid (show rvFault x = 2 by rw [HR.out, HIM.out, decide_eq_false hd]; simp)
              have hrem : (x.imm.tmod 4 != 0) = true := by rw [bne_iff_ne]; exact fun h => hd ((tmod4 _).1 h)
              clear hd
              go_wp2_with fail
              go_ret
              exact ⟨ret_int HB2.out.symm, HP.out.below⟩
      · have ht2 : t = 0 ∨ t = 1 ∨ t = 2 := by omega
        clear ht ht3
        rcases ht2 with rfl | rfl | rfl
        · obtain ⟨b, hb⟩ : ∃ b, fieldB sh 0 = b := ⟨_, rfl⟩
          have hfl : wr.cell? ⟨1, sh * 3, none⟩ = some (.bool b) := by have := HT2.out.fields sh 0 hs8 (by omega); unfold fieldB at hb; rw [hb] at this; exact this
          have HBB := Lib.hid hb
          clear hb
          have hbad : regZ x.rd b = false → rvFault x = 2 := fun h => by rw [HF.out, HBB.out, h]; simp
          have HBAD := Lib.hid hbad
          clear hbad
          have hq : x.rd < 0 ∨ (0 ≤ x.rd ∧ 31 < x.rd) ∨ (0 ≤ x.rd ∧ x.rd ≤ 31 ∧ x.rd = 0) ∨ (0 ≤ x.rd ∧ x.rd ≤ 31 ∧ x.rd ≠ 0) := by omega
          rcases hq with q1 | ⟨q1, q2⟩ | ⟨q1, q2, q3⟩ | ⟨q1, q2, q3⟩
          · have HB2 := Lib.hid (HBAD.out (by unfold regZ; rw [decide_eq_false (by omega)]; rfl))
            go_wp2_with fail
            go_ret
            exact ⟨ret_int HB2.out.symm, HP.out.below⟩
          · have HB2 := Lib.hid (HBAD.out (by unfold regZ; rw [decide_eq_false (p := x.rd ≤ _) (by split <;> omega)]; simp))
            go_wp2_with fail
            go_ret
            exact ⟨ret_int HB2.out.symm, HP.out.below⟩
          · have HOK1 : Hid (regZ x.rd (fieldB sh 0) = true) := Lib.hid (by unfold regZ; rw [decide_eq_true (by omega), decide_eq_true (by split <;> omega)]; rfl)
            have q4 : (x.rd != 0) = false := by simpa using q3
            clear q3
            go_wp2_with fail
            go_roundw
            case rel =>
              refine ⟨1, by omega, by go_num, Lib.hid ?_, by trivial⟩
              have := HB.out
              exact ⟨fun h => HOK1.out, fun h => this.2.1 (by omega), fun h => this.2.2 (by omega)⟩
            case measure => simp [intOf]
          · have q4 : (x.rd != 0) = true := by simpa using q3
            have HQ3 := Lib.hid q3
            clear q3
            cases b
            · have HB2 := Lib.hid (HBAD.out (by unfold regZ; rw [decide_eq_false (p := x.rd ≤ _) (by have := HQ3.out; simp; omega)]; simp))
              go_wp2_with fail
              go_ret
              exact ⟨ret_int HB2.out.symm, HP.out.below⟩
            · have HOK1 : Hid (regZ x.rd (fieldB sh 0) = true) := Lib.hid (by rw [HBB.out]; unfold regZ; rw [decide_eq_true (by omega), decide_eq_true (by simp; omega)]; rfl)
              go_wp2_with fail
              go_roundw
              case rel =>
                refine ⟨1, by omega, by go_num, Lib.hid ?_, by trivial⟩
                have := HB.out
                exact ⟨fun h => HOK1.out, fun h => this.2.1 (by omega), fun h => this.2.2 (by omega)⟩
              case measure => simp [intOf]
        · obtain ⟨b, hb⟩ : ∃ b, fieldB sh 1 = b := ⟨_, rfl⟩
          have hfl : wr.cell? ⟨1, sh * 3 + 1, none⟩ = some (.bool b) := by have := HT2.out.fields sh 1 hs8 (by omega); unfold fieldB at hb; rw [hb] at this; exact this
          have HBB := Lib.hid hb
          clear hb
          have hbad : regZ x.rs1 b = false → rvFault x = 2 := fun h => by rw [HF.out, HBB.out, h]; simp
          have HBAD := Lib.hid hbad
          clear hbad
          have hq : x.rs1 < 0 ∨ (0 ≤ x.rs1 ∧ 31 < x.rs1) ∨ (0 ≤ x.rs1 ∧ x.rs1 ≤ 31 ∧ x.rs1 = 0) ∨ (0 ≤ x.rs1 ∧ x.rs1 ≤ 31 ∧ x.rs1 ≠ 0) := by omega
          rcases hq with q1 | ⟨q1, q2⟩ | ⟨q1, q2, q3⟩ | ⟨q1, q2, q3⟩
          · have HB2 := Lib.hid (HBAD.out (by unfold regZ; rw [decide_eq_false (by omega)]; rfl))
            go_wp2_with fail
            go_ret
            exact ⟨ret_int HB2.out.symm, HP.out.below⟩
          · have HB2 := Lib.hid (HBAD.out (by unfold regZ; rw [decide_eq_false (p := x.rs1 ≤ _) (by split <;> omega)]; simp))
            go_wp2_with fail
            go_ret
            exact ⟨ret_int HB2.out.symm, HP.out.below⟩
          · have HOK1 : Hid (regZ x.rs1 (fieldB sh 1) = true) := Lib.hid (by unfold regZ; rw [decide_eq_true (by omega), decide_eq_true (by split <;> omega)]; rfl)
            have q4 : (x.rs1 != 0) = false := by simpa using q3
            clear q3
            go_wp2_with fail
            go_roundw
            case rel =>
              refine ⟨2, by omega, by go_num, Lib.hid ?_, by trivial⟩
              have := HB.out
              exact ⟨fun h => this.1 (by omega), fun h => HOK1.out, fun h => this.2.2 (by omega)⟩
            case measure => simp [intOf]
          · have q4 : (x.rs1 != 0) = true := by simpa using q3
            have HQ3 := Lib.hid q3
            clear q3
            cases b
            · have HB2 := Lib.hid (HBAD.out (by unfold regZ; rw [decide_eq_false (p := x.rs1 ≤ _) (by have := HQ3.out; simp; omega)]; simp))
              go_wp2_with fail
              go_ret
              exact ⟨ret_int HB2.out.symm, HP.out.below⟩
            · have HOK1 : Hid (regZ x.rs1 (fieldB sh 1) = true) := Lib.hid (by rw [HBB.out]; unfold regZ; rw [decide_eq_true (by omega), decide_eq_true (by simp; omega)]; rfl)
              go_wp2_with fail
              go_roundw
              case rel =>
                refine ⟨2, by omega, by go_num, Lib.hid ?_, by trivial⟩
                have := HB.out
                exact ⟨fun h => this.1 (by omega), fun h => HOK1.out, fun h => this.2.2 (by omega)⟩
              case measure => simp [intOf]
        · obtain ⟨b, hb⟩ : ∃ b, fieldB sh 2 = b := ⟨_, rfl⟩
          have hfl : wr.cell? ⟨1, sh * 3 + 2, none⟩ = some (.bool b) := by have := HT2.out.fields sh 2 hs8 (by omega); unfold fieldB at hb; rw [hb] at this; exact this
          have HBB := Lib.hid hb
          clear hb
          have hbad : regZ x.rs2 b = false → rvFault x = 2 := fun h => by rw [HF.out, HBB.out, h]; simp
          have HBAD := Lib.hid hbad
          clear hbad
          have hq : x.rs2 < 0 ∨ (0 ≤ x.rs2 ∧ 31 < x.rs2) ∨ (0 ≤ x.rs2 ∧ x.rs2 ≤ 31 ∧ x.rs2 = 0) ∨ (0 ≤ x.rs2 ∧ x.rs2 ≤ 31 ∧ x.rs2 ≠ 0) := by omega
          rcases hq with q1 | ⟨q1, q2⟩ | ⟨q1, q2, q3⟩ | ⟨q1, q2, q3⟩
          · have HB2 := Lib.hid (HBAD.out (by unfold regZ; rw [decide_eq_false (by omega)]; rfl))
            go_wp2_with fail
            go_ret
            exact ⟨ret_int HB2.out.symm, HP.out.below⟩
          · have HB2 := Lib.hid (HBAD.out (by unfold regZ; rw [decide_eq_false (p := x.rs2 ≤ _) (by split <;> omega)]; simp))
            go_wp2_with fail
            go_ret
            exact ⟨ret_int HB2.out.symm, HP.out.below⟩
          · have HOK1 : Hid (regZ x.rs2 (fieldB sh 2) = true) := Lib.hid (by unfold regZ; rw [decide_eq_true (by omega), decide_eq_true (by split <;> omega)]; rfl)
            have q4 : (x.rs2 != 0) = false := by simpa using q3
            clear q3
            go_wp2_with fail
            go_roundw
            case rel =>
              refine ⟨3, by omega, by go_num, Lib.hid ?_, by trivial⟩
              have := HB.out
              exact ⟨fun h => this.1 (by omega), fun h => this.2.1 (by omega), fun h => HOK1.out⟩
            case measure => simp [intOf]
          · have q4 : (x.rs2 != 0) = true := by simpa using q3
            have HQ3 := Lib.hid q3
            clear q3
            cases b
            · have HB2 := Lib.hid (HBAD.out (by unfold regZ; rw [decide_eq_false (p := x.rs2 ≤ _) (by have := HQ3.out; simp; omega)]; simp))
              go_wp2_with fail
              go_ret
              exact ⟨ret_int HB2.out.symm, HP.out.below⟩
            · have HOK1 : Hid (regZ x.rs2 (fieldB sh 2) = true) := Lib.hid (by rw [HBB.out]; unfold regZ; rw [decide_eq_true (by omega), decide_eq_true (by simp; omega)]; rfl)
              go_wp2_with fail
              go_roundw
              case rel =>
                refine ⟨3, by omega, by go_num, Lib.hid ?_, by trivial⟩
                have := HB.out
                exact ⟨fun h => this.1 (by omega), fun h => this.2.1 (by omega), fun h => HOK1.out⟩
              case measure => simp [intOf]
  · have HF := Lib.hid (show rvFault x = 3 by unfold rvFault; rw [if_pos ho])
    have hq : x.op < 1 ∨ (1 ≤ x.op ∧ 29 < x.op) := by omega
    clear ho
    rcases hq with q1 | ⟨q1, q2⟩
    all_goals
      go_wp2_with fail
      go_ret
      exact ⟨ret_int HF.out.symm, HP.out.below⟩
end Go.Proofs.YtfhoffpdodjfeaaDoor
