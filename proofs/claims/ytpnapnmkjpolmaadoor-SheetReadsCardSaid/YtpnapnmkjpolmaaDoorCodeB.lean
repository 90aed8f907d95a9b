/- tierlineref.instrFault. -/
import Derived.Test.YtpnapnmkjpolmaaDoorCodeA
set_option linter.unusedSimpArgs false
set_option linter.unusedVariables false
namespace Go.Proofs.YtpnapnmkjpolmaaDoor
open Go.RowKit
set_option maxHeartbeats 1000000 in
theorem instrFault_any (x : Ins) (params regs : Int) (A : Option Addr) (len cap : Nat) (funcs : Nat) (w : World) (hreg : 1 ≤ regs ∧ regs ≤ 12) (hlen : len ≤ 40) (hfun : funcs ≤ 4) :
    Calls Tryd.prog 35 #[.agg #[.int .i64 x.op, .int .i64 x.dst, .int .i64 x.a, .int .i64 x.b, .int .i64 x.imm], .agg #[.int .i64 params, .int .i64 regs, .slice A len cap], .int .i64 funcs] w
      fun e w' => e = .returned (.int .i64 (insFault x regs len funcs)) ∧ Below w.heap.size w w' := by
  obtain ⟨op, dst, a, b, imm⟩ := x
  have hbel : Below w.heap.size w ((w.alloc (.cells #[.int .i64 op, .int .i64 dst, .int .i64 a, .int .i64 b, .int .i64 imm] 48)).alloc (.cells #[.int .i64 params, .int .i64 regs, .slice A len cap] 36)) :=
    ((Below.refl _ _).alloc (Nat.le_refl _) _).alloc (by simp) _
  by_cases hop : 1 ≤ op ∧ op ≤ 19
  · obtain ⟨h1, h2⟩ := hop
    have hI := insFault_ok ⟨op, dst, a, b, imm⟩ regs len funcs ⟨h1, h2⟩
    have hi : immMayZ ⟨op, dst, a, b, imm⟩ len funcs = if op = 15 ∨ op = 16 then decide (0 ≤ imm ∧ imm ≤ (len : Int) - 1) else if op = 17 then decide (0 ≤ imm ∧ imm ≤ (funcs : Int) - 1) else if op = 1 then true else decide (imm = 0) := rfl
    unfold insMay at hI
    rw [hi] at hI
    have HM := Lib.hid hI
    clear hI hi
    obtain ⟨D, hD⟩ : ∃ D, regMayZ dst (setsZ op) regs = D := ⟨_, rfl⟩
    obtain ⟨A', hA⟩ : ∃ A', regMayZ a (readsAZ op) regs = A' := ⟨_, rfl⟩
    obtain ⟨B, hB⟩ : ∃ B, regMayZ b (readsBZ op) regs = B := ⟨_, rfl⟩
    have HD := Lib.hid hD
    have HA := Lib.hid hA
    have HB := Lib.hid hB
    clear hD hA hB
    go_enter Tryd.func35, Tryd.ntmps35
    go_upto_region 3 with ((go_at_call 34; refine (In_any _ _ _ _).mono ?_; rintro e w' ⟨rfl, rfl⟩))
    go_cut [7] (fun v wx => v = .bool (D && (A' && B)) ∧ ∃ n, wx = ((w.alloc (.cells #[.int .i64 op, .int .i64 dst, .int .i64 a, .int .i64 b, .int .i64 imm] 48)).alloc (.cells #[.int .i64 params, .int .i64 regs, .slice A len cap] 36)).drewN n)
    case first =>
      cases D
      · go_quiet ((first | (go_at_call 38; exact quiet_left (Sets_any _ _)) | (go_at_call 39; exact quiet_left (ReadsA_any _ _)) | (go_at_call 40; exact quiet_left (ReadsB_any _ _)) | (go_at_call_of 52 (Value.int IntKind.i64 dst); exact quiet_left (calls_value (regMay_any dst (setsZ op) regs _ hreg) (congrArg Value.bool HD.out)))))
        go_wp2_with fail
        go_meet
        exact ⟨rfl, _, rfl⟩
      · cases A'
        · go_quiet ((first | (go_at_call 38; exact quiet_left (Sets_any _ _)) | (go_at_call 39; exact quiet_left (ReadsA_any _ _)) | (go_at_call 40; exact quiet_left (ReadsB_any _ _)) | (go_at_call_of 52 (Value.int IntKind.i64 dst); exact quiet_left (calls_value (regMay_any dst (setsZ op) regs _ hreg) (congrArg Value.bool HD.out))) | (go_at_call_of 52 (Value.int IntKind.i64 a); exact quiet_left (calls_value (regMay_any a (readsAZ op) regs _ hreg) (congrArg Value.bool HA.out)))))
          go_wp2_with fail
          go_meet
          exact ⟨rfl, _, rfl⟩
        · cases B
          all_goals
            go_quiet ((first | (go_at_call 38; exact quiet_left (Sets_any _ _)) | (go_at_call 39; exact quiet_left (ReadsA_any _ _)) | (go_at_call 40; exact quiet_left (ReadsB_any _ _)) | (go_at_call_of 52 (Value.int IntKind.i64 dst); exact quiet_left (calls_value (regMay_any dst (setsZ op) regs _ hreg) (congrArg Value.bool HD.out))) | (go_at_call_of 52 (Value.int IntKind.i64 a); exact quiet_left (calls_value (regMay_any a (readsAZ op) regs _ hreg) (congrArg Value.bool HA.out))) | (go_at_call_of 52 (Value.int IntKind.i64 b); exact quiet_left (calls_value (regMay_any b (readsBZ op) regs _ hreg) (congrArg Value.bool HB.out)))))
            go_wp2_with fail
            go_meet
            exact ⟨rfl, _, rfl⟩
    case rest =>
      obtain ⟨rfl, n, rfl⟩ := hcut
      have hcls : op = 15 ∨ op = 16 ∨ op = 17 ∨ op = 1 ∨ (op ≠ 15 ∧ op ≠ 16 ∧ op ≠ 17 ∧ op ≠ 1) := by omega
      obtain ⟨ok, hok⟩ : ∃ ok, (D && (A' && B)) = ok := ⟨_, rfl⟩
      rw [hok]
      have HO := Lib.hid hok
      clear hok
      have HM' : Hid (insFault ⟨op, dst, a, b, imm⟩ regs len funcs = if (D && (A' && (B && (if op = 15 ∨ op = 16 then decide (0 ≤ imm ∧ imm ≤ (len : Int) - 1) else if op = 17 then decide (0 ≤ imm ∧ imm ≤ (funcs : Int) - 1) else if op = 1 then true else decide (imm = 0))))) then 0 else 2) := Lib.hid (by rw [HM.out, HD.out, HA.out, HB.out])
      have HF : Hid (insFault ⟨op, dst, a, b, imm⟩ regs len funcs = if (ok && (if op = 15 ∨ op = 16 then decide (0 ≤ imm ∧ imm ≤ (len : Int) - 1) else if op = 17 then decide (0 ≤ imm ∧ imm ≤ (funcs : Int) - 1) else if op = 1 then true else decide (imm = 0))) then 0 else 2) := Lib.hid (by rw [HM'.out, ← HO.out]; simp only [Bool.and_assoc])
      clear HM HM' HO
      have hbn := below_drewN hbel n
      rcases hcls with rfl | rfl | rfl | rfl | ⟨hk1, hk2, hk3, hk4⟩
      case inr.inr.inr.inr =>
        have e1 : (op == 15) = false := by simpa using hk1
        have e2 : (op == 16) = false := by simpa using hk2
        have e3 : (op == 17) = false := by simpa using hk3
        have e4 : (op != 1) = true := by simpa using hk4
        cases ok
        all_goals
          go_wp2_with (go_at_call 34; refine (In_any _ _ _ _).mono ?_; rintro e w' ⟨rfl, rfl⟩)
          all_goals
            go_ret
            refine ⟨ret_int ?_, hbn⟩
            rw [HF.out]
            try simp only [Bool.not_eq_true', Bool.not_eq_false', beq_iff_eq, beq_eq_false_iff_ne, bne_iff_ne, bne_eq_false_iff_eq, ne_eq, decide_eq_true_eq, decide_eq_false_iff_not] at *
            simp [*]
            try omega
      all_goals
        cases ok
        all_goals
          go_wp2_with (go_at_call 34; refine (In_any _ _ _ _).mono ?_; rintro e w' ⟨rfl, rfl⟩)
          all_goals
            go_ret
            refine ⟨ret_int ?_, hbn⟩
            rw [HF.out]
            try simp only [Bool.not_eq_true', Bool.not_eq_false', beq_iff_eq, beq_eq_false_iff_ne, bne_iff_ne, bne_eq_false_iff_eq, ne_eq, decide_eq_true_eq, decide_eq_false_iff_not] at *
            simp [*]
            try omega
  · have hf : insFault ⟨op, dst, a, b, imm⟩ regs len funcs = 3 := by unfold insFault; rw [if_pos hop]
    have HF := Lib.hid hf
    clear hf
    go_enter Tryd.func35, Tryd.ntmps35
    have hd : (decide (1 ≤ op) && decide (op ≤ 19)) = false := by simp; omega
    go_wp2_with (first | (go_at_call 34; refine (In_any _ _ _ _).mono ?_; rintro e w' ⟨rfl, rfl⟩))
    go_ret
    exact ⟨by rw [HF.out]; rfl, hbel⟩
end Go.Proofs.YtpnapnmkjpolmaaDoor
