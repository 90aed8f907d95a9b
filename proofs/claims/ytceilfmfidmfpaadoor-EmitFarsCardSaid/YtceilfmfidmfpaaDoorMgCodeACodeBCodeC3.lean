/- package code: an instruction's shape; the document's words for it. tierlineref.instrFault. code.Check: what it answers of a program that lies in memory. -/
import Derived.Test.YtceilfmfidmfpaaDoorRows
import Derived.Test.YtceilfmfidmfpaaDoorMgMemData2
set_option linter.unusedSimpArgs false
set_option linter.unusedVariables false
namespace Go.Proofs.YtceilfmfidmfpaaDoor
open Go.RowKit

/-- code.has, as it is laid. -/
def hasL : List Int := [0, 9, 7, 7, 7, 7, 7, 7, 7, 7, 7, 7, 7, 3, 6, 16, 18, 39, 3, 2]
def Has (w : World) : Prop := ∀ k, k < 20 → w.cell? ⟨0, k, none⟩ = some (.int .i64 (hasL.getD k 0))
theorem Has.keep {w w' : World} {B : Nat} (h : Has w) (hb : Below B w w') (hB : B = w.heap.size) : Has w' := fun k hk => by
  have hlt := World.block_lt_of_cell? w _ (h k hk)
  rw [hb.cell (by rw [hB]; exact hlt)]
  exact h k hk

set_option maxHeartbeats 400000 in
theorem within_any (a b c : Int) (w : World) :
    Calls Tryd.prog 60 #[.int .i64 a, .int .i64 b, .int .i64 c] w fun e w' => e = .returned (.bool (decide (b ≤ a) && decide (a ≤ c))) ∧ w = w' := by
  go_enter Tryd.func60, Tryd.ntmps60
  go_wp2
  all_goals (go_ret; refine ⟨?_, rfl⟩; congr 2; simp [*] <;> omega)
set_option maxHeartbeats 400000 in
theorem In_any (a b c : Int) (w : World) :
    Calls Tryd.prog 40 #[.int .i64 a, .int .i64 b, .int .i64 c] w fun e w' => e = .returned (.bool (decide (b ≤ a) && decide (a ≤ c))) ∧ w = w' := by
  go_enter Tryd.func40, Tryd.ntmps40
  go_wp2
  all_goals (go_ret; refine ⟨?_, rfl⟩; congr 2; simp [*] <;> omega)
set_option maxHeartbeats 400000 in
theorem reg_any (n is regs : Int) (w : World) (h : 1 ≤ regs ∧ regs ≤ 12) :
    Calls Tryd.prog 73 #[.int .i64 n, .int .i64 is, .int .i64 regs] w fun e w' => e = .returned (.bool (regMayZ n (decide (is ≠ 0)) regs)) ∧ w = w' := by
  cases hi : (is == 0)
  all_goals
    have HI := Lib.hid hi
    go_enter Tryd.func73, Tryd.ntmps73
    go_wp2_with (go_at_call 60; refine (within_any _ _ _ _).mono ?_; rintro e w' ⟨rfl, rfl⟩)
    go_ret
    refine ⟨ret_bool ?_, rfl⟩
    have hi := HI.out
    simp only [beq_iff_eq, beq_eq_false_iff_ne, ne_eq] at hi
    simp [regMayZ, hi]
    try (rw [Bool.eq_iff_iff]; simp)
set_option maxHeartbeats 400000 in
theorem regMay_any (n : Int) (is : Bool) (regs : Int) (w : World) (h : 1 ≤ regs ∧ regs ≤ 12) :
    Calls Tryd.prog 92 #[.int .i64 n, .bool is, .int .i64 regs] w fun e w' => e = .returned (.bool (regMayZ n is regs)) ∧ w = w' := by
  cases is
  all_goals
    go_enter Tryd.func92, Tryd.ntmps92
    go_wp2_with (go_at_call 40; refine (In_any _ _ _ _).mono ?_; rintro e w' ⟨rfl, rfl⟩)
    go_ret
    refine ⟨ret_bool ?_, rfl⟩
    simp [regMayZ]
    try (rw [Bool.eq_iff_iff]; simp)
set_option maxHeartbeats 400000 in
theorem ReadsA_any (op : Int) (w : World) :
    Calls Tryd.prog 85 #[.int .i64 op] w fun e w' => e = .returned (.bool (readsAZ op)) ∧ w = w' := by
  go_enter Tryd.func85, Tryd.ntmps85
  go_wp2
  all_goals (go_ret; refine ⟨ret_bool ?_, rfl⟩; rw [Bool.eq_iff_iff]; simp [readsAZ] at *; try omega)
set_option maxHeartbeats 400000 in
theorem Sets_any (op : Int) (w : World) :
    Calls Tryd.prog 72 #[.int .i64 op] w fun e w' => e = .returned (.bool (setsZ op)) ∧ w = w' := by
  go_enter Tryd.func72, Tryd.ntmps72
  go_wp2_with (go_at_call 40; refine (In_any _ _ _ _).mono ?_; rintro e w' ⟨rfl, rfl⟩)
  all_goals (go_ret; refine ⟨ret_bool ?_, rfl⟩; rw [Bool.eq_iff_iff]; simp [setsZ] at *; try omega)
set_option maxHeartbeats 400000 in
theorem ReadsB_any (op : Int) (w : World) :
    Calls Tryd.prog 86 #[.int .i64 op] w fun e w' => e = .returned (.bool (readsBZ op)) ∧ w = w' := by
  go_enter Tryd.func86, Tryd.ntmps86
  go_wp2_with (go_at_call 40; refine (In_any _ _ _ _).mono ?_; rintro e w' ⟨rfl, rfl⟩)
  all_goals (go_ret; refine ⟨ret_bool ?_, rfl⟩; rw [Bool.eq_iff_iff]; simp [readsBZ] at *; try omega)

theorem hasAt (op : Int) (h : 1 ≤ op ∧ op ≤ 19) : hasL.getD op.toNat 0 = (if setsZ op then 1 else 0) + (if readsAZ op then 2 else 0) + (if readsBZ op then 4 else 0) + (if op = 1 then 8 else 0) + (if op = 15 ∨ op = 16 then 16 else 0) + (if op = 17 then 32 else 0) := by
  obtain ⟨k, rfl⟩ := Int.eq_ofNat_of_zero_le (show 0 ≤ op by omega)
  have : k = 1 ∨ k = 2 ∨ k = 3 ∨ k = 4 ∨ k = 5 ∨ k = 6 ∨ k = 7 ∨ k = 8 ∨ k = 9 ∨ k = 10 ∨ k = 11 ∨ k = 12 ∨ k = 13 ∨ k = 14 ∨ k = 15 ∨ k = 16 ∨ k = 17 ∨ k = 18 ∨ k = 19 := by omega
  rcases this with rfl | rfl | rfl | rfl | rfl | rfl | rfl | rfl | rfl | rfl | rfl | rfl | rfl | rfl | rfl | rfl | rfl | rfl | rfl <;> decide
/-- What the table's bits say. -/
theorem has_bits (op : Int) (h : 1 ≤ op ∧ op ≤ 19) (n : Int) (hn : n = hasL.getD op.toNat 0) :
    decide (bits .and .i64 n 1 ≠ 0) = setsZ op ∧ decide (bits .and .i64 n 2 ≠ 0) = readsAZ op ∧ decide (bits .and .i64 n 4 ≠ 0) = readsBZ op ∧ bits .and .i64 n 8 = (if op = 1 then 8 else 0) ∧ bits .and .i64 n 16 = (if op = 15 ∨ op = 16 then 16 else 0) ∧
      bits .and .i64 n 32 = (if op = 17 then 32 else 0) ∧ bits .and .i64 n 48 = (if op = 15 ∨ op = 16 then 16 else if op = 17 then 32 else 0) := by
  subst hn
  obtain ⟨k, rfl⟩ := Int.eq_ofNat_of_zero_le (show 0 ≤ op by omega)
  have : k = 1 ∨ k = 2 ∨ k = 3 ∨ k = 4 ∨ k = 5 ∨ k = 6 ∨ k = 7 ∨ k = 8 ∨ k = 9 ∨ k = 10 ∨ k = 11 ∨ k = 12 ∨ k = 13 ∨ k = 14 ∨ k = 15 ∨ k = 16 ∨ k = 17 ∨ k = 18 ∨ k = 19 := by omega
  rcases this with rfl | rfl | rfl | rfl | rfl | rfl | rfl | rfl | rfl | rfl | rfl | rfl | rfl | rfl | rfl | rfl | rfl | rfl | rfl <;> decide
/-- An instruction whose op there is. -/
def insMay (x : Ins) (regs : Int) (len funcs : Nat) : Bool := regMayZ x.dst (setsZ x.op) regs && (regMayZ x.a (readsAZ x.op) regs && (regMayZ x.b (readsBZ x.op) regs && immMayZ x len funcs))
theorem insFault_ok (x : Ins) (regs : Int) (len funcs : Nat) (h : 1 ≤ x.op ∧ x.op ≤ 19) : insFault x regs len funcs = if insMay x regs len funcs then 0 else 2 := by
  unfold insFault insMay
  rw [if_neg (by simpa using h)]
  simp only [Bool.and_assoc]

set_option maxHeartbeats 1000000 in
theorem instr_any (x : Ins) (params regs : Int) (A : Option Addr) (len cap : Nat) (funcs : Nat) (w : World) (hreg : 1 ≤ regs ∧ regs ≤ 12) (hlen : len ≤ 40) (hfun : funcs ≤ 4) (hh : Has w) :
    Calls Tryd.prog 61 #[.agg #[.int .i64 x.op, .int .i64 x.dst, .int .i64 x.a, .int .i64 x.b, .int .i64 x.imm], .agg #[.int .i64 params, .int .i64 regs, .slice A len cap], .int .i64 funcs] w
      fun e w' => e = .returned (.int .i64 (insFault x regs len funcs)) ∧ Below w.heap.size w w' := by
  obtain ⟨op, dst, a, b, imm⟩ := x
  have hg : 0 < w.heap.size := World.block_lt_of_cell? w _ (hh 0 (by decide))
  have hbel : Below w.heap.size w ((w.alloc (.cells #[.int .i64 op, .int .i64 dst, .int .i64 a, .int .i64 b, .int .i64 imm] 56)).alloc (.cells #[.int .i64 params, .int .i64 regs, .slice A len cap] 47)) :=
    ((Below.refl _ _).alloc (Nat.le_refl _) _).alloc (by simp) _
  by_cases hop : 1 ≤ op ∧ op ≤ 19
  · obtain ⟨h1, h2⟩ := hop
    have hI := insFault_ok ⟨op, dst, a, b, imm⟩ regs len funcs ⟨h1, h2⟩
    obtain ⟨c1, c2, c4, c8, c16, c32, c48⟩ := has_bits op ⟨h1, h2⟩ _ rfl
    have hc := hh op.toNat (by omega)
    have hm : insMay ⟨op, dst, a, b, imm⟩ regs len funcs = (regMayZ dst (setsZ op) regs && (regMayZ a (readsAZ op) regs && (regMayZ b (readsBZ op) regs && immMayZ ⟨op, dst, a, b, imm⟩ len funcs))) := rfl
    rw [← c1, ← c2, ← c4] at hm
    rw [hm] at hI
    generalize hn : hasL.getD op.toNat 0 = n at hc hm hI c8 c16 c32 c48
    have hi : immMayZ ⟨op, dst, a, b, imm⟩ len funcs = if op = 15 ∨ op = 16 then decide (0 ≤ imm ∧ imm ≤ (len : Int) - 1) else if op = 17 then decide (0 ≤ imm ∧ imm ≤ (funcs : Int) - 1) else if op = 1 then true else decide (imm = 0) := rfl
    clear hn c1 c2 c4
    obtain ⟨k, rfl⟩ := Int.eq_ofNat_of_zero_le (show 0 ≤ op by omega)
    rw [Int.toNat_natCast] at hc
    rw [hi] at hI
    have HM := Lib.hid hI
    clear hI hm hi
    have hcls : (k = 15 ∨ k = 16) ∨ k = 17 ∨ k = 1 ∨ (¬ (k = 15 ∨ k = 16) ∧ k ≠ 17 ∧ k ≠ 1) := by omega
    rcases hcls with hk | hk | hk | ⟨hk1, hk2, hk3⟩
    · rw [if_neg (by omega)] at c8 c32
      rw [if_pos (by omega)] at c16 c48
      have HC : Hid ((if (k : Int) = 15 ∨ (k : Int) = 16 then decide (0 ≤ imm ∧ imm ≤ (len : Int) - 1) else if (k : Int) = 17 then decide (0 ≤ imm ∧ imm ≤ (funcs : Int) - 1) else if (k : Int) = 1 then true else decide (imm = 0)) = decide (0 ≤ imm ∧ imm ≤ (len : Int) - 1)) := Lib.hid (by rw [if_pos (by omega)])
      clear hk
      go_enter Tryd.func61, Tryd.ntmps61
      go_wp2_with (first | (go_at_call 60; refine (within_any _ _ _ _).mono ?_; rintro e w' ⟨rfl, rfl⟩) | (go_at_call 73; refine (reg_any _ _ _ _ hreg).mono ?_; rintro e w' ⟨rfl, rfl⟩))
      all_goals
        go_ret
        refine ⟨ret_int ?_, hbel⟩
        rw [HM.out, HC.out]
        try simp only [Bool.not_eq_true', Bool.not_eq_false', beq_iff_eq, beq_eq_false_iff_ne, ne_eq] at *
        simp [*]
        try omega
    · rw [if_neg (by omega)] at c8 c16 c48
      rw [if_pos (by omega)] at c32 c48
      have HC : Hid ((if (k : Int) = 15 ∨ (k : Int) = 16 then decide (0 ≤ imm ∧ imm ≤ (len : Int) - 1) else if (k : Int) = 17 then decide (0 ≤ imm ∧ imm ≤ (funcs : Int) - 1) else if (k : Int) = 1 then true else decide (imm = 0)) = decide (0 ≤ imm ∧ imm ≤ (funcs : Int) - 1)) := Lib.hid (by rw [if_neg (by omega), if_pos (by omega)])
      clear hk
      go_enter Tryd.func61, Tryd.ntmps61
      go_wp2_with (first | (go_at_call 60; refine (within_any _ _ _ _).mono ?_; rintro e w' ⟨rfl, rfl⟩) | (go_at_call 73; refine (reg_any _ _ _ _ hreg).mono ?_; rintro e w' ⟨rfl, rfl⟩))
      all_goals
        go_ret
        refine ⟨ret_int ?_, hbel⟩
        rw [HM.out, HC.out]
        try simp only [Bool.not_eq_true', Bool.not_eq_false', beq_iff_eq, beq_eq_false_iff_ne, ne_eq] at *
        simp [*]
        try omega
    · rw [if_neg (by omega)] at c32 c16 c48
      rw [if_neg (by omega)] at c48
      rw [if_pos (by omega)] at c8
      have HC : Hid ((if (k : Int) = 15 ∨ (k : Int) = 16 then decide (0 ≤ imm ∧ imm ≤ (len : Int) - 1) else if (k : Int) = 17 then decide (0 ≤ imm ∧ imm ≤ (funcs : Int) - 1) else if (k : Int) = 1 then true else decide (imm = 0)) = true) := Lib.hid (by rw [if_neg (by omega), if_neg (by omega), if_pos (by omega)])
      clear hk
      go_enter Tryd.func61, Tryd.ntmps61
      go_wp2_with (first | (go_at_call 60; refine (within_any _ _ _ _).mono ?_; rintro e w' ⟨rfl, rfl⟩) | (go_at_call 73; refine (reg_any _ _ _ _ hreg).mono ?_; rintro e w' ⟨rfl, rfl⟩))
      all_goals
        go_ret
        refine ⟨ret_int ?_, hbel⟩
        rw [HM.out, HC.out]
        try simp only [Bool.not_eq_true', Bool.not_eq_false', beq_iff_eq, beq_eq_false_iff_ne, ne_eq] at *
        simp [*]
        try omega
    · rw [if_neg (by omega)] at c8 c32 c16 c48
      rw [if_neg (by omega)] at c48
      have HC : Hid ((if (k : Int) = 15 ∨ (k : Int) = 16 then decide (0 ≤ imm ∧ imm ≤ (len : Int) - 1) else if (k : Int) = 17 then decide (0 ≤ imm ∧ imm ≤ (funcs : Int) - 1) else if (k : Int) = 1 then true else decide (imm = 0)) = decide (imm = 0)) := Lib.hid (by rw [if_neg (by omega), if_neg (by omega), if_neg (by omega)])
      clear hk1 hk2 hk3
      go_enter Tryd.func61, Tryd.ntmps61
      go_wp2_with (first | (go_at_call 60; refine (within_any _ _ _ _).mono ?_; rintro e w' ⟨rfl, rfl⟩) | (go_at_call 73; refine (reg_any _ _ _ _ hreg).mono ?_; rintro e w' ⟨rfl, rfl⟩))
      all_goals
        go_ret
        refine ⟨ret_int ?_, hbel⟩
        rw [HM.out, HC.out]
        try simp only [Bool.not_eq_true', Bool.not_eq_false', beq_iff_eq, beq_eq_false_iff_ne, ne_eq] at *
        simp [*]
        try omega
  · have hf : insFault ⟨op, dst, a, b, imm⟩ regs len funcs = 3 := by unfold insFault; rw [if_pos hop]
    have HF := Lib.hid hf
    clear hf
    go_enter Tryd.func61, Tryd.ntmps61
    have hd : (decide (1 ≤ op) && decide (op ≤ 19)) = false := by simp; omega
    go_wp2_with (first | (go_at_call 60; refine (within_any _ _ _ _).mono ?_; rintro e w' ⟨rfl, rfl⟩))
    go_ret
    exact ⟨by rw [HF.out]; rfl, hbel⟩
end Go.Proofs.YtceilfmfidmfpaaDoor
namespace Go.Proofs.YtceilfmfidmfpaaDoor
open Go.RowKit
set_option maxHeartbeats 1000000 in
theorem instrFault_any (x : Ins) (params regs : Int) (A : Option Addr) (len cap : Nat) (funcs : Nat) (w : World) (hreg : 1 ≤ regs ∧ regs ≤ 12) (hlen : len ≤ 40) (hfun : funcs ≤ 4) :
    Calls Tryd.prog 84 #[.agg #[.int .i64 x.op, .int .i64 x.dst, .int .i64 x.a, .int .i64 x.b, .int .i64 x.imm], .agg #[.int .i64 params, .int .i64 regs, .slice A len cap], .int .i64 funcs] w
      fun e w' => e = .returned (.int .i64 (insFault x regs len funcs)) ∧ Below w.heap.size w w' := by
  obtain ⟨op, dst, a, b, imm⟩ := x
  have hbel : Below w.heap.size w ((w.alloc (.cells #[.int .i64 op, .int .i64 dst, .int .i64 a, .int .i64 b, .int .i64 imm] 56)).alloc (.cells #[.int .i64 params, .int .i64 regs, .slice A len cap] 47)) :=
    ((Below.refl _ _).alloc (Nat.le_refl _) _).alloc (by simp) _
  by_cases hop : 1 ≤ op ∧ op ≤ 19
  · obtain ⟨h1, h2⟩ := hop
    have hI := insFault_ok ⟨op, dst, a, b, imm⟩ regs len funcs ⟨h1, h2⟩
    have hi : immMayZ ⟨op, dst, a, b, imm⟩ len funcs = if op = 15 ∨ op = 16 then decide (0 ≤ imm ∧ imm ≤ (len : Int) - 1) else if op = 17 then decide (0 ≤ imm ∧ imm ≤ (funcs : Int) - 1) else if op = 1 then true else decide (imm = 0) := rfl
    unfold insMay at hI
    rw [hi] at hI
    have HM := Lib.hid hI
    clear hI hi
    obtain ⟨D, hD⟩ : ∃ D, regMayZ dst (setsZ op) regs = D := ⟨_, rfl⟩
    obtain ⟨A', hA⟩ : ∃ A', regMayZ a (readsAZ op) regs = A' := ⟨_, rfl⟩
    obtain ⟨B, hB⟩ : ∃ B, regMayZ b (readsBZ op) regs = B := ⟨_, rfl⟩
    have HD := Lib.hid hD
    have HA := Lib.hid hA
    have HB := Lib.hid hB
    clear hD hA hB
    go_enter Tryd.func84, Tryd.ntmps84
    go_upto_region 3 with ((go_at_call 40; refine (In_any _ _ _ _).mono ?_; rintro e w' ⟨rfl, rfl⟩))
    go_cut [7] (fun v wx => v = .bool (D && (A' && B)) ∧ ∃ n, wx = ((w.alloc (.cells #[.int .i64 op, .int .i64 dst, .int .i64 a, .int .i64 b, .int .i64 imm] 56)).alloc (.cells #[.int .i64 params, .int .i64 regs, .slice A len cap] 47)).drewN n)
    case first =>
      cases D
      · go_quiet ((first | (go_at_call 72; exact quiet_left (Sets_any _ _)) | (go_at_call 85; exact quiet_left (ReadsA_any _ _)) | (go_at_call 86; exact quiet_left (ReadsB_any _ _)) | (go_at_call_of 92 (Value.int IntKind.i64 dst); exact quiet_left (calls_value (regMay_any dst (setsZ op) regs _ hreg) (congrArg Value.bool HD.out)))))
        go_wp2_with fail
        go_meet
        exact ⟨rfl, _, rfl⟩
      · cases A'
        · go_quiet ((first | (go_at_call 72; exact quiet_left (Sets_any _ _)) | (go_at_call 85; exact quiet_left (ReadsA_any _ _)) | (go_at_call 86; exact quiet_left (ReadsB_any _ _)) | (go_at_call_of 92 (Value.int IntKind.i64 dst); exact quiet_left (calls_value (regMay_any dst (setsZ op) regs _ hreg) (congrArg Value.bool HD.out))) | (go_at_call_of 92 (Value.int IntKind.i64 a); exact quiet_left (calls_value (regMay_any a (readsAZ op) regs _ hreg) (congrArg Value.bool HA.out)))))
          go_wp2_with fail
          go_meet
          exact ⟨rfl, _, rfl⟩
        · cases B
          all_goals
            go_quiet ((first | (go_at_call 72; exact quiet_left (Sets_any _ _)) | (go_at_call 85; exact quiet_left (ReadsA_any _ _)) | (go_at_call 86; exact quiet_left (ReadsB_any _ _)) | (go_at_call_of 92 (Value.int IntKind.i64 dst); exact quiet_left (calls_value (regMay_any dst (setsZ op) regs _ hreg) (congrArg Value.bool HD.out))) | (go_at_call_of 92 (Value.int IntKind.i64 a); exact quiet_left (calls_value (regMay_any a (readsAZ op) regs _ hreg) (congrArg Value.bool HA.out))) | (go_at_call_of 92 (Value.int IntKind.i64 b); exact quiet_left (calls_value (regMay_any b (readsBZ op) regs _ hreg) (congrArg Value.bool HB.out)))))
            go_wp2_with fail
            go_meet
            exact ⟨rfl, _, rfl⟩
    case rest =>
      obtain ⟨rfl, n, rfl⟩ := hcut
      have hcls : op = 15 ∨ op = 16 ∨ op = 17 ∨ op = 1 ∨ (op ≠ 15 ∧ op ≠ 16 ∧ op ≠ 17 ∧ op ≠ 1) := by omega
      obtain ⟨ok, hok⟩ : ∃ ok, (D && (A' && B)) = ok := ⟨_, rfl⟩
      rw [hok]
      have HO := Lib.hid hok
      clear hok
      have HM' : Hid (insFault ⟨op, dst, a, b, imm⟩ regs len funcs = if (D && (A' && (B && (if op = 15 ∨ op = 16 then decide (0 ≤ imm ∧ imm ≤ (len : Int) - 1) else if op = 17 then decide (0 ≤ imm ∧ imm ≤ (funcs : Int) - 1) else if op = 1 then true else decide (imm = 0))))) then 0 else 2) := Lib.hid (by rw [HM.out, HD.out, HA.out, HB.out])
      have HF : Hid (insFault ⟨op, dst, a, b, imm⟩ regs len funcs = if (ok && (if op = 15 ∨ op = 16 then decide (0 ≤ imm ∧ imm ≤ (len : Int) - 1) else if op = 17 then decide (0 ≤ imm ∧ imm ≤ (funcs : Int) - 1) else if op = 1 then true else decide (imm = 0))) then 0 else 2) := Lib.hid (by rw [HM'.out, ← HO.out]; simp only [Bool.and_assoc])
      clear HM HM' HO
      have hbn := below_drewN hbel n
      rcases hcls with rfl | rfl | rfl | rfl | ⟨hk1, hk2, hk3, hk4⟩
      case inr.inr.inr.inr =>
        have e1 : (op == 15) = false := by simpa using hk1
        have e2 : (op == 16) = false := by simpa using hk2
        have e3 : (op == 17) = false := by simpa using hk3
        have e4 : (op != 1) = true := by simpa using hk4
        cases ok
        all_goals
          go_wp2_with (go_at_call 40; refine (In_any _ _ _ _).mono ?_; rintro e w' ⟨rfl, rfl⟩)
          all_goals
            go_ret
            refine ⟨ret_int ?_, hbn⟩
            rw [HF.out]
            try simp only [Bool.not_eq_true', Bool.not_eq_false', beq_iff_eq, beq_eq_false_iff_ne, bne_iff_ne, bne_eq_false_iff_eq, ne_eq, decide_eq_true_eq, decide_eq_false_iff_not] at *
            simp [*]
            try omega
      all_goals
        cases ok
        all_goals
          go_wp2_with (go_at_call 40; refine (In_any _ _ _ _).mono ?_; rintro e w' ⟨rfl, rfl⟩)
          all_goals
            go_ret
            refine ⟨ret_int ?_, hbn⟩
            rw [HF.out]
            try simp only [Bool.not_eq_true', Bool.not_eq_false', beq_iff_eq, beq_eq_false_iff_ne, bne_iff_ne, bne_eq_false_iff_eq, ne_eq, decide_eq_true_eq, decide_eq_false_iff_not] at *
            simp [*]
            try omega
  · have hf : insFault ⟨op, dst, a, b, imm⟩ regs len funcs = 3 := by unfold insFault; rw [if_pos hop]
    have HF := Lib.hid hf
    clear hf
    go_enter Tryd.func84, Tryd.ntmps84
    have hd : (decide (1 ≤ op) && decide (op ≤ 19)) = false := by simp; omega
    go_wp2_with (first | (go_at_call 40; refine (In_any _ _ _ _).mono ?_; rintro e w' ⟨rfl, rfl⟩))
    go_ret
    exact ⟨by rw [HF.out]; rfl, hbel⟩
end Go.Proofs.YtceilfmfidmfpaaDoor
namespace Go.Proofs.YtceilfmfidmfpaaDoor
open Go.RowKit

theorem alike_box {w wr : World} {o : Obj} {B : Nat} (h : Below B (w.alloc o) wr) (hB : w.heap.size ≤ B) : Alike (Lt w.heap.size) w wr :=
  (Alike.alloc o (fun _ h => h)).trans (Alike.below h (fun b hb => Nat.lt_of_lt_of_le hb hB))
theorem prgFault_at (p : Prg) (k : Nat) (hk : k < p.funcs.length) (hn : 1 ≤ p.funcs.length ∧ p.funcs.length ≤ 4) (h : ∀ f, f ∈ p.funcs.take k → funFault f p.funcs.length = 0) (hne : funFault p.funcs[k] p.funcs.length ≠ 0) :
    prgFault p = funFault p.funcs[k] p.funcs.length := by
  unfold prgFault
  rw [if_neg (by simpa using hn)]
  exact firstZ_map_at (fun f => funFault f p.funcs.length) p.funcs k hk h hne
theorem prgFault_all (p : Prg) (hn : 1 ≤ p.funcs.length ∧ p.funcs.length ≤ 4) (h : ∀ f, f ∈ p.funcs → funFault f p.funcs.length = 0) : prgFault p = 0 := by
  unfold prgFault
  rw [if_neg (by simpa using hn), firstZ_eq_zero]
  simpa using h
theorem funFault_at (f : Fun) (n k : Nat) (hk : k < f.code.length) (h1 : 1 ≤ f.regs ∧ f.regs ≤ 12 ∧ 0 ≤ f.params ∧ f.params ≤ 2 ∧ f.params ≤ f.regs) (h2 : 1 ≤ f.code.length ∧ f.code.length ≤ 40)
    (h : ∀ x, x ∈ f.code.take k → insFault x f.regs f.code.length n = 0) (hne : insFault f.code[k] f.regs f.code.length n ≠ 0) : funFault f n = insFault f.code[k] f.regs f.code.length n := by
  unfold funFault
  rw [if_neg (by simpa using h1), if_neg (by simpa using h2)]
  exact firstZ_map_at (fun x => insFault x f.regs f.code.length n) f.code k hk h hne
theorem funFault_all (f : Fun) (n : Nat) (h1 : 1 ≤ f.regs ∧ f.regs ≤ 12 ∧ 0 ≤ f.params ∧ f.params ≤ 2 ∧ f.params ≤ f.regs) (h2 : 1 ≤ f.code.length ∧ f.code.length ≤ 40)
    (h : ∀ x, x ∈ f.code → insFault x f.regs f.code.length n = 0) : funFault f n = 0 := by
  unfold funFault
  rw [if_neg (by simpa using h1), if_neg (by simpa using h2), firstZ_eq_zero]
  simpa using h
theorem mem_take_succ {α : Type} {l : List α} {k : Nat} (hk : k < l.length) {x : α} (h : x ∈ l.take (k + 1)) : x ∈ l.take k ∨ x = l[k] := by
  rw [List.take_succ_eq_append_getElem hk, List.mem_append, List.mem_singleton] at h
  exact h

set_option maxRecDepth 10000 in
set_option maxHeartbeats 2000000 in
theorem codeCheck_any (p : Prg) (u : Value) (w : World) (hp : Lay.rep w (Lt w.heap.size) p [u]) (hh : Has w) :
    Calls Tryd.prog 42 #[.agg #[u]] w fun e w' => e = .returned (.int .i64 (prgFault p)) ∧ Below w.heap.size w w' := by
  obtain ⟨A, c, rfl, hc, hm, hx⟩ := rep_funs_at hp
  unfold maxLen at hm
  have HX := Lib.hid hx
  clear hx hp
  have hg : 0 < w.heap.size := World.block_lt_of_cell? w _ (hh 0 (by decide))
  have HH := Lib.hid hh
  clear hh
  by_cases hn : 1 ≤ p.funcs.length ∧ p.funcs.length ≤ 4
  · obtain ⟨hn1, hn2⟩ := hn
    go_enter Tryd.func42, Tryd.ntmps42
    go_wp2
    go_loopw [21] (fun i wr => ∃ k : Nat, k ≤ p.funcs.length ∧ i = .int .i64 k ∧ Hid (∀ f, f ∈ p.funcs.take k → funFault f p.funcs.length = 0) ∧ Below (w.heap.size + 1) (w.alloc (.cells #[.slice A p.funcs.length c] 24)) wr) (fun i _ => p.funcs.length - (intOf i).toNat)
    case atStart => exact ⟨0, by omega, rfl, Lib.hid (by simp), Below.refl _ _⟩
    case round =>
      obtain ⟨k, hk, rfl, hz, hb⟩ := hrel
      obtain ⟨w1, rfl⟩ : ∃ w1, w1 = wr := ⟨_, rfl⟩
      by_cases hlt : k < p.funcs.length
      · obtain ⟨a, v, rfl, hab, hat, hcode⟩ := HX.out k hlt
        have hal := alike_box hb (by omega)
        have HAT := Lib.hid (hat.keep (S := Lt w.heap.size) (by rw [block_of_add]; exact hab) hal)
        have HC := Lib.hid (Lay.keep hal hcode)
        have hcp : w1.cell? ⟨w.heap.size, 0, none⟩ = some (.slice (some a) p.funcs.length c) := by
          rw [hb.cell (by simp)]; exact (World.cell?_alloc_new w _ _ _).trans rfl
        clear hat hcode
        obtain ⟨f, hf⟩ : ∃ f, p.funcs[k] = f := ⟨_, rfl⟩
        rw [hf] at HAT HC
        have HFK := Lib.hid hf
        clear hf
        obtain ⟨A2, c2, rfl, hc2, hm2, hx2⟩ := rep_code_at HC.out
        unfold maxLen at hm2
        have HX2 := Lib.hid hx2
        clear hx2 HC
        have hsz := hb.size
        simp only [World.size_alloc] at hsz
        go_upto_region 6 with (first | (refine wpList_load_at rfl 47 _ rfl _ rfl _ _ HAT.out Tryd.underlying47 rfl (by kernel_rfl) ?_))
        have hbw : Below w.heap.size w (w1.alloc (.cells #[.int .i64 f.params, .int .i64 f.regs, .slice A2 f.code.length c2] 47)) :=
          (((Below.refl _ _).alloc (Nat.le_refl _) _).trans (hb.mono (by omega))).alloc (by omega) _
        have hbad : Hid (funFault f p.funcs.length ≠ 0 → prgFault p = funFault f p.funcs.length) := Lib.hid (by
          have := prgFault_at p k hlt ⟨hn1, hn2⟩ hz.out
          rwa [HFK.out] at this)
        by_cases hr : 1 ≤ f.regs ∧ f.regs ≤ 12
        · have hd1 : (decide (1 ≤ f.regs) && decide (f.regs ≤ 12)) = true := by simpa using hr
          obtain ⟨hr1, hr2⟩ := hr
          by_cases hpa : 0 ≤ f.params ∧ f.params ≤ 2 ∧ f.params ≤ f.regs
          · obtain ⟨hp1, hp2, hp3⟩ := hpa
            obtain ⟨mm, hmm, hpm⟩ : ∃ mm, (if f.regs < 2 then f.regs else 2) = mm ∧ f.params ≤ mm := ⟨_, rfl, by split <;> omega⟩
            by_cases hl : 1 ≤ f.code.length ∧ f.code.length ≤ 40
            · obtain ⟨hl1, hl2⟩ := hl
              have hfa := funFault_at f p.funcs.length
              have HFA := Lib.hid fun (j : Nat) (hj : j < f.code.length) => hfa j hj ⟨hr1, hr2, hp1, hp2, hp3⟩ ⟨hl1, hl2⟩
              clear hfa
              go_wp2_with (first | (go_at_call 60; refine (within_any _ _ _ _).mono ?_; rintro e w' ⟨rfl, rfl⟩))
              go_hide hQ
              go_loopw [51] (fun i wr => ∃ j : Nat, j ≤ f.code.length ∧ i = .int .i64 j ∧ Hid (∀ x, x ∈ f.code.take j → insFault x f.regs f.code.length p.funcs.length = 0) ∧ Below (w1.heap.size + 1) (w1.alloc (.cells #[.int .i64 f.params, .int .i64 f.regs, .slice A2 f.code.length c2] 47)) wr) (fun i _ => f.code.length - (intOf i).toNat)
              case atStart => exact ⟨0, by omega, rfl, Lib.hid (by simp), Below.refl _ _⟩
              case round =>
                obtain ⟨j, hj, rfl, hzj, hbj⟩ := hrel
                obtain ⟨w2, rfl⟩ : ∃ w2, w2 = wr := ⟨_, rfl⟩
                have hsj := hbj.size
                simp only [World.size_alloc] at hsj
                by_cases hjl : j < f.code.length
                · obtain ⟨a2, rfl, hab2, hat2⟩ := HX2.out j hjl
                  have hal2 := alike_box hbj (by omega)
                  have HAT2 := Lib.hid (hat2.keep (S := Lt w1.heap.size) (by rw [block_of_add]; exact Nat.lt_trans hab2 (by omega)) hal2)
                  have HH2 := Lib.hid ((HH.out.keep ((((Below.refl _ _).alloc (Nat.le_refl _) _).trans (hb.mono (by omega))).trans ((((Below.refl _ _).alloc (Nat.le_refl _) _).trans (hbj.mono (by omega))).mono (by omega))) rfl).keep ((Below.refl _ _).alloc (Nat.le_refl _) (.cells #[.int .i64 f.code[j].op, .int .i64 f.code[j].dst, .int .i64 f.code[j].a, .int .i64 f.code[j].b, .int .i64 f.code[j].imm] 56)) rfl)
                  clear hat2
                  obtain ⟨x, hxx⟩ : ∃ x, f.code[j] = x := ⟨_, rfl⟩
                  have HFAj := Lib.hid (HFA.out j hjl hzj.out)
                  rw [hxx] at HAT2 HH2 HFAj
                  have HXX := Lib.hid hxx
                  clear hxx
                  have hcp2 : (w2.alloc (.cells #[.int .i64 x.op, .int .i64 x.dst, .int .i64 x.a, .int .i64 x.b, .int .i64 x.imm] 56)).cell? ⟨w.heap.size, 0, none⟩ = some (.slice (some a) p.funcs.length c) := by
                    rw [World.cell?_alloc_lt _ _ _ (by show w.heap.size < _; omega), hbj.cell (by show w.heap.size < _; omega), World.cell?_alloc_lt _ _ _ (by show w.heap.size < _; omega)]; exact hcp
                  have HATF : Hid (At (w2.alloc (.cells #[.int .i64 x.op, .int .i64 x.dst, .int .i64 x.a, .int .i64 x.b, .int .i64 x.imm] 56)) ⟨w1.heap.size, 0, none⟩ [.int .i64 f.params, .int .i64 f.regs, .slice (some a2) f.code.length c2]) :=
                    Lib.hid ((((Blk.new w1 47 #[.int .i64 f.params, .int .i64 f.regs, .slice (some a2) f.code.length c2]).below hbj (by omega)).alloc (.cells #[.int .i64 x.op, .int .i64 x.dst, .int .i64 x.a, .int .i64 x.b, .int .i64 x.imm] 56)).at_ 0)
                  go_upto_region 14 with (first | (refine wpList_load_at rfl 56 _ rfl _ rfl _ _ HAT2.out Tryd.underlying56 rfl (by kernel_rfl) ?_) | (refine wpList_load_at rfl 47 _ rfl _ rfl _ _ HATF.out Tryd.underlying47 rfl (by kernel_rfl) ?_) | (go_at_call 61; refine (instr_any x _ _ _ _ _ _ _ ⟨hr1, hr2⟩ (by omega) (by omega) HH2.out).mono ?_; rintro e w3 ⟨rfl, hw3⟩))
                  have hbj3 : Below (w1.heap.size + 1) (w1.alloc (.cells #[.int .i64 f.params, .int .i64 f.regs, .slice (some a2) f.code.length c2] 47)) w3 :=
                    (hbj.alloc hsj _).trans (hw3.mono (by simp; omega))
                  generalize he0 : insFault x f.regs f.code.length p.funcs.length = e0 at HFAj ⊢
                  have HE0 := Lib.hid he0
                  clear he0
                  by_cases hi : e0 = 0
                  · have h1 : (e0 != 0) = false := by simp [hi]
                    have HI := Lib.hid hi
                    clear hi
                    go_wp2
                    go_roundw
                    case rel =>
                      refine ⟨j + 1, by omega, by go_num, Lib.hid fun y hy => ?_, hbj3⟩
                      rcases mem_take_succ hjl hy with hy | rfl
                      · exact hzj.out y hy
                      · rw [HXX.out, HE0.out, HI.out]
                    case measure => simp [intOf]; omega
                  · have h1 : (e0 != 0) = true := by simp [hi]
                    have hfin : prgFault p = e0 := by
                      have h2 := HFAj.out hi
                      exact (hbad.out (by rw [h2]; exact hi)).trans h2
                    have HF := Lib.hid hfin
                    clear hfin hi
                    go_wp2
                    subst hQ
                    go_wp2
                    go_ret
                    exact ⟨ret_int HF.out.symm, hbw.trans (hbj3.mono (by omega))⟩
                · obtain rfl : j = f.code.length := by omega
                  have hff : funFault f p.funcs.length = 0 := funFault_all f _ ⟨hr1, hr2, hp1, hp2, hp3⟩ ⟨hl1, hl2⟩ (by have := hzj.out; rwa [List.take_of_length_le (Nat.le_refl _)] at this)
                  have HFF := Lib.hid hff
                  clear hff
                  go_wp2
                  subst hQ
                  go_wp2
                  go_roundw
                  case rel =>
                    refine ⟨k + 1, by omega, by go_num, Lib.hid fun y hy => ?_, ?_⟩
                    · rcases mem_take_succ hlt hy with hy | rfl
                      · exact hz.out y hy
                      · rw [HFK.out, HFF.out]
                    · exact (hb.alloc hsz _).trans (hbj.mono (by omega))
                  case measure => simp [intOf]; omega
            · have hff : funFault f p.funcs.length = 1 := by unfold funFault; rw [if_neg (by omega), if_pos hl]
              have HF := Lib.hid (show prgFault p = 1 from (hbad.out (by rw [hff]; decide)).trans hff)
              clear hff
              by_cases hl1 : f.code.length < 1
              · go_wp2_with (first | (go_at_call 60; refine (within_any _ _ _ _).mono ?_; rintro e w' ⟨rfl, rfl⟩))
                go_ret
                exact ⟨ret_int HF.out.symm, hbw⟩
              · have hl2 : 40 < f.code.length := by omega
                go_wp2_with (first | (go_at_call 60; refine (within_any _ _ _ _).mono ?_; rintro e w' ⟨rfl, rfl⟩))
                go_ret
                exact ⟨ret_int HF.out.symm, hbw⟩
          · have hff : funFault f p.funcs.length = 2 := by unfold funFault; rw [if_pos (by omega)]
            have HF := Lib.hid (show prgFault p = 2 from (hbad.out (by rw [hff]; decide)).trans hff)
            clear hff
            obtain ⟨mm, hmm, hpm⟩ : ∃ mm, (if f.regs < 2 then f.regs else 2) = mm ∧ (f.params < 0 ∨ mm < f.params) := ⟨_, rfl, by split <;> omega⟩
            rcases hpm with hpm | hpm
            all_goals
              have hd2 : (decide (0 ≤ f.params) && decide (f.params ≤ mm)) = false := by simp; omega
              go_wp2_with (first | (go_at_call 60; refine (within_any _ _ _ _).mono ?_; rintro e w' ⟨rfl, rfl⟩))
              go_ret
              exact ⟨ret_int HF.out.symm, hbw⟩
        · have hd1 : (decide (1 ≤ f.regs) && decide (f.regs ≤ 12)) = false := by simp; omega
          have hff : funFault f p.funcs.length = 2 := by unfold funFault; rw [if_pos (by omega)]
          have HF := Lib.hid (show prgFault p = 2 from (hbad.out (by rw [hff]; decide)).trans hff)
          clear hff
          go_wp2_with (first | (go_at_call 60; refine (within_any _ _ _ _).mono ?_; rintro e w' ⟨rfl, rfl⟩))
          go_ret
          exact ⟨ret_int HF.out.symm, hbw⟩
      · obtain rfl : k = p.funcs.length := by omega
        have hfin : prgFault p = 0 := prgFault_all p ⟨hn1, hn2⟩ (by have := hz.out; rwa [List.take_of_length_le (Nat.le_refl _)] at this)
        have HF := Lib.hid hfin
        clear hfin
        go_wp2
        go_ret
        exact ⟨ret_int HF.out.symm, ((Below.refl _ _).alloc (Nat.le_refl _) _).trans (hb.mono (by omega))⟩
  · have hf : prgFault p = 1 := by unfold prgFault; rw [if_pos hn]
    have HF := Lib.hid hf
    clear hf
    by_cases h1 : p.funcs.length < 1
    · go_enter Tryd.func42, Tryd.ntmps42
      go_wp2
      go_ret
      exact ⟨ret_int HF.out.symm, (Below.refl _ _).alloc (Nat.le_refl _) _⟩
    · have h2 : 4 < p.funcs.length := by omega
      go_enter Tryd.func42, Tryd.ntmps42
      go_wp2
      go_ret
      exact ⟨ret_int HF.out.symm, (Below.refl _ _).alloc (Nat.le_refl _) _⟩
end Go.Proofs.YtceilfmfidmfpaaDoor
