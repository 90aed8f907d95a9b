/- package code: an instruction's shape; the document's words for it. -/
import Derived.Test.YtpnapnmkjpolmaaDoorRows
import Derived.Test.YtpnapnmkjpolmaaDoorData
set_option linter.unusedSimpArgs false
set_option linter.unusedVariables false
namespace Go.Proofs.YtpnapnmkjpolmaaDoor
open Go.RowKit

/-- code.has, as it is laid. -/
def hasL : List Int := [0, 9, 7, 7, 7, 7, 7, 7, 7, 7, 7, 7, 7, 3, 6, 16, 18, 39, 3, 2]
def Has (w : World) : Prop := ∀ k, k < 20 → w.cell? ⟨1, k, none⟩ = some (.int .i64 (hasL.getD k 0))
theorem Has.keep {w w' : World} {B : Nat} (h : Has w) (hb : Below B w w') (hB : B = w.heap.size) : Has w' := fun k hk => by
  have hlt := World.block_lt_of_cell? w _ (h k hk)
  rw [hb.cell (by rw [hB]; exact hlt)]
  exact h k hk

set_option maxHeartbeats 400000 in
theorem within_any (a b c : Int) (w : World) :
    Calls Tryd.prog 27 #[.int .i64 a, .int .i64 b, .int .i64 c] w fun e w' => e = .returned (.bool (decide (b ≤ a) && decide (a ≤ c))) ∧ w = w' := by
  go_enter Tryd.func27, Tryd.ntmps27
  go_wp2
  all_goals (go_ret; refine ⟨?_, rfl⟩; congr 2; simp [*] <;> omega)
set_option maxHeartbeats 400000 in
theorem In_any (a b c : Int) (w : World) :
    Calls Tryd.prog 34 #[.int .i64 a, .int .i64 b, .int .i64 c] w fun e w' => e = .returned (.bool (decide (b ≤ a) && decide (a ≤ c))) ∧ w = w' := by
  go_enter Tryd.func34, Tryd.ntmps34
  go_wp2
  all_goals (go_ret; refine ⟨?_, rfl⟩; congr 2; simp [*] <;> omega)
set_option maxHeartbeats 400000 in
theorem reg_any (n is regs : Int) (w : World) (h : 1 ≤ regs ∧ regs ≤ 12) :
    Calls Tryd.prog 49 #[.int .i64 n, .int .i64 is, .int .i64 regs] w fun e w' => e = .returned (.bool (regMayZ n (decide (is ≠ 0)) regs)) ∧ w = w' := by
  cases hi : (is == 0)
  all_goals
    have HI := Lib.hid hi
    go_enter Tryd.func49, Tryd.ntmps49
    go_wp2_with (go_at_call 27; refine (within_any _ _ _ _).mono ?_; rintro e w' ⟨rfl, rfl⟩)
    go_ret
    refine ⟨ret_bool ?_, rfl⟩
    have hi := HI.out
    simp only [beq_iff_eq, beq_eq_false_iff_ne, ne_eq] at hi
    simp [regMayZ, hi]
    try (rw [Bool.eq_iff_iff]; simp)
set_option maxHeartbeats 400000 in
theorem regMay_any (n : Int) (is : Bool) (regs : Int) (w : World) (h : 1 ≤ regs ∧ regs ≤ 12) :
    Calls Tryd.prog 52 #[.int .i64 n, .bool is, .int .i64 regs] w fun e w' => e = .returned (.bool (regMayZ n is regs)) ∧ w = w' := by
  cases is
  all_goals
    go_enter Tryd.func52, Tryd.ntmps52
    go_wp2_with (go_at_call 34; refine (In_any _ _ _ _).mono ?_; rintro e w' ⟨rfl, rfl⟩)
    go_ret
    refine ⟨ret_bool ?_, rfl⟩
    simp [regMayZ]
    try (rw [Bool.eq_iff_iff]; simp)
set_option maxHeartbeats 400000 in
theorem ReadsA_any (op : Int) (w : World) :
    Calls Tryd.prog 39 #[.int .i64 op] w fun e w' => e = .returned (.bool (readsAZ op)) ∧ w = w' := by
  go_enter Tryd.func39, Tryd.ntmps39
  go_wp2
  all_goals (go_ret; refine ⟨ret_bool ?_, rfl⟩; rw [Bool.eq_iff_iff]; simp [readsAZ] at *; try omega)
set_option maxHeartbeats 400000 in
theorem Sets_any (op : Int) (w : World) :
    Calls Tryd.prog 38 #[.int .i64 op] w fun e w' => e = .returned (.bool (setsZ op)) ∧ w = w' := by
  go_enter Tryd.func38, Tryd.ntmps38
  go_wp2_with (go_at_call 34; refine (In_any _ _ _ _).mono ?_; rintro e w' ⟨rfl, rfl⟩)
  all_goals (go_ret; refine ⟨ret_bool ?_, rfl⟩; rw [Bool.eq_iff_iff]; simp [setsZ] at *; try omega)
set_option maxHeartbeats 400000 in
theorem ReadsB_any (op : Int) (w : World) :
    Calls Tryd.prog 40 #[.int .i64 op] w fun e w' => e = .returned (.bool (readsBZ op)) ∧ w = w' := by
  go_enter Tryd.func40, Tryd.ntmps40
  go_wp2_with (go_at_call 34; refine (In_any _ _ _ _).mono ?_; rintro e w' ⟨rfl, rfl⟩)
  all_goals (go_ret; refine ⟨ret_bool ?_, rfl⟩; rw [Bool.eq_iff_iff]; simp [readsBZ] at *; try omega)

theorem hasAt (op : Int) (h : 1 ≤ op ∧ op ≤ 19) : hasL.getD op.toNat 0 = (if setsZ op then 1 else 0) + (if readsAZ op then 2 else 0) + (if readsBZ op then 4 else 0) + (if op = 1 then 8 else 0) + (if op = 15 ∨ op = 16 then 16 else 0) + (if op = 17 then 32 else 0) := by
  obtain ⟨k, rfl⟩ := Int.eq_ofNat_of_zero_le (show 0 ≤ op by omega)
  have : k = 1 ∨ k = 2 ∨ k = 3 ∨ k = 4 ∨ k = 5 ∨ k = 6 ∨ k = 7 ∨ k = 8 ∨ k = 9 ∨ k = 10 ∨ k = 11 ∨ k = 12 ∨ k = 13 ∨ k = 14 ∨ k = 15 ∨ k = 16 ∨ k = 17 ∨ k = 18 ∨ k = 19 := by omega
  rcases this with rfl | rfl | rfl | rfl | rfl | rfl | rfl | rfl | rfl | rfl | rfl | rfl | rfl | rfl | rfl | rfl | rfl | rfl | rfl <;> decide
/-- What the table's bits say. -/
theorem has_bits (op : Int) (h : 1 ≤ op ∧ op ≤ 19) (n : Int) (hn : n = hasL.getD op.toNat 0) :
    decide (bits .and .i64 n 1 ≠ 0) = setsZ op ∧ decide (bits .and .i64 n 2 ≠ 0) = readsAZ op ∧ decide (bits .and .i64 n 4 ≠ 0) = readsBZ op ∧ bits .and .i64 n 8 = (if op = 1 then 8 else 0) ∧ bits .and .i64 n 16 = (if op = 15 ∨ op = 16 then 16 else 0) ∧
      bits .and .i64 n 32 = (if op = 17 then 32 else 0) ∧ bits .and .i64 n 48 = (if op = 15 ∨ op = 16 then 16 else if op = 17 then 32 else 0) := by
  subst hn
  obtain ⟨k, rfl⟩ := Int.eq_ofNat_of_zero_le (show 0 ≤ op by omega)
  have : k = 1 ∨ k = 2 ∨ k = 3 ∨ k = 4 ∨ k = 5 ∨ k = 6 ∨ k = 7 ∨ k = 8 ∨ k = 9 ∨ k = 10 ∨ k = 11 ∨ k = 12 ∨ k = 13 ∨ k = 14 ∨ k = 15 ∨ k = 16 ∨ k = 17 ∨ k = 18 ∨ k = 19 := by omega
  rcases this with rfl | rfl | rfl | rfl | rfl | rfl | rfl | rfl | rfl | rfl | rfl | rfl | rfl | rfl | rfl | rfl | rfl | rfl | rfl <;> decide
/-- An instruction whose op there is. -/
def insMay (x : Ins) (regs : Int) (len funcs : Nat) : Bool := regMayZ x.dst (setsZ x.op) regs && (regMayZ x.a (readsAZ x.op) regs && (regMayZ x.b (readsBZ x.op) regs && immMayZ x len funcs))
theorem insFault_ok (x : Ins) (regs : Int) (len funcs : Nat) (h : 1 ≤ x.op ∧ x.op ≤ 19) : insFault x regs len funcs = if insMay x regs len funcs then 0 else 2 := by
  unfold insFault insMay
  rw [if_neg (by simpa using h)]
  simp only [Bool.and_assoc]

set_option maxHeartbeats 1000000 in
theorem instr_any (x : Ins) (params regs : Int) (A : Option Addr) (len cap : Nat) (funcs : Nat) (w : World) (hreg : 1 ≤ regs ∧ regs ≤ 12) (hlen : len ≤ 40) (hfun : funcs ≤ 4) (hh : Has w) :
    Calls Tryd.prog 28 #[.agg #[.int .i64 x.op, .int .i64 x.dst, .int .i64 x.a, .int .i64 x.b, .int .i64 x.imm], .agg #[.int .i64 params, .int .i64 regs, .slice A len cap], .int .i64 funcs] w
      fun e w' => e = .returned (.int .i64 (insFault x regs len funcs)) ∧ Below w.heap.size w w' := by
  obtain ⟨op, dst, a, b, imm⟩ := x
  have hg : 1 < w.heap.size := World.block_lt_of_cell? w _ (hh 0 (by decide))
  have hbel : Below w.heap.size w ((w.alloc (.cells #[.int .i64 op, .int .i64 dst, .int .i64 a, .int .i64 b, .int .i64 imm] 48)).alloc (.cells #[.int .i64 params, .int .i64 regs, .slice A len cap] 36)) :=
    ((Below.refl _ _).alloc (Nat.le_refl _) _).alloc (by simp) _
  by_cases hop : 1 ≤ op ∧ op ≤ 19
  · obtain ⟨h1, h2⟩ := hop
    have hI := insFault_ok ⟨op, dst, a, b, imm⟩ regs len funcs ⟨h1, h2⟩
    obtain ⟨c1, c2, c4, c8, c16, c32, c48⟩ := has_bits op ⟨h1, h2⟩ _ rfl
    have hc := hh op.toNat (by omega)
    have hm : insMay ⟨op, dst, a, b, imm⟩ regs len funcs = (regMayZ dst (setsZ op) regs && (regMayZ a (readsAZ op) regs && (regMayZ b (readsBZ op) regs && immMayZ ⟨op, dst, a, b, imm⟩ len funcs))) := rfl
    rw [← c1, ← c2, ← c4] at hm
    rw [hm] at hI
    generalize hn : hasL.getD op.toNat 0 = n at hc hm hI c8 c16 c32 c48
    have hi : immMayZ ⟨op, dst, a, b, imm⟩ len funcs = if op = 15 ∨ op = 16 then decide (0 ≤ imm ∧ imm ≤ (len : Int) - 1) else if op = 17 then decide (0 ≤ imm ∧ imm ≤ (funcs : Int) - 1) else if op = 1 then true else decide (imm = 0) := rfl
    clear hn c1 c2 c4
    obtain ⟨k, rfl⟩ := Int.eq_ofNat_of_zero_le (show 0 ≤ op by omega)
    rw [Int.toNat_natCast] at hc
    have hcw : ∀ o1 o2 : Obj, ((w.alloc o1).alloc o2).cell? ⟨1, k, none⟩ = some (.int .i64 n) := fun o1 o2 => by
      rw [World.cell?_alloc_lt _ _ _ (by simp; omega), World.cell?_alloc_lt _ _ _ hg]; exact hc
    rw [hi] at hI
    have HM := Lib.hid hI
    clear hI hm hi
    have hcls : (k = 15 ∨ k = 16) ∨ k = 17 ∨ k = 1 ∨ (¬ (k = 15 ∨ k = 16) ∧ k ≠ 17 ∧ k ≠ 1) := by omega
    rcases hcls with hk | hk | hk | ⟨hk1, hk2, hk3⟩
    · rw [if_neg (by omega)] at c8 c32
      rw [if_pos (by omega)] at c16 c48
      have HC : Hid ((if (k : Int) = 15 ∨ (k : Int) = 16 then decide (0 ≤ imm ∧ imm ≤ (len : Int) - 1) else if (k : Int) = 17 then decide (0 ≤ imm ∧ imm ≤ (funcs : Int) - 1) else if (k : Int) = 1 then true else decide (imm = 0)) = decide (0 ≤ imm ∧ imm ≤ (len : Int) - 1)) := Lib.hid (by rw [if_pos (by omega)])
      clear hk
      go_enter Tryd.func28, Tryd.ntmps28
      go_wp2_with (first | (go_at_call 27; refine (within_any _ _ _ _).mono ?_; rintro e w' ⟨rfl, rfl⟩) | (go_at_call 49; refine (reg_any _ _ _ _ hreg).mono ?_; rintro e w' ⟨rfl, rfl⟩))
      all_goals
        go_ret
        refine ⟨ret_int ?_, hbel⟩
        rw [HM.out, HC.out]
        try simp only [Bool.not_eq_true', Bool.not_eq_false', beq_iff_eq, beq_eq_false_iff_ne, ne_eq] at *
        simp [*]
        try omega
    · rw [if_neg (by omega)] at c8 c16 c48
      rw [if_pos (by omega)] at c32 c48
      have HC : Hid ((if (k : Int) = 15 ∨ (k : Int) = 16 then decide (0 ≤ imm ∧ imm ≤ (len : Int) - 1) else if (k : Int) = 17 then decide (0 ≤ imm ∧ imm ≤ (funcs : Int) - 1) else if (k : Int) = 1 then true else decide (imm = 0)) = decide (0 ≤ imm ∧ imm ≤ (funcs : Int) - 1)) := Lib.hid (by rw [if_neg (by omega), if_pos (by omega)])
      clear hk
      go_enter Tryd.func28, Tryd.ntmps28
      go_wp2_with (first | (go_at_call 27; refine (within_any _ _ _ _).mono ?_; rintro e w' ⟨rfl, rfl⟩) | (go_at_call 49; refine (reg_any _ _ _ _ hreg).mono ?_; rintro e w' ⟨rfl, rfl⟩))
      all_goals
        go_ret
        refine ⟨ret_int ?_, hbel⟩
        rw [HM.out, HC.out]
        try simp only [Bool.not_eq_true', Bool.not_eq_false', beq_iff_eq, beq_eq_false_iff_ne, ne_eq] at *
        simp [*]
        try omega
    · rw [if_neg (by omega)] at c32 c16 c48
      rw [if_neg (by omega)] at c48
      rw [if_pos (by omega)] at c8
      have HC : Hid ((if (k : Int) = 15 ∨ (k : Int) = 16 then decide (0 ≤ imm ∧ imm ≤ (len : Int) - 1) else if (k : Int) = 17 then decide (0 ≤ imm ∧ imm ≤ (funcs : Int) - 1) else if (k : Int) = 1 then true else decide (imm = 0)) = true) := Lib.hid (by rw [if_neg (by omega), if_neg (by omega), if_pos (by omega)])
      clear hk
      go_enter Tryd.func28, Tryd.ntmps28
      go_wp2_with (first | (go_at_call 27; refine (within_any _ _ _ _).mono ?_; rintro e w' ⟨rfl, rfl⟩) | (go_at_call 49; refine (reg_any _ _ _ _ hreg).mono ?_; rintro e w' ⟨rfl, rfl⟩))
      all_goals
        go_ret
        refine ⟨ret_int ?_, hbel⟩
        rw [HM.out, HC.out]
        try simp only [Bool.not_eq_true', Bool.not_eq_false', beq_iff_eq, beq_eq_false_iff_ne, ne_eq] at *
        simp [*]
        try omega
    · rw [if_neg (by omega)] at c8 c32 c16 c48
      rw [if_neg (by omega)] at c48
      have HC : Hid ((if (k : Int) = 15 ∨ (k : Int) = 16 then decide (0 ≤ imm ∧ imm ≤ (len : Int) - 1) else if (k : Int) = 17 then decide (0 ≤ imm ∧ imm ≤ (funcs : Int) - 1) else if (k : Int) = 1 then true else decide (imm = 0)) = decide (imm = 0)) := Lib.hid (by rw [if_neg (by omega), if_neg (by omega), if_neg (by omega)])
      clear hk1 hk2 hk3
      go_enter Tryd.func28, Tryd.ntmps28
      go_wp2_with (first | (go_at_call 27; refine (within_any _ _ _ _).mono ?_; rintro e w' ⟨rfl, rfl⟩) | (go_at_call 49; refine (reg_any _ _ _ _ hreg).mono ?_; rintro e w' ⟨rfl, rfl⟩))
      all_goals
        go_ret
        refine ⟨ret_int ?_, hbel⟩
        rw [HM.out, HC.out]
        try simp only [Bool.not_eq_true', Bool.not_eq_false', beq_iff_eq, beq_eq_false_iff_ne, ne_eq] at *
        simp [*]
        try omega
  · have hf : insFault ⟨op, dst, a, b, imm⟩ regs len funcs = 3 := by unfold insFault; rw [if_pos hop]
    have HF := Lib.hid hf
    clear hf
    go_enter Tryd.func28, Tryd.ntmps28
    have hd : (decide (1 ≤ op) && decide (op ≤ 19)) = false := by simp; omega
    go_wp2_with (first | (go_at_call 27; refine (within_any _ _ _ _).mono ?_; rintro e w' ⟨rfl, rfl⟩))
    go_ret
    exact ⟨by rw [HF.out]; rfl, hbel⟩
end Go.Proofs.YtpnapnmkjpolmaaDoor
