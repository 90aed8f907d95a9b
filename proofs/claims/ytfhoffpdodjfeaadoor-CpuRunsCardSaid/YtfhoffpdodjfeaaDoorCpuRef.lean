/- tierlineref.cpuStep. -/
import Derived.Test.YtfhoffpdodjfeaaDoorCpuStep
import Derived.Test.YtfhoffpdodjfeaaDoorMgCpuLawCpuFixOpenCpv3
import Derived.Test.YtfhoffpdodjfeaaDoorRvOf
set_option linter.unusedSimpArgs false
set_option linter.unusedVariables false
namespace Go.Proofs.YtfhoffpdodjfeaaDoor
open Go.RowKit Plain64
attribute [local irreducible] wpList Code.wp Oper.wp
set_option maxRecDepth 100000 in
set_option maxHeartbeats 10000000 in
theorem cpuStep_any (ws : List Int) (vw : Value) (c : Cpv) (w : World) (hw : Lay.rep w (Lt w.heap.size) ws [vw]) (hl : ws.length ≤ 32768) (hws : ∀ n ∈ ws, I64 n) (hok : CpuOk c) :
    Calls Tryd.prog 58 #[vw, .agg (cpuCells c).toArray] w fun e w' => e = .returned (.tuple #[.agg (cpuCells (fixZ (stepC ws c)).1).toArray, .int .i64 (fixZ (stepC ws c)).2]) ∧ Below w.heap.size w w' := by
  have HP := Lib.hid (Hp.start w)
  obtain ⟨A, cap, rfl, hc, hm, hx⟩ := rep_ints_at hw
  unfold maxLen at hm
  have HWR := Lib.hid hw
  clear hw
  have HPC := Lib.hid (cpu_pc c)
  have hwl : IntKind.i64.wrap ((ws.length : Int) - 1) = (ws.length : Int) - 1 := by rw [IntKind.wrap_i64]; omega
  by_cases hp : 0 ≤ c.pc ∧ c.pc < ws.length
  · obtain ⟨k, hk⟩ : ∃ k : Nat, c.pc = (k : Int) := ⟨c.pc.toNat, by omega⟩
    have hkl : k < ws.length := by omega
    have HKP := Lib.hid hk
    have HKL := Lib.hid hkl
    have HPK := Lib.hid (show (cpuCells c)[32]? = some (.int .i64 (k : Int)) by rw [cpu_pc, hk])
    obtain ⟨a0, rfl, hab, hca⟩ := hx k hkl
    obtain ⟨n, hn⟩ : ∃ n, ws[k] = n := ⟨_, rfl⟩
    replace hca : w.cell? (a0.add k) = some (.int .i64 n) := by rw [← hn]; exact hca
    have HNI := Lib.hid (hws n (hn ▸ List.getElem_mem hkl))
    obtain ⟨x, hd⟩ : ∃ x, decAns n = x := ⟨_, rfl⟩
    obtain ⟨x, e⟩ := x
    have HN := Lib.hid hn
    have HD := Lib.hid hd
    have HWS := Lib.hid hws
    have hk1 : (k : Int) ≤ 32767 := by omega
    have p1 : decide (0 ≤ (k : Int)) = true := decide_eq_true (by omega)
    have p2 : decide ((k : Int) ≤ (ws.length : Int) - 1) = true := decide_eq_true (by omega)
    have p3 : (k : Int) < (ws.length : Int) := by omega
    have p4 : (0 : Int) ≤ (k : Int) := by omega
    clear hx hp hk hab hn hws
    by_cases he : e = 0
    · obtain ⟨op, imm, rd, r1, r2, rfl, ho, hrd, hr1, hr2, him, hno⟩ := dec_nat hd he
      subst he
      clear hd
      obtain ⟨a, hea⟩ : ∃ a, creg c r1 = a := ⟨_, rfl⟩
      obtain ⟨b, heb⟩ : ∃ b, creg c r2 = b := ⟨_, rfl⟩
      have HR1 := Lib.hid (hea ▸ cpu_reg c r1 hr1)
      have HR2 := Lib.hid (heb ▸ cpu_reg c r2 hr2)
      have HAI := Lib.hid (hea ▸ hok.regs r1)
      have HBI := Lib.hid (heb ▸ hok.regs r2)
      have HII := Lib.hid (show I64 imm by unfold I64; omega)
      have HOK := Lib.hid hok
      have hcp : 0 ≤ c.pc ∧ c.pc ≤ 32767 := by have := HKP.out; omega
      have i1 : (r1 : Int) < 32 := by omega
      have i2 : (r2 : Int) < 32 := by omega
      have i3 : (0 : Int) ≤ (r1 : Int) := by omega
      have i4 : (0 : Int) ≤ (r2 : Int) := by omega
      have i5 : IntKind.i64.wrap (c.pc + 1) = c.pc + 1 := by rw [IntKind.wrap_i64]; omega
      clear hok
      have HO := Lib.hid ho
      clear ho
      go_enter Tryd.func58, Tryd.ntmps58
      clear hca
      go_upto_region 3 with (first | (refine wpList_box_hp (o := ⟨some 3, _, _, _, _, _⟩) rfl _ _ rfl HP.out (cpuCells c) rfl ?_; clear HP; intro g3 w3 HP; replace HP := Lib.hid HP) | (refine wpList_alloc_hp (o := ⟨some 4, _, _, _, _, _⟩) rfl _ rfl HP.out (.agg nilL.toArray) (by kernel_rfl) nilL rfl ?_; clear HP; intro g4 w4 HP; replace HP := Lib.hid HP) | (refine wpList_ld1 rfl 3 _ rfl HP.out rfl HPK.out Tryd.underlying3 rfl ?_) | (go_at_call 47; refine (In_any _ _ _ _).mono ?_; rintro e w7 ⟨rfl, rfl⟩))
      obtain ⟨A9, c9, e9, -, -, hx9⟩ := rep_ints_at (HP.out.rep (F := ⟨w, Lt w.heap.size⟩) (by simp) HWR.out)
      obtain ⟨a9, f9, -, hca⟩ := hx9 k hkl
      clear hx9
      cases e9
      cases f9
      replace hca := hca.trans (congrArg (fun z => some (Value.int IntKind.i64 z)) HN.out)
      go_upto_region 6 with (first | (refine wpList_ld1 rfl 3 _ rfl HP.out rfl HPK.out Tryd.underlying3 rfl ?_) | (go_at_call 76; refine (RvOf_any n _ HNI.out).mono ?_; rintro e w7 ⟨rfl, hb⟩; replace HP := Lib.hid (HP.out.call0 hb); clear hb; rw [HD.out]) | (refine wpList_alloc_hp (o := ⟨some 6, _, _, _, _, _⟩) rfl _ rfl HP.out (.agg #[.int .i64 0, .int .i64 0, .int .i64 0, .int .i64 0, .int .i64 0]) (by kernel_rfl) [_, _, _, _, _] rfl ?_; clear HP; intro g6 w6 HP; replace HP := Lib.hid HP) | (refine wpList_stR0 rfl 102 _ _ rfl HP.out rfl (cs' := [_, _, _, _, _]) rfl rfl (by simp [Value.oneCell']) (by kernel_rfl) ?_; clear HP; intro wst HP; replace HP := Lib.hid HP))
      clear p1 p2 p3 p4 hca
      go_upto_region 8 with (first | (refine wpList_ld0 rfl 3 _ rfl HP.out rfl rfl Tryd.underlying3 rfl ?_) | (refine wpList_ld2 rfl 3 _ rfl HP.out rfl HR1.out Tryd.underlying3 rfl ?_) | (refine wpList_ld2 rfl 3 _ rfl HP.out rfl HR2.out Tryd.underlying3 rfl ?_))
      go_upto_region 10 with (first | (refine wpList_ldR2 rfl 44 _ rfl HP.out rfl Tryd.underlying44 rfl (by first | (rw [cpu_len]; kernel_rfl) | (rw [nilL_len]; kernel_rfl)) ?_) | (refine wpList_alloc_hp (o := ⟨some 10, _, _, _, _, _⟩) rfl _ rfl HP.out (.agg nilL.toArray) (by kernel_rfl) nilL rfl ?_; clear HP; intro g10 w10 HP; replace HP := Lib.hid HP) | (refine wpList_stR0 rfl 44 _ _ rfl HP.out rfl (cs' := cpuCells c) rfl (by simp only [cpu_len, nilL_len]) (cpu_one _) (by first | (rw [cpu_len]; kernel_rfl) | (rw [nilL_len]; kernel_rfl)) ?_; clear HP; intro wst HP; replace HP := Lib.hid HP) | (refine wpList_ld3 rfl 3 _ rfl HP.out rfl HPC.out Tryd.underlying3 rfl ?_) | (refine wpList_st0 rfl 3 _ _ rfl HP.out rfl rfl (by rw [cpu_len]; omega) rfl (cpu_setpc c _) (by kernel_rfl) ?_; clear HP; intro wst HP; replace HP := Lib.hid HP))
      have ho := HO.out
      have h9 : (1 ≤ op ∧ op ≤ 11) ∨ (12 ≤ op ∧ op ≤ 19) ∨ op = 20 ∨ op = 21 ∨ (22 ≤ op ∧ op ≤ 25) ∨ op = 26 ∨ op = 27 ∨ op = 28 ∨ op = 29 := by omega
      clear ho
      rcases h9 with ho | ho | rfl | rfl | ho | rfl | rfl | rfl | rfl
      · skip
        have e20 : (op == 20) = false := by rw [beq_eq_false_iff_ne]; omega
        have e21 : (op == 21) = false := by rw [beq_eq_false_iff_ne]; omega
        have e26 : (op == 26) = false := by rw [beq_eq_false_iff_ne]; omega
        have e27 : (op == 27) = false := by rw [beq_eq_false_iff_ne]; omega
        have e28 : (op == 28) = false := by rw [beq_eq_false_iff_ne]; omega
        have e29 : (op == 29) = false := by rw [beq_eq_false_iff_ne]; omega
        have d1 : decide (1 ≤ op) = true := decide_eq_true (by omega)
        have d11 : decide (op ≤ 11) = true := decide_eq_true (by omega)
        have d12 : decide (12 ≤ op) = false := decide_eq_false (by omega)
        have d22 : decide (22 ≤ op) = false := decide_eq_false (by omega)
        have HS := Lib.hid (show stepC ws c = ({ cput c rd (arithZ op a b) with pc := c.pc + 1 }, 0) from (stepC_do HKP.out HKL.out HN.out HD.out (show doZ op rd r1 r2 imm c = (cput c rd (arithZ op a b), c.pc + 1, 0) by unfold doZ; rw [hea, heb]; rw [if_pos (show op ≤ 11 by omega)])).trans (if_pos rfl))
        go_upto_region 19 with (first | (refine wpList_ld1 rfl 3 _ rfl HP.out rfl rfl Tryd.underlying3 rfl ?_) | (refine wpList_ld3 rfl 3 _ rfl HP.out rfl HPC.out Tryd.underlying3 rfl ?_) | (go_at_call 47; refine (In_any _ _ _ _).mono ?_; rintro e w7 ⟨rfl, rfl⟩) | (go_at_call 77; refine (machineMade_any op a b _ (by omega) HAI.out HBI.out).mono ?_; rintro e w7 ⟨rfl, hb⟩; replace HP := Lib.hid (HP.out.call0 hb); clear hb))
        have cx := HP.out.cell (.tail _ (.head _)) 0 _ rfl
        by_cases hz : rd = 0
        · subst hz
          have HS := Lib.hid (show stepC ws c = ({ c with pc := c.pc + 1 }, 0) from HS.out)
          simp only [show ((0 : Nat) : Int) = 0 from rfl] at HP
          go_wp2_with (first | (refine wpList_ld1 rfl 3 _ rfl HP.out rfl rfl Tryd.underlying3 rfl ?_) | (refine wpList_ld3 rfl 3 _ rfl HP.out rfl HPC.out Tryd.underlying3 rfl ?_) | (go_at_call 47; refine (In_any _ _ _ _).mono ?_; rintro e w7 ⟨rfl, rfl⟩) | (go_at_call 77; refine (machineMade_any op a b _ (by omega) HAI.out HBI.out).mono ?_; rintro e w7 ⟨rfl, hb⟩; replace HP := Lib.hid (HP.out.call0 hb); clear hb) | (refine wpList_ldR0 rfl 44 _ rfl HP.out rfl Tryd.underlying44 rfl (by first | (rw [cpu_len]; kernel_rfl) | (rw [nilL_len]; kernel_rfl)) ?_) | (refine wpList_stR2 rfl 44 _ _ rfl HP.out rfl (cs' := cpuCells _) rfl (by simp only [cpu_len, nilL_len]) (cpu_one _) (by first | (rw [cpu_len]; kernel_rfl) | (rw [nilL_len]; kernel_rfl)) ?_; clear HP; intro wst HP; replace HP := Lib.hid HP))
          rw [HS.out, fix_ok]
          refine bodyPost_ret (results_cell_row_tmp2 rfl _ _ g4 44 (cpuCells ({ c with pc := c.pc + 1 })).toArray (0, 0) _ rfl (HP.out.blk (.tail _ (.tail _ (.head _)))) Tryd.underlying44 rfl (by rw [List.size_toArray, cpu_len]; kernel_rfl)) rfl ⟨rfl, HP.out.below⟩
        · have HS := Lib.hid (show stepC ws c = (cputR { c with pc := c.pc + 1 } rd (arithZ op a b), 0) from HS.out.trans (by unfold cput; rw [if_neg hz]; rfl))
          have hzb : decide ((0 : Int) < (rd : Int)) = true := decide_eq_true (by omega)
          have hzb2 : decide (0 < rd) = true := decide_eq_true (by omega)
          have hr0 : (0 : Int) ≤ (rd : Int) := by omega
          have hr32 : (rd : Int) < 32 := by omega
          clear hz
          go_wp2_with (first | (refine wpList_ld1 rfl 3 _ rfl HP.out rfl rfl Tryd.underlying3 rfl ?_) | (refine wpList_ld3 rfl 3 _ rfl HP.out rfl HPC.out Tryd.underlying3 rfl ?_) | (go_at_call 47; refine (In_any _ _ _ _).mono ?_; rintro e w7 ⟨rfl, rfl⟩) | (go_at_call 77; refine (machineMade_any op a b _ (by omega) HAI.out HBI.out).mono ?_; rintro e w7 ⟨rfl, hb⟩; replace HP := Lib.hid (HP.out.call0 hb); clear hb) | (refine wpList_st0 rfl 3 _ _ rfl HP.out rfl rfl (by rw [cpu_len]; omega) rfl (cpu_setr _ rd hrd _) (by kernel_rfl) ?_; clear HP; intro wst HP; replace HP := Lib.hid HP) | (refine wpList_ldR0 rfl 44 _ rfl HP.out rfl Tryd.underlying44 rfl (by first | (rw [cpu_len]; kernel_rfl) | (rw [nilL_len]; kernel_rfl)) ?_) | (refine wpList_stR2 rfl 44 _ _ rfl HP.out rfl (cs' := cpuCells _) rfl (by simp only [cpu_len, nilL_len]) (cpu_one _) (by first | (rw [cpu_len]; kernel_rfl) | (rw [nilL_len]; kernel_rfl)) ?_; clear HP; intro wst HP; replace HP := Lib.hid HP))
          rw [HS.out, fix_ok]
          refine bodyPost_ret (results_cell_row_tmp2 rfl _ _ g4 44 (cpuCells (cputR { c with pc := c.pc + 1 } rd (arithZ op a b))).toArray (0, 0) _ rfl (HP.out.blk (.tail _ (.tail _ (.head _)))) Tryd.underlying44 rfl (by rw [List.size_toArray, cpu_len]; kernel_rfl)) rfl ⟨rfl, HP.out.below⟩
      · skip
        have e20 : (op == 20) = false := by rw [beq_eq_false_iff_ne]; omega
        have e21 : (op == 21) = false := by rw [beq_eq_false_iff_ne]; omega
        have e26 : (op == 26) = false := by rw [beq_eq_false_iff_ne]; omega
        have e27 : (op == 27) = false := by rw [beq_eq_false_iff_ne]; omega
        have e28 : (op == 28) = false := by rw [beq_eq_false_iff_ne]; omega
        have e29 : (op == 29) = false := by rw [beq_eq_false_iff_ne]; omega
        have d1 : decide (1 ≤ op) = true := decide_eq_true (by omega)
        have d11 : decide (op ≤ 11) = false := decide_eq_false (by omega)
        have d12 : decide (12 ≤ op) = true := decide_eq_true (by omega)
        have d19 : decide (op ≤ 19) = true := decide_eq_true (by omega)
        have d22 : decide (22 ≤ op) = false := decide_eq_false (by omega)
        have HS := Lib.hid (show stepC ws c = ({ cput c rd (arithZ op a imm) with pc := c.pc + 1 }, 0) from (stepC_do HKP.out HKL.out HN.out HD.out (show doZ op rd r1 r2 imm c = (cput c rd (arithZ op a imm), c.pc + 1, 0) by unfold doZ; rw [hea, heb]; rw [if_neg (show ¬ op ≤ 11 by omega), if_pos (show op ≤ 19 by omega)])).trans (if_pos rfl))
        go_upto_region 19 with (first | (refine wpList_ld1 rfl 3 _ rfl HP.out rfl rfl Tryd.underlying3 rfl ?_) | (refine wpList_ld3 rfl 3 _ rfl HP.out rfl HPC.out Tryd.underlying3 rfl ?_) | (go_at_call 47; refine (In_any _ _ _ _).mono ?_; rintro e w7 ⟨rfl, rfl⟩) | (go_at_call 77; refine (machineMade_any op a imm _ (by omega) HAI.out HII.out).mono ?_; rintro e w7 ⟨rfl, hb⟩; replace HP := Lib.hid (HP.out.call0 hb); clear hb))
        have cx := HP.out.cell (.tail _ (.head _)) 0 _ rfl
        by_cases hz : rd = 0
        · subst hz
          have HS := Lib.hid (show stepC ws c = ({ c with pc := c.pc + 1 }, 0) from HS.out)
          simp only [show ((0 : Nat) : Int) = 0 from rfl] at HP
          go_wp2_with (first | (refine wpList_ld1 rfl 3 _ rfl HP.out rfl rfl Tryd.underlying3 rfl ?_) | (refine wpList_ld3 rfl 3 _ rfl HP.out rfl HPC.out Tryd.underlying3 rfl ?_) | (go_at_call 47; refine (In_any _ _ _ _).mono ?_; rintro e w7 ⟨rfl, rfl⟩) | (go_at_call 77; refine (machineMade_any op a imm _ (by omega) HAI.out HII.out).mono ?_; rintro e w7 ⟨rfl, hb⟩; replace HP := Lib.hid (HP.out.call0 hb); clear hb) | (refine wpList_ldR0 rfl 44 _ rfl HP.out rfl Tryd.underlying44 rfl (by first | (rw [cpu_len]; kernel_rfl) | (rw [nilL_len]; kernel_rfl)) ?_) | (refine wpList_stR2 rfl 44 _ _ rfl HP.out rfl (cs' := cpuCells _) rfl (by simp only [cpu_len, nilL_len]) (cpu_one _) (by first | (rw [cpu_len]; kernel_rfl) | (rw [nilL_len]; kernel_rfl)) ?_; clear HP; intro wst HP; replace HP := Lib.hid HP))
          rw [HS.out, fix_ok]
          refine bodyPost_ret (results_cell_row_tmp2 rfl _ _ g4 44 (cpuCells ({ c with pc := c.pc + 1 })).toArray (0, 0) _ rfl (HP.out.blk (.tail _ (.tail _ (.head _)))) Tryd.underlying44 rfl (by rw [List.size_toArray, cpu_len]; kernel_rfl)) rfl ⟨rfl, HP.out.below⟩
        · have HS := Lib.hid (show stepC ws c = (cputR { c with pc := c.pc + 1 } rd (arithZ op a imm), 0) from HS.out.trans (by unfold cput; rw [if_neg hz]; rfl))
          have hzb : decide ((0 : Int) < (rd : Int)) = true := decide_eq_true (by omega)
          have hzb2 : decide (0 < rd) = true := decide_eq_true (by omega)
          have hr0 : (0 : Int) ≤ (rd : Int) := by omega
          have hr32 : (rd : Int) < 32 := by omega
          clear hz
          go_wp2_with (first | (refine wpList_ld1 rfl 3 _ rfl HP.out rfl rfl Tryd.underlying3 rfl ?_) | (refine wpList_ld3 rfl 3 _ rfl HP.out rfl HPC.out Tryd.underlying3 rfl ?_) | (go_at_call 47; refine (In_any _ _ _ _).mono ?_; rintro e w7 ⟨rfl, rfl⟩) | (go_at_call 77; refine (machineMade_any op a imm _ (by omega) HAI.out HII.out).mono ?_; rintro e w7 ⟨rfl, hb⟩; replace HP := Lib.hid (HP.out.call0 hb); clear hb) | (refine wpList_st0 rfl 3 _ _ rfl HP.out rfl rfl (by rw [cpu_len]; omega) rfl (cpu_setr _ rd hrd _) (by kernel_rfl) ?_; clear HP; intro wst HP; replace HP := Lib.hid HP) | (refine wpList_ldR0 rfl 44 _ rfl HP.out rfl Tryd.underlying44 rfl (by first | (rw [cpu_len]; kernel_rfl) | (rw [nilL_len]; kernel_rfl)) ?_) | (refine wpList_stR2 rfl 44 _ _ rfl HP.out rfl (cs' := cpuCells _) rfl (by simp only [cpu_len, nilL_len]) (cpu_one _) (by first | (rw [cpu_len]; kernel_rfl) | (rw [nilL_len]; kernel_rfl)) ?_; clear HP; intro wst HP; replace HP := Lib.hid HP))
          rw [HS.out, fix_ok]
          refine bodyPost_ret (results_cell_row_tmp2 rfl _ _ g4 44 (cpuCells (cputR { c with pc := c.pc + 1 } rd (arithZ op a imm))).toArray (0, 0) _ rfl (HP.out.blk (.tail _ (.tail _ (.head _)))) Tryd.underlying44 rfl (by rw [List.size_toArray, cpu_len]; kernel_rfl)) rfl ⟨rfl, HP.out.below⟩
      · skip
        obtain ⟨t, ht⟩ : ∃ t, wrap64 (a + imm) = t := ⟨_, rfl⟩
        have hti : I64 t := ht ▸ i64c_wrap _
        have htw : IntKind.i64.wrap (a + imm) = t := by rw [IntWalk.i64_left]; exact ht
        by_cases hgood : 0 ≤ t ∧ t < 512 ∧ t % 8 = 0
        · obtain ⟨n8, hn8⟩ : ∃ n8 : Nat, t = 8 * (n8 : Int) := ⟨(t / 8).toNat, by omega⟩
          have hn64 : n8 < 64 := by omega
          have hn64i : (n8 : Int) < 64 := by omega
          have hn0 : (0 : Int) ≤ (n8 : Int) := by omega
          have htn : (t / 8).toNat = n8 := by omega
          have hq1 : t.tdiv 8 = (n8 : Int) := by rw [Int.tdiv_eq_ediv_of_nonneg hgood.1]; omega
          have hq3 : t.tmod 8 = 0 := by rw [Int.tmod_eq_emod_of_nonneg hgood.1]; exact hgood.2.2
          have hq5 : decide (0 ≤ t) = true := decide_eq_true hgood.1
          have hq6 : decide (t ≤ 511) = true := decide_eq_true (by omega)
          have hq7 : IntKind.i64.wrap (n8 : Int) = (n8 : Int) := by rw [IntKind.wrap_i64]; omega
          obtain ⟨d8, hd8⟩ : ∃ d, cdat c n8 = d := ⟨_, rfl⟩
          have HDT := Lib.hid (hd8 ▸ cpu_dat c n8 hn64)
          clear hn8
          have HS := Lib.hid (show stepC ws c = ({ cput c rd d8 with pc := c.pc + 1 }, 0) from (stepC_do HKP.out HKL.out HN.out HD.out (show doZ 20 rd r1 r2 imm c = (cput c rd d8, c.pc + 1, 0) by unfold doZ; rw [hea, heb]; rw [if_neg (show ¬ (20 : Int) ≤ 11 by decide), if_neg (show ¬ (20 : Int) ≤ 19 by decide), if_pos (show (20 : Int) ≤ 21 by decide), ht, if_pos hgood, if_neg (show ¬ (20 : Int) = 21 by decide), htn, hd8])).trans (if_pos rfl))
          clear hgood hti htn hd8
          go_upto_region 19 with (first | (refine wpList_ld1 rfl 3 _ rfl HP.out rfl rfl Tryd.underlying3 rfl ?_) | (refine wpList_ld3 rfl 3 _ rfl HP.out rfl HPC.out Tryd.underlying3 rfl ?_) | (refine wpList_ld3 rfl 3 _ rfl HP.out rfl HDT.out Tryd.underlying3 rfl ?_) | (go_at_call 47; refine (In_any _ _ _ _).mono ?_; rintro e w7 ⟨rfl, rfl⟩))
          have cx := HP.out.cell (.tail _ (.head _)) 0 _ rfl
          by_cases hz : rd = 0
          · subst hz
            have HS := Lib.hid (show stepC ws c = ({ c with pc := c.pc + 1 }, 0) from HS.out)
            simp only [show ((0 : Nat) : Int) = 0 from rfl] at HP
            go_wp2_with (first | (refine wpList_ld1 rfl 3 _ rfl HP.out rfl rfl Tryd.underlying3 rfl ?_) | (refine wpList_ld3 rfl 3 _ rfl HP.out rfl HPC.out Tryd.underlying3 rfl ?_) | (refine wpList_ld3 rfl 3 _ rfl HP.out rfl HDT.out Tryd.underlying3 rfl ?_) | (go_at_call 47; refine (In_any _ _ _ _).mono ?_; rintro e w7 ⟨rfl, rfl⟩) | (refine wpList_ldR0 rfl 44 _ rfl HP.out rfl Tryd.underlying44 rfl (by first | (rw [cpu_len]; kernel_rfl) | (rw [nilL_len]; kernel_rfl)) ?_) | (refine wpList_stR2 rfl 44 _ _ rfl HP.out rfl (cs' := cpuCells _) rfl (by simp only [cpu_len, nilL_len]) (cpu_one _) (by first | (rw [cpu_len]; kernel_rfl) | (rw [nilL_len]; kernel_rfl)) ?_; clear HP; intro wst HP; replace HP := Lib.hid HP))
            rw [HS.out, fix_ok]
            refine bodyPost_ret (results_cell_row_tmp2 rfl _ _ g4 44 (cpuCells ({ c with pc := c.pc + 1 })).toArray (0, 0) _ rfl (HP.out.blk (.tail _ (.tail _ (.head _)))) Tryd.underlying44 rfl (by rw [List.size_toArray, cpu_len]; kernel_rfl)) rfl ⟨rfl, HP.out.below⟩
          · have HS := Lib.hid (show stepC ws c = (cputR { c with pc := c.pc + 1 } rd (d8), 0) from HS.out.trans (by unfold cput; rw [if_neg hz]; rfl))
            have hzb : decide ((0 : Int) < (rd : Int)) = true := decide_eq_true (by omega)
            have hzb2 : decide (0 < rd) = true := decide_eq_true (by omega)
            have hr0 : (0 : Int) ≤ (rd : Int) := by omega
            have hr32 : (rd : Int) < 32 := by omega
            clear hz
            go_wp2_with (first | (refine wpList_ld1 rfl 3 _ rfl HP.out rfl rfl Tryd.underlying3 rfl ?_) | (refine wpList_ld3 rfl 3 _ rfl HP.out rfl HPC.out Tryd.underlying3 rfl ?_) | (refine wpList_ld3 rfl 3 _ rfl HP.out rfl HDT.out Tryd.underlying3 rfl ?_) | (go_at_call 47; refine (In_any _ _ _ _).mono ?_; rintro e w7 ⟨rfl, rfl⟩) | (refine wpList_st0 rfl 3 _ _ rfl HP.out rfl rfl (by rw [cpu_len]; omega) rfl (cpu_setr _ rd hrd _) (by kernel_rfl) ?_; clear HP; intro wst HP; replace HP := Lib.hid HP) | (refine wpList_ldR0 rfl 44 _ rfl HP.out rfl Tryd.underlying44 rfl (by first | (rw [cpu_len]; kernel_rfl) | (rw [nilL_len]; kernel_rfl)) ?_) | (refine wpList_stR2 rfl 44 _ _ rfl HP.out rfl (cs' := cpuCells _) rfl (by simp only [cpu_len, nilL_len]) (cpu_one _) (by first | (rw [cpu_len]; kernel_rfl) | (rw [nilL_len]; kernel_rfl)) ?_; clear HP; intro wst HP; replace HP := Lib.hid HP))
            rw [HS.out, fix_ok]
            refine bodyPost_ret (results_cell_row_tmp2 rfl _ _ g4 44 (cpuCells (cputR { c with pc := c.pc + 1 } rd (d8))).toArray (0, 0) _ rfl (HP.out.blk (.tail _ (.tail _ (.head _)))) Tryd.underlying44 rfl (by rw [List.size_toArray, cpu_len]; kernel_rfl)) rfl ⟨rfl, HP.out.below⟩
        · have HS := Lib.hid (show stepC ws c = (c, 2) from (stepC_do HKP.out HKL.out HN.out HD.out (show doZ 20 rd r1 r2 imm c = (c, 0, 2) by unfold doZ; rw [hea, heb]; rw [if_neg (show ¬ (20 : Int) ≤ 11 by decide), if_neg (show ¬ (20 : Int) ≤ 19 by decide), if_pos (show (20 : Int) ≤ 21 by decide), ht, if_neg hgood])).trans (if_neg (by decide)))
          have hq : decide (0 ≤ t) = false ∨ (decide (0 ≤ t) = true ∧ decide (t ≤ 511) = false) ∨ (decide (0 ≤ t) = true ∧ decide (t ≤ 511) = true ∧ ∃ m, t.tmod 8 = m ∧ (m != 0) = true) := by
            by_cases h0 : 0 ≤ t
            · by_cases h5 : t ≤ 511
              · right; right
                exact ⟨decide_eq_true h0, decide_eq_true h5, _, rfl, by rw [bne_iff_ne, Int.tmod_eq_emod_of_nonneg h0]; omega⟩
              · right; left; exact ⟨decide_eq_true h0, decide_eq_false h5⟩
            · left; exact decide_eq_false h0
          clear hgood hti
          rcases hq with h1 | ⟨h1, h2⟩ | ⟨h1, h2, m, h3, h4⟩
          all_goals
            go_upto_region 19 with (first | (refine wpList_ld1 rfl 3 _ rfl HP.out rfl rfl Tryd.underlying3 rfl ?_) | (go_at_call 47; refine (In_any _ _ _ _).mono ?_; rintro e w7 ⟨rfl, rfl⟩))
            have cx := HP.out.cell (.tail _ (.head _)) 0 _ rfl
            go_wp2_with (first | (refine wpList_ld1 rfl 3 _ rfl HP.out rfl rfl Tryd.underlying3 rfl ?_) | (refine wpList_ld3 rfl 3 _ rfl HP.out rfl HPC.out Tryd.underlying3 rfl ?_) | (go_at_call 47; refine (In_any _ _ _ _).mono ?_; rintro e w7 ⟨rfl, rfl⟩) | (refine wpList_stR2 rfl 44 _ _ rfl HP.out rfl (cs' := nilL) rfl (by simp only [cpu_len, nilL_len]) nilL_one (by first | (rw [cpu_len]; kernel_rfl) | (rw [nilL_len]; kernel_rfl)) ?_; clear HP; intro wst HP; replace HP := Lib.hid HP))
            rw [HS.out, fix_err _ (by decide)]
            rw [← nilC_cells] at HP
            refine bodyPost_ret (results_cell_row_tmp2 rfl _ _ g4 44 (cpuCells nilC).toArray (0, 0) _ rfl (HP.out.blk (.tail _ (.tail _ (.head _)))) Tryd.underlying44 rfl (by rw [List.size_toArray, cpu_len]; kernel_rfl)) rfl ⟨rfl, HP.out.below⟩
      · skip
        obtain ⟨t, ht⟩ : ∃ t, wrap64 (a + imm) = t := ⟨_, rfl⟩
        have hti : I64 t := ht ▸ i64c_wrap _
        have htw : IntKind.i64.wrap (a + imm) = t := by rw [IntWalk.i64_left]; exact ht
        by_cases hgood : 0 ≤ t ∧ t < 512 ∧ t % 8 = 0
        · obtain ⟨n8, hn8⟩ : ∃ n8 : Nat, t = 8 * (n8 : Int) := ⟨(t / 8).toNat, by omega⟩
          have hn64 : n8 < 64 := by omega
          have hn64i : (n8 : Int) < 64 := by omega
          have hn0 : (0 : Int) ≤ (n8 : Int) := by omega
          have htn : (t / 8).toNat = n8 := by omega
          have hq1 : t.tdiv 8 = (n8 : Int) := by rw [Int.tdiv_eq_ediv_of_nonneg hgood.1]; omega
          have hq3 : t.tmod 8 = 0 := by rw [Int.tmod_eq_emod_of_nonneg hgood.1]; exact hgood.2.2
          have hq5 : decide (0 ≤ t) = true := decide_eq_true hgood.1
          have hq6 : decide (t ≤ 511) = true := decide_eq_true (by omega)
          have hq7 : IntKind.i64.wrap (n8 : Int) = (n8 : Int) := by rw [IntKind.wrap_i64]; omega
          obtain ⟨d8, hd8⟩ : ∃ d, cdat c n8 = d := ⟨_, rfl⟩
          have HDT := Lib.hid (hd8 ▸ cpu_dat c n8 hn64)
          clear hn8
          obtain rfl : rd = 0 := hno (by omega)
          have HS := Lib.hid (show stepC ws c = ({ cset c n8 b with pc := c.pc + 1 }, 0) from (stepC_do HKP.out HKL.out HN.out HD.out (show doZ 21 0 r1 r2 imm c = (cset c n8 b, c.pc + 1, 0) by unfold doZ; rw [hea, heb]; rw [if_neg (show ¬ (21 : Int) ≤ 11 by decide), if_neg (show ¬ (21 : Int) ≤ 19 by decide), if_pos (show (21 : Int) ≤ 21 by decide), ht, if_pos hgood, if_pos rfl, htn])).trans (if_pos rfl))
          clear hgood hti htn hd8
          simp only [show ((0 : Nat) : Int) = 0 from rfl] at HP
          go_upto_region 19 with (first | (refine wpList_ld1 rfl 3 _ rfl HP.out rfl rfl Tryd.underlying3 rfl ?_) | (go_at_call 47; refine (In_any _ _ _ _).mono ?_; rintro e w7 ⟨rfl, rfl⟩))
          have cx := HP.out.cell (.tail _ (.head _)) 0 _ rfl
          go_wp2_with (first | (refine wpList_ld1 rfl 3 _ rfl HP.out rfl rfl Tryd.underlying3 rfl ?_) | (refine wpList_ld3 rfl 3 _ rfl HP.out rfl HPC.out Tryd.underlying3 rfl ?_) | (refine wpList_ld3 rfl 3 _ rfl HP.out rfl HDT.out Tryd.underlying3 rfl ?_) | (go_at_call 47; refine (In_any _ _ _ _).mono ?_; rintro e w7 ⟨rfl, rfl⟩) | (refine wpList_st0 rfl 3 _ _ rfl HP.out rfl rfl (by rw [cpu_len]; omega) rfl (cpu_setd _ n8 hn64 _) (by kernel_rfl) ?_; clear HP; intro wst HP; replace HP := Lib.hid HP) | (refine wpList_ldR0 rfl 44 _ rfl HP.out rfl Tryd.underlying44 rfl (by first | (rw [cpu_len]; kernel_rfl) | (rw [nilL_len]; kernel_rfl)) ?_) | (refine wpList_stR2 rfl 44 _ _ rfl HP.out rfl (cs' := cpuCells _) rfl (by simp only [cpu_len, nilL_len]) (cpu_one _) (by first | (rw [cpu_len]; kernel_rfl) | (rw [nilL_len]; kernel_rfl)) ?_; clear HP; intro wst HP; replace HP := Lib.hid HP))
          rw [HS.out, fix_ok]
          refine bodyPost_ret (results_cell_row_tmp2 rfl _ _ g4 44 (cpuCells ({ cset c n8 b with pc := c.pc + 1 })).toArray (0, 0) _ rfl (HP.out.blk (.tail _ (.tail _ (.head _)))) Tryd.underlying44 rfl (by rw [List.size_toArray, cpu_len]; kernel_rfl)) rfl ⟨rfl, HP.out.below⟩
        · have HS := Lib.hid (show stepC ws c = (c, 2) from (stepC_do HKP.out HKL.out HN.out HD.out (show doZ 21 rd r1 r2 imm c = (c, 0, 2) by unfold doZ; rw [hea, heb]; rw [if_neg (show ¬ (21 : Int) ≤ 11 by decide), if_neg (show ¬ (21 : Int) ≤ 19 by decide), if_pos (show (21 : Int) ≤ 21 by decide), ht, if_neg hgood])).trans (if_neg (by decide)))
          have hq : decide (0 ≤ t) = false ∨ (decide (0 ≤ t) = true ∧ decide (t ≤ 511) = false) ∨ (decide (0 ≤ t) = true ∧ decide (t ≤ 511) = true ∧ ∃ m, t.tmod 8 = m ∧ (m != 0) = true) := by
            by_cases h0 : 0 ≤ t
            · by_cases h5 : t ≤ 511
              · right; right
                exact ⟨decide_eq_true h0, decide_eq_true h5, _, rfl, by rw [bne_iff_ne, Int.tmod_eq_emod_of_nonneg h0]; omega⟩
              · right; left; exact ⟨decide_eq_true h0, decide_eq_false h5⟩
            · left; exact decide_eq_false h0
          clear hgood hti
          rcases hq with h1 | ⟨h1, h2⟩ | ⟨h1, h2, m, h3, h4⟩
          all_goals
            go_upto_region 19 with (first | (refine wpList_ld1 rfl 3 _ rfl HP.out rfl rfl Tryd.underlying3 rfl ?_) | (go_at_call 47; refine (In_any _ _ _ _).mono ?_; rintro e w7 ⟨rfl, rfl⟩))
            have cx := HP.out.cell (.tail _ (.head _)) 0 _ rfl
            go_wp2_with (first | (refine wpList_ld1 rfl 3 _ rfl HP.out rfl rfl Tryd.underlying3 rfl ?_) | (refine wpList_ld3 rfl 3 _ rfl HP.out rfl HPC.out Tryd.underlying3 rfl ?_) | (go_at_call 47; refine (In_any _ _ _ _).mono ?_; rintro e w7 ⟨rfl, rfl⟩) | (refine wpList_stR2 rfl 44 _ _ rfl HP.out rfl (cs' := nilL) rfl (by simp only [cpu_len, nilL_len]) nilL_one (by first | (rw [cpu_len]; kernel_rfl) | (rw [nilL_len]; kernel_rfl)) ?_; clear HP; intro wst HP; replace HP := Lib.hid HP))
            rw [HS.out, fix_err _ (by decide)]
            rw [← nilC_cells] at HP
            refine bodyPost_ret (results_cell_row_tmp2 rfl _ _ g4 44 (cpuCells nilC).toArray (0, 0) _ rfl (HP.out.blk (.tail _ (.tail _ (.head _)))) Tryd.underlying44 rfl (by rw [List.size_toArray, cpu_len]; kernel_rfl)) rfl ⟨rfl, HP.out.below⟩
      · skip
        obtain ⟨q, hq⟩ : ∃ q, imm.tdiv 4 = q := ⟨_, rfl⟩
        have hq2 : -262144 ≤ q ∧ q ≤ 262144 := by
          have h1 := Int.mul_tdiv_add_tmod imm 4
          have h2 := Int.tmod_lt_of_pos imm (show (0:Int) < 4 by decide)
          have h3 := Int.lt_tmod_of_pos imm (show (0:Int) < 4 by decide)
          omega
        have hqw : IntKind.i64.wrap q = q := by rw [IntKind.wrap_i64]; omega
        have hqp : IntKind.i64.wrap (c.pc + q) = c.pc + q := by rw [IntKind.wrap_i64]; omega
        have e20 : (op == 20) = false := by rw [beq_eq_false_iff_ne]; omega
        have e21 : (op == 21) = false := by rw [beq_eq_false_iff_ne]; omega
        have e26 : (op == 26) = false := by rw [beq_eq_false_iff_ne]; omega
        have e27 : (op == 27) = false := by rw [beq_eq_false_iff_ne]; omega
        have e28 : (op == 28) = false := by rw [beq_eq_false_iff_ne]; omega
        have e29 : (op == 29) = false := by rw [beq_eq_false_iff_ne]; omega
        have d1 : decide (1 ≤ op) = true := decide_eq_true (by omega)
        have d11 : decide (op ≤ 11) = false := decide_eq_false (by omega)
        have d12 : decide (12 ≤ op) = true := decide_eq_true (by omega)
        have d19 : decide (op ≤ 19) = false := decide_eq_false (by omega)
        have d22 : decide (22 ≤ op) = true := decide_eq_true (by omega)
        have d25 : decide (op ≤ 25) = true := decide_eq_true (by omega)
        obtain rfl : rd = 0 := hno (by omega)
        simp only [show ((0 : Nat) : Int) = 0 from rfl] at HP
        go_upto_region 19 with (first | (refine wpList_ld1 rfl 3 _ rfl HP.out rfl rfl Tryd.underlying3 rfl ?_) | (go_at_call 47; refine (In_any _ _ _ _).mono ?_; rintro e w7 ⟨rfl, rfl⟩))
        have cx := HP.out.cell (.tail _ (.head _)) 0 _ rfl
        cases htk : takenZ op a b with
        | true =>
          have HTK := Lib.hid htk
          have HS := Lib.hid (show stepC ws c = ({ c with pc := c.pc + q }, 0) from (stepC_do HKP.out HKL.out HN.out HD.out (show doZ op 0 r1 r2 imm c = (c, c.pc + q, 0) by unfold doZ; rw [hea, heb]; rw [if_neg (show ¬ op ≤ 11 by omega), if_neg (show ¬ op ≤ 19 by omega), if_neg (show ¬ op ≤ 21 by omega), if_pos (show op ≤ 25 by omega), htk, if_pos rfl, hq])).trans (if_pos rfl))
          clear htk
          go_wp2_with (first | (refine wpList_ld1 rfl 3 _ rfl HP.out rfl rfl Tryd.underlying3 rfl ?_) | (refine wpList_ld3 rfl 3 _ rfl HP.out rfl HPC.out Tryd.underlying3 rfl ?_) | (go_at_call 47; refine (In_any _ _ _ _).mono ?_; rintro e w7 ⟨rfl, rfl⟩) | (go_at_call 78; refine (taken_any op a b _ (by omega)).mono ?_; rintro e w7 ⟨rfl, rfl⟩; rw [HTK.out]) | (refine wpList_st0 rfl 3 _ _ rfl HP.out rfl rfl (by rw [cpu_len]; omega) rfl (cpu_setpc _ _) (by kernel_rfl) ?_; clear HP; intro wst HP; replace HP := Lib.hid HP) | (refine wpList_ldR0 rfl 44 _ rfl HP.out rfl Tryd.underlying44 rfl (by first | (rw [cpu_len]; kernel_rfl) | (rw [nilL_len]; kernel_rfl)) ?_) | (refine wpList_stR2 rfl 44 _ _ rfl HP.out rfl (cs' := cpuCells _) rfl (by simp only [cpu_len, nilL_len]) (cpu_one _) (by first | (rw [cpu_len]; kernel_rfl) | (rw [nilL_len]; kernel_rfl)) ?_; clear HP; intro wst HP; replace HP := Lib.hid HP))
          rw [HS.out, fix_ok]
          refine bodyPost_ret (results_cell_row_tmp2 rfl _ _ g4 44 (cpuCells ({ c with pc := c.pc + q })).toArray (0, 0) _ rfl (HP.out.blk (.tail _ (.tail _ (.head _)))) Tryd.underlying44 rfl (by rw [List.size_toArray, cpu_len]; kernel_rfl)) rfl ⟨rfl, HP.out.below⟩
        | false =>
          have HTK := Lib.hid htk
          have HS := Lib.hid (show stepC ws c = ({ c with pc := c.pc + 1 }, 0) from (stepC_do HKP.out HKL.out HN.out HD.out (show doZ op 0 r1 r2 imm c = (c, c.pc + 1, 0) by unfold doZ; rw [hea, heb]; rw [if_neg (show ¬ op ≤ 11 by omega), if_neg (show ¬ op ≤ 19 by omega), if_neg (show ¬ op ≤ 21 by omega), if_pos (show op ≤ 25 by omega), htk]; rfl)).trans (if_pos rfl))
          clear htk
          go_wp2_with (first | (refine wpList_ld1 rfl 3 _ rfl HP.out rfl rfl Tryd.underlying3 rfl ?_) | (refine wpList_ld3 rfl 3 _ rfl HP.out rfl HPC.out Tryd.underlying3 rfl ?_) | (go_at_call 47; refine (In_any _ _ _ _).mono ?_; rintro e w7 ⟨rfl, rfl⟩) | (go_at_call 78; refine (taken_any op a b _ (by omega)).mono ?_; rintro e w7 ⟨rfl, rfl⟩; rw [HTK.out]) | (refine wpList_ldR0 rfl 44 _ rfl HP.out rfl Tryd.underlying44 rfl (by first | (rw [cpu_len]; kernel_rfl) | (rw [nilL_len]; kernel_rfl)) ?_) | (refine wpList_stR2 rfl 44 _ _ rfl HP.out rfl (cs' := cpuCells _) rfl (by simp only [cpu_len, nilL_len]) (cpu_one _) (by first | (rw [cpu_len]; kernel_rfl) | (rw [nilL_len]; kernel_rfl)) ?_; clear HP; intro wst HP; replace HP := Lib.hid HP))
          rw [HS.out, fix_ok]
          refine bodyPost_ret (results_cell_row_tmp2 rfl _ _ g4 44 (cpuCells ({ c with pc := c.pc + 1 })).toArray (0, 0) _ rfl (HP.out.blk (.tail _ (.tail _ (.head _)))) Tryd.underlying44 rfl (by rw [List.size_toArray, cpu_len]; kernel_rfl)) rfl ⟨rfl, HP.out.below⟩
      · skip
        obtain ⟨q, hq⟩ : ∃ q, imm.tdiv 4 = q := ⟨_, rfl⟩
        have hq2 : -262144 ≤ q ∧ q ≤ 262144 := by
          have h1 := Int.mul_tdiv_add_tmod imm 4
          have h2 := Int.tmod_lt_of_pos imm (show (0:Int) < 4 by decide)
          have h3 := Int.lt_tmod_of_pos imm (show (0:Int) < 4 by decide)
          omega
        have hqw : IntKind.i64.wrap q = q := by rw [IntKind.wrap_i64]; omega
        have hqp : IntKind.i64.wrap (c.pc + q) = c.pc + q := by rw [IntKind.wrap_i64]; omega
        have hp4 : IntKind.i64.wrap (4 * (c.pc + 1)) = 4 * (c.pc + 1) := by rw [IntKind.wrap_i64]; omega
        have HS := Lib.hid (show stepC ws c = ({ cput c rd (4 * (c.pc + 1)) with pc := c.pc + q }, 0) from (stepC_do HKP.out HKL.out HN.out HD.out (show doZ 26 rd r1 r2 imm c = (cput c rd (4 * (c.pc + 1)), c.pc + q, 0) by unfold doZ; rw [hea, heb]; rw [if_neg (show ¬ (26 : Int) ≤ 11 by decide), if_neg (show ¬ (26 : Int) ≤ 19 by decide), if_neg (show ¬ (26 : Int) ≤ 21 by decide), if_neg (show ¬ (26 : Int) ≤ 25 by decide), if_pos rfl, hq])).trans (if_pos rfl))
        go_upto_region 19 with (first | (refine wpList_ld1 rfl 3 _ rfl HP.out rfl rfl Tryd.underlying3 rfl ?_) | (refine wpList_ld3 rfl 3 _ rfl HP.out rfl HPC.out Tryd.underlying3 rfl ?_) | (go_at_call 47; refine (In_any _ _ _ _).mono ?_; rintro e w7 ⟨rfl, rfl⟩) | (refine wpList_st0 rfl 3 _ _ rfl HP.out rfl rfl (by rw [cpu_len]; omega) rfl (cpu_setpc _ _) (by kernel_rfl) ?_; clear HP; intro wst HP; replace HP := Lib.hid HP))
        have cx := HP.out.cell (.tail _ (.head _)) 0 _ rfl
        by_cases hz : rd = 0
        · subst hz
          have HS := Lib.hid (show stepC ws c = ({ c with pc := c.pc + q }, 0) from HS.out)
          simp only [show ((0 : Nat) : Int) = 0 from rfl] at HP
          go_wp2_with (first | (refine wpList_ld1 rfl 3 _ rfl HP.out rfl rfl Tryd.underlying3 rfl ?_) | (refine wpList_ld3 rfl 3 _ rfl HP.out rfl HPC.out Tryd.underlying3 rfl ?_) | (go_at_call 47; refine (In_any _ _ _ _).mono ?_; rintro e w7 ⟨rfl, rfl⟩) | (refine wpList_st0 rfl 3 _ _ rfl HP.out rfl rfl (by rw [cpu_len]; omega) rfl (cpu_setpc _ _) (by kernel_rfl) ?_; clear HP; intro wst HP; replace HP := Lib.hid HP) | (refine wpList_ldR0 rfl 44 _ rfl HP.out rfl Tryd.underlying44 rfl (by first | (rw [cpu_len]; kernel_rfl) | (rw [nilL_len]; kernel_rfl)) ?_) | (refine wpList_stR2 rfl 44 _ _ rfl HP.out rfl (cs' := cpuCells _) rfl (by simp only [cpu_len, nilL_len]) (cpu_one _) (by first | (rw [cpu_len]; kernel_rfl) | (rw [nilL_len]; kernel_rfl)) ?_; clear HP; intro wst HP; replace HP := Lib.hid HP))
          rw [HS.out, fix_ok]
          refine bodyPost_ret (results_cell_row_tmp2 rfl _ _ g4 44 (cpuCells ({ c with pc := c.pc + q })).toArray (0, 0) _ rfl (HP.out.blk (.tail _ (.tail _ (.head _)))) Tryd.underlying44 rfl (by rw [List.size_toArray, cpu_len]; kernel_rfl)) rfl ⟨rfl, HP.out.below⟩
        · have HS := Lib.hid (show stepC ws c = (cputR { c with pc := c.pc + q } rd (4 * (c.pc + 1)), 0) from HS.out.trans (by unfold cput; rw [if_neg hz]; rfl))
          have hzb : decide ((0 : Int) < (rd : Int)) = true := decide_eq_true (by omega)
          have hzb2 : decide (0 < rd) = true := decide_eq_true (by omega)
          have hr0 : (0 : Int) ≤ (rd : Int) := by omega
          have hr32 : (rd : Int) < 32 := by omega
          clear hz
          go_wp2_with (first | (refine wpList_ld1 rfl 3 _ rfl HP.out rfl rfl Tryd.underlying3 rfl ?_) | (refine wpList_ld3 rfl 3 _ rfl HP.out rfl HPC.out Tryd.underlying3 rfl ?_) | (go_at_call 47; refine (In_any _ _ _ _).mono ?_; rintro e w7 ⟨rfl, rfl⟩) | (refine wpList_st0 rfl 3 _ _ rfl HP.out rfl rfl (by rw [cpu_len]; omega) rfl (cpu_setpc _ _) (by kernel_rfl) ?_; clear HP; intro wst HP; replace HP := Lib.hid HP) | (refine wpList_st0 rfl 3 _ _ rfl HP.out rfl rfl (by rw [cpu_len]; omega) rfl (cpu_setr _ rd hrd _) (by kernel_rfl) ?_; clear HP; intro wst HP; replace HP := Lib.hid HP) | (refine wpList_ldR0 rfl 44 _ rfl HP.out rfl Tryd.underlying44 rfl (by first | (rw [cpu_len]; kernel_rfl) | (rw [nilL_len]; kernel_rfl)) ?_) | (refine wpList_stR2 rfl 44 _ _ rfl HP.out rfl (cs' := cpuCells _) rfl (by simp only [cpu_len, nilL_len]) (cpu_one _) (by first | (rw [cpu_len]; kernel_rfl) | (rw [nilL_len]; kernel_rfl)) ?_; clear HP; intro wst HP; replace HP := Lib.hid HP))
          rw [HS.out, fix_ok]
          refine bodyPost_ret (results_cell_row_tmp2 rfl _ _ g4 44 (cpuCells (cputR { c with pc := c.pc + q } rd (4 * (c.pc + 1)))).toArray (0, 0) _ rfl (HP.out.blk (.tail _ (.tail _ (.head _)))) Tryd.underlying44 rfl (by rw [List.size_toArray, cpu_len]; kernel_rfl)) rfl ⟨rfl, HP.out.below⟩
      · skip
        obtain ⟨t, ht⟩ : ∃ t, wrap64 (a + imm) = t := ⟨_, rfl⟩
        have hti : I64 t := ht ▸ i64c_wrap _
        have htw : IntKind.i64.wrap (a + imm) = t := by rw [IntWalk.i64_left]; exact ht
        have hp4 : IntKind.i64.wrap (4 * (c.pc + 1)) = 4 * (c.pc + 1) := by rw [IntKind.wrap_i64]; omega
        obtain ⟨u, hu⟩ : ∃ u, evenZ t = u := ⟨_, rfl⟩
        have hur : I64 u := by unfold I64 evenZ at *; omega
        have hev : (∃ m, t.tmod 2 = m ∧ (m != 0) = true ∧ t - 1 = u ∧ IntKind.i64.wrap u = u) ∨ (t.tmod 2 = 0 ∧ t = u) := by
          by_cases h : t % 2 = 0
          · right; exact ⟨Int.tmod_eq_zero_of_dvd (Int.dvd_of_emod_eq_zero h), by unfold evenZ at hu; omega⟩
          · left
            refine ⟨_, rfl, by rw [bne_iff_ne]; exact fun e => h (Int.emod_eq_zero_of_dvd (Int.dvd_of_tmod_eq_zero e)), by unfold evenZ at hu; omega, by rw [IntKind.wrap_i64]; unfold I64 at hur; omega⟩
        by_cases h4 : u % 4 = 0
        · have hm4 : u.tmod 4 = 0 := Int.tmod_eq_zero_of_dvd (Int.dvd_of_emod_eq_zero h4)
          obtain ⟨v, hv⟩ : ∃ v, u / 4 = v := ⟨_, rfl⟩
          have hd4 : u.tdiv 4 = v := by rw [← hv]; exact Int.tdiv_eq_ediv_of_dvd (Int.dvd_of_emod_eq_zero h4)
          have hvw : IntKind.i64.wrap v = v := by rw [IntKind.wrap_i64]; unfold I64 at hur; omega
          have HS := Lib.hid (show stepC ws c = ({ cput c rd (4 * (c.pc + 1)) with pc := v }, 0) from (stepC_do HKP.out HKL.out HN.out HD.out (show doZ 27 rd r1 r2 imm c = (cput c rd (4 * (c.pc + 1)), v, 0) by unfold doZ; rw [hea, heb]; rw [if_neg (show ¬ (27 : Int) ≤ 11 by decide), if_neg (show ¬ (27 : Int) ≤ 19 by decide), if_neg (show ¬ (27 : Int) ≤ 21 by decide), if_neg (show ¬ (27 : Int) ≤ 25 by decide), if_neg (show ¬ (27 : Int) = 26 by decide), if_pos rfl, ht, hu, if_pos h4, hv])).trans (if_pos rfl))
          clear hti hv hur h4
          rcases hev with ⟨m, g1, g2, g3, g4'⟩ | ⟨g1, g2⟩
          · clear hu
            go_upto_region 19 with (first | (refine wpList_ld1 rfl 3 _ rfl HP.out rfl rfl Tryd.underlying3 rfl ?_) | (refine wpList_ld3 rfl 3 _ rfl HP.out rfl HPC.out Tryd.underlying3 rfl ?_) | (go_at_call 47; refine (In_any _ _ _ _).mono ?_; rintro e w7 ⟨rfl, rfl⟩) | (refine wpList_st0 rfl 3 _ _ rfl HP.out rfl rfl (by rw [cpu_len]; omega) rfl (cpu_setpc _ _) (by kernel_rfl) ?_; clear HP; intro wst HP; replace HP := Lib.hid HP))
            have cx := HP.out.cell (.tail _ (.head _)) 0 _ rfl
            by_cases hz : rd = 0
            · subst hz
              have HS := Lib.hid (show stepC ws c = ({ c with pc := v }, 0) from HS.out)
              simp only [show ((0 : Nat) : Int) = 0 from rfl] at HP
              go_wp2_with (first | (refine wpList_ld1 rfl 3 _ rfl HP.out rfl rfl Tryd.underlying3 rfl ?_) | (refine wpList_ld3 rfl 3 _ rfl HP.out rfl HPC.out Tryd.underlying3 rfl ?_) | (go_at_call 47; refine (In_any _ _ _ _).mono ?_; rintro e w7 ⟨rfl, rfl⟩) | (refine wpList_st0 rfl 3 _ _ rfl HP.out rfl rfl (by rw [cpu_len]; omega) rfl (cpu_setpc _ _) (by kernel_rfl) ?_; clear HP; intro wst HP; replace HP := Lib.hid HP) | (refine wpList_ldR0 rfl 44 _ rfl HP.out rfl Tryd.underlying44 rfl (by first | (rw [cpu_len]; kernel_rfl) | (rw [nilL_len]; kernel_rfl)) ?_) | (refine wpList_stR2 rfl 44 _ _ rfl HP.out rfl (cs' := cpuCells _) rfl (by simp only [cpu_len, nilL_len]) (cpu_one _) (by first | (rw [cpu_len]; kernel_rfl) | (rw [nilL_len]; kernel_rfl)) ?_; clear HP; intro wst HP; replace HP := Lib.hid HP))
              rw [HS.out, fix_ok]
              refine bodyPost_ret (results_cell_row_tmp2 rfl _ _ g4 44 (cpuCells ({ c with pc := v })).toArray (0, 0) _ rfl (HP.out.blk (.tail _ (.tail _ (.head _)))) Tryd.underlying44 rfl (by rw [List.size_toArray, cpu_len]; kernel_rfl)) rfl ⟨rfl, HP.out.below⟩
            · have HS := Lib.hid (show stepC ws c = (cputR { c with pc := v } rd (4 * (c.pc + 1)), 0) from HS.out.trans (by unfold cput; rw [if_neg hz]; rfl))
              have hzb : decide ((0 : Int) < (rd : Int)) = true := decide_eq_true (by omega)
              have hzb2 : decide (0 < rd) = true := decide_eq_true (by omega)
              have hr0 : (0 : Int) ≤ (rd : Int) := by omega
              have hr32 : (rd : Int) < 32 := by omega
              clear hz
              go_wp2_with (first | (refine wpList_ld1 rfl 3 _ rfl HP.out rfl rfl Tryd.underlying3 rfl ?_) | (refine wpList_ld3 rfl 3 _ rfl HP.out rfl HPC.out Tryd.underlying3 rfl ?_) | (go_at_call 47; refine (In_any _ _ _ _).mono ?_; rintro e w7 ⟨rfl, rfl⟩) | (refine wpList_st0 rfl 3 _ _ rfl HP.out rfl rfl (by rw [cpu_len]; omega) rfl (cpu_setpc _ _) (by kernel_rfl) ?_; clear HP; intro wst HP; replace HP := Lib.hid HP) | (refine wpList_st0 rfl 3 _ _ rfl HP.out rfl rfl (by rw [cpu_len]; omega) rfl (cpu_setr _ rd hrd _) (by kernel_rfl) ?_; clear HP; intro wst HP; replace HP := Lib.hid HP) | (refine wpList_ldR0 rfl 44 _ rfl HP.out rfl Tryd.underlying44 rfl (by first | (rw [cpu_len]; kernel_rfl) | (rw [nilL_len]; kernel_rfl)) ?_) | (refine wpList_stR2 rfl 44 _ _ rfl HP.out rfl (cs' := cpuCells _) rfl (by simp only [cpu_len, nilL_len]) (cpu_one _) (by first | (rw [cpu_len]; kernel_rfl) | (rw [nilL_len]; kernel_rfl)) ?_; clear HP; intro wst HP; replace HP := Lib.hid HP))
              rw [HS.out, fix_ok]
              refine bodyPost_ret (results_cell_row_tmp2 rfl _ _ g4 44 (cpuCells (cputR { c with pc := v } rd (4 * (c.pc + 1)))).toArray (0, 0) _ rfl (HP.out.blk (.tail _ (.tail _ (.head _)))) Tryd.underlying44 rfl (by rw [List.size_toArray, cpu_len]; kernel_rfl)) rfl ⟨rfl, HP.out.below⟩
          · subst g2
            clear hu
            go_upto_region 19 with (first | (refine wpList_ld1 rfl 3 _ rfl HP.out rfl rfl Tryd.underlying3 rfl ?_) | (refine wpList_ld3 rfl 3 _ rfl HP.out rfl HPC.out Tryd.underlying3 rfl ?_) | (go_at_call 47; refine (In_any _ _ _ _).mono ?_; rintro e w7 ⟨rfl, rfl⟩) | (refine wpList_st0 rfl 3 _ _ rfl HP.out rfl rfl (by rw [cpu_len]; omega) rfl (cpu_setpc _ _) (by kernel_rfl) ?_; clear HP; intro wst HP; replace HP := Lib.hid HP))
            have cx := HP.out.cell (.tail _ (.head _)) 0 _ rfl
            by_cases hz : rd = 0
            · subst hz
              have HS := Lib.hid (show stepC ws c = ({ c with pc := v }, 0) from HS.out)
              simp only [show ((0 : Nat) : Int) = 0 from rfl] at HP
              go_wp2_with (first | (refine wpList_ld1 rfl 3 _ rfl HP.out rfl rfl Tryd.underlying3 rfl ?_) | (refine wpList_ld3 rfl 3 _ rfl HP.out rfl HPC.out Tryd.underlying3 rfl ?_) | (go_at_call 47; refine (In_any _ _ _ _).mono ?_; rintro e w7 ⟨rfl, rfl⟩) | (refine wpList_st0 rfl 3 _ _ rfl HP.out rfl rfl (by rw [cpu_len]; omega) rfl (cpu_setpc _ _) (by kernel_rfl) ?_; clear HP; intro wst HP; replace HP := Lib.hid HP) | (refine wpList_ldR0 rfl 44 _ rfl HP.out rfl Tryd.underlying44 rfl (by first | (rw [cpu_len]; kernel_rfl) | (rw [nilL_len]; kernel_rfl)) ?_) | (refine wpList_stR2 rfl 44 _ _ rfl HP.out rfl (cs' := cpuCells _) rfl (by simp only [cpu_len, nilL_len]) (cpu_one _) (by first | (rw [cpu_len]; kernel_rfl) | (rw [nilL_len]; kernel_rfl)) ?_; clear HP; intro wst HP; replace HP := Lib.hid HP))
              rw [HS.out, fix_ok]
              refine bodyPost_ret (results_cell_row_tmp2 rfl _ _ g4 44 (cpuCells ({ c with pc := v })).toArray (0, 0) _ rfl (HP.out.blk (.tail _ (.tail _ (.head _)))) Tryd.underlying44 rfl (by rw [List.size_toArray, cpu_len]; kernel_rfl)) rfl ⟨rfl, HP.out.below⟩
            · have HS := Lib.hid (show stepC ws c = (cputR { c with pc := v } rd (4 * (c.pc + 1)), 0) from HS.out.trans (by unfold cput; rw [if_neg hz]; rfl))
              have hzb : decide ((0 : Int) < (rd : Int)) = true := decide_eq_true (by omega)
              have hzb2 : decide (0 < rd) = true := decide_eq_true (by omega)
              have hr0 : (0 : Int) ≤ (rd : Int) := by omega
              have hr32 : (rd : Int) < 32 := by omega
              clear hz
              go_wp2_with (first | (refine wpList_ld1 rfl 3 _ rfl HP.out rfl rfl Tryd.underlying3 rfl ?_) | (refine wpList_ld3 rfl 3 _ rfl HP.out rfl HPC.out Tryd.underlying3 rfl ?_) | (go_at_call 47; refine (In_any _ _ _ _).mono ?_; rintro e w7 ⟨rfl, rfl⟩) | (refine wpList_st0 rfl 3 _ _ rfl HP.out rfl rfl (by rw [cpu_len]; omega) rfl (cpu_setpc _ _) (by kernel_rfl) ?_; clear HP; intro wst HP; replace HP := Lib.hid HP) | (refine wpList_st0 rfl 3 _ _ rfl HP.out rfl rfl (by rw [cpu_len]; omega) rfl (cpu_setr _ rd hrd _) (by kernel_rfl) ?_; clear HP; intro wst HP; replace HP := Lib.hid HP) | (refine wpList_ldR0 rfl 44 _ rfl HP.out rfl Tryd.underlying44 rfl (by first | (rw [cpu_len]; kernel_rfl) | (rw [nilL_len]; kernel_rfl)) ?_) | (refine wpList_stR2 rfl 44 _ _ rfl HP.out rfl (cs' := cpuCells _) rfl (by simp only [cpu_len, nilL_len]) (cpu_one _) (by first | (rw [cpu_len]; kernel_rfl) | (rw [nilL_len]; kernel_rfl)) ?_; clear HP; intro wst HP; replace HP := Lib.hid HP))
              rw [HS.out, fix_ok]
              refine bodyPost_ret (results_cell_row_tmp2 rfl _ _ g4 44 (cpuCells (cputR { c with pc := v } rd (4 * (c.pc + 1)))).toArray (0, 0) _ rfl (HP.out.blk (.tail _ (.tail _ (.head _)))) Tryd.underlying44 rfl (by rw [List.size_toArray, cpu_len]; kernel_rfl)) rfl ⟨rfl, HP.out.below⟩
        · obtain ⟨m4, hm4⟩ : ∃ m, u.tmod 4 = m := ⟨_, rfl⟩
          have hm0 : (m4 != 0) = true := by
            rw [bne_iff_ne, ← hm4]
            exact fun h => h4 (Int.emod_eq_zero_of_dvd (Int.dvd_of_tmod_eq_zero h))
          have HS := Lib.hid (show stepC ws c = (c, 5) from (stepC_do HKP.out HKL.out HN.out HD.out (show doZ 27 rd r1 r2 imm c = (c, 0, 5) by unfold doZ; rw [hea, heb]; rw [if_neg (show ¬ (27 : Int) ≤ 11 by decide), if_neg (show ¬ (27 : Int) ≤ 19 by decide), if_neg (show ¬ (27 : Int) ≤ 21 by decide), if_neg (show ¬ (27 : Int) ≤ 25 by decide), if_neg (show ¬ (27 : Int) = 26 by decide), if_pos rfl, ht, hu, if_neg h4])).trans (if_neg (by decide)))
          clear hti hur h4
          rcases hev with ⟨m, g1, g2, g3, g4'⟩ | ⟨g1, g2⟩
          · clear hu
            go_upto_region 19 with (first | (refine wpList_ld1 rfl 3 _ rfl HP.out rfl rfl Tryd.underlying3 rfl ?_) | (go_at_call 47; refine (In_any _ _ _ _).mono ?_; rintro e w7 ⟨rfl, rfl⟩))
            have cx := HP.out.cell (.tail _ (.head _)) 0 _ rfl
            go_wp2_with (first | (refine wpList_ld1 rfl 3 _ rfl HP.out rfl rfl Tryd.underlying3 rfl ?_) | (refine wpList_ld3 rfl 3 _ rfl HP.out rfl HPC.out Tryd.underlying3 rfl ?_) | (go_at_call 47; refine (In_any _ _ _ _).mono ?_; rintro e w7 ⟨rfl, rfl⟩) | (refine wpList_stR2 rfl 44 _ _ rfl HP.out rfl (cs' := nilL) rfl (by simp only [cpu_len, nilL_len]) nilL_one (by first | (rw [cpu_len]; kernel_rfl) | (rw [nilL_len]; kernel_rfl)) ?_; clear HP; intro wst HP; replace HP := Lib.hid HP))
            rw [HS.out, fix_err _ (by decide)]
            rw [← nilC_cells] at HP
            refine bodyPost_ret (results_cell_row_tmp2 rfl _ _ g4 44 (cpuCells nilC).toArray (0, 0) _ rfl (HP.out.blk (.tail _ (.tail _ (.head _)))) Tryd.underlying44 rfl (by rw [List.size_toArray, cpu_len]; kernel_rfl)) rfl ⟨rfl, HP.out.below⟩
          · subst g2
            clear hu
            go_upto_region 19 with (first | (refine wpList_ld1 rfl 3 _ rfl HP.out rfl rfl Tryd.underlying3 rfl ?_) | (go_at_call 47; refine (In_any _ _ _ _).mono ?_; rintro e w7 ⟨rfl, rfl⟩))
            have cx := HP.out.cell (.tail _ (.head _)) 0 _ rfl
            go_wp2_with (first | (refine wpList_ld1 rfl 3 _ rfl HP.out rfl rfl Tryd.underlying3 rfl ?_) | (refine wpList_ld3 rfl 3 _ rfl HP.out rfl HPC.out Tryd.underlying3 rfl ?_) | (go_at_call 47; refine (In_any _ _ _ _).mono ?_; rintro e w7 ⟨rfl, rfl⟩) | (refine wpList_stR2 rfl 44 _ _ rfl HP.out rfl (cs' := nilL) rfl (by simp only [cpu_len, nilL_len]) nilL_one (by first | (rw [cpu_len]; kernel_rfl) | (rw [nilL_len]; kernel_rfl)) ?_; clear HP; intro wst HP; replace HP := Lib.hid HP))
            rw [HS.out, fix_err _ (by decide)]
            rw [← nilC_cells] at HP
            refine bodyPost_ret (results_cell_row_tmp2 rfl _ _ g4 44 (cpuCells nilC).toArray (0, 0) _ rfl (HP.out.blk (.tail _ (.tail _ (.head _)))) Tryd.underlying44 rfl (by rw [List.size_toArray, cpu_len]; kernel_rfl)) rfl ⟨rfl, HP.out.below⟩
      · skip
        have hl : IntKind.i64.wrap (imm * 4096) = imm * 4096 := by rw [IntKind.wrap_i64]; omega
        have HS := Lib.hid (show stepC ws c = ({ cput c rd (imm * 4096) with pc := c.pc + 1 }, 0) from (stepC_do HKP.out HKL.out HN.out HD.out (show doZ 28 rd r1 r2 imm c = (cput c rd (imm * 4096), c.pc + 1, 0) by unfold doZ; rw [hea, heb]; rw [if_neg (show ¬ (28 : Int) ≤ 11 by decide), if_neg (show ¬ (28 : Int) ≤ 19 by decide), if_neg (show ¬ (28 : Int) ≤ 21 by decide), if_neg (show ¬ (28 : Int) ≤ 25 by decide), if_neg (show ¬ (28 : Int) = 26 by decide), if_neg (show ¬ (28 : Int) = 27 by decide), if_pos rfl])).trans (if_pos rfl))
        go_upto_region 19 with (first | (refine wpList_ld1 rfl 3 _ rfl HP.out rfl rfl Tryd.underlying3 rfl ?_) | (refine wpList_ld3 rfl 3 _ rfl HP.out rfl HPC.out Tryd.underlying3 rfl ?_) | (go_at_call 47; refine (In_any _ _ _ _).mono ?_; rintro e w7 ⟨rfl, rfl⟩))
        have cx := HP.out.cell (.tail _ (.head _)) 0 _ rfl
        by_cases hz : rd = 0
        · subst hz
          have HS := Lib.hid (show stepC ws c = ({ c with pc := c.pc + 1 }, 0) from HS.out)
          simp only [show ((0 : Nat) : Int) = 0 from rfl] at HP
          go_wp2_with (first | (refine wpList_ld1 rfl 3 _ rfl HP.out rfl rfl Tryd.underlying3 rfl ?_) | (refine wpList_ld3 rfl 3 _ rfl HP.out rfl HPC.out Tryd.underlying3 rfl ?_) | (go_at_call 47; refine (In_any _ _ _ _).mono ?_; rintro e w7 ⟨rfl, rfl⟩) | (refine wpList_ldR0 rfl 44 _ rfl HP.out rfl Tryd.underlying44 rfl (by first | (rw [cpu_len]; kernel_rfl) | (rw [nilL_len]; kernel_rfl)) ?_) | (refine wpList_stR2 rfl 44 _ _ rfl HP.out rfl (cs' := cpuCells _) rfl (by simp only [cpu_len, nilL_len]) (cpu_one _) (by first | (rw [cpu_len]; kernel_rfl) | (rw [nilL_len]; kernel_rfl)) ?_; clear HP; intro wst HP; replace HP := Lib.hid HP))
          rw [HS.out, fix_ok]
          refine bodyPost_ret (results_cell_row_tmp2 rfl _ _ g4 44 (cpuCells ({ c with pc := c.pc + 1 })).toArray (0, 0) _ rfl (HP.out.blk (.tail _ (.tail _ (.head _)))) Tryd.underlying44 rfl (by rw [List.size_toArray, cpu_len]; kernel_rfl)) rfl ⟨rfl, HP.out.below⟩
        · have HS := Lib.hid (show stepC ws c = (cputR { c with pc := c.pc + 1 } rd (imm * 4096), 0) from HS.out.trans (by unfold cput; rw [if_neg hz]; rfl))
          have hzb : decide ((0 : Int) < (rd : Int)) = true := decide_eq_true (by omega)
          have hzb2 : decide (0 < rd) = true := decide_eq_true (by omega)
          have hr0 : (0 : Int) ≤ (rd : Int) := by omega
          have hr32 : (rd : Int) < 32 := by omega
          clear hz
          go_wp2_with (first | (refine wpList_ld1 rfl 3 _ rfl HP.out rfl rfl Tryd.underlying3 rfl ?_) | (refine wpList_ld3 rfl 3 _ rfl HP.out rfl HPC.out Tryd.underlying3 rfl ?_) | (go_at_call 47; refine (In_any _ _ _ _).mono ?_; rintro e w7 ⟨rfl, rfl⟩) | (refine wpList_st0 rfl 3 _ _ rfl HP.out rfl rfl (by rw [cpu_len]; omega) rfl (cpu_setr _ rd hrd _) (by kernel_rfl) ?_; clear HP; intro wst HP; replace HP := Lib.hid HP) | (refine wpList_ldR0 rfl 44 _ rfl HP.out rfl Tryd.underlying44 rfl (by first | (rw [cpu_len]; kernel_rfl) | (rw [nilL_len]; kernel_rfl)) ?_) | (refine wpList_stR2 rfl 44 _ _ rfl HP.out rfl (cs' := cpuCells _) rfl (by simp only [cpu_len, nilL_len]) (cpu_one _) (by first | (rw [cpu_len]; kernel_rfl) | (rw [nilL_len]; kernel_rfl)) ?_; clear HP; intro wst HP; replace HP := Lib.hid HP))
          rw [HS.out, fix_ok]
          refine bodyPost_ret (results_cell_row_tmp2 rfl _ _ g4 44 (cpuCells (cputR { c with pc := c.pc + 1 } rd (imm * 4096))).toArray (0, 0) _ rfl (HP.out.blk (.tail _ (.tail _ (.head _)))) Tryd.underlying44 rfl (by rw [List.size_toArray, cpu_len]; kernel_rfl)) rfl ⟨rfl, HP.out.below⟩
      · skip
        have HS := Lib.hid (show stepC ws c = ({ c with halted := true , pc := c.pc }, 0) from (stepC_do HKP.out HKL.out HN.out HD.out (show doZ 29 rd r1 r2 imm c = ({ c with halted := true }, c.pc, 0) by unfold doZ; rw [hea, heb]; rw [if_neg (show ¬ (29 : Int) ≤ 11 by decide), if_neg (show ¬ (29 : Int) ≤ 19 by decide), if_neg (show ¬ (29 : Int) ≤ 21 by decide), if_neg (show ¬ (29 : Int) ≤ 25 by decide), if_neg (show ¬ (29 : Int) = 26 by decide), if_neg (show ¬ (29 : Int) = 27 by decide), if_neg (show ¬ (29 : Int) = 28 by decide)])).trans (if_pos rfl))
        go_wp2_with (first | (refine wpList_ld1 rfl 3 _ rfl HP.out rfl rfl Tryd.underlying3 rfl ?_) | (refine wpList_ld3 rfl 3 _ rfl HP.out rfl HPC.out Tryd.underlying3 rfl ?_) | (go_at_call 47; refine (In_any _ _ _ _).mono ?_; rintro e w7 ⟨rfl, rfl⟩) | (refine wpList_st0 rfl 3 _ _ rfl HP.out rfl rfl (by rw [cpu_len]; omega) rfl (cpu_setpc _ _) (by kernel_rfl) ?_; clear HP; intro wst HP; replace HP := Lib.hid HP) | (refine wpList_st0 rfl 4 _ _ rfl HP.out rfl rfl (by rw [cpu_len]; omega) rfl (cpu_seth _ true) (by kernel_rfl) ?_; clear HP; intro wst HP; replace HP := Lib.hid HP) | (refine wpList_ldR0 rfl 44 _ rfl HP.out rfl Tryd.underlying44 rfl (by first | (rw [cpu_len]; kernel_rfl) | (rw [nilL_len]; kernel_rfl)) ?_) | (refine wpList_stR2 rfl 44 _ _ rfl HP.out rfl (cs' := cpuCells _) rfl (by simp only [cpu_len, nilL_len]) (cpu_one _) (by first | (rw [cpu_len]; kernel_rfl) | (rw [nilL_len]; kernel_rfl)) ?_; clear HP; intro wst HP; replace HP := Lib.hid HP))
        rw [HS.out, fix_ok]
        refine bodyPost_ret (results_cell_row_tmp2 rfl _ _ g4 44 (cpuCells ({ c with halted := true, pc := c.pc })).toArray (0, 0) _ rfl (HP.out.blk (.tail _ (.tail _ (.head _)))) Tryd.underlying44 rfl (by rw [List.size_toArray, cpu_len]; kernel_rfl)) rfl ⟨rfl, HP.out.below⟩
    · have HS := Lib.hid (stepC_dec HKP.out HKL.out HN.out HD.out he)
      have eb : (e != 0) = true := by simpa using he
      clear he hd
      obtain ⟨op, rd, r1, r2, imm⟩ := x
      go_enter Tryd.func58, Tryd.ntmps58
      clear hca
      go_upto_region 3 with (first | (refine wpList_box_hp (o := ⟨some 3, _, _, _, _, _⟩) rfl _ _ rfl HP.out (cpuCells c) rfl ?_; clear HP; intro g3 w3 HP; replace HP := Lib.hid HP) | (refine wpList_alloc_hp (o := ⟨some 4, _, _, _, _, _⟩) rfl _ rfl HP.out (.agg nilL.toArray) (by kernel_rfl) nilL rfl ?_; clear HP; intro g4 w4 HP; replace HP := Lib.hid HP) | (refine wpList_ld1 rfl 3 _ rfl HP.out rfl HPK.out Tryd.underlying3 rfl ?_) | (go_at_call 47; refine (In_any _ _ _ _).mono ?_; rintro e w7 ⟨rfl, rfl⟩))
      obtain ⟨A9, c9, e9, -, -, hx9⟩ := rep_ints_at (HP.out.rep (F := ⟨w, Lt w.heap.size⟩) (by simp) HWR.out)
      obtain ⟨a9, f9, -, hca⟩ := hx9 k hkl
      clear hx9
      cases e9
      cases f9
      replace hca := hca.trans (congrArg (fun z => some (Value.int IntKind.i64 z)) HN.out)
      go_wp2_with (first | (refine wpList_ld1 rfl 3 _ rfl HP.out rfl HPK.out Tryd.underlying3 rfl ?_) | (go_at_call 47; refine (In_any _ _ _ _).mono ?_; rintro e w7 ⟨rfl, rfl⟩) | (go_at_call 76; refine (RvOf_any n _ HNI.out).mono ?_; rintro e w7 ⟨rfl, hb⟩; replace HP := Lib.hid (HP.out.call0 hb); clear hb; rw [HD.out]) | (refine wpList_alloc_hp (o := ⟨some 6, _, _, _, _, _⟩) rfl _ rfl HP.out (.agg #[.int .i64 0, .int .i64 0, .int .i64 0, .int .i64 0, .int .i64 0]) (by kernel_rfl) [_, _, _, _, _] rfl ?_; clear HP; intro g6 w6 HP; replace HP := Lib.hid HP) | (refine wpList_stR0 rfl 102 _ _ rfl HP.out rfl (cs' := [_, _, _, _, _]) rfl rfl (by simp [Value.oneCell']) (by kernel_rfl) ?_; clear HP; intro wst HP; replace HP := Lib.hid HP) | (refine wpList_stR1 rfl 44 _ _ rfl HP.out rfl (cs' := nilL) rfl (by simp only [cpu_len, nilL_len]) nilL_one (by first | (rw [cpu_len]; kernel_rfl) | (rw [nilL_len]; kernel_rfl)) ?_; clear HP; intro wst HP; replace HP := Lib.hid HP))
      rw [HS.out, fix_err _ (by decide)]
      rw [← nilC_cells] at HP
      refine bodyPost_ret (results_cell_row_tmp2 rfl _ _ g4 44 (cpuCells nilC).toArray (0, 0) _ rfl (HP.out.blk (.tail _ (.head _))) Tryd.underlying44 rfl (by rw [List.size_toArray, cpu_len]; kernel_rfl)) rfl ⟨rfl, HP.out.below⟩
  · have HS := Lib.hid (stepC_out hp)
    have hq : decide (0 ≤ c.pc) = false ∨ (decide (0 ≤ c.pc) = true ∧ decide (c.pc ≤ (ws.length : Int) - 1) = false) := by
      by_cases h : 0 ≤ c.pc
      · right; exact ⟨decide_eq_true h, decide_eq_false (by omega)⟩
      · left; exact decide_eq_false h
    clear hp hx
    rcases hq with p1 | ⟨p1, p2⟩
    all_goals
      go_enter Tryd.func58, Tryd.ntmps58
      go_wp2_with (first | (refine wpList_box_hp (o := ⟨some 3, _, _, _, _, _⟩) rfl _ _ rfl HP.out (cpuCells c) rfl ?_; clear HP; intro g3 w3 HP; replace HP := Lib.hid HP) | (refine wpList_alloc_hp (o := ⟨some 4, _, _, _, _, _⟩) rfl _ rfl HP.out (.agg nilL.toArray) (by kernel_rfl) nilL rfl ?_; clear HP; intro g4 w4 HP; replace HP := Lib.hid HP) | (refine wpList_ld1 rfl 3 _ rfl HP.out rfl HPC.out Tryd.underlying3 rfl ?_) | (go_at_call 47; refine (In_any _ _ _ _).mono ?_; rintro e w7 ⟨rfl, rfl⟩) | (refine wpList_stR0 rfl 44 _ _ rfl HP.out rfl (cs' := nilL) rfl (by simp only [cpu_len, nilL_len]) nilL_one (by first | (rw [cpu_len]; kernel_rfl) | (rw [nilL_len]; kernel_rfl)) ?_; clear HP; intro wst HP; replace HP := Lib.hid HP))
      rw [HS.out, fix_err _ (by decide)]
      rw [← nilC_cells] at HP
      refine bodyPost_ret (results_cell_row_tmp2 rfl _ _ g4 44 (cpuCells nilC).toArray (0, 0) _ rfl (HP.out.blk (.head _)) Tryd.underlying44 rfl (by rw [List.size_toArray, cpu_len]; kernel_rfl)) rfl ⟨rfl, HP.out.below⟩
end Go.Proofs.YtfhoffpdodjfeaaDoor
