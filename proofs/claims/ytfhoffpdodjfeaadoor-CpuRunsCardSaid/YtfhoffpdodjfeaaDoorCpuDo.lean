/- (*cpu.machine).put, .do. -/
import Derived.Test.YtfhoffpdodjfeaaDoorCpuA
import Derived.StillTailTactics
import Derived.BigQuiet
set_option linter.unusedSimpArgs false
set_option linter.unusedVariables false
namespace Go.Proofs.YtfhoffpdodjfeaaDoor
open Go.RowKit Plain64
attribute [local irreducible] wpList Code.wp Oper.wp
theorem cput_pc (c : Cpv) (k : Nat) (n : Int) : (cpuCells (cput c k n))[32]? = some (.int .i64 c.pc) := by
  rw [cpu_pc]; unfold cput; split <;> rfl
set_option maxRecDepth 10000 in
set_option maxHeartbeats 1000000 in
theorem put_any (c : Cpv) (k : Nat) (hk : k < 32) (n : Int) (gm : Nat) (w0 w : World) (Fs : List Fro) (L : List Res) (H : Hp w0 Fs (.blk gm 89 (cpuCells c) :: L) w) :
    Calls Tryd.prog 96 #[.pointer (some ⟨gm, 0, none⟩), .int .i64 k, .int .i64 n] w fun e w' => e = .returned (.tuple #[]) ∧ Hp w0 Fs (.blk gm 89 (cpuCells (cput c k n)) :: L) w' := by
  have HP := Lib.hid H
  clear H
  by_cases h0 : k = 0
  · subst h0
    go_enter Tryd.func96, Tryd.ntmps96
    simp only [show ((0 : Nat) : Int) = 0 from rfl]
    go_wp2
    ((try simp only [Exit.inBlock, Exit.then]); first | refine bodyPost_end (results_none rfl _ _ _) rfl ?_ | refine bodyPost_ret (results_none rfl _ _ _) rfl ?_)
    exact ⟨rfl, HP.out⟩
  · have hb : ((k : Int) != 0) = true := by rw [bne_iff_ne]; omega
    have h1 : (0 : Int) ≤ (k : Int) := by omega
    have h2 : (k : Int) < 32 := by omega
    have HC := Lib.hid (show cput c k n = cputR c k n by unfold cput; rw [if_neg h0])
    clear h0
    rw [HC.out]
    go_enter Tryd.func96, Tryd.ntmps96
    go_wp2_with (first | (refine wpList_st0 rfl 3 _ _ rfl HP.out rfl rfl (by rw [cpu_len]; omega) rfl (cpu_setr c k hk _) (by kernel_rfl) ?_; clear HP; intro wst HP; replace HP := Lib.hid HP))
    ((try simp only [Exit.inBlock, Exit.then]); first | refine bodyPost_end (results_none rfl _ _ _) rfl ?_ | refine bodyPost_ret (results_none rfl _ _ _) rfl ?_)
    exact ⟨rfl, HP.out⟩
set_option maxRecDepth 100000 in
set_option maxHeartbeats 4000000 in
theorem do_any (op : Int) (rd r1 r2 : Nat) (imm : Int) (c : Cpv) (gm : Nat) (w0 w : World) (Fs : List Fro) (L : List Res) (ho : 1 ≤ op ∧ op ≤ 29) (hrd : rd < 32) (hr1 : r1 < 32) (hr2 : r2 < 32) (him : -1048576 ≤ imm ∧ imm ≤ 1048575) (hpc : 0 ≤ c.pc ∧ c.pc < 32768)
    (H : Hp w0 Fs (.blk gm 89 (cpuCells c) :: L) w) :
    Calls Tryd.prog 75 #[.pointer (some ⟨gm, 0, none⟩), .agg #[.int .i64 op, .int .i64 rd, .int .i64 r1, .int .i64 r2, .int .i64 imm]] w fun e w' => e = .returned (.tuple #[.int .i64 (doZ op rd r1 r2 imm c).2.1, .int .i64 (doZ op rd r1 r2 imm c).2.2]) ∧ Hp w0 Fs (.blk gm 89 (cpuCells (doZ op rd r1 r2 imm c).1) :: L) w' := by
  have HP := Lib.hid H
  clear H
  obtain ⟨a, hea⟩ : ∃ a, creg c r1 = a := ⟨_, rfl⟩
  obtain ⟨b, heb⟩ : ∃ b, creg c r2 = b := ⟨_, rfl⟩
  have HR1 := Lib.hid (hea ▸ cpu_reg c r1 hr1)
  have HR2 := Lib.hid (heb ▸ cpu_reg c r2 hr2)
  have HPC := Lib.hid (cpu_pc c)
  have i1 : (r1 : Int) < 32 := by omega
  have i2 : (r2 : Int) < 32 := by omega
  have i3 : (0 : Int) ≤ (r1 : Int) := by omega
  have i4 : (0 : Int) ≤ (r2 : Int) := by omega
  have i5 : IntKind.i64.wrap (c.pc + 1) = c.pc + 1 := by rw [IntKind.wrap_i64]; omega
  go_enter Tryd.func75, Tryd.ntmps75
  go_upto_region 1 with (first | (refine wpList_box_hp (o := ⟨some 3, _, _, _, _, _⟩) rfl _ _ rfl HP.out [_, _, _, _, _] rfl ?_; clear HP; intro g3 w3 HP; replace HP := Lib.hid HP))
  replace HP := Lib.hid (HP.out.perm (.swap _ _ _))
  have q0 := HP.out.cell (.tail _ (.head _)) 2 _ rfl
  have q1 := HP.out.cell (.tail _ (.head _)) 3 _ rfl
  have q2 := HP.out.cell (.head _) r1 _ HR1.out
  have q3 := HP.out.cell (.head _) r2 _ HR2.out
  go_quiet (fail)
  replace HP := Lib.hid (HP.out.drewN nq)
  clear q0 q1 q2 q3
  generalize w3.drewN nq = wq at HP ⊢
  clear nq
  go_upto_region 5 with (first | (refine wpList_ld0 rfl 3 _ rfl HP.out rfl HPC.out Tryd.underlying3 rfl ?_))
  have h9 : (1 ≤ op ∧ op ≤ 11) ∨ (12 ≤ op ∧ op ≤ 19) ∨ op = 20 ∨ op = 21 ∨ (22 ≤ op ∧ op ≤ 25) ∨ op = 26 ∨ op = 27 ∨ op = 28 ∨ op = 29 := by omega
  clear ho
  rcases h9 with ho | ho | rfl | rfl | ho | rfl | rfl | rfl | rfl
  · skip
    have HD := Lib.hid (show doZ op rd r1 r2 imm c = (cput c rd (arithZ op a b), c.pc + 1, 0) by unfold doZ; rw [hea, heb]; rw [if_pos (show op ≤ 11 by omega)])
    have g1 : decide (op ≤ 11) = true := decide_eq_true (by omega)
    go_upto_region 6 with (first | (refine wpList_ld1 rfl 3 _ rfl HP.out rfl rfl Tryd.underlying3 rfl ?_))
    have HDR := Lib.hid HP.out.drew
    have q0 := HP.out.cell (.tail _ (.head _)) 1 _ rfl
    have q1 := HP.out.cell (.tail _ (.head _)) 0 _ rfl
    refine wp_region_still_tail 8 (by kernel_rfl) (by kernel_rfl) ?_
    simp only [List.take_succ_cons, List.take_zero, List.drop_succ_cons, List.drop_zero]
    repeat still_step
    still_call ((arith_any op a b _ (by omega)).mono fun _ _ h => ⟨h.1, h.2.symm⟩)
    repeat still_step
    try refine wpStill_nil ?_
    clear q0 q1
    replace HP := HDR
    clear HDR
    go_wp2_with (first | (go_at_call 96; refine (put_any _ rd hrd _ gm w0 _ _ _ HP.out).mono ?_; clear HP; rintro e w6 ⟨rfl, HP⟩; replace HP := Lib.hid HP))
    (try simp only [Exit.inBlock, Exit.then])
    refine bodyPost_ret (results_tmp2 (by rfl) _ _ _) (by rfl) ?_
    rw [HD.out]
    exact ⟨rfl, HP.out.drop (A := [_])⟩
  · skip
    have HD := Lib.hid (show doZ op rd r1 r2 imm c = (cput c rd (arithZ op a imm), c.pc + 1, 0) by unfold doZ; rw [hea, heb]; rw [if_neg (show ¬ op ≤ 11 by omega), if_pos (show op ≤ 19 by omega)])
    have g1 : decide (op ≤ 11) = false := decide_eq_false (by omega)
    have g2 : decide (op ≤ 19) = true := decide_eq_true (by omega)
    go_upto_region 8 with (first | (refine wpList_ld1 rfl 3 _ rfl HP.out rfl rfl Tryd.underlying3 rfl ?_))
    have HDR := Lib.hid HP.out.drew
    have q0 := HP.out.cell (.tail _ (.head _)) 1 _ rfl
    have q1 := HP.out.cell (.tail _ (.head _)) 0 _ rfl
    have q2 := HP.out.cell (.tail _ (.head _)) 4 _ rfl
    refine wp_region_still_tail 9 (by kernel_rfl) (by kernel_rfl) ?_
    simp only [List.take_succ_cons, List.take_zero, List.drop_succ_cons, List.drop_zero]
    repeat still_step
    still_call ((arith_any op a imm _ (by omega)).mono fun _ _ h => ⟨h.1, h.2.symm⟩)
    repeat still_step
    try refine wpStill_nil ?_
    clear q0 q1 q2
    replace HP := HDR
    clear HDR
    go_wp2_with (first | (go_at_call 96; refine (put_any _ rd hrd _ gm w0 _ _ _ HP.out).mono ?_; clear HP; rintro e w6 ⟨rfl, HP⟩; replace HP := Lib.hid HP))
    (try simp only [Exit.inBlock, Exit.then])
    refine bodyPost_ret (results_tmp2 (by rfl) _ _ _) (by rfl) ?_
    rw [HD.out]
    exact ⟨rfl, HP.out.drop (A := [_])⟩
  · skip
    obtain ⟨t, ht⟩ : ∃ t, wrap64 (a + imm) = t := ⟨_, rfl⟩
    have hti : I64 t := ht ▸ i64c_wrap _
    have htw : IntKind.i64.wrap (a + imm) = t := by rw [IntWalk.i64_left]; exact ht
    have HTI := Lib.hid hti
    by_cases hgood : 0 ≤ t ∧ t < 512 ∧ t % 8 = 0
    · obtain ⟨n8, hn8⟩ : ∃ n8 : Nat, t = 8 * (n8 : Int) := ⟨(t / 8).toNat, by omega⟩
      have hn64 : n8 < 64 := by omega
      have hn64i : (n8 : Int) < 64 := by omega
      have hn0 : (0 : Int) ≤ (n8 : Int) := by omega
      have htn : (t / 8).toNat = n8 := by omega
      have HTQ := Lib.hid (show t.tdiv 8 = (n8 : Int) by rw [Int.tdiv_eq_ediv_of_nonneg hgood.1]; omega)
      have HTD := Lib.hid (show decide (0 ≤ t ∧ t < 512 ∧ t % 8 = 0) = true from decide_eq_true hgood)
      obtain ⟨d8, hd8⟩ : ∃ d, cdat c n8 = d := ⟨_, rfl⟩
      have HDT := Lib.hid (hd8 ▸ cpu_dat c n8 hn64)
      clear hn8
      have HD := Lib.hid (show doZ 20 rd r1 r2 imm c = (cput c rd d8, c.pc + 1, 0) by unfold doZ; rw [hea, heb]; rw [if_neg (show ¬ (20 : Int) ≤ 11 by decide), if_neg (show ¬ (20 : Int) ≤ 19 by decide), if_pos (show (20 : Int) ≤ 21 by decide), ht, if_pos hgood, if_neg (show ¬ (20 : Int) = 21 by decide), htn, hd8])
      clear hgood hti htn hd8
      go_upto_region 17 with (first | (refine wpList_ld1 rfl 3 _ rfl HP.out rfl rfl Tryd.underlying3 rfl ?_) | (go_at_call 98; refine (word_any t _ HTI.out).mono ?_; rintro e w7 ⟨rfl, rfl⟩; rw [HTQ.out, HTD.out]))
      have HDR := Lib.hid HP.out.drew
      have q0 := HP.out.cell (.tail _ (.head _)) 1 _ rfl
      have q1 := HP.out.cell (.head _) (33 + n8) _ HDT.out
      refine wp_region_still_tail 10 (by kernel_rfl) (by kernel_rfl) ?_
      simp only [List.take_succ_cons, List.take_zero, List.drop_succ_cons, List.drop_zero]
      repeat still_step
      try refine wpStill_nil ?_
      clear q0 q1
      replace HP := HDR
      clear HDR
      go_wp2_with (first | (go_at_call 96; refine (put_any _ rd hrd _ gm w0 _ _ _ HP.out).mono ?_; clear HP; rintro e w6 ⟨rfl, HP⟩; replace HP := Lib.hid HP))
      (try simp only [Exit.inBlock, Exit.then])
      refine bodyPost_ret (results_tmp2 (by rfl) _ _ _) (by rfl) ?_
      rw [HD.out]
      exact ⟨rfl, HP.out.drop (A := [_])⟩
    · obtain ⟨q8, hq8⟩ : ∃ q, t.tdiv 8 = q := ⟨_, rfl⟩
      have HTQ := Lib.hid hq8
      have HTD := Lib.hid (show decide (0 ≤ t ∧ t < 512 ∧ t % 8 = 0) = false from decide_eq_false hgood)
      have HD := Lib.hid (show doZ 20 rd r1 r2 imm c = (c, 0, 2) by unfold doZ; rw [hea, heb]; rw [if_neg (show ¬ (20 : Int) ≤ 11 by decide), if_neg (show ¬ (20 : Int) ≤ 19 by decide), if_pos (show (20 : Int) ≤ 21 by decide), ht, if_neg hgood])
      clear hgood hti
      go_wp2_with (first | (refine wpList_ld1 rfl 3 _ rfl HP.out rfl rfl Tryd.underlying3 rfl ?_) | (go_at_call 98; refine (word_any t _ HTI.out).mono ?_; rintro e w7 ⟨rfl, rfl⟩; rw [HTQ.out, HTD.out]))
      (try simp only [Exit.inBlock, Exit.then])
      refine bodyPost_ret (results_tmp2 (by rfl) _ _ _) (by rfl) ?_
      rw [HD.out]
      exact ⟨rfl, HP.out.drop (A := [_])⟩
  · skip
    obtain ⟨t, ht⟩ : ∃ t, wrap64 (a + imm) = t := ⟨_, rfl⟩
    have hti : I64 t := ht ▸ i64c_wrap _
    have htw : IntKind.i64.wrap (a + imm) = t := by rw [IntWalk.i64_left]; exact ht
    have HTI := Lib.hid hti
    by_cases hgood : 0 ≤ t ∧ t < 512 ∧ t % 8 = 0
    · obtain ⟨n8, hn8⟩ : ∃ n8 : Nat, t = 8 * (n8 : Int) := ⟨(t / 8).toNat, by omega⟩
      have hn64 : n8 < 64 := by omega
      have hn64i : (n8 : Int) < 64 := by omega
      have hn0 : (0 : Int) ≤ (n8 : Int) := by omega
      have htn : (t / 8).toNat = n8 := by omega
      have HTQ := Lib.hid (show t.tdiv 8 = (n8 : Int) by rw [Int.tdiv_eq_ediv_of_nonneg hgood.1]; omega)
      have HTD := Lib.hid (show decide (0 ≤ t ∧ t < 512 ∧ t % 8 = 0) = true from decide_eq_true hgood)
      obtain ⟨d8, hd8⟩ : ∃ d, cdat c n8 = d := ⟨_, rfl⟩
      have HDT := Lib.hid (hd8 ▸ cpu_dat c n8 hn64)
      clear hn8
      have HD := Lib.hid (show doZ 21 rd r1 r2 imm c = (cset c n8 b, c.pc + 1, 0) by unfold doZ; rw [hea, heb]; rw [if_neg (show ¬ (21 : Int) ≤ 11 by decide), if_neg (show ¬ (21 : Int) ≤ 19 by decide), if_pos (show (21 : Int) ≤ 21 by decide), ht, if_pos hgood, if_pos rfl, htn])
      clear hgood hti htn hd8
      go_wp2_with (first | (refine wpList_ld1 rfl 3 _ rfl HP.out rfl rfl Tryd.underlying3 rfl ?_) | (go_at_call 98; refine (word_any t _ HTI.out).mono ?_; rintro e w7 ⟨rfl, rfl⟩; rw [HTQ.out, HTD.out]) | (refine wpList_st0 rfl 3 _ _ rfl HP.out rfl rfl (by rw [cpu_len]; omega) rfl (cpu_setd c n8 (by omega) _) (by kernel_rfl) ?_; clear HP; intro wst HP; replace HP := Lib.hid HP))
      (try simp only [Exit.inBlock, Exit.then])
      refine bodyPost_ret (results_tmp2 (by rfl) _ _ _) (by rfl) ?_
      rw [HD.out]
      exact ⟨rfl, HP.out.drop (A := [_])⟩
    · obtain ⟨q8, hq8⟩ : ∃ q, t.tdiv 8 = q := ⟨_, rfl⟩
      have HTQ := Lib.hid hq8
      have HTD := Lib.hid (show decide (0 ≤ t ∧ t < 512 ∧ t % 8 = 0) = false from decide_eq_false hgood)
      have HD := Lib.hid (show doZ 21 rd r1 r2 imm c = (c, 0, 2) by unfold doZ; rw [hea, heb]; rw [if_neg (show ¬ (21 : Int) ≤ 11 by decide), if_neg (show ¬ (21 : Int) ≤ 19 by decide), if_pos (show (21 : Int) ≤ 21 by decide), ht, if_neg hgood])
      clear hgood hti
      go_wp2_with (first | (refine wpList_ld1 rfl 3 _ rfl HP.out rfl rfl Tryd.underlying3 rfl ?_) | (go_at_call 98; refine (word_any t _ HTI.out).mono ?_; rintro e w7 ⟨rfl, rfl⟩; rw [HTQ.out, HTD.out]))
      (try simp only [Exit.inBlock, Exit.then])
      refine bodyPost_ret (results_tmp2 (by rfl) _ _ _) (by rfl) ?_
      rw [HD.out]
      exact ⟨rfl, HP.out.drop (A := [_])⟩
  · skip
    obtain ⟨q, hq⟩ : ∃ q, imm.tdiv 4 = q := ⟨_, rfl⟩
    have hq2 : -262144 ≤ q ∧ q ≤ 262144 := by
      have h1 := Int.mul_tdiv_add_tmod imm 4
      have h2 := Int.tmod_lt_of_pos imm (show (0:Int) < 4 by decide)
      have h3 := Int.lt_tmod_of_pos imm (show (0:Int) < 4 by decide)
      omega
    have hqw : IntKind.i64.wrap q = q := by rw [IntKind.wrap_i64]; omega
    have hqp : IntKind.i64.wrap (c.pc + q) = c.pc + q := by rw [IntKind.wrap_i64]; omega
    have g1 : decide (op ≤ 11) = false := decide_eq_false (by omega)
    have g2 : decide (op ≤ 19) = false := decide_eq_false (by omega)
    have g3 : (op == 20) = false := by rw [beq_eq_false_iff_ne]; omega
    have g4 : (op == 21) = false := by rw [beq_eq_false_iff_ne]; omega
    have g5 : decide (op ≤ 25) = true := decide_eq_true (by omega)
    cases htk : takenZ op a b with
    | true =>
      have HTK := Lib.hid htk
      have HD := Lib.hid (show doZ op rd r1 r2 imm c = (c, c.pc + q, 0) by unfold doZ; rw [hea, heb]; rw [if_neg (show ¬ op ≤ 11 by omega), if_neg (show ¬ op ≤ 19 by omega), if_neg (show ¬ op ≤ 21 by omega), if_pos (show op ≤ 25 by omega), htk, if_pos rfl, hq])
      clear htk
      go_upto_region 20 with (first | (refine wpList_ld1 rfl 3 _ rfl HP.out rfl rfl Tryd.underlying3 rfl ?_) | (go_at_call 99; refine (branches_any op a b _ (by omega)).mono ?_; rintro e w7 ⟨rfl, rfl⟩; rw [HTK.out]))
      have q0 := HP.out.cell (.head _) 32 _ HPC.out
      have q1 := HP.out.cell (.tail _ (.head _)) 4 _ rfl
      go_quiet (fail)
      replace HP := Lib.hid (HP.out.drewN nq)
      clear q0 q1
      go_wp2
      (try simp only [Exit.inBlock, Exit.then])
      refine bodyPost_ret (results_tmp2 (by rfl) _ _ _) (by rfl) ?_
      rw [HD.out]
      exact ⟨rfl, HP.out.drop (A := [_])⟩
    | false =>
      have HTK := Lib.hid htk
      have HD := Lib.hid (show doZ op rd r1 r2 imm c = (c, c.pc + 1, 0) by unfold doZ; rw [hea, heb]; rw [if_neg (show ¬ op ≤ 11 by omega), if_neg (show ¬ op ≤ 19 by omega), if_neg (show ¬ op ≤ 21 by omega), if_pos (show op ≤ 25 by omega), htk]; rfl)
      clear htk
      go_wp2_with (first | (refine wpList_ld1 rfl 3 _ rfl HP.out rfl rfl Tryd.underlying3 rfl ?_) | (go_at_call 99; refine (branches_any op a b _ (by omega)).mono ?_; rintro e w7 ⟨rfl, rfl⟩; rw [HTK.out]))
      (try simp only [Exit.inBlock, Exit.then])
      refine bodyPost_ret (results_tmp2 (by rfl) _ _ _) (by rfl) ?_
      rw [HD.out]
      exact ⟨rfl, HP.out.drop (A := [_])⟩
  · skip
    obtain ⟨q, hq⟩ : ∃ q, imm.tdiv 4 = q := ⟨_, rfl⟩
    have hq2 : -262144 ≤ q ∧ q ≤ 262144 := by
      have h1 := Int.mul_tdiv_add_tmod imm 4
      have h2 := Int.tmod_lt_of_pos imm (show (0:Int) < 4 by decide)
      have h3 := Int.lt_tmod_of_pos imm (show (0:Int) < 4 by decide)
      omega
    have hqw : IntKind.i64.wrap q = q := by rw [IntKind.wrap_i64]; omega
    have hqp : IntKind.i64.wrap (c.pc + q) = c.pc + q := by rw [IntKind.wrap_i64]; omega
    have hp4 : IntKind.i64.wrap (4 * (c.pc + 1)) = 4 * (c.pc + 1) := by rw [IntKind.wrap_i64]; omega
    have HD := Lib.hid (show doZ 26 rd r1 r2 imm c = (cput c rd (4 * (c.pc + 1)), c.pc + q, 0) by unfold doZ; rw [hea, heb]; rw [if_neg (show ¬ (26 : Int) ≤ 11 by decide), if_neg (show ¬ (26 : Int) ≤ 19 by decide), if_neg (show ¬ (26 : Int) ≤ 21 by decide), if_neg (show ¬ (26 : Int) ≤ 25 by decide), if_pos rfl, hq])
    go_upto_region 23 with (first | (refine wpList_ld1 rfl 3 _ rfl HP.out rfl rfl Tryd.underlying3 rfl ?_) | (go_at_call 96; refine (put_any _ rd hrd _ gm w0 _ _ _ HP.out).mono ?_; clear HP; rintro e w6 ⟨rfl, HP⟩; replace HP := Lib.hid HP))
    replace HPC := Lib.hid (cput_pc c rd (4 * (c.pc + 1)))
    have q0 := HP.out.cell (.head _) 32 _ HPC.out
    have q1 := HP.out.cell (.tail _ (.head _)) 4 _ rfl
    go_quiet (fail)
    replace HP := Lib.hid (HP.out.drewN nq)
    clear q0 q1
    go_wp2
    (try simp only [Exit.inBlock, Exit.then])
    refine bodyPost_ret (results_tmp2 (by rfl) _ _ _) (by rfl) ?_
    rw [HD.out]
    exact ⟨rfl, HP.out.drop (A := [_])⟩
  · skip
    obtain ⟨t, ht⟩ : ∃ t, wrap64 (a + imm) = t := ⟨_, rfl⟩
    have hti : I64 t := ht ▸ i64c_wrap _
    have htw : IntKind.i64.wrap (a + imm) = t := by rw [IntWalk.i64_left]; exact ht
    have hp4 : IntKind.i64.wrap (4 * (c.pc + 1)) = 4 * (c.pc + 1) := by rw [IntKind.wrap_i64]; omega
    obtain ⟨u, hu⟩ : ∃ u, evenZ t = u := ⟨_, rfl⟩
    have hun : bits .andNot .i64 t 1 = u := by rw [andNot1 t hti, hu]
    have hur : I64 u := by unfold I64 evenZ at *; omega
    by_cases h4 : u % 4 = 0
    · have hm4 : u.tmod 4 = 0 := Int.tmod_eq_zero_of_dvd (Int.dvd_of_emod_eq_zero h4)
      obtain ⟨v, hv⟩ : ∃ v, u / 4 = v := ⟨_, rfl⟩
      have hd4 : u.tdiv 4 = v := by rw [← hv]; exact Int.tdiv_eq_ediv_of_dvd (Int.dvd_of_emod_eq_zero h4)
      have hvw : IntKind.i64.wrap v = v := by rw [IntKind.wrap_i64]; unfold I64 at hur; omega
      have HD := Lib.hid (show doZ 27 rd r1 r2 imm c = (cput c rd (4 * (c.pc + 1)), v, 0) by unfold doZ; rw [hea, heb]; rw [if_neg (show ¬ (27 : Int) ≤ 11 by decide), if_neg (show ¬ (27 : Int) ≤ 19 by decide), if_neg (show ¬ (27 : Int) ≤ 21 by decide), if_neg (show ¬ (27 : Int) ≤ 25 by decide), if_neg (show ¬ (27 : Int) = 26 by decide), if_pos rfl, ht, hu, if_pos h4, hv])
      clear hu hti hv hur h4
      go_wp2_with (first | (refine wpList_ld1 rfl 3 _ rfl HP.out rfl rfl Tryd.underlying3 rfl ?_) | (go_at_call 96; refine (put_any _ rd hrd _ gm w0 _ _ _ HP.out).mono ?_; clear HP; rintro e w6 ⟨rfl, HP⟩; replace HP := Lib.hid HP))
      (try simp only [Exit.inBlock, Exit.then])
      refine bodyPost_ret (results_tmp2 (by rfl) _ _ _) (by rfl) ?_
      rw [HD.out]
      exact ⟨rfl, HP.out.drop (A := [_])⟩
    · obtain ⟨m4, hm4⟩ : ∃ m, u.tmod 4 = m := ⟨_, rfl⟩
      have hm0 : (m4 != 0) = true := by
        rw [bne_iff_ne, ← hm4]
        exact fun h => h4 (Int.emod_eq_zero_of_dvd (Int.dvd_of_tmod_eq_zero h))
      have HD := Lib.hid (show doZ 27 rd r1 r2 imm c = (c, 0, 5) by unfold doZ; rw [hea, heb]; rw [if_neg (show ¬ (27 : Int) ≤ 11 by decide), if_neg (show ¬ (27 : Int) ≤ 19 by decide), if_neg (show ¬ (27 : Int) ≤ 21 by decide), if_neg (show ¬ (27 : Int) ≤ 25 by decide), if_neg (show ¬ (27 : Int) = 26 by decide), if_pos rfl, ht, hu, if_neg h4])
      clear hu hti hur h4
      go_wp2_with (first | (refine wpList_ld1 rfl 3 _ rfl HP.out rfl rfl Tryd.underlying3 rfl ?_))
      (try simp only [Exit.inBlock, Exit.then])
      refine bodyPost_ret (results_tmp2 (by rfl) _ _ _) (by rfl) ?_
      rw [HD.out]
      exact ⟨rfl, HP.out.drop (A := [_])⟩
  · skip
    have hl : Op.shift .shl .i64 imm .u64 12 = pure (.int .i64 (imm * 4096)) := by
      rw [shift_shl_any _ _ _ _ (by omega), IntWalk.i64_left, Nat.min_eq_left (by simp [IntKind.bits])]
      congr 2
      exact IntWalk.wrap64_in _ (by show _ ∧ _; constructor <;> simp <;> omega)
    have HD := Lib.hid (show doZ 28 rd r1 r2 imm c = (cput c rd (imm * 4096), c.pc + 1, 0) by unfold doZ; rw [hea, heb]; rw [if_neg (show ¬ (28 : Int) ≤ 11 by decide), if_neg (show ¬ (28 : Int) ≤ 19 by decide), if_neg (show ¬ (28 : Int) ≤ 21 by decide), if_neg (show ¬ (28 : Int) ≤ 25 by decide), if_neg (show ¬ (28 : Int) = 26 by decide), if_neg (show ¬ (28 : Int) = 27 by decide), if_pos rfl])
    go_wp2_with (first | (refine wpList_ld1 rfl 3 _ rfl HP.out rfl rfl Tryd.underlying3 rfl ?_) | (go_at_call 96; refine (put_any _ rd hrd _ gm w0 _ _ _ HP.out).mono ?_; clear HP; rintro e w6 ⟨rfl, HP⟩; replace HP := Lib.hid HP))
    (try simp only [Exit.inBlock, Exit.then])
    refine bodyPost_ret (results_tmp2 (by rfl) _ _ _) (by rfl) ?_
    rw [HD.out]
    exact ⟨rfl, HP.out.drop (A := [_])⟩
  · skip
    have HD := Lib.hid (show doZ 29 rd r1 r2 imm c = ({ c with halted := true }, c.pc, 0) by unfold doZ; rw [hea, heb]; rw [if_neg (show ¬ (29 : Int) ≤ 11 by decide), if_neg (show ¬ (29 : Int) ≤ 19 by decide), if_neg (show ¬ (29 : Int) ≤ 21 by decide), if_neg (show ¬ (29 : Int) ≤ 25 by decide), if_neg (show ¬ (29 : Int) = 26 by decide), if_neg (show ¬ (29 : Int) = 27 by decide), if_neg (show ¬ (29 : Int) = 28 by decide)])
    go_upto_region 4 with (first | (refine wpList_ld1 rfl 3 _ rfl HP.out rfl rfl Tryd.underlying3 rfl ?_) | (refine wpList_st0 rfl 4 _ _ rfl HP.out rfl rfl (by rw [cpu_len]; omega) rfl (cpu_seth c true) (by kernel_rfl) ?_; clear HP; intro wst HP; replace HP := Lib.hid HP))
    replace HPC := Lib.hid (cpu_pc { c with halted := true })
    go_wp2_with (first | (refine wpList_ld0 rfl 3 _ rfl HP.out rfl HPC.out Tryd.underlying3 rfl ?_))
    (try simp only [Exit.inBlock, Exit.then])
    refine bodyPost_ret (results_tmp2 (by rfl) _ _ _) (by rfl) ?_
    rw [HD.out]
    exact ⟨rfl, HP.out.drop (A := [_])⟩
end Go.Proofs.YtfhoffpdodjfeaaDoor
