/- cpu.Run; tierlineref.CpuRun. -/
import Derived.Test.YtfhoffpdodjfeaaDoorCpuSt
set_option linter.unusedSimpArgs false
set_option linter.unusedVariables false
namespace Go.Proofs.YtfhoffpdodjfeaaDoor
open Go.RowKit Plain64
attribute [local irreducible] wpList Code.wp Oper.wp
theorem results_cell_row_tmp3 {P : Program} {fn : Func} {p u v : Tmp} {ty : TypeId} (h : fn.results = #[.cell p ty, .tmp u, .tmp v]) (tmps : Array Value) (w : World) (g : Nat) (t : TypeId) (cs : Array Value) (fr : Nat × Nat) (d : TypeDesc)
    (hp : tmps.getD p undef = .pointer (some ⟨g, 0, none⟩)) (hg : w.heap[g]? = some (.cells cs t fr))
    (hu : P.underlying ty = some d) (hd : (match d with | .struct _ | .array _ _ => true | _ => false) = true) (hi : (P.info? ty).map (·.size) = some cs.size) :
    (results fn tmps).run P w = .ok (.tuple #[.agg cs, tmps.getD u undef, tmps.getD v undef]) w := by
  have e : (results fn tmps).run P w = ((asAddr (tmps.getD p undef)).run P w).andThen fun a w₁ => ((loadVar ty a).run P w₁).andThen fun x w₂ => .ok (.tuple #[x, tmps.getD u undef, tmps.getD v undef]) w₂ := by
    simp only [results, h]
    simp [Sem.run_bind, Result.andThen]
  rw [e, hp]
  simp [asAddr, run_loadVar_row w g t ty cs fr d hg hu hd hi, Result.andThen]
/-- cpu.Run: P12.4. -/
noncomputable def runLoop (ws : List Int) : Nat → Int → Cpv → Cpv × Int × Int
  | 0, n, c => if c.halted = true then (c, n, 0) else (nilC, 0, 10)
  | f + 1, n, c => if c.halted = true then (c, n, 0) else if (stepC ws c).2 = 0 then runLoop ws f (n + 1) (stepC ws c).1 else (nilC, 0, (stepC ws c).2)
noncomputable def runAns (ws : List Int) (c : Cpv) (most : Int) : Cpv × Int × Int := if 32768 < ws.length then (nilC, 0, 1) else if most < 0 ∨ 4000000 < most then (nilC, 0, 2) else runLoop ws most.toNat 0 (cputR c 0 0)
theorem runLoop_halt (ws : List Int) (f n : Nat) (t : Cpv) (h : t.halted = true) : runLoop ws f n t = (t, (n : Int), 0) := by cases f <;> (unfold runLoop; rw [if_pos h])
theorem runLoop_steps (ws : List Int) (n : Nat) (t : Cpv) (h : ¬ t.halted = true) : runLoop ws 0 n t = (nilC, 0, 10) := by unfold runLoop; rw [if_neg h]
theorem runLoop_go (ws : List Int) (f n : Nat) (t : Cpv) (h : ¬ t.halted = true) {X : Cpv} (hr : stepC ws t = (X, 0)) : runLoop ws (f + 1) n t = runLoop ws f ((n + 1 : Nat) : Int) X := by
  rw [runLoop, if_neg h, hr, if_pos rfl]; rfl
theorem runLoop_err (ws : List Int) (f n : Nat) (t : Cpv) (h : ¬ t.halted = true) {X : Cpv} {e : Int} (hr : stepC ws t = (X, e)) (he : e ≠ 0) : runLoop ws (f + 1) n t = (nilC, 0, e) := by
  rw [runLoop, if_neg h, hr, if_neg he]
set_option maxRecDepth 100000 in
set_option maxHeartbeats 4000000 in
theorem Run_any (ws : List Int) (vw : Value) (c : Cpv) (most : Int) (w : World) (hw : Lay.rep w (Lt w.heap.size) ws [vw]) (ht : RvTabs w) (hws : ∀ n ∈ ws, I64 n) (hok : CpuOk c) :
    Calls Tryd.prog 33 #[vw, .agg (cpuCells c).toArray, .int .i64 most] w fun e w' => e = .returned (.tuple #[.agg (cpuCells (runAns ws c most).1).toArray, .int .i64 (runAns ws c most).2.1, .int .i64 (runAns ws c most).2.2]) ∧ Below w.heap.size w w' := by
  have HP := Lib.hid (Hp.start w)
  have HWR := Lib.hid hw
  have HT := Lib.hid ht
  have HWS := Lib.hid hws
  obtain ⟨A, cap, rfl, hc, hm, -⟩ := rep_ints_at hw
  unfold maxLen at hm
  clear hw ht hws
  by_cases hl : 32768 < ws.length
  · have HAN := Lib.hid (show runAns ws c most = (nilC, 0, 1) by unfold runAns; rw [if_pos hl])
    have HSZ := Lib.hid (show sizeZ ws = 1 by unfold sizeZ; rw [if_pos hl])
    have hlb : decide (32768 < (ws.length : Int)) = true := decide_eq_true (by omega)
    have hlb2 : decide (32768 < ws.length) = true := decide_eq_true hl
    clear hl
    go_enter Tryd.func33, Tryd.ntmps33
    go_wp2_with (first | (go_at_call 56; refine (cpuCheck_any ws _ _ (HP.out.rep (F := ⟨w, Lt w.heap.size⟩) (by simp) HWR.out)).mono ?_; rintro e w7 ⟨rfl, rfl⟩; rw [HSZ.out]) | (refine wpList_box_hp (o := ⟨some 4, _, _, _, _, _⟩) rfl _ _ rfl HP.out (cpuCells c) rfl ?_; clear HP; intro g4 w4 HP; replace HP := Lib.hid HP) | (refine wpList_alloc_hp (o := ⟨some 6, _, _, _, _, _⟩) rfl _ rfl HP.out (.agg nilL.toArray) (by kernel_rfl) nilL rfl ?_; clear HP; intro g6 w6 HP; replace HP := Lib.hid HP) | (refine wpList_stR0 rfl 44 _ _ rfl HP.out rfl (cs' := nilL) rfl (by simp only [cpu_len, nilL_len]) nilL_one (by first | (rw [cpu_len]; kernel_rfl) | (rw [nilL_len]; kernel_rfl)) ?_; clear HP; intro wst HP; replace HP := Lib.hid HP))
    rw [HAN.out]
    rw [← nilC_cells] at HP
    (try simp only [Exit.inBlock, Exit.then])
    refine bodyPost_ret (results_cell_row_tmp3 (by rfl) _ _ g6 44 (cpuCells (nilC)).toArray (0, 0) _ (by rfl) (HP.out.blk (.head _)) Tryd.underlying44 rfl (by rw [List.size_toArray, cpu_len]; kernel_rfl)) (by rfl) ?_
    exact ⟨rfl, HP.out.below⟩
  have HSZ := Lib.hid (show sizeZ ws = 0 by unfold sizeZ; rw [if_neg hl])
  have hlb : decide (32768 < (ws.length : Int)) = false := decide_eq_false (by omega)
  have hlb2 : decide (32768 < ws.length) = false := decide_eq_false hl
  by_cases hmo : most < 0 ∨ 4000000 < most
  · have HAN := Lib.hid (show runAns ws c most = (nilC, 0, 2) by unfold runAns; rw [if_neg hl, if_pos hmo])
    have hq : (decide (most < 0) = true) ∨ (decide (most < 0) = false ∧ decide (4000000 < most) = true) := by
      by_cases h : most < 0
      · left; exact decide_eq_true h
      · right; exact ⟨decide_eq_false h, decide_eq_true (by omega)⟩
    clear hl hmo
    rcases hq with h1 | ⟨h1, h2⟩
    all_goals
      go_enter Tryd.func33, Tryd.ntmps33
      go_wp2_with (first | (go_at_call 56; refine (cpuCheck_any ws _ _ (HP.out.rep (F := ⟨w, Lt w.heap.size⟩) (by simp) HWR.out)).mono ?_; rintro e w7 ⟨rfl, rfl⟩; rw [HSZ.out]) | (refine wpList_box_hp (o := ⟨some 4, _, _, _, _, _⟩) rfl _ _ rfl HP.out (cpuCells c) rfl ?_; clear HP; intro g4 w4 HP; replace HP := Lib.hid HP) | (refine wpList_alloc_hp (o := ⟨some 6, _, _, _, _, _⟩) rfl _ rfl HP.out (.agg nilL.toArray) (by kernel_rfl) nilL rfl ?_; clear HP; intro g6 w6 HP; replace HP := Lib.hid HP) | (refine wpList_stR0 rfl 44 _ _ rfl HP.out rfl (cs' := nilL) rfl (by simp only [cpu_len, nilL_len]) nilL_one (by first | (rw [cpu_len]; kernel_rfl) | (rw [nilL_len]; kernel_rfl)) ?_; clear HP; intro wst HP; replace HP := Lib.hid HP))
      rw [HAN.out]
      rw [← nilC_cells] at HP
      (try simp only [Exit.inBlock, Exit.then])
      refine bodyPost_ret (results_cell_row_tmp3 (by rfl) _ _ g6 44 (cpuCells (nilC)).toArray (0, 0) _ (by rfl) (HP.out.blk (.head _)) Tryd.underlying44 rfl (by rw [List.size_toArray, cpu_len]; kernel_rfl)) (by rfl) ?_
      exact ⟨rfl, HP.out.below⟩
  · obtain ⟨m, hmm⟩ : ∃ m : Nat, most = (m : Int) := ⟨most.toNat, by omega⟩
    subst hmm
    have hm4 : m ≤ 4000000 := by omega
    have hm1 : decide ((m : Int) < 0) = false := decide_eq_false (by omega)
    have hm2 : decide (4000000 < (m : Int)) = false := decide_eq_false (by omega)
    obtain ⟨c0, hc0⟩ : ∃ c0, cputR c 0 0 = c0 := ⟨_, rfl⟩
    obtain ⟨R, hR⟩ : ∃ R, runLoop ws m 0 c0 = R := ⟨_, rfl⟩
    obtain ⟨RX, RN, RE⟩ := R
    have HAN := Lib.hid (show runAns ws c (m : Int) = (RX, RN, RE) by unfold runAns; rw [if_neg hl, if_neg hmo, hc0, Int.toNat_natCast, hR])
    have HOK0 := Lib.hid (show CpuOk c0 from hc0 ▸ hok.putR 0 ⟨by decide, by decide⟩)
    replace hl : ws.length ≤ 32768 := by omega
    have HC0 := Lib.hid hc0
    have HRR := Lib.hid hR
    clear hc0 hok hmo hR
    rw [HAN.out]
    go_enter Tryd.func33, Tryd.ntmps33
    have hlen := cpu_len c0
    have hfold := cpu_fold c0
    go_upto_region 7 with (first | (go_at_call 56; refine (cpuCheck_any ws _ _ (HP.out.rep (F := ⟨w, Lt w.heap.size⟩) (by simp) HWR.out)).mono ?_; rintro e w7 ⟨rfl, rfl⟩; rw [HSZ.out]) | (refine wpList_box_hp (o := ⟨some 4, _, _, _, _, _⟩) rfl _ _ rfl HP.out (cpuCells c) rfl ?_; clear HP; intro g4 w4 HP; replace HP := Lib.hid HP) | (refine wpList_alloc_hp (o := ⟨some 6, _, _, _, _, _⟩) rfl _ rfl HP.out (.agg nilL.toArray) (by kernel_rfl) nilL rfl ?_; clear HP; intro g6 w6 HP; replace HP := Lib.hid HP) | (refine wpList_st1 rfl 3 _ _ rfl HP.out rfl rfl (by rw [cpu_len]; omega) rfl ((cpu_setr c 0 (by omega) 0).trans (congrArg cpuCells HC0.out)) (by kernel_rfl) ?_; clear HP; intro wst HP; replace HP := Lib.hid HP))
    go_wp2_with (first | (refine wpList_ldR1 rfl 44 _ rfl HP.out rfl Tryd.underlying44 rfl (by first | (rw [cpu_len]; kernel_rfl) | (rw [nilL_len]; kernel_rfl)) ?_) | (refine wpList_box_hp (o := ⟨some 30, _, _, _, _, _⟩) rfl _ _ rfl HP.out (cpuCells c0) rfl ?_; clear HP; intro gm wm HP; replace HP := Lib.hid HP))
    clear hlen hfold
    go_loopw [11] (fun o wr => ∃ (f n : Nat) (t : Cpv), n + f = m ∧ o = .int .i64 n ∧ Hid (runLoop ws f n t = (RX, RN, RE)) ∧ Hid (Hp w [⟨w, Lt w.heap.size⟩] [.blk gm 89 (cpuCells t), .blk g6 44 nilL, .blk g4 44 (cpuCells c0)] wr)) (fun o _ => m - (intOf o).toNat)
    case atStart => exact ⟨m, 0, c0, by omega, rfl, HRR, HP⟩
    case round =>
      clear HP
      obtain ⟨f, n, t, hfn, rfl, HL, HP⟩ := hrel
      obtain ⟨wo, rfl⟩ : ∃ wo : World, wo = wr := ⟨_, rfl⟩
      cases hh : t.halted with
      | true =>
        have HHL := Lib.hid (show (cpuCells t)[97]? = some (.bool true) by rw [cpu_hl, hh])
        have HE := Lib.hid ((runLoop_halt ws f n t hh).symm.trans HL.out)
        clear hh
        go_wp2_with (first | (refine wpList_ld0 rfl 4 _ rfl HP.out rfl HHL.out Tryd.underlying4 rfl ?_) | (refine wpList_ldR0 rfl 44 _ rfl HP.out rfl Tryd.underlying44 rfl (by first | (rw [cpu_len]; kernel_rfl) | (rw [nilL_len]; kernel_rfl)) ?_) | (refine wpList_stR1 rfl 44 _ _ rfl HP.out rfl (cs' := cpuCells _) rfl (by simp only [cpu_len, nilL_len]) (cpu_one _) (by first | (rw [cpu_len]; kernel_rfl) | (rw [nilL_len]; kernel_rfl)) ?_; clear HP; intro wst HP; replace HP := Lib.hid HP))
        obtain ⟨rfl, rfl, rfl⟩ : RX = t ∧ RN = (n : Int) ∧ RE = 0 := by have := HE.out; simp only [Prod.mk.injEq] at this; exact ⟨this.1.symm, this.2.1.symm, this.2.2.symm⟩
        (try simp only [Exit.inBlock, Exit.then])
        refine bodyPost_ret (results_cell_row_tmp3 (by rfl) _ _ g6 44 (cpuCells (RX)).toArray (0, 0) _ (by rfl) (HP.out.blk (.tail _ (.head _))) Tryd.underlying44 rfl (by rw [List.size_toArray, cpu_len]; kernel_rfl)) (by rfl) ?_
        exact ⟨rfl, HP.out.below⟩
      | false =>
        have HHL := Lib.hid (show (cpuCells t)[97]? = some (.bool false) by rw [cpu_hl, hh])
        have hh1 : ¬ t.halted = true := by rw [hh]; decide
        have HHN := Lib.hid hh1
        clear hh hh1
        cases f with
        | zero =>
          have hb : ((n : Int) == (m : Int)) = true := by simp; omega
          have HE := Lib.hid ((runLoop_steps ws n t HHN.out).symm.trans HL.out)
          go_wp2_with (first | (refine wpList_ld0 rfl 4 _ rfl HP.out rfl HHL.out Tryd.underlying4 rfl ?_) | (refine wpList_stR1 rfl 44 _ _ rfl HP.out rfl (cs' := nilL) rfl (by simp only [cpu_len, nilL_len]) nilL_one (by first | (rw [cpu_len]; kernel_rfl) | (rw [nilL_len]; kernel_rfl)) ?_; clear HP; intro wst HP; replace HP := Lib.hid HP))
          rw [← nilC_cells] at HP
          obtain ⟨rfl, rfl, rfl⟩ : RX = nilC ∧ RN = 0 ∧ RE = 10 := by have := HE.out; simp only [Prod.mk.injEq] at this; exact ⟨this.1.symm, this.2.1.symm, this.2.2.symm⟩
          (try simp only [Exit.inBlock, Exit.then])
          refine bodyPost_ret (results_cell_row_tmp3 (by rfl) _ _ g6 44 (cpuCells (nilC)).toArray (0, 0) _ (by rfl) (HP.out.blk (.tail _ (.head _))) Tryd.underlying44 rfl (by rw [List.size_toArray, cpu_len]; kernel_rfl)) (by rfl) ?_
          exact ⟨rfl, HP.out.below⟩
        | succ f =>
          have hb : ((n : Int) == (m : Int)) = false := by rw [beq_eq_false_iff_ne]; omega
          obtain ⟨r, hr⟩ : ∃ r, stepC ws t = r := ⟨_, rfl⟩
          obtain ⟨X, e⟩ := r
          have HR := Lib.hid hr
          by_cases he : e = 0
          · subst he
            have HE := Lib.hid ((runLoop_go ws f n t HHN.out hr).symm.trans HL.out)
            clear hr
            go_wp2_with (first | (refine wpList_ld0 rfl 4 _ rfl HP.out rfl HHL.out Tryd.underlying4 rfl ?_) | (go_at_call 57; refine (cstep_any ws _ t _ w _ _ _ ⟨w, Lt w.heap.size⟩ (by simp) HWR.out hl HT.out HP.out).mono ?_; clear HP; rintro e w7 ⟨rfl, HP⟩; rw [HR.out] at HP ⊢; replace HP := Lib.hid HP))
            go_roundw
            case rel => exact ⟨f, n + 1, X, by omega, by go_num, HE, HP⟩
            case measure => simp [intOf]; omega
          · have HE := Lib.hid ((runLoop_err ws f n t HHN.out hr he).symm.trans HL.out)
            have heb : (e != 0) = true := by simpa using he
            clear hr he
            go_wp2_with (first | (refine wpList_ld0 rfl 4 _ rfl HP.out rfl HHL.out Tryd.underlying4 rfl ?_) | (go_at_call 57; refine (cstep_any ws _ t _ w _ _ _ ⟨w, Lt w.heap.size⟩ (by simp) HWR.out hl HT.out HP.out).mono ?_; clear HP; rintro e w7 ⟨rfl, HP⟩; rw [HR.out] at HP ⊢; replace HP := Lib.hid HP) | (refine wpList_stR1 rfl 44 _ _ rfl HP.out rfl (cs' := nilL) rfl (by simp only [cpu_len, nilL_len]) nilL_one (by first | (rw [cpu_len]; kernel_rfl) | (rw [nilL_len]; kernel_rfl)) ?_; clear HP; intro wst HP; replace HP := Lib.hid HP))
            rw [← nilC_cells] at HP
            obtain ⟨rfl, rfl, rfl⟩ : RX = nilC ∧ RN = 0 ∧ RE = e := by have := HE.out; simp only [Prod.mk.injEq] at this; exact ⟨this.1.symm, this.2.1.symm, this.2.2.symm⟩
            (try simp only [Exit.inBlock, Exit.then])
            refine bodyPost_ret (results_cell_row_tmp3 (by rfl) _ _ g6 44 (cpuCells (nilC)).toArray (0, 0) _ (by rfl) (HP.out.blk (.tail _ (.head _))) Tryd.underlying44 rfl (by rw [List.size_toArray, cpu_len]; kernel_rfl)) (by rfl) ?_
            exact ⟨rfl, HP.out.below⟩
set_option maxRecDepth 100000 in
set_option maxHeartbeats 4000000 in
theorem CpuRun_any (ws : List Int) (vw : Value) (c : Cpv) (most : Int) (w : World) (hw : Lay.rep w (Lt w.heap.size) ws [vw]) (ht : RvTabs w) (hws : ∀ n ∈ ws, I64 n) (hok : CpuOk c) :
    Calls Tryd.prog 34 #[vw, .agg (cpuCells c).toArray, .int .i64 most] w fun e w' => e = .returned (.tuple #[.agg (cpuCells (runAns ws c most).1).toArray, .int .i64 (runAns ws c most).2.1, .int .i64 (runAns ws c most).2.2]) ∧ Below w.heap.size w w' := by
  have HP := Lib.hid (Hp.start w)
  have HWR := Lib.hid hw
  have HT := Lib.hid ht
  have HWS := Lib.hid hws
  obtain ⟨A, cap, rfl, hc, hm, -⟩ := rep_ints_at hw
  unfold maxLen at hm
  clear hw ht hws
  by_cases hl : 32768 < ws.length
  · have HAN := Lib.hid (show runAns ws c most = (nilC, 0, 1) by unfold runAns; rw [if_pos hl])
    have HSZ := Lib.hid (show sizeZ ws = 1 by unfold sizeZ; rw [if_pos hl])
    have hlb : decide (32768 < (ws.length : Int)) = true := decide_eq_true (by omega)
    have hlb2 : decide (32768 < ws.length) = true := decide_eq_true hl
    clear hl
    go_enter Tryd.func34, Tryd.ntmps34
    go_wp2_with (first | (go_at_call 47; refine (In_any _ _ _ _).mono ?_; rintro e w7 ⟨rfl, rfl⟩) | (refine wpList_box_hp (o := ⟨some 4, _, _, _, _, _⟩) rfl _ _ rfl HP.out (cpuCells c) rfl ?_; clear HP; intro g4 w4 HP; replace HP := Lib.hid HP) | (refine wpList_alloc_hp (o := ⟨some 6, _, _, _, _, _⟩) rfl _ rfl HP.out (.agg nilL.toArray) (by kernel_rfl) nilL rfl ?_; clear HP; intro g6 w6 HP; replace HP := Lib.hid HP) | (refine wpList_stR0 rfl 44 _ _ rfl HP.out rfl (cs' := nilL) rfl (by simp only [cpu_len, nilL_len]) nilL_one (by first | (rw [cpu_len]; kernel_rfl) | (rw [nilL_len]; kernel_rfl)) ?_; clear HP; intro wst HP; replace HP := Lib.hid HP))
    rw [HAN.out]
    rw [← nilC_cells] at HP
    (try simp only [Exit.inBlock, Exit.then])
    refine bodyPost_ret (results_cell_row_tmp3 (by rfl) _ _ g6 44 (cpuCells (nilC)).toArray (0, 0) _ (by rfl) (HP.out.blk (.head _)) Tryd.underlying44 rfl (by rw [List.size_toArray, cpu_len]; kernel_rfl)) (by rfl) ?_
    exact ⟨rfl, HP.out.below⟩
  have HSZ := Lib.hid (show sizeZ ws = 0 by unfold sizeZ; rw [if_neg hl])
  have hlb : decide (32768 < (ws.length : Int)) = false := decide_eq_false (by omega)
  have hlb2 : decide (32768 < ws.length) = false := decide_eq_false hl
  by_cases hmo : most < 0 ∨ 4000000 < most
  · have HAN := Lib.hid (show runAns ws c most = (nilC, 0, 2) by unfold runAns; rw [if_neg hl, if_pos hmo])
    have hq : (decide (0 ≤ most) = false) ∨ (decide (0 ≤ most) = true ∧ decide (most ≤ 4000000) = false) := by
      by_cases h : 0 ≤ most
      · right; exact ⟨decide_eq_true h, decide_eq_false (by omega)⟩
      · left; exact decide_eq_false h
    clear hl hmo
    rcases hq with h1 | ⟨h1, h2⟩
    all_goals
      go_enter Tryd.func34, Tryd.ntmps34
      go_wp2_with (first | (go_at_call 47; refine (In_any _ _ _ _).mono ?_; rintro e w7 ⟨rfl, rfl⟩) | (refine wpList_box_hp (o := ⟨some 4, _, _, _, _, _⟩) rfl _ _ rfl HP.out (cpuCells c) rfl ?_; clear HP; intro g4 w4 HP; replace HP := Lib.hid HP) | (refine wpList_alloc_hp (o := ⟨some 6, _, _, _, _, _⟩) rfl _ rfl HP.out (.agg nilL.toArray) (by kernel_rfl) nilL rfl ?_; clear HP; intro g6 w6 HP; replace HP := Lib.hid HP) | (refine wpList_stR0 rfl 44 _ _ rfl HP.out rfl (cs' := nilL) rfl (by simp only [cpu_len, nilL_len]) nilL_one (by first | (rw [cpu_len]; kernel_rfl) | (rw [nilL_len]; kernel_rfl)) ?_; clear HP; intro wst HP; replace HP := Lib.hid HP))
      rw [HAN.out]
      rw [← nilC_cells] at HP
      (try simp only [Exit.inBlock, Exit.then])
      refine bodyPost_ret (results_cell_row_tmp3 (by rfl) _ _ g6 44 (cpuCells (nilC)).toArray (0, 0) _ (by rfl) (HP.out.blk (.head _)) Tryd.underlying44 rfl (by rw [List.size_toArray, cpu_len]; kernel_rfl)) (by rfl) ?_
      exact ⟨rfl, HP.out.below⟩
  · obtain ⟨m, hmm⟩ : ∃ m : Nat, most = (m : Int) := ⟨most.toNat, by omega⟩
    subst hmm
    have hm4 : m ≤ 4000000 := by omega
    have hm1 : decide (0 ≤ (m : Int)) = true := decide_eq_true (by omega)
    have hm2 : decide ((m : Int) ≤ 4000000) = true := decide_eq_true (by omega)
    obtain ⟨c0, hc0⟩ : ∃ c0, cputR c 0 0 = c0 := ⟨_, rfl⟩
    obtain ⟨R, hR⟩ : ∃ R, runLoop ws m 0 c0 = R := ⟨_, rfl⟩
    obtain ⟨RX, RN, RE⟩ := R
    have HAN := Lib.hid (show runAns ws c (m : Int) = (RX, RN, RE) by unfold runAns; rw [if_neg hl, if_neg hmo, hc0, Int.toNat_natCast, hR])
    have HOK0 := Lib.hid (show CpuOk c0 from hc0 ▸ hok.putR 0 ⟨by decide, by decide⟩)
    replace hl : ws.length ≤ 32768 := by omega
    have HC0 := Lib.hid hc0
    have HRR := Lib.hid hR
    clear hc0 hok hmo hR
    rw [HAN.out]
    go_enter Tryd.func34, Tryd.ntmps34
    go_wp2_with (first | (go_at_call 47; refine (In_any _ _ _ _).mono ?_; rintro e w7 ⟨rfl, rfl⟩) | (refine wpList_box_hp (o := ⟨some 4, _, _, _, _, _⟩) rfl _ _ rfl HP.out (cpuCells c) rfl ?_; clear HP; intro g4 w4 HP; replace HP := Lib.hid HP) | (refine wpList_alloc_hp (o := ⟨some 6, _, _, _, _, _⟩) rfl _ rfl HP.out (.agg nilL.toArray) (by kernel_rfl) nilL rfl ?_; clear HP; intro g6 w6 HP; replace HP := Lib.hid HP) | (refine wpList_st1 rfl 3 _ _ rfl HP.out rfl rfl (by rw [cpu_len]; omega) rfl ((cpu_setr c 0 (by omega) 0).trans (congrArg cpuCells HC0.out)) (by kernel_rfl) ?_; clear HP; intro wst HP; replace HP := Lib.hid HP))
    go_loopw [9] (fun o wr => ∃ (f n : Nat) (t : Cpv), n + f = m ∧ o = .int .i64 n ∧ Hid (CpuOk t) ∧ Hid (runLoop ws f n t = (RX, RN, RE)) ∧ Hid (Hp w [⟨w, Lt w.heap.size⟩] [.blk g6 44 nilL, .blk g4 44 (cpuCells t)] wr)) (fun o _ => m - (intOf o).toNat)
    case atStart => exact ⟨m, 0, c0, by omega, rfl, HOK0, HRR, HP⟩
    case round =>
      clear HP
      obtain ⟨f, n, t, hfn, rfl, HOT, HL, HP⟩ := hrel
      obtain ⟨wo, rfl⟩ : ∃ wo : World, wo = wr := ⟨_, rfl⟩
      cases hh : t.halted with
      | true =>
        have HHL := Lib.hid (show (cpuCells t)[97]? = some (.bool true) by rw [cpu_hl, hh])
        have HE := Lib.hid ((runLoop_halt ws f n t hh).symm.trans HL.out)
        clear hh
        go_wp2_with (first | (refine wpList_ld1 rfl 4 _ rfl HP.out rfl HHL.out Tryd.underlying4 rfl ?_) | (refine wpList_ldR1 rfl 44 _ rfl HP.out rfl Tryd.underlying44 rfl (by first | (rw [cpu_len]; kernel_rfl) | (rw [nilL_len]; kernel_rfl)) ?_) | (refine wpList_stR0 rfl 44 _ _ rfl HP.out rfl (cs' := cpuCells _) rfl (by simp only [cpu_len, nilL_len]) (cpu_one _) (by first | (rw [cpu_len]; kernel_rfl) | (rw [nilL_len]; kernel_rfl)) ?_; clear HP; intro wst HP; replace HP := Lib.hid HP))
        obtain ⟨rfl, rfl, rfl⟩ : RX = t ∧ RN = (n : Int) ∧ RE = 0 := by have := HE.out; simp only [Prod.mk.injEq] at this; exact ⟨this.1.symm, this.2.1.symm, this.2.2.symm⟩
        (try simp only [Exit.inBlock, Exit.then])
        refine bodyPost_ret (results_cell_row_tmp3 (by rfl) _ _ g6 44 (cpuCells (RX)).toArray (0, 0) _ (by rfl) (HP.out.blk (.head _)) Tryd.underlying44 rfl (by rw [List.size_toArray, cpu_len]; kernel_rfl)) (by rfl) ?_
        exact ⟨rfl, HP.out.below⟩
      | false =>
        have HHL := Lib.hid (show (cpuCells t)[97]? = some (.bool false) by rw [cpu_hl, hh])
        have hh1 : ¬ t.halted = true := by rw [hh]; decide
        have HHN := Lib.hid hh1
        clear hh hh1
        cases f with
        | zero =>
          have hb : decide ((m : Int) ≤ (n : Int)) = true := decide_eq_true (by omega)
          have hb2 : decide (m ≤ n) = true := decide_eq_true (by omega)
          have HE := Lib.hid ((runLoop_steps ws n t HHN.out).symm.trans HL.out)
          go_wp2_with (first | (refine wpList_ld1 rfl 4 _ rfl HP.out rfl HHL.out Tryd.underlying4 rfl ?_) | (refine wpList_stR0 rfl 44 _ _ rfl HP.out rfl (cs' := nilL) rfl (by simp only [cpu_len, nilL_len]) nilL_one (by first | (rw [cpu_len]; kernel_rfl) | (rw [nilL_len]; kernel_rfl)) ?_; clear HP; intro wst HP; replace HP := Lib.hid HP))
          rw [← nilC_cells] at HP
          obtain ⟨rfl, rfl, rfl⟩ : RX = nilC ∧ RN = 0 ∧ RE = 10 := by have := HE.out; simp only [Prod.mk.injEq] at this; exact ⟨this.1.symm, this.2.1.symm, this.2.2.symm⟩
          (try simp only [Exit.inBlock, Exit.then])
          refine bodyPost_ret (results_cell_row_tmp3 (by rfl) _ _ g6 44 (cpuCells (nilC)).toArray (0, 0) _ (by rfl) (HP.out.blk (.head _)) Tryd.underlying44 rfl (by rw [List.size_toArray, cpu_len]; kernel_rfl)) (by rfl) ?_
          exact ⟨rfl, HP.out.below⟩
        | succ f =>
          have hb : decide ((m : Int) ≤ (n : Int)) = false := decide_eq_false (by omega)
          have hb2 : decide (m ≤ n) = false := decide_eq_false (by omega)
          obtain ⟨r, hr⟩ : ∃ r, stepC ws t = r := ⟨_, rfl⟩
          obtain ⟨X, e⟩ := r
          by_cases he : e = 0
          · subst he
            have HE := Lib.hid ((runLoop_go ws f n t HHN.out hr).symm.trans HL.out)
            have HOX := Lib.hid (show CpuOk X by have := stepC_ok (ws := ws) HOT.out hl; rw [hr] at this; exact this)
            have HR := Lib.hid (show fixZ (stepC ws t) = (X, 0) by rw [hr, fix_ok])
            clear hr
            go_wp2_with (first | (refine wpList_ld1 rfl 4 _ rfl HP.out rfl HHL.out Tryd.underlying4 rfl ?_) | (refine wpList_ldR1 rfl 44 _ rfl HP.out rfl Tryd.underlying44 rfl (by first | (rw [cpu_len]; kernel_rfl) | (rw [nilL_len]; kernel_rfl)) ?_) | (go_at_call 58; refine (cpuStep_any ws _ t _ (HP.out.rep (F := ⟨w, Lt w.heap.size⟩) (by simp) HWR.out) hl HWS.out HOT.out).mono ?_; rintro e w7 ⟨rfl, hb⟩; replace HP := Lib.hid (HP.out.call0 hb); clear hb; rw [HR.out]) | (refine wpList_alloc_hp (o := ⟨some 10, _, _, _, _, _⟩) rfl _ rfl HP.out (.agg nilL.toArray) (by kernel_rfl) nilL rfl ?_; clear HP; intro g10 w10 HP; replace HP := Lib.hid HP) | (refine wpList_stR0 rfl 44 _ _ rfl HP.out rfl (cs' := cpuCells _) rfl (by simp only [cpu_len, nilL_len]) (cpu_one _) (by first | (rw [cpu_len]; kernel_rfl) | (rw [nilL_len]; kernel_rfl)) ?_; clear HP; intro wst HP; replace HP := Lib.hid HP) | (refine wpList_ldR0 rfl 44 _ rfl HP.out rfl Tryd.underlying44 rfl (by first | (rw [cpu_len]; kernel_rfl) | (rw [nilL_len]; kernel_rfl)) ?_) | (refine wpList_stR2 rfl 44 _ _ rfl HP.out rfl (cs' := cpuCells _) rfl (by simp only [cpu_len, nilL_len]) (cpu_one _) (by first | (rw [cpu_len]; kernel_rfl) | (rw [nilL_len]; kernel_rfl)) ?_; clear HP; intro wst HP; replace HP := Lib.hid HP))
            go_roundw
            case rel => exact ⟨f, n + 1, X, by omega, by go_num, HOX, HE, Lib.hid (HP.out.drop (A := []))⟩
            case measure => simp [intOf]; omega
          · have HE := Lib.hid ((runLoop_err ws f n t HHN.out hr he).symm.trans HL.out)
            have HR := Lib.hid (show fixZ (stepC ws t) = (nilC, e) by rw [hr, fix_err _ he])
            have heb : (e != 0) = true := by simpa using he
            clear hr he
            go_wp2_with (first | (refine wpList_ld1 rfl 4 _ rfl HP.out rfl HHL.out Tryd.underlying4 rfl ?_) | (refine wpList_ldR1 rfl 44 _ rfl HP.out rfl Tryd.underlying44 rfl (by first | (rw [cpu_len]; kernel_rfl) | (rw [nilL_len]; kernel_rfl)) ?_) | (go_at_call 58; refine (cpuStep_any ws _ t _ (HP.out.rep (F := ⟨w, Lt w.heap.size⟩) (by simp) HWR.out) hl HWS.out HOT.out).mono ?_; rintro e w7 ⟨rfl, hb⟩; replace HP := Lib.hid (HP.out.call0 hb); clear hb; rw [HR.out]) | (refine wpList_alloc_hp (o := ⟨some 10, _, _, _, _, _⟩) rfl _ rfl HP.out (.agg nilL.toArray) (by kernel_rfl) nilL rfl ?_; clear HP; intro g10 w10 HP; replace HP := Lib.hid HP) | (refine wpList_stR0 rfl 44 _ _ rfl HP.out rfl (cs' := cpuCells _) rfl (by simp only [cpu_len, nilL_len]) (cpu_one _) (by first | (rw [cpu_len]; kernel_rfl) | (rw [nilL_len]; kernel_rfl)) ?_; clear HP; intro wst HP; replace HP := Lib.hid HP) | (refine wpList_stR1 rfl 44 _ _ rfl HP.out rfl (cs' := nilL) rfl (by simp only [cpu_len, nilL_len]) nilL_one (by first | (rw [cpu_len]; kernel_rfl) | (rw [nilL_len]; kernel_rfl)) ?_; clear HP; intro wst HP; replace HP := Lib.hid HP))
            rw [← nilC_cells] at HP
            obtain ⟨rfl, rfl, rfl⟩ : RX = nilC ∧ RN = 0 ∧ RE = e := by have := HE.out; simp only [Prod.mk.injEq] at this; exact ⟨this.1.symm, this.2.1.symm, this.2.2.symm⟩
            (try simp only [Exit.inBlock, Exit.then])
            refine bodyPost_ret (results_cell_row_tmp3 (by rfl) _ _ g6 44 (cpuCells (nilC)).toArray (0, 0) _ (by rfl) (HP.out.blk (.tail _ (.head _))) Tryd.underlying44 rfl (by rw [List.size_toArray, cpu_len]; kernel_rfl)) (by rfl) ?_
            exact ⟨rfl, HP.out.below⟩
end Go.Proofs.YtfhoffpdodjfeaaDoor
