/- cpu.Check, cpu.Step; tierlineref.CpuStepped. -/
import Derived.Test.YtfhoffpdodjfeaaDoorCpuRef
set_option linter.unusedSimpArgs false
set_option linter.unusedVariables false
namespace Go.Proofs.YtfhoffpdodjfeaaDoor
open Go.RowKit Plain64
attribute [local irreducible] wpList Code.wp Oper.wp
theorem foldl_set : ∀ (l : List Value) (k : Nat) (a : Array Value), a.size = k + l.length → (l.zipIdx k).foldl (fun (cs : Array Value) (x : Value × Nat) => cs.setIfInBounds x.2 x.1) a = (a.toList.take k ++ l).toArray
  | [], k, a, h => by
    simp only [List.zipIdx_nil, List.foldl_nil, List.append_nil]
    rw [List.take_of_length_le (by simp at h; simp [h])]
  | x :: l, k, a, h => by
    rw [List.zipIdx_cons, List.foldl_cons, foldl_set l (k + 1) _ (by simp at h ⊢; omega)]
    congr 1
    have hk : k < a.toList.length := by simp at h ⊢; omega
    simp only [Array.toList_setIfInBounds]
    have e : ∀ (A B : List Value), A.length = k → List.take (k + 1) (A ++ x :: B) = A ++ [x] := by
      intro A B h; subst h; rw [List.take_length_add_append]; rfl
    rw [List.set_eq_take_append_cons_drop, if_pos hk, e _ _ (by rw [List.length_take]; omega), List.append_assoc]
    rfl
theorem cpu_fold (c : Cpv) : List.foldl (fun (cs : Array Value) (x : Value × Nat) => cs.setIfInBounds x.2 x.1) Tryd.zeroCells89 (cpuCells c).zipIdx = (cpuCells c).toArray := by
  rw [foldl_set _ 0 _ (by rw [cpu_len]; kernel_rfl)]
  simp
def sizeZ (ws : List Int) : Int := if 32768 < ws.length then 1 else 0
theorem cpuCheck_any (ws : List Int) (vw : Value) (w : World) (hw : Lay.rep w (Lt w.heap.size) ws [vw]) :
    Calls Tryd.prog 56 #[vw] w fun e w' => e = .returned (.int .i64 (sizeZ ws)) ∧ w = w' := by
  obtain ⟨A, cap, rfl, hc, hm, -⟩ := rep_ints_at hw
  unfold maxLen at hm
  clear hw
  by_cases hl : 32768 < ws.length
  · have HSZ := Lib.hid (show sizeZ ws = 1 by unfold sizeZ; rw [if_pos hl])
    have hlb : decide (32768 < (ws.length : Int)) = true := decide_eq_true (by omega)
    have hlb2 : decide (32768 < ws.length) = true := decide_eq_true hl
    clear hl
    rw [HSZ.out]
    go_enter Tryd.func56, Tryd.ntmps56
    go_wp2
    (try simp only [Exit.inBlock, Exit.then])
    refine bodyPost_ret (results_tmp (by rfl) _ _ _) (by rfl) ?_
    exact ⟨rfl, rfl⟩
  · have HSZ := Lib.hid (show sizeZ ws = 0 by unfold sizeZ; rw [if_neg hl])
    have hlb : decide (32768 < (ws.length : Int)) = false := decide_eq_false (by omega)
    have hlb2 : decide (32768 < ws.length) = false := decide_eq_false hl
    clear hl
    rw [HSZ.out]
    go_enter Tryd.func56, Tryd.ntmps56
    go_wp2
    (try simp only [Exit.inBlock, Exit.then])
    refine bodyPost_ret (results_tmp (by rfl) _ _ _) (by rfl) ?_
    exact ⟨rfl, rfl⟩
set_option maxRecDepth 100000 in
set_option maxHeartbeats 4000000 in
theorem Step_any (ws : List Int) (vw : Value) (c : Cpv) (w : World) (hw : Lay.rep w (Lt w.heap.size) ws [vw]) (ht : RvTabs w) (hws : ∀ n ∈ ws, I64 n) (hok : CpuOk c) :
    Calls Tryd.prog 31 #[vw, .agg (cpuCells c).toArray] w fun e w' => e = .returned (.tuple #[.agg (cpuCells (stepAns ws c).1).toArray, .int .i64 (stepAns ws c).2]) ∧ Below w.heap.size w w' := by
  have HP := Lib.hid (Hp.start w)
  have HWR := Lib.hid hw
  have HT := Lib.hid ht
  have HWS := Lib.hid hws
  obtain ⟨A, cap, rfl, hc, hm, -⟩ := rep_ints_at hw
  unfold maxLen at hm
  clear hw ht hws
  by_cases hl : 32768 < ws.length
  · have HAN := Lib.hid (show stepAns ws c = (nilC, 1) by unfold stepAns; rw [if_pos hl])
    have HSZ := Lib.hid (show sizeZ ws = 1 by unfold sizeZ; rw [if_pos hl])
    have hlb : decide (32768 < (ws.length : Int)) = true := decide_eq_true (by omega)
    have hlb2 : decide (32768 < ws.length) = true := decide_eq_true hl
    clear hl
    go_enter Tryd.func31, Tryd.ntmps31
    go_wp2_with (first | (refine wpList_box_hp (o := ⟨some 3, _, _, _, _, _⟩) rfl _ _ rfl HP.out (cpuCells c) rfl ?_; clear HP; intro g3 w3 HP; replace HP := Lib.hid HP) | (refine wpList_alloc_hp (o := ⟨some 4, _, _, _, _, _⟩) rfl _ rfl HP.out (.agg nilL.toArray) (by kernel_rfl) nilL rfl ?_; clear HP; intro g4 w4 HP; replace HP := Lib.hid HP) | (go_at_call 56; refine (cpuCheck_any ws _ _ (HP.out.rep (F := ⟨w, Lt w.heap.size⟩) (by simp) HWR.out)).mono ?_; rintro e w7 ⟨rfl, rfl⟩; rw [HSZ.out]) | (refine wpList_stR0 rfl 44 _ _ rfl HP.out rfl (cs' := nilL) rfl (by simp only [cpu_len, nilL_len]) nilL_one (by first | (rw [cpu_len]; kernel_rfl) | (rw [nilL_len]; kernel_rfl)) ?_; clear HP; intro wst HP; replace HP := Lib.hid HP))
    rw [HAN.out]
    rw [← nilC_cells] at HP
    refine bodyPost_ret (results_cell_row_tmp2 rfl _ _ g4 44 (cpuCells (nilC)).toArray (0, 0) _ rfl (HP.out.blk (.head _)) Tryd.underlying44 rfl (by rw [List.size_toArray, cpu_len]; kernel_rfl)) rfl ⟨rfl, HP.out.below⟩
  · have HSZ := Lib.hid (show sizeZ ws = 0 by unfold sizeZ; rw [if_neg hl])
    have hlb : decide (32768 < (ws.length : Int)) = false := decide_eq_false (by omega)
    have hlb2 : decide (32768 < ws.length) = false := decide_eq_false hl
    obtain ⟨c0, hc0⟩ : ∃ c0, cputR c 0 0 = c0 := ⟨_, rfl⟩
    have HA0 := Lib.hid (show stepAns ws c = if c0.halted = true then (c0, 0) else fixZ (stepC ws c0) by unfold stepAns; rw [if_neg hl, hc0])
    have HOK0 := Lib.hid (show CpuOk c0 from hc0 ▸ hok.putR 0 ⟨by decide, by decide⟩)
    replace hl : ws.length ≤ 32768 := by omega
    have HC0 := Lib.hid hc0
    clear hc0 hok
    cases hh : c0.halted with
    | true =>
      have HAN := Lib.hid (show stepAns ws c = (c0, 0) by rw [HA0.out, if_pos hh])
      have HHL := Lib.hid (show (cpuCells c0)[97]? = some (.bool true) by rw [cpu_hl, hh])
      clear hh
      go_enter Tryd.func31, Tryd.ntmps31
      go_wp2_with (first | (refine wpList_box_hp (o := ⟨some 3, _, _, _, _, _⟩) rfl _ _ rfl HP.out (cpuCells c) rfl ?_; clear HP; intro g3 w3 HP; replace HP := Lib.hid HP) | (refine wpList_alloc_hp (o := ⟨some 4, _, _, _, _, _⟩) rfl _ rfl HP.out (.agg nilL.toArray) (by kernel_rfl) nilL rfl ?_; clear HP; intro g4 w4 HP; replace HP := Lib.hid HP) | (go_at_call 56; refine (cpuCheck_any ws _ _ (HP.out.rep (F := ⟨w, Lt w.heap.size⟩) (by simp) HWR.out)).mono ?_; rintro e w7 ⟨rfl, rfl⟩; rw [HSZ.out]) | (refine wpList_st1 rfl 3 _ _ rfl HP.out rfl rfl (by rw [cpu_len]; omega) rfl ((cpu_setr c 0 (by omega) 0).trans (congrArg cpuCells HC0.out)) (by kernel_rfl) ?_; clear HP; intro wst HP; replace HP := Lib.hid HP) | (refine wpList_ld1 rfl 4 _ rfl HP.out rfl HHL.out Tryd.underlying4 rfl ?_) | (refine wpList_ldR1 rfl 44 _ rfl HP.out rfl Tryd.underlying44 rfl (by first | (rw [cpu_len]; kernel_rfl) | (rw [nilL_len]; kernel_rfl)) ?_) | (refine wpList_stR0 rfl 44 _ _ rfl HP.out rfl (cs' := cpuCells _) rfl (by simp only [cpu_len, nilL_len]) (cpu_one _) (by first | (rw [cpu_len]; kernel_rfl) | (rw [nilL_len]; kernel_rfl)) ?_; clear HP; intro wst HP; replace HP := Lib.hid HP))
      rw [HAN.out]
      refine bodyPost_ret (results_cell_row_tmp2 rfl _ _ g4 44 (cpuCells (c0)).toArray (0, 0) _ rfl (HP.out.blk (.head _)) Tryd.underlying44 rfl (by rw [List.size_toArray, cpu_len]; kernel_rfl)) rfl ⟨rfl, HP.out.below⟩
    | false =>
      have HHL := Lib.hid (show (cpuCells c0)[97]? = some (.bool false) by rw [cpu_hl, hh])
      have HAN := Lib.hid (show stepAns ws c = fixZ (stepC ws c0) by rw [HA0.out, if_neg (by rw [hh]; decide)])
      clear hh
      obtain ⟨r, hr⟩ : ∃ r, stepC ws c0 = r := ⟨_, rfl⟩
      obtain ⟨X, e⟩ := r
      have HR := Lib.hid hr
      by_cases he : e = 0
      · subst he
        have HAX := Lib.hid (show stepAns ws c = (X, 0) by rw [HAN.out, hr]; rfl)
        clear hr
        go_enter Tryd.func31, Tryd.ntmps31
        have hlen := cpu_len c0
        have hfold := cpu_fold c0
        go_upto_region 7 with (first | (refine wpList_box_hp (o := ⟨some 3, _, _, _, _, _⟩) rfl _ _ rfl HP.out (cpuCells c) rfl ?_; clear HP; intro g3 w3 HP; replace HP := Lib.hid HP) | (refine wpList_alloc_hp (o := ⟨some 4, _, _, _, _, _⟩) rfl _ rfl HP.out (.agg nilL.toArray) (by kernel_rfl) nilL rfl ?_; clear HP; intro g4 w4 HP; replace HP := Lib.hid HP) | (go_at_call 56; refine (cpuCheck_any ws _ _ (HP.out.rep (F := ⟨w, Lt w.heap.size⟩) (by simp) HWR.out)).mono ?_; rintro e w7 ⟨rfl, rfl⟩; rw [HSZ.out]) | (refine wpList_st1 rfl 3 _ _ rfl HP.out rfl rfl (by rw [cpu_len]; omega) rfl ((cpu_setr c 0 (by omega) 0).trans (congrArg cpuCells HC0.out)) (by kernel_rfl) ?_; clear HP; intro wst HP; replace HP := Lib.hid HP) | (refine wpList_ld1 rfl 4 _ rfl HP.out rfl HHL.out Tryd.underlying4 rfl ?_))
        go_wp2_with (first | (refine wpList_ldR1 rfl 44 _ rfl HP.out rfl Tryd.underlying44 rfl (by first | (rw [cpu_len]; kernel_rfl) | (rw [nilL_len]; kernel_rfl)) ?_) | (refine wpList_box_hp (o := ⟨some 22, _, _, _, _, _⟩) rfl _ _ rfl HP.out (cpuCells c0) rfl ?_; clear HP; intro gm wm HP; replace HP := Lib.hid HP) | (go_at_call 57; refine (cstep_any ws _ c0 _ w _ _ _ ⟨w, Lt w.heap.size⟩ (by simp) HWR.out hl HT.out HP.out).mono ?_; clear HP; rintro e w7 ⟨rfl, HP⟩; rw [HR.out] at HP ⊢; replace HP := Lib.hid HP) | (refine wpList_ldR0 rfl 44 _ rfl HP.out rfl Tryd.underlying44 rfl (by first | (rw [cpu_len]; kernel_rfl) | (rw [nilL_len]; kernel_rfl)) ?_) | (refine wpList_stR1 rfl 44 _ _ rfl HP.out rfl (cs' := cpuCells _) rfl (by simp only [cpu_len, nilL_len]) (cpu_one _) (by first | (rw [cpu_len]; kernel_rfl) | (rw [nilL_len]; kernel_rfl)) ?_; clear HP; intro wst HP; replace HP := Lib.hid HP))
        rw [HAX.out]
        refine bodyPost_ret (results_cell_row_tmp2 rfl _ _ g4 44 (cpuCells (X)).toArray (0, 0) _ rfl (HP.out.blk (.tail _ (.head _))) Tryd.underlying44 rfl (by rw [List.size_toArray, cpu_len]; kernel_rfl)) rfl ⟨rfl, HP.out.below⟩
      · have HAX := Lib.hid (show stepAns ws c = (nilC, e) by rw [HAN.out, hr, fix_err _ he])
        have heb : (e != 0) = true := by simpa using he
        clear hr he
        go_enter Tryd.func31, Tryd.ntmps31
        have hlen := cpu_len c0
        have hfold := cpu_fold c0
        go_upto_region 7 with (first | (refine wpList_box_hp (o := ⟨some 3, _, _, _, _, _⟩) rfl _ _ rfl HP.out (cpuCells c) rfl ?_; clear HP; intro g3 w3 HP; replace HP := Lib.hid HP) | (refine wpList_alloc_hp (o := ⟨some 4, _, _, _, _, _⟩) rfl _ rfl HP.out (.agg nilL.toArray) (by kernel_rfl) nilL rfl ?_; clear HP; intro g4 w4 HP; replace HP := Lib.hid HP) | (go_at_call 56; refine (cpuCheck_any ws _ _ (HP.out.rep (F := ⟨w, Lt w.heap.size⟩) (by simp) HWR.out)).mono ?_; rintro e w7 ⟨rfl, rfl⟩; rw [HSZ.out]) | (refine wpList_st1 rfl 3 _ _ rfl HP.out rfl rfl (by rw [cpu_len]; omega) rfl ((cpu_setr c 0 (by omega) 0).trans (congrArg cpuCells HC0.out)) (by kernel_rfl) ?_; clear HP; intro wst HP; replace HP := Lib.hid HP) | (refine wpList_ld1 rfl 4 _ rfl HP.out rfl HHL.out Tryd.underlying4 rfl ?_))
        go_wp2_with (first | (refine wpList_ldR1 rfl 44 _ rfl HP.out rfl Tryd.underlying44 rfl (by first | (rw [cpu_len]; kernel_rfl) | (rw [nilL_len]; kernel_rfl)) ?_) | (refine wpList_box_hp (o := ⟨some 22, _, _, _, _, _⟩) rfl _ _ rfl HP.out (cpuCells c0) rfl ?_; clear HP; intro gm wm HP; replace HP := Lib.hid HP) | (go_at_call 57; refine (cstep_any ws _ c0 _ w _ _ _ ⟨w, Lt w.heap.size⟩ (by simp) HWR.out hl HT.out HP.out).mono ?_; clear HP; rintro e w7 ⟨rfl, HP⟩; rw [HR.out] at HP ⊢; replace HP := Lib.hid HP) | (refine wpList_stR1 rfl 44 _ _ rfl HP.out rfl (cs' := nilL) rfl (by simp only [cpu_len, nilL_len]) nilL_one (by first | (rw [cpu_len]; kernel_rfl) | (rw [nilL_len]; kernel_rfl)) ?_; clear HP; intro wst HP; replace HP := Lib.hid HP))
        rw [HAX.out]
        rw [← nilC_cells] at HP
        refine bodyPost_ret (results_cell_row_tmp2 rfl _ _ g4 44 (cpuCells (nilC)).toArray (0, 0) _ rfl (HP.out.blk (.tail _ (.head _))) Tryd.underlying44 rfl (by rw [List.size_toArray, cpu_len]; kernel_rfl)) rfl ⟨rfl, HP.out.below⟩
set_option maxRecDepth 100000 in
set_option maxHeartbeats 4000000 in
theorem CpuStepped_any (ws : List Int) (vw : Value) (c : Cpv) (w : World) (hw : Lay.rep w (Lt w.heap.size) ws [vw]) (ht : RvTabs w) (hws : ∀ n ∈ ws, I64 n) (hok : CpuOk c) :
    Calls Tryd.prog 32 #[vw, .agg (cpuCells c).toArray] w fun e w' => e = .returned (.tuple #[.agg (cpuCells (stepAns ws c).1).toArray, .int .i64 (stepAns ws c).2]) ∧ Below w.heap.size w w' := by
  have HP := Lib.hid (Hp.start w)
  have HWR := Lib.hid hw
  have HT := Lib.hid ht
  have HWS := Lib.hid hws
  obtain ⟨A, cap, rfl, hc, hm, -⟩ := rep_ints_at hw
  unfold maxLen at hm
  clear hw ht hws
  by_cases hl : 32768 < ws.length
  · have HAN := Lib.hid (show stepAns ws c = (nilC, 1) by unfold stepAns; rw [if_pos hl])
    have HSZ := Lib.hid (show sizeZ ws = 1 by unfold sizeZ; rw [if_pos hl])
    have hlb : decide (32768 < (ws.length : Int)) = true := decide_eq_true (by omega)
    have hlb2 : decide (32768 < ws.length) = true := decide_eq_true hl
    clear hl
    go_enter Tryd.func32, Tryd.ntmps32
    go_wp2_with (first | (refine wpList_box_hp (o := ⟨some 3, _, _, _, _, _⟩) rfl _ _ rfl HP.out (cpuCells c) rfl ?_; clear HP; intro g3 w3 HP; replace HP := Lib.hid HP) | (refine wpList_alloc_hp (o := ⟨some 4, _, _, _, _, _⟩) rfl _ rfl HP.out (.agg nilL.toArray) (by kernel_rfl) nilL rfl ?_; clear HP; intro g4 w4 HP; replace HP := Lib.hid HP) | (go_at_call 56; refine (cpuCheck_any ws _ _ (HP.out.rep (F := ⟨w, Lt w.heap.size⟩) (by simp) HWR.out)).mono ?_; rintro e w7 ⟨rfl, rfl⟩; rw [HSZ.out]) | (refine wpList_stR0 rfl 44 _ _ rfl HP.out rfl (cs' := nilL) rfl (by simp only [cpu_len, nilL_len]) nilL_one (by first | (rw [cpu_len]; kernel_rfl) | (rw [nilL_len]; kernel_rfl)) ?_; clear HP; intro wst HP; replace HP := Lib.hid HP))
    rw [HAN.out]
    rw [← nilC_cells] at HP
    refine bodyPost_ret (results_cell_row_tmp2 rfl _ _ g4 44 (cpuCells (nilC)).toArray (0, 0) _ rfl (HP.out.blk (.head _)) Tryd.underlying44 rfl (by rw [List.size_toArray, cpu_len]; kernel_rfl)) rfl ⟨rfl, HP.out.below⟩
  · have HSZ := Lib.hid (show sizeZ ws = 0 by unfold sizeZ; rw [if_neg hl])
    have hlb : decide (32768 < (ws.length : Int)) = false := decide_eq_false (by omega)
    have hlb2 : decide (32768 < ws.length) = false := decide_eq_false hl
    obtain ⟨c0, hc0⟩ : ∃ c0, cputR c 0 0 = c0 := ⟨_, rfl⟩
    have HA0 := Lib.hid (show stepAns ws c = if c0.halted = true then (c0, 0) else fixZ (stepC ws c0) by unfold stepAns; rw [if_neg hl, hc0])
    have HOK0 := Lib.hid (show CpuOk c0 from hc0 ▸ hok.putR 0 ⟨by decide, by decide⟩)
    replace hl : ws.length ≤ 32768 := by omega
    have HC0 := Lib.hid hc0
    clear hc0 hok
    cases hh : c0.halted with
    | true =>
      have HAN := Lib.hid (show stepAns ws c = (c0, 0) by rw [HA0.out, if_pos hh])
      have HHL := Lib.hid (show (cpuCells c0)[97]? = some (.bool true) by rw [cpu_hl, hh])
      clear hh
      go_enter Tryd.func32, Tryd.ntmps32
      go_wp2_with (first | (refine wpList_box_hp (o := ⟨some 3, _, _, _, _, _⟩) rfl _ _ rfl HP.out (cpuCells c) rfl ?_; clear HP; intro g3 w3 HP; replace HP := Lib.hid HP) | (refine wpList_alloc_hp (o := ⟨some 4, _, _, _, _, _⟩) rfl _ rfl HP.out (.agg nilL.toArray) (by kernel_rfl) nilL rfl ?_; clear HP; intro g4 w4 HP; replace HP := Lib.hid HP) | (go_at_call 56; refine (cpuCheck_any ws _ _ (HP.out.rep (F := ⟨w, Lt w.heap.size⟩) (by simp) HWR.out)).mono ?_; rintro e w7 ⟨rfl, rfl⟩; rw [HSZ.out]) | (refine wpList_st1 rfl 3 _ _ rfl HP.out rfl rfl (by rw [cpu_len]; omega) rfl ((cpu_setr c 0 (by omega) 0).trans (congrArg cpuCells HC0.out)) (by kernel_rfl) ?_; clear HP; intro wst HP; replace HP := Lib.hid HP) | (refine wpList_ld1 rfl 4 _ rfl HP.out rfl HHL.out Tryd.underlying4 rfl ?_) | (refine wpList_ldR1 rfl 44 _ rfl HP.out rfl Tryd.underlying44 rfl (by first | (rw [cpu_len]; kernel_rfl) | (rw [nilL_len]; kernel_rfl)) ?_) | (refine wpList_stR0 rfl 44 _ _ rfl HP.out rfl (cs' := cpuCells _) rfl (by simp only [cpu_len, nilL_len]) (cpu_one _) (by first | (rw [cpu_len]; kernel_rfl) | (rw [nilL_len]; kernel_rfl)) ?_; clear HP; intro wst HP; replace HP := Lib.hid HP))
      rw [HAN.out]
      refine bodyPost_ret (results_cell_row_tmp2 rfl _ _ g4 44 (cpuCells (c0)).toArray (0, 0) _ rfl (HP.out.blk (.head _)) Tryd.underlying44 rfl (by rw [List.size_toArray, cpu_len]; kernel_rfl)) rfl ⟨rfl, HP.out.below⟩
    | false =>
      have HHL := Lib.hid (show (cpuCells c0)[97]? = some (.bool false) by rw [cpu_hl, hh])
      have HAN := Lib.hid (show stepAns ws c = fixZ (stepC ws c0) by rw [HA0.out, if_neg (by rw [hh]; decide)])
      clear hh
      obtain ⟨r, hr⟩ : ∃ r, fixZ (stepC ws c0) = r := ⟨_, rfl⟩
      obtain ⟨X, e⟩ := r
      have HR := Lib.hid hr
      have HAX := Lib.hid (show stepAns ws c = (X, e) by rw [HAN.out, hr])
      clear hr
      go_enter Tryd.func32, Tryd.ntmps32
      go_upto_region 6 with (first | (refine wpList_box_hp (o := ⟨some 3, _, _, _, _, _⟩) rfl _ _ rfl HP.out (cpuCells c) rfl ?_; clear HP; intro g3 w3 HP; replace HP := Lib.hid HP) | (refine wpList_alloc_hp (o := ⟨some 4, _, _, _, _, _⟩) rfl _ rfl HP.out (.agg nilL.toArray) (by kernel_rfl) nilL rfl ?_; clear HP; intro g4 w4 HP; replace HP := Lib.hid HP) | (refine wpList_st1 rfl 3 _ _ rfl HP.out rfl rfl (by rw [cpu_len]; omega) rfl ((cpu_setr c 0 (by omega) 0).trans (congrArg cpuCells HC0.out)) (by kernel_rfl) ?_; clear HP; intro wst HP; replace HP := Lib.hid HP) | (refine wpList_ld1 rfl 4 _ rfl HP.out rfl HHL.out Tryd.underlying4 rfl ?_))
      go_wp2_with (first | (refine wpList_ldR1 rfl 44 _ rfl HP.out rfl Tryd.underlying44 rfl (by first | (rw [cpu_len]; kernel_rfl) | (rw [nilL_len]; kernel_rfl)) ?_) | (go_at_call 58; refine (cpuStep_any ws _ c0 _ (HP.out.rep (F := ⟨w, Lt w.heap.size⟩) (by simp) HWR.out) hl HWS.out HOK0.out).mono ?_; rintro e w7 ⟨rfl, hb⟩; replace HP := Lib.hid (HP.out.call0 hb); clear hb; rw [HR.out]) | (refine wpList_alloc_hp (o := ⟨some 6, _, _, _, _, _⟩) rfl _ rfl HP.out (.agg nilL.toArray) (by kernel_rfl) nilL rfl ?_; clear HP; intro g6 w6 HP; replace HP := Lib.hid HP) | (refine wpList_stR0 rfl 44 _ _ rfl HP.out rfl (cs' := cpuCells _) rfl (by simp only [cpu_len, nilL_len]) (cpu_one _) (by first | (rw [cpu_len]; kernel_rfl) | (rw [nilL_len]; kernel_rfl)) ?_; clear HP; intro wst HP; replace HP := Lib.hid HP) | (refine wpList_ldR0 rfl 44 _ rfl HP.out rfl Tryd.underlying44 rfl (by first | (rw [cpu_len]; kernel_rfl) | (rw [nilL_len]; kernel_rfl)) ?_) | (refine wpList_stR1 rfl 44 _ _ rfl HP.out rfl (cs' := cpuCells _) rfl (by simp only [cpu_len, nilL_len]) (cpu_one _) (by first | (rw [cpu_len]; kernel_rfl) | (rw [nilL_len]; kernel_rfl)) ?_; clear HP; intro wst HP; replace HP := Lib.hid HP))
      rw [HAX.out]
      refine bodyPost_ret (results_cell_row_tmp2 rfl _ _ g4 44 (cpuCells (X)).toArray (0, 0) _ rfl (HP.out.blk (.tail _ (.head _))) Tryd.underlying44 rfl (by rw [List.size_toArray, cpu_len]; kernel_rfl)) rfl ⟨rfl, HP.out.below⟩
end Go.Proofs.YtfhoffpdodjfeaaDoor
