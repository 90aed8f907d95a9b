/- The law CpuSteps, walked. -/
import Derived.Test.YtfhoffpdodjfeaaDoorCpuSt
import Derived.Test.YtfhoffpdodjfeaaDoorMgCpuLawCpuFixOpenCpv3
import Derived.Test.YtfhoffpdodjfeaaDoorMgCloneInts2
import Derived.Test.YtfhoffpdodjfeaaDoorMgHeldHeldB2
set_option linter.unusedSimpArgs false
set_option linter.unusedVariables false
namespace Go.Proofs.YtfhoffpdodjfeaaDoor
open Go.RowKit Plain64
attribute [local irreducible] wpList Code.wp Oper.wp
theorem Hp.blkAt0 {w0 w : World} {Fs : List Fro} {L : List Res} {g : Nat} {t : TypeId} {cs : List Value} (h : Hp w0 Fs L w) (hr : Res.blk g t cs ∈ L) : At w ⟨g, 0, none⟩ cs := h.blkAt hr 0
theorem run_eq_cpu (x : Cpv) (w : World) : (binOp .eql 44 (.agg (cpuCells x).toArray) (.agg (cpuCells x).toArray)).run Tryd.prog w = .ok (.bool true) w := by
  rw [run_eql_struct, eq_cpu' 9997 x w]; rfl
set_option maxRecDepth 100000 in
set_option maxHeartbeats 10000000 in
theorem cpuSteps_any (ws : List Int) (v : Value) (c : Cpv) (w : World) (hw : Lay.rep w (Lt w.heap.size) ws [v]) (hok : Lay.ok ws) (hcok : Lay.ok c) (ht : RvTabs w) :
    Calls Tryd.prog 8 #[v, .agg (cpuCells c).toArray] w fun r w' => r = .returned (.bool true) ∧ Below w.heap.size w w' := by
  have HWR := Lib.hid hw
  have HT := Lib.hid ht
  have HWS := Lib.hid (ok_ints hok).2
  have hlen := (ok_ints hok).1
  have HCO := Lib.hid (ok_cpv hcok)
  clear hw ht hok hcok
  have HP := Lib.hid (Hp.start w)
  go_enter Tryd.func8, Tryd.ntmps8
  go_upto_region 1 with (first | (refine wpList_box_hp (o := ⟨some 3, _, _, _, _, _⟩) rfl _ _ rfl HP.out (cpuCells c) rfl ?_; clear HP; intro g3 w3 HP; replace HP := Lib.hid HP))
  replace HP := Lib.hid HP.out.drew
  refine wp_region_held_drew (S := fun w' => At w' ⟨g3, 0, none⟩ (cpuCells c)) (by kernel_rfl) (HP.out.blkAt0 (.head _)) (fun hHeld => ?_)
  have HS0 := Lib.hid hHeld
  clear hHeld
  (try simp only [Act.put, List.setIfInBounds_toArray, List.set_cons_zero, List.set_cons_succ])
  refine wpAnyH_take (i := 0) (v := ?_) rfl (by kernel_rfl) (by kernel_rfl) (by kernel_rfl) (fun _ _ _ h => h) (.inl ⟨by simp [Region.wanted], ?_⟩) HS0.out ?_
  rotate_left
  · intro w' hw
    go_simp
    (try with_reducible rfl)
  (try simp only [List.getElem_toArray, List.getElem_cons_succ, List.getElem_cons_zero, Act.put, List.setIfInBounds_toArray, List.set_cons_zero, List.set_cons_succ])
  refine wpAnyH_row (i := 2) rfl (by kernel_rfl) (by kernel_rfl) (by kernel_rfl) (fun _ _ _ _ h => h) rfl 44 _ rfl _ rfl _ _ (fun _ h => h) Tryd.underlying44 rfl (by rw [cpu_len]; kernel_rfl) HS0.out ?_
  (try simp only [List.getElem_toArray, List.getElem_cons_succ, List.getElem_cons_zero, Act.put, List.setIfInBounds_toArray, List.set_cons_zero, List.set_cons_succ])
  refine wpAnyH_ready (rs := [1, 7]) (by kernel_rfl) (by simp) ?_
  refine AllReadyH.cons rfl (fun K hK => ?_) (AllReadyH.cons rfl (fun K hK => ?_) AllReadyH.nil)
  · skip
    go_simp
    refine (ints_any ws _ _ (HP.out.rep (F := ⟨w, Lt w.heap.size⟩) (by simp) HWR.out) hlen).mono ?_
    rintro r1 w1 ⟨v1, rfl, hv1, hb1⟩
    replace HP := Lib.hid (HP.out.call hb1)
    have HV1 := Lib.hid hv1
    clear hb1 hv1
    dsimp only
    refine hK.out _ _ (HP.out.blkAt0 (.head _)) (fun hHeld => ?_)
    replace HS0 := Lib.hid hHeld
    clear hK K hHeld
    (try simp only [List.getElem_toArray, List.getElem_cons_succ, List.getElem_cons_zero, Act.put, List.setIfInBounds_toArray, List.set_cons_zero, List.set_cons_succ])
    refine wpAnyH_ready (rs := [3, 7]) (by kernel_rfl) (by simp) ?_
    refine AllReadyH.cons rfl (fun K hK => ?_) (AllReadyH.cons rfl (fun K hK => ?_) AllReadyH.nil)
    · skip
      go_simp
      refine (Step_any ws _ c _ (HP.out.rep (.head _) HV1.out) (HT.out.keep HP.out.below rfl) HWS.out HCO.out).mono ?_
      rintro r3 w5 ⟨rfl, hb3⟩
      replace HP := Lib.hid (HP.out.call0 hb3)
      clear hb3
      dsimp only
      refine hK.out _ _ (HP.out.blkAt0 (.head _)) (fun hHeld => ?_)
      replace HS0 := Lib.hid hHeld
      clear hK K hHeld
      (try simp only [List.getElem_toArray, List.getElem_cons_succ, List.getElem_cons_zero, Act.put, List.setIfInBounds_toArray, List.set_cons_zero, List.set_cons_succ])
      refine wpAnyH_take (i := 4) (v := ?_) rfl (by kernel_rfl) (by kernel_rfl) (by kernel_rfl) (fun _ _ _ h => h) (.inl ⟨by simp [Region.wanted], ?_⟩) HS0.out ?_
      rotate_left
      · intro w' hw
        go_simp
        (try with_reducible rfl)
      (try simp only [List.getElem_toArray, List.getElem_cons_succ, List.getElem_cons_zero, Act.put, List.setIfInBounds_toArray, List.set_cons_zero, List.set_cons_succ])
      refine wpAnyH_take (i := 5) (v := ?_) rfl (by kernel_rfl) (by kernel_rfl) (by kernel_rfl) (fun _ _ _ h => h) (.inl ⟨by simp [Region.wanted], ?_⟩) HS0.out ?_
      rotate_left
      · intro w' hw
        go_simp
        (try with_reducible rfl)
      (try simp only [List.getElem_toArray, List.getElem_cons_succ, List.getElem_cons_zero, Act.put, List.setIfInBounds_toArray, List.set_cons_zero, List.set_cons_succ])
      refine wpAnyH_take (i := 6) (v := ?_) rfl (by kernel_rfl) (by kernel_rfl) (by kernel_rfl) (fun _ _ _ h => h) (.inl ⟨by simp [Region.wanted], ?_⟩) HS0.out ?_
      rotate_left
      · intro w' hw
        go_simp
        (try with_reducible rfl)
      (try simp only [List.getElem_toArray, List.getElem_cons_succ, List.getElem_cons_zero, Act.put, List.setIfInBounds_toArray, List.set_cons_zero, List.set_cons_succ])
      refine wpAnyH_ready (rs := [7]) (by kernel_rfl) (by simp) ?_
      refine AllReadyH.cons rfl (fun K hK => ?_) AllReadyH.nil
      refine wanted_only rfl ?_
      (refine wpList_alloc_hp (o := ⟨some 5, _, _, _, _, _⟩) rfl _ rfl HP.out (.agg nilL.toArray) (by kernel_rfl) nilL rfl ?_; clear HP; intro g5 w5 HP; replace HP := Lib.hid HP)
      refine wpList_nil ?_
      refine hK.out _ _ (HP.out.blkAt0 (.tail _ (.head _))) (fun hHeld => ?_)
      replace HS0 := Lib.hid hHeld
      clear hK K hHeld
      (try simp only [List.getElem_toArray, List.getElem_cons_succ, List.getElem_cons_zero, Act.put, List.setIfInBounds_toArray, List.set_cons_zero, List.set_cons_succ])
      refine wpAnyH_ready (rs := [8]) (by kernel_rfl) (by simp) ?_
      refine AllReadyH.cons rfl (fun K hK => ?_) AllReadyH.nil
      refine wanted_only rfl ?_
      (refine wpList_stR0 rfl 44 _ _ rfl HP.out rfl (cs' := cpuCells (stepAns ws c).1) rfl (by simp only [cpu_len, nilL_len]) (cpu_one _) (by first | (rw [cpu_len]; kernel_rfl) | (rw [nilL_len]; kernel_rfl)) ?_; clear HP; intro wst HP; replace HP := Lib.hid HP)
      refine wpList_nil ?_
      refine hK.out _ _ (HP.out.blkAt0 (.tail _ (.head _))) (fun hHeld => ?_)
      replace HS0 := Lib.hid hHeld
      clear hK K hHeld
      (try simp only [List.getElem_toArray, List.getElem_cons_succ, List.getElem_cons_zero, Act.put, List.setIfInBounds_toArray, List.set_cons_zero, List.set_cons_succ])
      refine wpAnyH_ready (rs := [9]) (by kernel_rfl) (by simp) ?_
      refine AllReadyH.cons rfl (fun K hK => ?_) AllReadyH.nil
      go_simp
      refine hK.out _ _ (HP.out.blkAt0 (.tail _ (.head _))) (fun hHeld => ?_)
      replace HS0 := Lib.hid hHeld
      clear hK K hHeld
      (try simp only [List.getElem_toArray, List.getElem_cons_succ, List.getElem_cons_zero, Act.put, List.setIfInBounds_toArray, List.set_cons_zero, List.set_cons_succ])
      refine wpAnyH_done (by kernel_rfl) ?_ _
      (try simp only [List.getElem_toArray, List.getElem_cons_succ, List.getElem_cons_zero, Act.put, List.setIfInBounds_toArray, List.set_cons_zero, List.set_cons_succ])
      go_upto_region 3 with (first | (refine wpList_ldR1 rfl 44 _ rfl HP.out rfl Tryd.underlying44 rfl (by first | (rw [cpu_len]; kernel_rfl) | (rw [nilL_len]; kernel_rfl)) ?_) | (go_at_call 32; refine (CpuStepped_any ws _ c _ (HP.out.rep (F := ⟨w, Lt w.heap.size⟩) (by simp) HWR.out) (HT.out.keep HP.out.below rfl) HWS.out HCO.out).mono ?_; rintro r6 w6 ⟨rfl, hb⟩; replace HP := Lib.hid (HP.out.call0 hb); clear hb) | (refine wpList_alloc_hp (o := ⟨some 7, _, _, _, _, _⟩) rfl _ rfl HP.out (.agg nilL.toArray) (by kernel_rfl) nilL rfl ?_; clear HP; intro g7 w7 HP; replace HP := Lib.hid HP) | (refine wpList_stR0 rfl 44 _ _ rfl HP.out rfl (cs' := cpuCells (stepAns ws c).1) rfl (by simp only [cpu_len, nilL_len]) (cpu_one _) (by first | (rw [cpu_len]; kernel_rfl) | (rw [nilL_len]; kernel_rfl)) ?_; clear HP; intro wst HP; replace HP := Lib.hid HP))
      (try simp only [List.getElem_toArray, List.getElem_cons_succ, List.getElem_cons_zero, Act.put, List.setIfInBounds_toArray, List.set_cons_zero, List.set_cons_succ])
      have hq := run_eq_cpu (stepAns ws c).1
      have hq2 := fun w => eq_cpu' 9997 (stepAns ws c).1 w
      go_wp2_with (first | (refine wpList_ldR0 rfl 44 _ rfl HP.out rfl Tryd.underlying44 rfl (by first | (rw [cpu_len]; kernel_rfl) | (rw [nilL_len]; kernel_rfl)) ?_) | (refine wpList_ldR1 rfl 44 _ rfl HP.out rfl Tryd.underlying44 rfl (by first | (rw [cpu_len]; kernel_rfl) | (rw [nilL_len]; kernel_rfl)) ?_))
      (try simp only [Exit.inBlock, Exit.then])
      refine bodyPost_ret (results_tmp (by rfl) _ _ _) (by rfl) ?_
      exact ⟨ret_bool (by simp), HP.out.below⟩
    · skip
      refine wanted_only rfl ?_
      (refine wpList_alloc_hp (o := ⟨some 5, _, _, _, _, _⟩) rfl _ rfl HP.out (.agg nilL.toArray) (by kernel_rfl) nilL rfl ?_; clear HP; intro g5 w5 HP; replace HP := Lib.hid HP)
      refine wpList_nil ?_
      refine hK.out _ _ (HP.out.blkAt0 (.tail _ (.head _))) (fun hHeld => ?_)
      replace HS0 := Lib.hid hHeld
      clear hK K hHeld
      (try simp only [List.getElem_toArray, List.getElem_cons_succ, List.getElem_cons_zero, Act.put, List.setIfInBounds_toArray, List.set_cons_zero, List.set_cons_succ])
      refine wpAnyH_ready (rs := [3]) (by kernel_rfl) (by simp) ?_
      refine AllReadyH.cons rfl (fun K hK => ?_) AllReadyH.nil
      go_simp
      refine (Step_any ws _ c _ (HP.out.rep (.head _) HV1.out) (HT.out.keep HP.out.below rfl) HWS.out HCO.out).mono ?_
      rintro r3 w5 ⟨rfl, hb3⟩
      replace HP := Lib.hid (HP.out.call0 hb3)
      clear hb3
      dsimp only
      refine hK.out _ _ (HP.out.blkAt0 (.tail _ (.head _))) (fun hHeld => ?_)
      replace HS0 := Lib.hid hHeld
      clear hK K hHeld
      (try simp only [List.getElem_toArray, List.getElem_cons_succ, List.getElem_cons_zero, Act.put, List.setIfInBounds_toArray, List.set_cons_zero, List.set_cons_succ])
      refine wpAnyH_take (i := 4) (v := ?_) rfl (by kernel_rfl) (by kernel_rfl) (by kernel_rfl) (fun _ _ _ h => h) (.inl ⟨by simp [Region.wanted], ?_⟩) HS0.out ?_
      rotate_left
      · intro w' hw
        go_simp
        (try with_reducible rfl)
      (try simp only [List.getElem_toArray, List.getElem_cons_succ, List.getElem_cons_zero, Act.put, List.setIfInBounds_toArray, List.set_cons_zero, List.set_cons_succ])
      refine wpAnyH_take (i := 5) (v := ?_) rfl (by kernel_rfl) (by kernel_rfl) (by kernel_rfl) (fun _ _ _ h => h) (.inl ⟨by simp [Region.wanted], ?_⟩) HS0.out ?_
      rotate_left
      · intro w' hw
        go_simp
        (try with_reducible rfl)
      (try simp only [List.getElem_toArray, List.getElem_cons_succ, List.getElem_cons_zero, Act.put, List.setIfInBounds_toArray, List.set_cons_zero, List.set_cons_succ])
      refine wpAnyH_take (i := 6) (v := ?_) rfl (by kernel_rfl) (by kernel_rfl) (by kernel_rfl) (fun _ _ _ h => h) (.inl ⟨by simp [Region.wanted], ?_⟩) HS0.out ?_
      rotate_left
      · intro w' hw
        go_simp
        (try with_reducible rfl)
      (try simp only [List.getElem_toArray, List.getElem_cons_succ, List.getElem_cons_zero, Act.put, List.setIfInBounds_toArray, List.set_cons_zero, List.set_cons_succ])
      refine wpAnyH_ready (rs := [8]) (by kernel_rfl) (by simp) ?_
      refine AllReadyH.cons rfl (fun K hK => ?_) AllReadyH.nil
      refine wanted_only rfl ?_
      (refine wpList_stR0 rfl 44 _ _ rfl HP.out rfl (cs' := cpuCells (stepAns ws c).1) rfl (by simp only [cpu_len, nilL_len]) (cpu_one _) (by first | (rw [cpu_len]; kernel_rfl) | (rw [nilL_len]; kernel_rfl)) ?_; clear HP; intro wst HP; replace HP := Lib.hid HP)
      refine wpList_nil ?_
      refine hK.out _ _ (HP.out.blkAt0 (.tail _ (.head _))) (fun hHeld => ?_)
      replace HS0 := Lib.hid hHeld
      clear hK K hHeld
      (try simp only [List.getElem_toArray, List.getElem_cons_succ, List.getElem_cons_zero, Act.put, List.setIfInBounds_toArray, List.set_cons_zero, List.set_cons_succ])
      refine wpAnyH_ready (rs := [9]) (by kernel_rfl) (by simp) ?_
      refine AllReadyH.cons rfl (fun K hK => ?_) AllReadyH.nil
      go_simp
      refine hK.out _ _ (HP.out.blkAt0 (.tail _ (.head _))) (fun hHeld => ?_)
      replace HS0 := Lib.hid hHeld
      clear hK K hHeld
      (try simp only [List.getElem_toArray, List.getElem_cons_succ, List.getElem_cons_zero, Act.put, List.setIfInBounds_toArray, List.set_cons_zero, List.set_cons_succ])
      refine wpAnyH_done (by kernel_rfl) ?_ _
      (try simp only [List.getElem_toArray, List.getElem_cons_succ, List.getElem_cons_zero, Act.put, List.setIfInBounds_toArray, List.set_cons_zero, List.set_cons_succ])
      go_upto_region 3 with (first | (refine wpList_ldR1 rfl 44 _ rfl HP.out rfl Tryd.underlying44 rfl (by first | (rw [cpu_len]; kernel_rfl) | (rw [nilL_len]; kernel_rfl)) ?_) | (go_at_call 32; refine (CpuStepped_any ws _ c _ (HP.out.rep (F := ⟨w, Lt w.heap.size⟩) (by simp) HWR.out) (HT.out.keep HP.out.below rfl) HWS.out HCO.out).mono ?_; rintro r6 w6 ⟨rfl, hb⟩; replace HP := Lib.hid (HP.out.call0 hb); clear hb) | (refine wpList_alloc_hp (o := ⟨some 7, _, _, _, _, _⟩) rfl _ rfl HP.out (.agg nilL.toArray) (by kernel_rfl) nilL rfl ?_; clear HP; intro g7 w7 HP; replace HP := Lib.hid HP) | (refine wpList_stR0 rfl 44 _ _ rfl HP.out rfl (cs' := cpuCells (stepAns ws c).1) rfl (by simp only [cpu_len, nilL_len]) (cpu_one _) (by first | (rw [cpu_len]; kernel_rfl) | (rw [nilL_len]; kernel_rfl)) ?_; clear HP; intro wst HP; replace HP := Lib.hid HP))
      (try simp only [List.getElem_toArray, List.getElem_cons_succ, List.getElem_cons_zero, Act.put, List.setIfInBounds_toArray, List.set_cons_zero, List.set_cons_succ])
      have hq := run_eq_cpu (stepAns ws c).1
      have hq2 := fun w => eq_cpu' 9997 (stepAns ws c).1 w
      go_wp2_with (first | (refine wpList_ldR0 rfl 44 _ rfl HP.out rfl Tryd.underlying44 rfl (by first | (rw [cpu_len]; kernel_rfl) | (rw [nilL_len]; kernel_rfl)) ?_) | (refine wpList_ldR1 rfl 44 _ rfl HP.out rfl Tryd.underlying44 rfl (by first | (rw [cpu_len]; kernel_rfl) | (rw [nilL_len]; kernel_rfl)) ?_))
      (try simp only [Exit.inBlock, Exit.then])
      refine bodyPost_ret (results_tmp (by rfl) _ _ _) (by rfl) ?_
      exact ⟨ret_bool (by simp), HP.out.below⟩
  · skip
    refine wanted_only rfl ?_
    (refine wpList_alloc_hp (o := ⟨some 5, _, _, _, _, _⟩) rfl _ rfl HP.out (.agg nilL.toArray) (by kernel_rfl) nilL rfl ?_; clear HP; intro g5 w5 HP; replace HP := Lib.hid HP)
    refine wpList_nil ?_
    refine hK.out _ _ (HP.out.blkAt0 (.tail _ (.head _))) (fun hHeld => ?_)
    replace HS0 := Lib.hid hHeld
    clear hK K hHeld
    (try simp only [List.getElem_toArray, List.getElem_cons_succ, List.getElem_cons_zero, Act.put, List.setIfInBounds_toArray, List.set_cons_zero, List.set_cons_succ])
    refine wpAnyH_ready (rs := [1]) (by kernel_rfl) (by simp) ?_
    refine AllReadyH.cons rfl (fun K hK => ?_) AllReadyH.nil
    go_simp
    refine (ints_any ws _ _ (HP.out.rep (F := ⟨w, Lt w.heap.size⟩) (by simp) HWR.out) hlen).mono ?_
    rintro r1 w1 ⟨v1, rfl, hv1, hb1⟩
    replace HP := Lib.hid (HP.out.call hb1)
    have HV1 := Lib.hid hv1
    clear hb1 hv1
    dsimp only
    refine hK.out _ _ (HP.out.blkAt0 (.tail _ (.head _))) (fun hHeld => ?_)
    replace HS0 := Lib.hid hHeld
    clear hK K hHeld
    (try simp only [List.getElem_toArray, List.getElem_cons_succ, List.getElem_cons_zero, Act.put, List.setIfInBounds_toArray, List.set_cons_zero, List.set_cons_succ])
    refine wpAnyH_ready (rs := [3]) (by kernel_rfl) (by simp) ?_
    refine AllReadyH.cons rfl (fun K hK => ?_) AllReadyH.nil
    go_simp
    refine (Step_any ws _ c _ (HP.out.rep (.head _) HV1.out) (HT.out.keep HP.out.below rfl) HWS.out HCO.out).mono ?_
    rintro r3 w5 ⟨rfl, hb3⟩
    replace HP := Lib.hid (HP.out.call0 hb3)
    clear hb3
    dsimp only
    refine hK.out _ _ (HP.out.blkAt0 (.tail _ (.head _))) (fun hHeld => ?_)
    replace HS0 := Lib.hid hHeld
    clear hK K hHeld
    (try simp only [List.getElem_toArray, List.getElem_cons_succ, List.getElem_cons_zero, Act.put, List.setIfInBounds_toArray, List.set_cons_zero, List.set_cons_succ])
    refine wpAnyH_take (i := 4) (v := ?_) rfl (by kernel_rfl) (by kernel_rfl) (by kernel_rfl) (fun _ _ _ h => h) (.inl ⟨by simp [Region.wanted], ?_⟩) HS0.out ?_
    rotate_left
    · intro w' hw
      go_simp
      (try with_reducible rfl)
    (try simp only [List.getElem_toArray, List.getElem_cons_succ, List.getElem_cons_zero, Act.put, List.setIfInBounds_toArray, List.set_cons_zero, List.set_cons_succ])
    refine wpAnyH_take (i := 5) (v := ?_) rfl (by kernel_rfl) (by kernel_rfl) (by kernel_rfl) (fun _ _ _ h => h) (.inl ⟨by simp [Region.wanted], ?_⟩) HS0.out ?_
    rotate_left
    · intro w' hw
      go_simp
      (try with_reducible rfl)
    (try simp only [List.getElem_toArray, List.getElem_cons_succ, List.getElem_cons_zero, Act.put, List.setIfInBounds_toArray, List.set_cons_zero, List.set_cons_succ])
    refine wpAnyH_take (i := 6) (v := ?_) rfl (by kernel_rfl) (by kernel_rfl) (by kernel_rfl) (fun _ _ _ h => h) (.inl ⟨by simp [Region.wanted], ?_⟩) HS0.out ?_
    rotate_left
    · intro w' hw
      go_simp
      (try with_reducible rfl)
    (try simp only [List.getElem_toArray, List.getElem_cons_succ, List.getElem_cons_zero, Act.put, List.setIfInBounds_toArray, List.set_cons_zero, List.set_cons_succ])
    refine wpAnyH_ready (rs := [8]) (by kernel_rfl) (by simp) ?_
    refine AllReadyH.cons rfl (fun K hK => ?_) AllReadyH.nil
    refine wanted_only rfl ?_
    (refine wpList_stR0 rfl 44 _ _ rfl HP.out rfl (cs' := cpuCells (stepAns ws c).1) rfl (by simp only [cpu_len, nilL_len]) (cpu_one _) (by first | (rw [cpu_len]; kernel_rfl) | (rw [nilL_len]; kernel_rfl)) ?_; clear HP; intro wst HP; replace HP := Lib.hid HP)
    refine wpList_nil ?_
    refine hK.out _ _ (HP.out.blkAt0 (.tail _ (.head _))) (fun hHeld => ?_)
    replace HS0 := Lib.hid hHeld
    clear hK K hHeld
    (try simp only [List.getElem_toArray, List.getElem_cons_succ, List.getElem_cons_zero, Act.put, List.setIfInBounds_toArray, List.set_cons_zero, List.set_cons_succ])
    refine wpAnyH_ready (rs := [9]) (by kernel_rfl) (by simp) ?_
    refine AllReadyH.cons rfl (fun K hK => ?_) AllReadyH.nil
    go_simp
    refine hK.out _ _ (HP.out.blkAt0 (.tail _ (.head _))) (fun hHeld => ?_)
    replace HS0 := Lib.hid hHeld
    clear hK K hHeld
    (try simp only [List.getElem_toArray, List.getElem_cons_succ, List.getElem_cons_zero, Act.put, List.setIfInBounds_toArray, List.set_cons_zero, List.set_cons_succ])
    refine wpAnyH_done (by kernel_rfl) ?_ _
    (try simp only [List.getElem_toArray, List.getElem_cons_succ, List.getElem_cons_zero, Act.put, List.setIfInBounds_toArray, List.set_cons_zero, List.set_cons_succ])
    go_upto_region 3 with (first | (refine wpList_ldR1 rfl 44 _ rfl HP.out rfl Tryd.underlying44 rfl (by first | (rw [cpu_len]; kernel_rfl) | (rw [nilL_len]; kernel_rfl)) ?_) | (go_at_call 32; refine (CpuStepped_any ws _ c _ (HP.out.rep (F := ⟨w, Lt w.heap.size⟩) (by simp) HWR.out) (HT.out.keep HP.out.below rfl) HWS.out HCO.out).mono ?_; rintro r6 w6 ⟨rfl, hb⟩; replace HP := Lib.hid (HP.out.call0 hb); clear hb) | (refine wpList_alloc_hp (o := ⟨some 7, _, _, _, _, _⟩) rfl _ rfl HP.out (.agg nilL.toArray) (by kernel_rfl) nilL rfl ?_; clear HP; intro g7 w7 HP; replace HP := Lib.hid HP) | (refine wpList_stR0 rfl 44 _ _ rfl HP.out rfl (cs' := cpuCells (stepAns ws c).1) rfl (by simp only [cpu_len, nilL_len]) (cpu_one _) (by first | (rw [cpu_len]; kernel_rfl) | (rw [nilL_len]; kernel_rfl)) ?_; clear HP; intro wst HP; replace HP := Lib.hid HP))
    (try simp only [List.getElem_toArray, List.getElem_cons_succ, List.getElem_cons_zero, Act.put, List.setIfInBounds_toArray, List.set_cons_zero, List.set_cons_succ])
    have hq := run_eq_cpu (stepAns ws c).1
    have hq2 := fun w => eq_cpu' 9997 (stepAns ws c).1 w
    go_wp2_with (first | (refine wpList_ldR0 rfl 44 _ rfl HP.out rfl Tryd.underlying44 rfl (by first | (rw [cpu_len]; kernel_rfl) | (rw [nilL_len]; kernel_rfl)) ?_) | (refine wpList_ldR1 rfl 44 _ rfl HP.out rfl Tryd.underlying44 rfl (by first | (rw [cpu_len]; kernel_rfl) | (rw [nilL_len]; kernel_rfl)) ?_))
    (try simp only [Exit.inBlock, Exit.then])
    refine bodyPost_ret (results_tmp (by rfl) _ _ _) (by rfl) ?_
    exact ⟨ret_bool (by simp), HP.out.below⟩
end Go.Proofs.YtfhoffpdodjfeaaDoor
