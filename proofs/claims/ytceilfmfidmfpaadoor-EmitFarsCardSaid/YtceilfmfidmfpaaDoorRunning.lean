/- emit.running. -/
import Derived.Test.YtceilfmfidmfpaaDoorMgCpuEntLaw2
import Derived.Test.YtceilfmfidmfpaaDoorMgSureTProvenProvenBStepCheck4
import Derived.Test.YtceilfmfidmfpaaDoorRes
set_option linter.unusedSimpArgs false
set_option linter.unusedVariables false
namespace Go.Proofs.YtceilfmfidmfpaaDoor
open Go.RowKit Plain64
attribute [local irreducible] wpList Code.wp Oper.wp
set_option maxRecDepth 100000 in
set_option maxHeartbeats 4000000 in
theorem running_any (p : Prg) (v : Value) (s : Sta) (u e a : Value) (w : World) (hp : Lay.rep w (Lt w.heap.size) p [v]) (hf : Lay.rep w (Lt w.heap.size) s.frames [u]) (he : Lay.rep w (Lt w.heap.size) s.events [e]) (ha : Lay.rep w (Lt w.heap.size) s.answers [a]) (hh : Has w) :
    Calls Tryd.prog 10 #[.agg #[v], .agg (staCells s u e a).toArray] w fun r w' => r = .returned (.tuple #[.agg (frmCells (runningAns p s).1).toArray, .int .i64 (runningAns p s).2]) ∧ Below w.heap.size w w' := by
  obtain ⟨A, c, rfl, hc, hm, -⟩ := rep_prg_at hp
  obtain ⟨A2, c2, rfl, hc2, hm2, hx2⟩ := rep_frames_at hf
  obtain ⟨AE, ce, rfl, hce, hme, -⟩ := rep_ints_at he
  obtain ⟨AA, ca, rfl, hca, hma, -⟩ := rep_ints_at ha
  unfold maxLen at hm hm2 hme hma
  have HX2 := Lib.hid hx2
  have HR := Lib.hid hp
  have HF := Lib.hid hf
  have HE := Lib.hid he
  have HA := Lib.hid ha
  have HH := Lib.hid hh
  clear hp hf he ha hh hx2
  have HP := Lib.hid (Hp.start w)
  unfold staCells
  by_cases hz : stateFault p s = 0
  · have HZ := Lib.hid hz
    clear hz
    by_cases hst : s.status = 0
    · have hrf : runFault p s = 0 := by unfold runFault; rw [if_neg (by simpa using HZ.out), if_neg (by simpa using hst)]
      have HRA := Lib.hid (show runningAns p s = (lastF s, 0) by unfold runningAns; rw [hrf, if_pos rfl])
      clear hrf
      obtain ⟨fs, f, hfr⟩ := frames_run (sf_zero HZ.out).2.1 hst
      obtain ⟨q, hq⟩ : ∃ q, fs.length = q := ⟨_, rfl⟩
      have hx3 : ∃ ad, A2 = some ad ∧ Lt w.heap.size ad.block ∧ At w (ad.add (q * 14)) (frmCells f) := by
        have hl : q < s.frames.length := by rw [hfr]; simp [hq]
        obtain ⟨ad, e1, e2, e3⟩ := HX2.out q hl
        have hlast : s.frames[q] = f := by simp [hfr, ← hq]
        exact ⟨ad, e1, e2, by rw [hlast] at e3; exact e3⟩
      obtain ⟨ad, rfl, hab, hat⟩ := hx3
      have HAT := Lib.hid (And.intro hat hab)
      have HLF := Lib.hid (lastF_eq hfr)
      have HLQ := Lib.hid (show s.frames.length = q + 1 by rw [hfr]; simp [hq])
      have hqc : q + 1 ≤ c2 := by have := HLQ.out; omega
      have hqe : q ≤ 8 := by have := (sf_zero HZ.out).2.1.frames; have := HLQ.out; omega
      have HST := Lib.hid hst
      clear hat hab hfr hq hst
      have hsb : (s.status != 0) = false := by simpa using HST.out
      go_enter Tryd.func10, Tryd.ntmps10
      go_upto_region 6 with (first | (refine wpList_alloc_hp (o := ⟨some 4, _, _, _, _, _⟩) rfl _ rfl HP.out (.agg #[.int .i64 0, .int .i64 0, .int .i64 0, .int .i64 0, .int .i64 0, .int .i64 0, .int .i64 0, .int .i64 0, .int .i64 0, .int .i64 0, .int .i64 0, .int .i64 0, .int .i64 0, .int .i64 0]) (by kernel_rfl) [_, _, _, _, _, _, _, _, _, _, _, _, _, _] rfl ?_; clear HP; intro g4 w4 HP; replace HP := Lib.hid HP) | (refine wpList_box_hp (o := ⟨some 2, _, _, _, _, _⟩) rfl _ _ rfl HP.out [_] rfl ?_; clear HP; intro g2 w2 HP; replace HP := Lib.hid HP) | (refine wpList_box_hp (o := ⟨some 3, _, _, _, _, _⟩) rfl _ _ rfl HP.out [_, _, _, _, _, _, _, _, _, _, _, _, _, _, _, _, _, _, _, _, _, _] rfl ?_; clear HP; intro g3 w3 HP; replace HP := Lib.hid HP) | (refine wpList_ldR0 rfl 24 _ rfl HP.out rfl Tryd.underlying24 rfl (by kernel_rfl) ?_) | (refine wpList_ldR1 rfl 24 _ rfl HP.out rfl Tryd.underlying24 rfl (by kernel_rfl) ?_) | (refine wpList_ldR2 rfl 24 _ rfl HP.out rfl Tryd.underlying24 rfl (by kernel_rfl) ?_) | (refine wpList_ldR0 rfl 29 _ rfl HP.out rfl Tryd.underlying29 rfl (by kernel_rfl) ?_) | (refine wpList_ldR1 rfl 29 _ rfl HP.out rfl Tryd.underlying29 rfl (by kernel_rfl) ?_) | (refine wpList_ldR2 rfl 29 _ rfl HP.out rfl Tryd.underlying29 rfl (by kernel_rfl) ?_) | (refine wpList_ld0 rfl 3 _ rfl HP.out rfl rfl Tryd.underlying3 rfl ?_) | (refine wpList_ld1 rfl 3 _ rfl HP.out rfl rfl Tryd.underlying3 rfl ?_) | (refine wpList_ld2 rfl 3 _ rfl HP.out rfl rfl Tryd.underlying3 rfl ?_) | (go_at_call 23; refine (stepCheck_any p _ s _ _ _ _ (HP.out.rep (F := ⟨w, Lt w.heap.size⟩) (by simp) HR.out) (HP.out.rep (F := ⟨w, Lt w.heap.size⟩) (by simp) HF.out) (HP.out.rep (F := ⟨w, Lt w.heap.size⟩) (by simp) HE.out) (HP.out.rep (F := ⟨w, Lt w.heap.size⟩) (by simp) HA.out) (HH.out.keep HP.out.below rfl)).mono ?_; rintro e w4 ⟨rfl, hb⟩; replace HP := Lib.hid (HP.out.call0 hb); clear hb; rw [HZ.out]))
      rw [HLQ.out] at HP
      go_wp2_with (first | (refine wpList_ld0 rfl 25 _ rfl HP.out rfl rfl Tryd.underlying25 rfl ?_) | (refine wpList_ld1 rfl 25 _ rfl HP.out rfl rfl Tryd.underlying25 rfl ?_) | (refine wpList_ld2 rfl 25 _ rfl HP.out rfl rfl Tryd.underlying25 rfl ?_) | (refine wpList_load_at rfl 39 _ rfl _ rfl _ _ (HP.out.at_ (F := ⟨w, Lt w.heap.size⟩) (by simp) HAT.out.1 (by rw [block_of_add]; exact HAT.out.2)) Tryd.underlying39 rfl (by kernel_rfl) ?_) | (refine wpList_stR0 rfl 39 _ _ rfl HP.out rfl (cs' := frmCells f) rfl rfl (by simp [frmCells, Value.oneCell']) (by kernel_rfl) ?_; clear HP; intro wst HP; replace HP := Lib.hid HP))
      rw [HRA.out, HLF.out]
      refine bodyPost_ret (results_cell_row_tmp2 rfl _ _ g4 39 (frmCells f).toArray (0, 0) _ rfl (HP.out.blk (.head _)) Tryd.underlying39 rfl (by kernel_rfl)) rfl ⟨rfl, HP.out.below⟩
    · have hrf : runFault p s = 9 := by unfold runFault; rw [if_neg (by simpa using HZ.out), if_pos hst]
      have HRA := Lib.hid (show runningAns p s = (zeroF, 9) by unfold runningAns; rw [hrf, if_neg (by decide)])
      clear hrf
      have hsb : (s.status != 0) = true := by simpa using hst
      clear hst
      go_enter Tryd.func10, Tryd.ntmps10
      go_wp2_with (first | (refine wpList_alloc_hp (o := ⟨some 4, _, _, _, _, _⟩) rfl _ rfl HP.out (.agg #[.int .i64 0, .int .i64 0, .int .i64 0, .int .i64 0, .int .i64 0, .int .i64 0, .int .i64 0, .int .i64 0, .int .i64 0, .int .i64 0, .int .i64 0, .int .i64 0, .int .i64 0, .int .i64 0]) (by kernel_rfl) [_, _, _, _, _, _, _, _, _, _, _, _, _, _] rfl ?_; clear HP; intro g4 w4 HP; replace HP := Lib.hid HP) | (refine wpList_box_hp (o := ⟨some 2, _, _, _, _, _⟩) rfl _ _ rfl HP.out [_] rfl ?_; clear HP; intro g2 w2 HP; replace HP := Lib.hid HP) | (refine wpList_box_hp (o := ⟨some 3, _, _, _, _, _⟩) rfl _ _ rfl HP.out [_, _, _, _, _, _, _, _, _, _, _, _, _, _, _, _, _, _, _, _, _, _] rfl ?_; clear HP; intro g3 w3 HP; replace HP := Lib.hid HP) | (refine wpList_ldR0 rfl 24 _ rfl HP.out rfl Tryd.underlying24 rfl (by kernel_rfl) ?_) | (refine wpList_ldR1 rfl 24 _ rfl HP.out rfl Tryd.underlying24 rfl (by kernel_rfl) ?_) | (refine wpList_ldR2 rfl 24 _ rfl HP.out rfl Tryd.underlying24 rfl (by kernel_rfl) ?_) | (refine wpList_ldR0 rfl 29 _ rfl HP.out rfl Tryd.underlying29 rfl (by kernel_rfl) ?_) | (refine wpList_ldR1 rfl 29 _ rfl HP.out rfl Tryd.underlying29 rfl (by kernel_rfl) ?_) | (refine wpList_ldR2 rfl 29 _ rfl HP.out rfl Tryd.underlying29 rfl (by kernel_rfl) ?_) | (refine wpList_ld0 rfl 3 _ rfl HP.out rfl rfl Tryd.underlying3 rfl ?_) | (refine wpList_ld1 rfl 3 _ rfl HP.out rfl rfl Tryd.underlying3 rfl ?_) | (refine wpList_ld2 rfl 3 _ rfl HP.out rfl rfl Tryd.underlying3 rfl ?_) | (go_at_call 23; refine (stepCheck_any p _ s _ _ _ _ (HP.out.rep (F := ⟨w, Lt w.heap.size⟩) (by simp) HR.out) (HP.out.rep (F := ⟨w, Lt w.heap.size⟩) (by simp) HF.out) (HP.out.rep (F := ⟨w, Lt w.heap.size⟩) (by simp) HE.out) (HP.out.rep (F := ⟨w, Lt w.heap.size⟩) (by simp) HA.out) (HH.out.keep HP.out.below rfl)).mono ?_; rintro e w4 ⟨rfl, hb⟩; replace HP := Lib.hid (HP.out.call0 hb); clear hb; rw [HZ.out]) | (refine wpList_stR0 rfl 39 _ _ rfl HP.out rfl (cs' := frmCells zeroF) rfl rfl (by simp [frmCells, Value.oneCell']) (by kernel_rfl) ?_; clear HP; intro wst HP; replace HP := Lib.hid HP))
      rw [HRA.out]
      refine bodyPost_ret (results_cell_row_tmp2 rfl _ _ g4 39 (frmCells zeroF).toArray (0, 0) _ rfl (HP.out.blk (.head _)) Tryd.underlying39 rfl (by kernel_rfl)) rfl ⟨rfl, HP.out.below⟩
  · have hrf : runFault p s = stateFault p s := by unfold runFault; rw [if_pos hz]
    obtain ⟨e0, he0⟩ : ∃ e0, stateFault p s = e0 := ⟨_, rfl⟩
    rw [he0] at hz hrf
    have HRA := Lib.hid (show runningAns p s = (zeroF, e0) by unfold runningAns; rw [hrf, if_neg hz])
    have HZ := Lib.hid he0
    have hzb : (e0 != 0) = true := by simpa using hz
    clear he0 hz hrf
    go_enter Tryd.func10, Tryd.ntmps10
    go_wp2_with (first | (refine wpList_alloc_hp (o := ⟨some 4, _, _, _, _, _⟩) rfl _ rfl HP.out (.agg #[.int .i64 0, .int .i64 0, .int .i64 0, .int .i64 0, .int .i64 0, .int .i64 0, .int .i64 0, .int .i64 0, .int .i64 0, .int .i64 0, .int .i64 0, .int .i64 0, .int .i64 0, .int .i64 0]) (by kernel_rfl) [_, _, _, _, _, _, _, _, _, _, _, _, _, _] rfl ?_; clear HP; intro g4 w4 HP; replace HP := Lib.hid HP) | (refine wpList_box_hp (o := ⟨some 2, _, _, _, _, _⟩) rfl _ _ rfl HP.out [_] rfl ?_; clear HP; intro g2 w2 HP; replace HP := Lib.hid HP) | (refine wpList_box_hp (o := ⟨some 3, _, _, _, _, _⟩) rfl _ _ rfl HP.out [_, _, _, _, _, _, _, _, _, _, _, _, _, _, _, _, _, _, _, _, _, _] rfl ?_; clear HP; intro g3 w3 HP; replace HP := Lib.hid HP) | (refine wpList_ldR0 rfl 24 _ rfl HP.out rfl Tryd.underlying24 rfl (by kernel_rfl) ?_) | (refine wpList_ldR1 rfl 24 _ rfl HP.out rfl Tryd.underlying24 rfl (by kernel_rfl) ?_) | (refine wpList_ldR2 rfl 24 _ rfl HP.out rfl Tryd.underlying24 rfl (by kernel_rfl) ?_) | (refine wpList_ldR0 rfl 29 _ rfl HP.out rfl Tryd.underlying29 rfl (by kernel_rfl) ?_) | (refine wpList_ldR1 rfl 29 _ rfl HP.out rfl Tryd.underlying29 rfl (by kernel_rfl) ?_) | (refine wpList_ldR2 rfl 29 _ rfl HP.out rfl Tryd.underlying29 rfl (by kernel_rfl) ?_) | (go_at_call 23; refine (stepCheck_any p _ s _ _ _ _ (HP.out.rep (F := ⟨w, Lt w.heap.size⟩) (by simp) HR.out) (HP.out.rep (F := ⟨w, Lt w.heap.size⟩) (by simp) HF.out) (HP.out.rep (F := ⟨w, Lt w.heap.size⟩) (by simp) HE.out) (HP.out.rep (F := ⟨w, Lt w.heap.size⟩) (by simp) HA.out) (HH.out.keep HP.out.below rfl)).mono ?_; rintro e w4 ⟨rfl, hb⟩; replace HP := Lib.hid (HP.out.call0 hb); clear hb; rw [HZ.out]) | (refine wpList_stR0 rfl 39 _ _ rfl HP.out rfl (cs' := frmCells zeroF) rfl rfl (by simp [frmCells, Value.oneCell']) (by kernel_rfl) ?_; clear HP; intro wst HP; replace HP := Lib.hid HP))
    rw [HRA.out]
    refine bodyPost_ret (results_cell_row_tmp2 rfl _ _ g4 39 (frmCells zeroF).toArray (0, 0) _ rfl (HP.out.blk (.head _)) Tryd.underlying39 rfl (by kernel_rfl)) rfl ⟨rfl, HP.out.below⟩
end Go.Proofs.YtceilfmfidmfpaaDoor
