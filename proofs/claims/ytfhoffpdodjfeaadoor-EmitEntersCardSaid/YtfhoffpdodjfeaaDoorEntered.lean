/- ref.Entered. -/
import Derived.Test.YtfhoffpdodjfeaaDoorEnter
import Derived.Test.YtfhoffpdodjfeaaDoorStateFault
set_option linter.unusedSimpArgs false
set_option linter.unusedVariables false
namespace Go.Proofs.YtfhoffpdodjfeaaDoor
open Go.RowKit Plain64
attribute [local irreducible] wpList Code.wp Oper.wp
theorem fill_mem (s : Sta) (k : Nat) (hk : k < 16) : (s.memory.toList.take k ++ List.replicate (64 - k) 0).set k (s.mm k) = s.memory.toList.take (k + 1) ++ List.replicate (64 - (k + 1)) 0 := by
  rw [List.set_append_right _ _ (by simp; omega), List.length_take, Vector.length_toList, Nat.min_eq_left (by omega), Nat.sub_self]
  rw [show 64 - k = (64 - (k + 1)) + 1 by omega, List.replicate_succ, List.set_cons_zero, List.take_add_one, List.getElem?_eq_getElem (by simpa using hk)]
  unfold Sta.mm
  rw [List.getD_eq_getElem?_getD, List.getElem?_eq_getElem (by simpa using hk)]
  simp
theorem fill_reg (s : Sta) (f : Frm) (k : Nat) (hk : k < 12) : (s.memory.toList ++ (f.regs.toList.take k ++ List.replicate (48 - k) 0)).set (16 + k) (f.rg k) = s.memory.toList ++ (f.regs.toList.take (k + 1) ++ List.replicate (48 - (k + 1)) 0) := by
  rw [List.set_append_right _ _ (by simp), Vector.length_toList, Nat.add_sub_cancel_left]
  rw [List.set_append_right _ _ (by simp; omega), List.length_take, Vector.length_toList, Nat.min_eq_left (by omega), Nat.sub_self]
  rw [show 48 - k = (48 - (k + 1)) + 1 by omega, List.replicate_succ, List.set_cons_zero, List.take_add_one, List.getElem?_eq_getElem (by simpa using hk)]
  unfold Frm.rg
  rw [List.getD_eq_getElem?_getD, List.getElem?_eq_getElem (by simpa using hk)]
  simp
theorem fill_end (s : Sta) (f : Frm) : ((s.memory.toList ++ (f.regs.toList.take 12 ++ List.replicate (48 - 12) 0)).set 28 s.fuel).set 29 f.pc = enterL s f := by
  unfold enterL
  rw [List.take_of_length_le (by simp)]
  rw [List.set_append_right _ _ (by simp), List.set_append_right _ _ (by simp), List.set_append_right _ _ (by simp), List.set_append_right _ _ (by simp)]
  simp
theorem fill_one (s : Sta) (f : Frm) : s.memory.toList.take 16 ++ List.replicate (64 - 16) 0 = s.memory.toList ++ (f.regs.toList.take 0 ++ List.replicate (48 - 0) 0) := by
  rw [List.take_of_length_le (by simp)]; simp
set_option maxRecDepth 100000 in
set_option maxHeartbeats 4000000 in
theorem runningFault_any (p : Prg) (v : Value) (s : Sta) (u e a : Value) (w : World) (hp : Lay.rep w (Lt w.heap.size) p [v]) (hf : Lay.rep w (Lt w.heap.size) s.frames [u]) (he : Lay.rep w (Lt w.heap.size) s.events [e]) (ha : Lay.rep w (Lt w.heap.size) s.answers [a]) :
    Calls Tryd.prog 54 #[.agg #[v], .agg (staCells s u e a).toArray] w fun r w' => r = .returned (.int .i64 (runFault p s)) ∧ Below w.heap.size w w' := by
  obtain ⟨A, c, rfl, hc, hm, -⟩ := rep_prg_at hp
  obtain ⟨A2, c2, rfl, hc2, hm2, hx2⟩ := rep_frames_at hf
  obtain ⟨AE, ce, rfl, hce, hme, -⟩ := rep_ints_at he
  obtain ⟨AA, ca, rfl, hca, hma, -⟩ := rep_ints_at ha
  unfold maxLen at hm hm2 hme hma
  have HX2 := Lib.hid hx2
  have HR := Lib.hid hp
  have HF := Lib.hid hf
  have HE := Lib.hid he
  have HA := Lib.hid ha
  clear hp hf he ha hx2
  have HP := Lib.hid (Hp.start w)
  unfold staCells
  by_cases hz : stateFault p s = 0
  · have HZ := Lib.hid hz
    clear hz
    by_cases hst : s.status = 0
    · have HRF := Lib.hid (show runFault p s = 0 by unfold runFault; rw [if_neg (by simpa using HZ.out), if_neg (by simpa using hst)])
      have hsb : (s.status != 0) = false := by simpa using hst
      clear hst
      go_enter Tryd.func54, Tryd.ntmps54
      go_upto_region 2 with (first | (refine wpList_box_hp (o := ⟨some 2, _, _, _, _, _⟩) rfl _ _ rfl HP.out [_] rfl ?_; clear HP; intro g2 w2 HP; replace HP := Lib.hid HP) | (refine wpList_box_hp (o := ⟨some 3, _, _, _, _, _⟩) rfl _ _ rfl HP.out [_, _, _, _, _, _, _, _, _, _, _, _, _, _, _, _, _, _, _, _, _, _] rfl ?_; clear HP; intro g3 w3 HP; replace HP := Lib.hid HP) | (refine wpList_ldR0 rfl 24 _ rfl HP.out rfl Tryd.underlying24 rfl (by kernel_rfl) ?_) | (refine wpList_ldR1 rfl 24 _ rfl HP.out rfl Tryd.underlying24 rfl (by kernel_rfl) ?_) | (refine wpList_ldR2 rfl 24 _ rfl HP.out rfl Tryd.underlying24 rfl (by kernel_rfl) ?_) | (refine wpList_ldR0 rfl 29 _ rfl HP.out rfl Tryd.underlying29 rfl (by kernel_rfl) ?_) | (refine wpList_ldR1 rfl 29 _ rfl HP.out rfl Tryd.underlying29 rfl (by kernel_rfl) ?_) | (refine wpList_ldR2 rfl 29 _ rfl HP.out rfl Tryd.underlying29 rfl (by kernel_rfl) ?_) | (go_at_call 62; refine (stateFault_any p _ s _ _ _ _ (HP.out.rep (F := ⟨w, Lt w.heap.size⟩) (by simp) HR.out) (HP.out.rep (F := ⟨w, Lt w.heap.size⟩) (by simp) HF.out) (HP.out.rep (F := ⟨w, Lt w.heap.size⟩) (by simp) HE.out) (HP.out.rep (F := ⟨w, Lt w.heap.size⟩) (by simp) HA.out)).mono ?_; rintro e w4 ⟨rfl, hb⟩; replace HP := Lib.hid (HP.out.call0 hb); clear hb; rw [HZ.out]))
      have cg := HP.out.cell (.head _) 0 _ rfl
      go_wp2
      go_ret
      exact ⟨by rw [HRF.out]; rfl, HP.out.below⟩
    · have HRF := Lib.hid (show runFault p s = 9 by unfold runFault; rw [if_neg (by simpa using HZ.out), if_pos hst])
      have hsb : (s.status != 0) = true := by simpa using hst
      clear hst
      go_enter Tryd.func54, Tryd.ntmps54
      go_upto_region 2 with (first | (refine wpList_box_hp (o := ⟨some 2, _, _, _, _, _⟩) rfl _ _ rfl HP.out [_] rfl ?_; clear HP; intro g2 w2 HP; replace HP := Lib.hid HP) | (refine wpList_box_hp (o := ⟨some 3, _, _, _, _, _⟩) rfl _ _ rfl HP.out [_, _, _, _, _, _, _, _, _, _, _, _, _, _, _, _, _, _, _, _, _, _] rfl ?_; clear HP; intro g3 w3 HP; replace HP := Lib.hid HP) | (refine wpList_ldR0 rfl 24 _ rfl HP.out rfl Tryd.underlying24 rfl (by kernel_rfl) ?_) | (refine wpList_ldR1 rfl 24 _ rfl HP.out rfl Tryd.underlying24 rfl (by kernel_rfl) ?_) | (refine wpList_ldR2 rfl 24 _ rfl HP.out rfl Tryd.underlying24 rfl (by kernel_rfl) ?_) | (refine wpList_ldR0 rfl 29 _ rfl HP.out rfl Tryd.underlying29 rfl (by kernel_rfl) ?_) | (refine wpList_ldR1 rfl 29 _ rfl HP.out rfl Tryd.underlying29 rfl (by kernel_rfl) ?_) | (refine wpList_ldR2 rfl 29 _ rfl HP.out rfl Tryd.underlying29 rfl (by kernel_rfl) ?_) | (go_at_call 62; refine (stateFault_any p _ s _ _ _ _ (HP.out.rep (F := ⟨w, Lt w.heap.size⟩) (by simp) HR.out) (HP.out.rep (F := ⟨w, Lt w.heap.size⟩) (by simp) HF.out) (HP.out.rep (F := ⟨w, Lt w.heap.size⟩) (by simp) HE.out) (HP.out.rep (F := ⟨w, Lt w.heap.size⟩) (by simp) HA.out)).mono ?_; rintro e w4 ⟨rfl, hb⟩; replace HP := Lib.hid (HP.out.call0 hb); clear hb; rw [HZ.out]))
      have cg := HP.out.cell (.head _) 0 _ rfl
      go_wp2
      go_ret
      exact ⟨by rw [HRF.out]; rfl, HP.out.below⟩
  · have hrf : runFault p s = stateFault p s := by unfold runFault; rw [if_pos hz]
    obtain ⟨e0, he0⟩ : ∃ e0, stateFault p s = e0 := ⟨_, rfl⟩
    rw [he0] at hz hrf
    have HRF := Lib.hid hrf
    have HZ := Lib.hid he0
    have hzb : (e0 == 0) = false := by rw [beq_eq_false_iff_ne]; exact hz
    clear he0 hz hrf
    go_enter Tryd.func54, Tryd.ntmps54
    go_wp2_with (first | (refine wpList_box_hp (o := ⟨some 2, _, _, _, _, _⟩) rfl _ _ rfl HP.out [_] rfl ?_; clear HP; intro g2 w2 HP; replace HP := Lib.hid HP) | (refine wpList_box_hp (o := ⟨some 3, _, _, _, _, _⟩) rfl _ _ rfl HP.out [_, _, _, _, _, _, _, _, _, _, _, _, _, _, _, _, _, _, _, _, _, _] rfl ?_; clear HP; intro g3 w3 HP; replace HP := Lib.hid HP) | (refine wpList_ldR0 rfl 24 _ rfl HP.out rfl Tryd.underlying24 rfl (by kernel_rfl) ?_) | (refine wpList_ldR1 rfl 24 _ rfl HP.out rfl Tryd.underlying24 rfl (by kernel_rfl) ?_) | (refine wpList_ldR2 rfl 24 _ rfl HP.out rfl Tryd.underlying24 rfl (by kernel_rfl) ?_) | (refine wpList_ldR0 rfl 29 _ rfl HP.out rfl Tryd.underlying29 rfl (by kernel_rfl) ?_) | (refine wpList_ldR1 rfl 29 _ rfl HP.out rfl Tryd.underlying29 rfl (by kernel_rfl) ?_) | (refine wpList_ldR2 rfl 29 _ rfl HP.out rfl Tryd.underlying29 rfl (by kernel_rfl) ?_) | (go_at_call 62; refine (stateFault_any p _ s _ _ _ _ (HP.out.rep (F := ⟨w, Lt w.heap.size⟩) (by simp) HR.out) (HP.out.rep (F := ⟨w, Lt w.heap.size⟩) (by simp) HF.out) (HP.out.rep (F := ⟨w, Lt w.heap.size⟩) (by simp) HE.out) (HP.out.rep (F := ⟨w, Lt w.heap.size⟩) (by simp) HA.out)).mono ?_; rintro e w4 ⟨rfl, hb⟩; replace HP := Lib.hid (HP.out.call0 hb); clear hb; rw [HZ.out]))
    go_ret
    exact ⟨by rw [HRF.out]; rfl, HP.out.below⟩
set_option maxRecDepth 100000 in
set_option maxHeartbeats 4000000 in
theorem Entered_any (p : Prg) (v : Value) (s : Sta) (u e a : Value) (w : World) (hp : Lay.rep w (Lt w.heap.size) p [v]) (hf : Lay.rep w (Lt w.heap.size) s.frames [u]) (he : Lay.rep w (Lt w.heap.size) s.events [e]) (ha : Lay.rep w (Lt w.heap.size) s.answers [a]) :
    Calls Tryd.prog 24 #[.agg #[v], .agg (staCells s u e a).toArray] w fun r w' => r = .returned (.tuple #[.agg (cpuCells (enterAns p s).1).toArray, .int .i64 (enterAns p s).2]) ∧ Below w.heap.size w w' := by
  obtain ⟨A, c, rfl, hc, hm, -⟩ := rep_prg_at hp
  obtain ⟨A2, c2, rfl, hc2, hm2, hx2⟩ := rep_frames_at hf
  obtain ⟨AE, ce, rfl, hce, hme, -⟩ := rep_ints_at he
  obtain ⟨AA, ca, rfl, hca, hma, -⟩ := rep_ints_at ha
  unfold maxLen at hm hm2 hme hma
  have HX2 := Lib.hid hx2
  have HR := Lib.hid hp
  have HF := Lib.hid hf
  have HE := Lib.hid he
  have HA := Lib.hid ha
  clear hp hf he ha hx2
  have HP := Lib.hid (Hp.start w)
  by_cases hz : runFault p s = 0
  · have HZ := Lib.hid hz
    obtain ⟨fs, f, hfr⟩ := frames_run (sf_zero (rf_zero HZ.out).1).2.1 (rf_zero HZ.out).2
    obtain ⟨q, hq⟩ : ∃ q, fs.length = q := ⟨_, rfl⟩
    have hx3 : ∃ ad, A2 = some ad ∧ Lt w.heap.size ad.block ∧ At w (ad.add (q * 14)) (frmCells f) := by
      have hl : q < s.frames.length := by rw [hfr]; simp [hq]
      obtain ⟨ad, e1, e2, e3⟩ := HX2.out q hl
      have hlast : s.frames[q] = f := by simp [hfr, ← hq]
      exact ⟨ad, e1, e2, by rw [hlast] at e3; exact e3⟩
    obtain ⟨ad, rfl, hab, hat⟩ := hx3
    have HAT := Lib.hid (And.intro hat hab)
    have HLF := Lib.hid (lastF_eq hfr)
    have HLQ := Lib.hid (show s.frames.length = q + 1 by rw [hfr]; simp [hq])
    have hqc : q + 1 ≤ c2 := by have := HLQ.out; omega
    have hqe : q ≤ 8 := by have := (sf_zero (rf_zero HZ.out).1).2.1.frames; have := HLQ.out; omega
    clear hat hab hfr hq
    have HEA := Lib.hid (show enterAns p s = (enterC s f, 0) by unfold enterAns; rw [if_neg (by simpa using hz), HLF.out])
    clear hz
    unfold staCells
    go_enter Tryd.func24, Tryd.ntmps24
    go_upto_region 4 with (first | (refine wpList_alloc_hp (o := ⟨some 4, _, _, _, _, _⟩) rfl _ rfl HP.out (.agg (cpuL z32 0 (List.replicate 64 0) false).toArray) (by kernel_rfl) (cpuL z32 0 (List.replicate 64 0) false) rfl ?_; clear HP; intro g4 w4 HP; replace HP := Lib.hid HP) | (refine wpList_box_hp (o := ⟨some 2, _, _, _, _, _⟩) rfl _ _ rfl HP.out [_] rfl ?_; clear HP; intro g2 w2 HP; replace HP := Lib.hid HP) | (refine wpList_box_hp (o := ⟨some 3, _, _, _, _, _⟩) rfl _ _ rfl HP.out [_, _, _, _, _, _, _, _, _, _, _, _, _, _, _, _, _, _, _, _, _, _] rfl ?_; clear HP; intro g3 w3 HP; replace HP := Lib.hid HP) | (refine wpList_ldR0 rfl 24 _ rfl HP.out rfl Tryd.underlying24 rfl (by kernel_rfl) ?_) | (refine wpList_ldR1 rfl 24 _ rfl HP.out rfl Tryd.underlying24 rfl (by kernel_rfl) ?_) | (refine wpList_ldR2 rfl 24 _ rfl HP.out rfl Tryd.underlying24 rfl (by kernel_rfl) ?_) | (refine wpList_ldR0 rfl 29 _ rfl HP.out rfl Tryd.underlying29 rfl (by kernel_rfl) ?_) | (refine wpList_ldR1 rfl 29 _ rfl HP.out rfl Tryd.underlying29 rfl (by kernel_rfl) ?_) | (refine wpList_ldR2 rfl 29 _ rfl HP.out rfl Tryd.underlying29 rfl (by kernel_rfl) ?_) | (go_at_call 54; refine (runningFault_any p _ s _ _ _ _ (HP.out.rep (F := ⟨w, Lt w.heap.size⟩) (by simp) HR.out) (HP.out.rep (F := ⟨w, Lt w.heap.size⟩) (by simp) HF.out) (HP.out.rep (F := ⟨w, Lt w.heap.size⟩) (by simp) HE.out) (HP.out.rep (F := ⟨w, Lt w.heap.size⟩) (by simp) HA.out)).mono ?_; rintro e w4 ⟨rfl, hb⟩; replace HP := Lib.hid (HP.out.call0 hb); clear hb; rw [HZ.out]))
    rw [HLQ.out] at HP
    go_upto_region 6 with (first | (refine wpList_alloc_hp (o := ⟨some 8, _, _, _, _, _⟩) rfl _ rfl HP.out (.agg (cpuL z32 0 (List.replicate 64 0) false).toArray) (by kernel_rfl) (cpuL z32 0 (List.replicate 64 0) false) rfl ?_; clear HP; intro g8 w8 HP; replace HP := Lib.hid HP) | (refine wpList_ld0 rfl 26 _ rfl HP.out rfl rfl Tryd.underlying26 rfl ?_) | (refine wpList_ld1 rfl 26 _ rfl HP.out rfl rfl Tryd.underlying26 rfl ?_) | (refine wpList_ld2 rfl 26 _ rfl HP.out rfl rfl Tryd.underlying26 rfl ?_) | (refine wpList_alloc_hp (o := ⟨some 7, _, _, _, _, _⟩) rfl _ rfl HP.out (.agg #[.int .i64 0, .int .i64 0, .int .i64 0, .int .i64 0, .int .i64 0, .int .i64 0, .int .i64 0, .int .i64 0, .int .i64 0, .int .i64 0, .int .i64 0, .int .i64 0, .int .i64 0, .int .i64 0]) (by kernel_rfl) [_, _, _, _, _, _, _, _, _, _, _, _, _, _] rfl ?_; clear HP; intro g7 w7 HP; replace HP := Lib.hid HP) | (refine wpList_load_at rfl 75 _ rfl _ rfl _ _ (HP.out.at_ (F := ⟨w, Lt w.heap.size⟩) (by simp) HAT.out.1 (by rw [block_of_add]; exact HAT.out.2)) Tryd.underlying75 rfl (by kernel_rfl) ?_) | (refine wpList_stR0 rfl 75 _ _ rfl HP.out rfl (cs' := frmCells f) rfl rfl (by simp [frmCells, Value.oneCell']) (by kernel_rfl) ?_; clear HP; intro wst HP; replace HP := Lib.hid HP))
    rw [← HLQ.out] at HP
    go_wp2
    go_loopw [9] (fun i wr => ∃ k : Nat, k ≤ 16 ∧ i = .int .i64 k ∧ Hid (Hp w [⟨w, Lt w.heap.size⟩] [.blk g8 44 (cpuL z32 0 (s.memory.toList.take k ++ List.replicate (64 - k) 0) false), .blk g7 75 (frmCells f), .blk g4 44 (cpuL z32 0 (List.replicate 64 0) false), .blk g3 29 (staCells s (.slice (some ad) s.frames.length c2) (.slice AE s.events.length ce) (.slice AA s.answers.length ca)), .blk g2 24 [.slice A p.funcs.length c]] wr)) (fun i _ => 16 - (intOf i).toNat)
    case atStart => exact ⟨0, by omega, rfl, HP⟩
    case round =>
      clear HP
      obtain ⟨k, hk, rfl, HP⟩ := hrel
      obtain ⟨wo, rfl⟩ : ∃ wo : World, wo = wr := ⟨_, rfl⟩
      by_cases hlt : k < 16
      · have h0 : (0 : Int) ≤ (k : Int) := by omega
        have h1 : (k : Int) < 16 := by omega
        go_wp2_with (first | (refine wpList_ld3 rfl 3 _ rfl HP.out rfl (sta_mem s _ _ _ k hlt) Tryd.underlying3 rfl ?_) | (refine wpList_st0 rfl 3 _ _ rfl HP.out rfl rfl (by rw [cpuL_len rfl (by simp; omega)]; omega) rfl ((cpuL_set (r := z32) rfl k (by simp; omega) _).trans (by rw [fill_mem s k hlt])) (by kernel_rfl) ?_; clear HP; intro wst HP; replace HP := Lib.hid HP))
        go_roundw
        case rel => exact ⟨k + 1, by omega, by go_num, HP⟩
        case measure => simp [intOf]; omega
      · obtain rfl : k = 16 := by omega
        replace HP := Lib.hid (show Hp w [⟨w, Lt w.heap.size⟩] [.blk g8 44 (cpuL z32 0 (s.memory.toList ++ (f.regs.toList.take 0 ++ List.replicate (48 - 0) 0)) false), .blk g7 75 (frmCells f), .blk g4 44 (cpuL z32 0 (List.replicate 64 0) false), .blk g3 29 (staCells s (.slice (some ad) s.frames.length c2) (.slice AE s.events.length ce) (.slice AA s.answers.length ca)), .blk g2 24 [.slice A p.funcs.length c]] _ by
          have h := HP.out
          rw [fill_one s f] at h
          exact h)
        simp only [show ((16 : Nat) : Int) = 16 from rfl]
        go_wp2
        go_loopw [10] (fun i wr => ∃ k : Nat, k ≤ 12 ∧ i = .int .i64 k ∧ Hid (Hp w [⟨w, Lt w.heap.size⟩] [.blk g8 44 (cpuL z32 0 (s.memory.toList ++ (f.regs.toList.take k ++ List.replicate (48 - k) 0)) false), .blk g7 75 (frmCells f), .blk g4 44 (cpuL z32 0 (List.replicate 64 0) false), .blk g3 29 (staCells s (.slice (some ad) s.frames.length c2) (.slice AE s.events.length ce) (.slice AA s.answers.length ca)), .blk g2 24 [.slice A p.funcs.length c]] wr)) (fun i _ => 12 - (intOf i).toNat)
        case atStart => exact ⟨0, by omega, rfl, HP⟩
        case round =>
          clear HP
          obtain ⟨k, hk, rfl, HP⟩ := hrel
          obtain ⟨wo2, rfl⟩ : ∃ wo : World, wo = wr := ⟨_, rfl⟩
          by_cases hlt : k < 12
          · have h0 : (0 : Int) ≤ (k : Int) := by omega
            have h1 : (k : Int) < 12 := by omega
            go_wp2_with (first | (refine wpList_ld1 rfl 3 _ rfl HP.out rfl (frm_reg f k hlt) Tryd.underlying3 rfl ?_) | (refine wpList_st0 rfl 3 _ _ rfl HP.out rfl rfl (by rw [cpuL_len rfl (by simp; omega)]; omega) rfl ((cpuL_set (r := z32) rfl (16 + k) (by simp; omega) _).trans (by rw [fill_reg s f k hlt])) (by kernel_rfl) ?_; clear HP; intro wst HP; replace HP := Lib.hid HP))
            go_roundw
            case rel => exact ⟨k + 1, by omega, by go_num, HP⟩
            case measure => simp [intOf]; omega
          · obtain rfl : k = 12 := by omega
            go_upto_region 16 with (first | (refine wpList_ld0 rfl 3 _ rfl HP.out rfl rfl Tryd.underlying3 rfl ?_) | (refine wpList_ld1 rfl 3 _ rfl HP.out rfl rfl Tryd.underlying3 rfl ?_) | (refine wpList_ld2 rfl 3 _ rfl HP.out rfl rfl Tryd.underlying3 rfl ?_) | (refine wpList_ld3 rfl 3 _ rfl HP.out rfl rfl Tryd.underlying3 rfl ?_) | (refine wpList_st0 rfl 3 _ _ rfl HP.out rfl rfl (by rw [cpuL_len rfl (by simp)]; omega) rfl (cpuL_set (r := z32) rfl 28 (by simp) _) (by kernel_rfl) ?_; clear HP; intro wst HP; replace HP := Lib.hid HP) | (refine wpList_st0 rfl 3 _ _ rfl HP.out rfl rfl (by rw [cpuL_len rfl (by simp)]; omega) rfl (cpuL_set (r := z32) rfl 29 (by simp) _) (by kernel_rfl) ?_; clear HP; intro wst HP; replace HP := Lib.hid HP))
            rw [fill_end, ← enterC_cells] at HP
            go_wp2_with (first | (refine wpList_ldR0 rfl 44 _ rfl HP.out rfl Tryd.underlying44 rfl (by rw [cpuC_len]; kernel_rfl) ?_) | (refine wpList_stR2 rfl 44 _ _ rfl HP.out rfl (cs' := cpuCells (enterC s f)) rfl (by rw [cpuC_len]; rfl) cpuC_one (by rw [cpuC_len]; kernel_rfl) ?_; clear HP; intro wst HP; replace HP := Lib.hid HP))
            rw [HEA.out]
            refine bodyPost_ret (results_cell_row_tmp2 rfl _ _ g4 44 (cpuCells (enterC s f)).toArray (0, 0) _ rfl (HP.out.blk (.tail _ (.tail _ (.head _)))) Tryd.underlying44 rfl (by rw [List.size_toArray, cpuC_len]; kernel_rfl)) rfl ⟨rfl, HP.out.below⟩
  · have hea : enterAns p s = (zeroC, runFault p s) := by unfold enterAns; rw [if_pos hz]
    obtain ⟨e0, he0⟩ : ∃ e0, runFault p s = e0 := ⟨_, rfl⟩
    rw [he0] at hz hea
    have HZ := Lib.hid he0
    have HEA := Lib.hid hea
    have hzb : (e0 != 0) = true := by simpa using hz
    clear he0 hz hea
    unfold staCells
    go_enter Tryd.func24, Tryd.ntmps24
    go_wp2_with (first | (refine wpList_alloc_hp (o := ⟨some 4, _, _, _, _, _⟩) rfl _ rfl HP.out (.agg (cpuL z32 0 (List.replicate 64 0) false).toArray) (by kernel_rfl) (cpuL z32 0 (List.replicate 64 0) false) rfl ?_; clear HP; intro g4 w4 HP; replace HP := Lib.hid HP) | (refine wpList_box_hp (o := ⟨some 2, _, _, _, _, _⟩) rfl _ _ rfl HP.out [_] rfl ?_; clear HP; intro g2 w2 HP; replace HP := Lib.hid HP) | (refine wpList_box_hp (o := ⟨some 3, _, _, _, _, _⟩) rfl _ _ rfl HP.out [_, _, _, _, _, _, _, _, _, _, _, _, _, _, _, _, _, _, _, _, _, _] rfl ?_; clear HP; intro g3 w3 HP; replace HP := Lib.hid HP) | (refine wpList_ldR0 rfl 24 _ rfl HP.out rfl Tryd.underlying24 rfl (by kernel_rfl) ?_) | (refine wpList_ldR1 rfl 24 _ rfl HP.out rfl Tryd.underlying24 rfl (by kernel_rfl) ?_) | (refine wpList_ldR2 rfl 24 _ rfl HP.out rfl Tryd.underlying24 rfl (by kernel_rfl) ?_) | (refine wpList_ldR0 rfl 29 _ rfl HP.out rfl Tryd.underlying29 rfl (by kernel_rfl) ?_) | (refine wpList_ldR1 rfl 29 _ rfl HP.out rfl Tryd.underlying29 rfl (by kernel_rfl) ?_) | (refine wpList_ldR2 rfl 29 _ rfl HP.out rfl Tryd.underlying29 rfl (by kernel_rfl) ?_) | (go_at_call 54; refine (runningFault_any p _ s _ _ _ _ (HP.out.rep (F := ⟨w, Lt w.heap.size⟩) (by simp) HR.out) (HP.out.rep (F := ⟨w, Lt w.heap.size⟩) (by simp) HF.out) (HP.out.rep (F := ⟨w, Lt w.heap.size⟩) (by simp) HE.out) (HP.out.rep (F := ⟨w, Lt w.heap.size⟩) (by simp) HA.out)).mono ?_; rintro e w4 ⟨rfl, hb⟩; replace HP := Lib.hid (HP.out.call0 hb); clear hb; rw [HZ.out]) | (refine wpList_stR0 rfl 44 _ _ rfl HP.out rfl (cs' := (cpuL z32 0 (List.replicate 64 0) false)) rfl rfl cpuL_one (by kernel_rfl) ?_; clear HP; intro wst HP; replace HP := Lib.hid HP))
    rw [HEA.out]
    rw [← zeroC_cells] at HP
    refine bodyPost_ret (results_cell_row_tmp2 rfl _ _ g4 44 (cpuCells zeroC).toArray (0, 0) _ rfl (HP.out.blk (.head _)) Tryd.underlying44 rfl (by rw [List.size_toArray, cpuC_len]; kernel_rfl)) rfl ⟨rfl, HP.out.below⟩
end Go.Proofs.YtfhoffpdodjfeaaDoor
