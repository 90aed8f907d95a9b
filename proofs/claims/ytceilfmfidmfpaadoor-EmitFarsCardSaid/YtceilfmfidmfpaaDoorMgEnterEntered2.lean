/- emit.Enter. ref.Entered. -/
import Derived.Test.YtceilfmfidmfpaaDoorRunning
import Derived.Test.YtceilfmfidmfpaaDoorCopyHp
import Derived.Test.YtceilfmfidmfpaaDoorMgHeldHeldB2
import Derived.Test.YtceilfmfidmfpaaDoorMgSureSLiveProvenCStateFaultLiveOf5
set_option linter.unusedSimpArgs false
set_option linter.unusedVariables false
namespace Go.Proofs.YtceilfmfidmfpaaDoor
open Go.RowKit Plain64
attribute [local irreducible] wpList Code.wp Oper.wp
theorem cpuC_len (c : Cpv) : (cpuCells c).length = 98 := cpuL_len (by simp) (by simp)
theorem cpuC_one {c : Cpv} : ∀ v ∈ cpuCells c, v.oneCell' = true := cpuL_one
theorem ints_one (xs : List Int) : ∀ v ∈ xs.map (Value.int .i64), v.oneCell' = true := fun v hv => by obtain ⟨n, -, rfl⟩ := List.mem_map.1 hv; rfl
theorem mm_src {w : World} {g : Nat} {s : Sta} (h : ∀ j, j < 16 → w.cell? ⟨g, 3 + j, none⟩ = some (iV (s.mm j))) : ∀ j v, (s.memory.toList.map (Value.int .i64))[j]? = some v → w.cell? ((⟨g, 3, none⟩ : Addr).add j) = some v := by
  intro j v hv
  rw [List.getElem?_map] at hv
  obtain ⟨n, hn, rfl⟩ := Option.map_eq_some_iff.1 hv
  have hj : j < 16 := by have := (List.getElem?_eq_some_iff.1 hn).1; simpa using this
  rw [Addr.add_lit, h j hj]
  unfold Sta.mm
  rw [List.getD_eq_getElem?_getD, hn]; rfl
theorem rg_src {w : World} {g : Nat} {f : Frm} (h : ∀ j, j < 12 → w.cell? ⟨g, 2 + j, none⟩ = some (iV (f.rg j))) : ∀ j v, (f.regs.toList.map (Value.int .i64))[j]? = some v → w.cell? ((⟨g, 2, none⟩ : Addr).add j) = some v := by
  intro j v hv
  rw [List.getElem?_map] at hv
  obtain ⟨n, hn, rfl⟩ := Option.map_eq_some_iff.1 hv
  have hj : j < 12 := by have := (List.getElem?_eq_some_iff.1 hn).1; simpa using this
  rw [Addr.add_lit, h j hj]
  unfold Frm.rg
  rw [List.getD_eq_getElem?_getD, hn]; rfl
end Go.Proofs.YtceilfmfidmfpaaDoor
namespace Go.Proofs.YtceilfmfidmfpaaDoor
open Go.RowKit Plain64
attribute [local irreducible] wpList Code.wp Oper.wp
theorem fill_mem (s : Sta) (k : Nat) (hk : k < 16) : (s.memory.toList.take k ++ List.replicate (64 - k) 0).set k (s.mm k) = s.memory.toList.take (k + 1) ++ List.replicate (64 - (k + 1)) 0 := by
  rw [List.set_append_right _ _ (by simp; omega), List.length_take, Vector.length_toList, Nat.min_eq_left (by omega), Nat.sub_self]
  rw [show 64 - k = (64 - (k + 1)) + 1 by omega, List.replicate_succ, List.set_cons_zero, List.take_add_one, List.getElem?_eq_getElem (by simpa using hk)]
  unfold Sta.mm
  rw [List.getD_eq_getElem?_getD, List.getElem?_eq_getElem (by simpa using hk)]
  simp
theorem fill_reg (s : Sta) (f : Frm) (k : Nat) (hk : k < 12) : (s.memory.toList ++ (f.regs.toList.take k ++ List.replicate (48 - k) 0)).set (16 + k) (f.rg k) = s.memory.toList ++ (f.regs.toList.take (k + 1) ++ List.replicate (48 - (k + 1)) 0) := by
  rw [List.set_append_right _ _ (by simp), Vector.length_toList, Nat.add_sub_cancel_left]
  rw [List.set_append_right _ _ (by simp; omega), List.length_take, Vector.length_toList, Nat.min_eq_left (by omega), Nat.sub_self]
  rw [show 48 - k = (48 - (k + 1)) + 1 by omega, List.replicate_succ, List.set_cons_zero, List.take_add_one, List.getElem?_eq_getElem (by simpa using hk)]
  unfold Frm.rg
  rw [List.getD_eq_getElem?_getD, List.getElem?_eq_getElem (by simpa using hk)]
  simp
theorem fill_end (s : Sta) (f : Frm) : ((s.memory.toList ++ (f.regs.toList.take 12 ++ List.replicate (48 - 12) 0)).set 28 s.fuel).set 29 f.pc = enterL s f := by
  unfold enterL
  rw [List.take_of_length_le (by simp)]
  rw [List.set_append_right _ _ (by simp), List.set_append_right _ _ (by simp), List.set_append_right _ _ (by simp), List.set_append_right _ _ (by simp)]
  simp
theorem fill_one (s : Sta) (f : Frm) : s.memory.toList.take 16 ++ List.replicate (64 - 16) 0 = s.memory.toList ++ (f.regs.toList.take 0 ++ List.replicate (48 - 0) 0) := by
  rw [List.take_of_length_le (by simp)]; simp
set_option maxRecDepth 100000 in
set_option maxHeartbeats 4000000 in
theorem runningFault_any (p : Prg) (v : Value) (s : Sta) (u e a : Value) (w : World) (hp : Lay.rep w (Lt w.heap.size) p [v]) (hf : Lay.rep w (Lt w.heap.size) s.frames [u]) (he : Lay.rep w (Lt w.heap.size) s.events [e]) (ha : Lay.rep w (Lt w.heap.size) s.answers [a]) :
    Calls Tryd.prog 17 #[.agg #[v], .agg (staCells s u e a).toArray] w fun r w' => r = .returned (.int .i64 (runFault p s)) ∧ Below w.heap.size w w' := by
  obtain ⟨A, c, rfl, hc, hm, -⟩ := rep_prg_at hp
  obtain ⟨A2, c2, rfl, hc2, hm2, hx2⟩ := rep_frames_at hf
  obtain ⟨AE, ce, rfl, hce, hme, -⟩ := rep_ints_at he
  obtain ⟨AA, ca, rfl, hca, hma, -⟩ := rep_ints_at ha
  unfold maxLen at hm hm2 hme hma
  have HX2 := Lib.hid hx2
  have HR := Lib.hid hp
  have HF := Lib.hid hf
  have HE := Lib.hid he
  have HA := Lib.hid ha
  clear hp hf he ha hx2
  have HP := Lib.hid (Hp.start w)
  unfold staCells
  by_cases hz : stateFault p s = 0
  · have HZ := Lib.hid hz
    clear hz
    by_cases hst : s.status = 0
    · have HRF := Lib.hid (show runFault p s = 0 by unfold runFault; rw [if_neg (by simpa using HZ.out), if_neg (by simpa using hst)])
      have hsb : (s.status != 0) = false := by simpa using hst
      clear hst
      go_enter Tryd.func17, Tryd.ntmps17
      go_upto_region 2 with (first | (refine wpList_box_hp (o := ⟨some 2, _, _, _, _, _⟩) rfl _ _ rfl HP.out [_] rfl ?_; clear HP; intro g2 w2 HP; replace HP := Lib.hid HP) | (refine wpList_box_hp (o := ⟨some 3, _, _, _, _, _⟩) rfl _ _ rfl HP.out [_, _, _, _, _, _, _, _, _, _, _, _, _, _, _, _, _, _, _, _, _, _] rfl ?_; clear HP; intro g3 w3 HP; replace HP := Lib.hid HP) | (refine wpList_ldR0 rfl 24 _ rfl HP.out rfl Tryd.underlying24 rfl (by kernel_rfl) ?_) | (refine wpList_ldR1 rfl 24 _ rfl HP.out rfl Tryd.underlying24 rfl (by kernel_rfl) ?_) | (refine wpList_ldR2 rfl 24 _ rfl HP.out rfl Tryd.underlying24 rfl (by kernel_rfl) ?_) | (refine wpList_ldR0 rfl 29 _ rfl HP.out rfl Tryd.underlying29 rfl (by kernel_rfl) ?_) | (refine wpList_ldR1 rfl 29 _ rfl HP.out rfl Tryd.underlying29 rfl (by kernel_rfl) ?_) | (refine wpList_ldR2 rfl 29 _ rfl HP.out rfl Tryd.underlying29 rfl (by kernel_rfl) ?_) | (go_at_call 33; refine (stateFault_any p _ s _ _ _ _ (HP.out.rep (F := ⟨w, Lt w.heap.size⟩) (by simp) HR.out) (HP.out.rep (F := ⟨w, Lt w.heap.size⟩) (by simp) HF.out) (HP.out.rep (F := ⟨w, Lt w.heap.size⟩) (by simp) HE.out) (HP.out.rep (F := ⟨w, Lt w.heap.size⟩) (by simp) HA.out)).mono ?_; rintro e w4 ⟨rfl, hb⟩; replace HP := Lib.hid (HP.out.call0 hb); clear hb; rw [HZ.out]))
      have cg := HP.out.cell (.head _) 0 _ rfl
      go_wp2
      go_ret
      exact ⟨by rw [HRF.out]; rfl, HP.out.below⟩
    · have HRF := Lib.hid (show runFault p s = 9 by unfold runFault; rw [if_neg (by simpa using HZ.out), if_pos hst])
      have hsb : (s.status != 0) = true := by simpa using hst
      clear hst
      go_enter Tryd.func17, Tryd.ntmps17
      go_upto_region 2 with (first | (refine wpList_box_hp (o := ⟨some 2, _, _, _, _, _⟩) rfl _ _ rfl HP.out [_] rfl ?_; clear HP; intro g2 w2 HP; replace HP := Lib.hid HP) | (refine wpList_box_hp (o := ⟨some 3, _, _, _, _, _⟩) rfl _ _ rfl HP.out [_, _, _, _, _, _, _, _, _, _, _, _, _, _, _, _, _, _, _, _, _, _] rfl ?_; clear HP; intro g3 w3 HP; replace HP := Lib.hid HP) | (refine wpList_ldR0 rfl 24 _ rfl HP.out rfl Tryd.underlying24 rfl (by kernel_rfl) ?_) | (refine wpList_ldR1 rfl 24 _ rfl HP.out rfl Tryd.underlying24 rfl (by kernel_rfl) ?_) | (refine wpList_ldR2 rfl 24 _ rfl HP.out rfl Tryd.underlying24 rfl (by kernel_rfl) ?_) | (refine wpList_ldR0 rfl 29 _ rfl HP.out rfl Tryd.underlying29 rfl (by kernel_rfl) ?_) | (refine wpList_ldR1 rfl 29 _ rfl HP.out rfl Tryd.underlying29 rfl (by kernel_rfl) ?_) | (refine wpList_ldR2 rfl 29 _ rfl HP.out rfl Tryd.underlying29 rfl (by kernel_rfl) ?_) | (go_at_call 33; refine (stateFault_any p _ s _ _ _ _ (HP.out.rep (F := ⟨w, Lt w.heap.size⟩) (by simp) HR.out) (HP.out.rep (F := ⟨w, Lt w.heap.size⟩) (by simp) HF.out) (HP.out.rep (F := ⟨w, Lt w.heap.size⟩) (by simp) HE.out) (HP.out.rep (F := ⟨w, Lt w.heap.size⟩) (by simp) HA.out)).mono ?_; rintro e w4 ⟨rfl, hb⟩; replace HP := Lib.hid (HP.out.call0 hb); clear hb; rw [HZ.out]))
      have cg := HP.out.cell (.head _) 0 _ rfl
      go_wp2
      go_ret
      exact ⟨by rw [HRF.out]; rfl, HP.out.below⟩
  · have hrf : runFault p s = stateFault p s := by unfold runFault; rw [if_pos hz]
    obtain ⟨e0, he0⟩ : ∃ e0, stateFault p s = e0 := ⟨_, rfl⟩
    rw [he0] at hz hrf
    have HRF := Lib.hid hrf
    have HZ := Lib.hid he0
    have hzb : (e0 == 0) = false := by rw [beq_eq_false_iff_ne]; exact hz
    clear he0 hz hrf
    go_enter Tryd.func17, Tryd.ntmps17
    go_wp2_with (first | (refine wpList_box_hp (o := ⟨some 2, _, _, _, _, _⟩) rfl _ _ rfl HP.out [_] rfl ?_; clear HP; intro g2 w2 HP; replace HP := Lib.hid HP) | (refine wpList_box_hp (o := ⟨some 3, _, _, _, _, _⟩) rfl _ _ rfl HP.out [_, _, _, _, _, _, _, _, _, _, _, _, _, _, _, _, _, _, _, _, _, _] rfl ?_; clear HP; intro g3 w3 HP; replace HP := Lib.hid HP) | (refine wpList_ldR0 rfl 24 _ rfl HP.out rfl Tryd.underlying24 rfl (by kernel_rfl) ?_) | (refine wpList_ldR1 rfl 24 _ rfl HP.out rfl Tryd.underlying24 rfl (by kernel_rfl) ?_) | (refine wpList_ldR2 rfl 24 _ rfl HP.out rfl Tryd.underlying24 rfl (by kernel_rfl) ?_) | (refine wpList_ldR0 rfl 29 _ rfl HP.out rfl Tryd.underlying29 rfl (by kernel_rfl) ?_) | (refine wpList_ldR1 rfl 29 _ rfl HP.out rfl Tryd.underlying29 rfl (by kernel_rfl) ?_) | (refine wpList_ldR2 rfl 29 _ rfl HP.out rfl Tryd.underlying29 rfl (by kernel_rfl) ?_) | (go_at_call 33; refine (stateFault_any p _ s _ _ _ _ (HP.out.rep (F := ⟨w, Lt w.heap.size⟩) (by simp) HR.out) (HP.out.rep (F := ⟨w, Lt w.heap.size⟩) (by simp) HF.out) (HP.out.rep (F := ⟨w, Lt w.heap.size⟩) (by simp) HE.out) (HP.out.rep (F := ⟨w, Lt w.heap.size⟩) (by simp) HA.out)).mono ?_; rintro e w4 ⟨rfl, hb⟩; replace HP := Lib.hid (HP.out.call0 hb); clear hb; rw [HZ.out]))
    go_ret
    exact ⟨by rw [HRF.out]; rfl, HP.out.below⟩
end Go.Proofs.YtceilfmfidmfpaaDoor
