/- The law's sameState, of states that are the same. -/
import Derived.Test.YtceilfmfidmfpaaDoorMgReadsOfStateNextLawBegLawNextAnsRunLawRunLawBBegRun8
import Derived.Test.YtceilfmfidmfpaaDoorSameInts
import Derived.Test.YtceilfmfidmfpaaDoorMgHeldHeldB2
import Derived.Test.YtceilfmfidmfpaaDoorStill
import Derived.Test.YtceilfmfidmfpaaDoorEqRow
set_option linter.unusedSimpArgs false
set_option linter.unusedVariables false
namespace Go.Proofs.YtceilfmfidmfpaaDoor
open Go.RowKit
attribute [local irreducible] wpList Code.wp Oper.wp
theorem wpList_load_w {P : Program} {w : World} {ops : Array Oper} {rest : List Oper} {o : Oper} {a : Act} {Q : Exit → Act → World → Prop} (hw : Region.wanted o (yielded ops a.tmps) = true) (ty : TypeId) (x : Operand) (ho : o.op = .load ty x)
    (ad : Addr) (hx : a.eval x = .pointer (some ad)) (cs : List Value) (d : TypeDesc) (hc : At w ad cs)
    (hu : P.underlying ty = some d) (hd : d.isRow = true) (hi : (P.info? ty).map (·.size) = some cs.length)
    (h : wpList P ops Q rest (a.put o.dst (.agg cs.toArray)) w) : wpList P ops Q (o :: rest) a w :=
  wpList_step fun K hK => by
    rw [if_pos hw]
    unfold Oper.wp execOp
    simp only [ho, hx, Instr.loadAt, Instr.sureAddr, Sem.run_bind, Sem.run_pure, Result.andThen_ok, run_loadVar_at w ad ty cs d hc hu hd hi]
    exact hK _ _ h
set_option maxRecDepth 10000 in
set_option maxHeartbeats 4000000 in
theorem sameState_any (s : Sta) (u e a u' e' a' : Value) (w : World) (hf : Lay.rep w (Lt w.heap.size) s.frames [u]) (he : Lay.rep w (Lt w.heap.size) s.events [e]) (ha : Lay.rep w (Lt w.heap.size) s.answers [a])
    (hf' : Lay.rep w (Lt w.heap.size) s.frames [u']) (he' : Lay.rep w (Lt w.heap.size) s.events [e']) (ha' : Lay.rep w (Lt w.heap.size) s.answers [a']) :
    Calls Tryd.prog 8 #[.agg (staCells s u e a).toArray, .agg (staCells s u' e' a').toArray] w fun r w' => r = .returned (.bool true) ∧ Below w.heap.size w w' := by
  obtain ⟨A, c, rfl, hc, hm, hx⟩ := rep_frames_at hf
  obtain ⟨A', c', rfl, hc', hm', hx'⟩ := rep_frames_at hf'
  unfold maxLen at hm hm'
  have HX := Lib.hid hx
  have HX' := Lib.hid hx'
  have HE := Lib.hid he
  have HE' := Lib.hid he'
  have HAN := Lib.hid ha
  have HAN' := Lib.hid ha'
  clear hx hx' hf hf' he he' ha ha'
  unfold staCells
  have HP := Lib.hid (Hp.start w)
  go_enter Tryd.func8, Tryd.ntmps8
  go_upto_region 1 with (first | (refine wpList_box_hp (o := ⟨some 2, _, _, _, _, _⟩) rfl _ _ rfl HP.out [_, _, _, _, _, _, _, _, _, _, _, _, _, _, _, _, _, _, _, _, _, _] rfl ?_; clear HP; intro g2 w2 HP; replace HP := Lib.hid HP) | (refine wpList_box_hp (o := ⟨some 3, _, _, _, _, _⟩) rfl _ _ rfl HP.out [_, _, _, _, _, _, _, _, _, _, _, _, _, _, _, _, _, _, _, _, _, _] rfl ?_; clear HP; intro g3 w3 HP; replace HP := Lib.hid HP))
  obtain ⟨AE, ce, rfl, hce, hme, -⟩ := rep_ints_at HE.out
  obtain ⟨AE', ce', rfl, hce', hme', -⟩ := rep_ints_at HE'.out
  obtain ⟨AA, ca, rfl, hca, hma, -⟩ := rep_ints_at HAN.out
  obtain ⟨AA', ca', rfl, hca', hma', -⟩ := rep_ints_at HAN'.out
  have qa0 := HP.out.cell (.tail _ (.head _)) 0 _ rfl
  have qa1 := HP.out.cell (.tail _ (.head _)) 1 _ rfl
  have qa2 := HP.out.cell (.tail _ (.head _)) 2 _ rfl
  have qa19 := HP.out.cell (.tail _ (.head _)) 19 _ rfl
  have qa20 := HP.out.cell (.tail _ (.head _)) 20 _ rfl
  have qa21 := HP.out.cell (.tail _ (.head _)) 21 _ rfl
  have qb0 := HP.out.cell (.head _) 0 _ rfl
  have qb1 := HP.out.cell (.head _) 1 _ rfl
  have qb2 := HP.out.cell (.head _) 2 _ rfl
  have qb19 := HP.out.cell (.head _) 19 _ rfl
  have qb20 := HP.out.cell (.head _) 20 _ rfl
  have qb21 := HP.out.cell (.head _) 21 _ rfl
  have hmem : ∀ w' : World, (Op.equalIn 10000 26 (.agg #[iV (s.mm 0), iV (s.mm 1), iV (s.mm 2), iV (s.mm 3), iV (s.mm 4), iV (s.mm 5), iV (s.mm 6), iV (s.mm 7), iV (s.mm 8), iV (s.mm 9), iV (s.mm 10), iV (s.mm 11), iV (s.mm 12), iV (s.mm 13), iV (s.mm 14), iV (s.mm 15)]) (.agg #[iV (s.mm 0), iV (s.mm 1), iV (s.mm 2), iV (s.mm 3), iV (s.mm 4), iV (s.mm 5), iV (s.mm 6), iV (s.mm 7), iV (s.mm 8), iV (s.mm 9), iV (s.mm 10), iV (s.mm 11), iV (s.mm 12), iV (s.mm 13), iV (s.mm 14), iV (s.mm 15)])).run Tryd.prog w' = .ok true w' := fun w' => eq_mem _ _ _ _ _ _ _ _ _ _ _ _ _ _ _ _ w'
  have HM := Lib.hid ((HP.out.blkAt (.tail _ (.head _)) 3).take 16)
  have HM' := Lib.hid ((HP.out.blkAt (.head _) 3).take 16)
  simp only [List.drop_succ_cons, List.drop_zero, List.take_succ_cons, List.take_zero] at HM HM'
  go_upto_region 2 with (first | (refine wpList_load_w rfl 26 _ rfl _ rfl _ _ HM.out Tryd.underlying26 rfl (by kernel_rfl) ?_) | (refine wpList_load_w rfl 26 _ rfl _ rfl _ _ HM'.out Tryd.underlying26 rfl (by kernel_rfl) ?_) | (go_at_call_of 21 (Value.slice AE s.events.length ce); refine (sameInts_any s.events s.events _ _ _ (HP.out.rep (F := ⟨w, Lt w.heap.size⟩) (by simp) HE.out) (HP.out.rep (F := ⟨w, Lt w.heap.size⟩) (by simp) HE'.out)).mono ?_; rintro r4 w4 ⟨rfl, hb⟩; replace HP := Lib.hid (HP.out.call0 hb); clear hb; have qa2 := HP.out.cell (.tail _ (.head _)) 2 _ rfl; have qa20 := HP.out.cell (.tail _ (.head _)) 20 _ rfl; have qa21 := HP.out.cell (.tail _ (.head _)) 21 _ rfl; have qb2 := HP.out.cell (.head _) 2 _ rfl; have qb20 := HP.out.cell (.head _) 20 _ rfl; have qb21 := HP.out.cell (.head _) 21 _ rfl;  rw [decide_eq_true rfl]) | (go_at_call_of 21 (Value.slice AA s.answers.length ca); refine (sameInts_any s.answers s.answers _ _ _ (HP.out.rep (F := ⟨w, Lt w.heap.size⟩) (by simp) HAN.out) (HP.out.rep (F := ⟨w, Lt w.heap.size⟩) (by simp) HAN'.out)).mono ?_; rintro r4 w5 ⟨rfl, hb⟩; replace HP := Lib.hid (HP.out.call0 hb); clear hb; have qa2 := HP.out.cell (.tail _ (.head _)) 2 _ rfl; have qa20 := HP.out.cell (.tail _ (.head _)) 20 _ rfl; have qa21 := HP.out.cell (.tail _ (.head _)) 21 _ rfl; have qb2 := HP.out.cell (.head _) 2 _ rfl; have qb20 := HP.out.cell (.head _) 20 _ rfl; have qb21 := HP.out.cell (.head _) 21 _ rfl;  rw [decide_eq_true rfl]))
  clear qa0 qa1 qa2 qa19 qa20 qa21 qb0 qb1 qb2 qb19 qb20 qb21 hmem
  go_loopw [5] (fun i wr => ∃ k : Nat, k ≤ s.frames.length ∧ i = .int .i64 k ∧ Hid (Hp w [{ w := w, S := Lt w.heap.size }] [Res.blk g3 29 (staCells s (.slice A' s.frames.length c') (.slice AE' s.events.length ce') (.slice AA' s.answers.length ca')), Res.blk g2 29 (staCells s (.slice A s.frames.length c) (.slice AE s.events.length ce) (.slice AA s.answers.length ca))] wr)) (fun i _ => s.frames.length - (intOf i).toNat)
  case atStart => exact ⟨0, by omega, rfl, HP⟩
  case round =>
    clear HP HM HM'
    obtain ⟨k, hk, rfl, HP⟩ := hrel
    obtain ⟨wk, rfl⟩ : ∃ wk : World, wk = wr := ⟨_, rfl⟩
    have qa2 := HP.out.cell (.tail _ (.head _)) 2 (.slice A s.frames.length c) rfl
    have qb2 := HP.out.cell (.head _) 2 (.slice A' s.frames.length c') rfl
    by_cases hlt : k < s.frames.length
    · obtain ⟨a1, rfl, hab1, hat1⟩ := HX.out k hlt
      obtain ⟨a2, rfl, hab2, hat2⟩ := HX'.out k hlt
      obtain ⟨x, hx⟩ : ∃ x, s.frames[k] = x := ⟨_, rfl⟩
      rw [hx] at hat1 hat2
      have H1 := Lib.hid (HP.out.at_ (F := ⟨w, Lt w.heap.size⟩) (.head _) hat1 (by rw [block_of_add]; exact hab1))
      have H2 := Lib.hid (HP.out.at_ (F := ⟨w, Lt w.heap.size⟩) (.head _) hat2 (by rw [block_of_add]; exact hab2))
      have hfrm : ∀ w' : World, (Op.equalIn 10000 39 (.agg (frmCells x).toArray) (.agg (frmCells x).toArray)).run Tryd.prog w' = .ok true w' := fun w' => eq_frm x w'
      have hlt2 : (k : Int) < (s.frames.length : Int) := by omega
      clear hx hat1 hat2
      go_upto_region 6 with fail
      have hcf1 : ({ wk with drawn := wk.drawn + 1 } : World).cell? ⟨g2, 2, none⟩ = some (.slice (some a1) s.frames.length c) := HP.out.cell (.tail _ (.head _)) 2 _ rfl
      have hcf2 : ({ wk with drawn := wk.drawn + 1 } : World).cell? ⟨g3, 2, none⟩ = some (.slice (some a2) s.frames.length c') := HP.out.cell (.head _) 2 _ rfl
      refine wp_region_still_tail 10 (by kernel_rfl) (by kernel_rfl) ?_
      simp only [List.take_succ_cons, List.take_zero, List.drop_succ_cons, List.drop_zero]
      repeat (first | (refine wpStill_load_at rfl 39 _ rfl _ rfl _ _ (At.drew H1.out) Tryd.underlying39 rfl (by kernel_rfl) ?_) | (refine wpStill_load_at rfl 39 _ rfl _ rfl _ _ (At.drew H2.out) Tryd.underlying39 rfl (by kernel_rfl) ?_) | still_step)
      try refine wpStill_nil ?_
      clear hcf1 hcf2 qa2 qb2
      replace HP := Lib.hid HP.out.drew
      go_wp2_with fail
      go_roundw
      case rel => exact ⟨k + 1, by omega, by go_num, HP⟩
      case measure => simp [intOf]; omega
    · obtain rfl : k = s.frames.length := by omega
      go_wp2_with fail
      go_ret
      exact ⟨rfl, HP.out.below⟩
end Go.Proofs.YtceilfmfidmfpaaDoor
