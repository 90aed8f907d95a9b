/- step.Walk, as far as a run goes. -/
import Derived.Test.YtfhoffpdodjfeaaDoorNext
import Derived.Test.YtfhoffpdodjfeaaDoorMgReadsHReadsKRunLawRunLawB4
set_option linter.unusedSimpArgs false
set_option linter.unusedVariables false
namespace Go.Proofs.YtfhoffpdodjfeaaDoor
open Go.RowKit Plain64
attribute [local irreducible] wpList Code.wp Oper.wp
theorem runOk_small {p : Prg} {s : Sta} (h : RunOk p s) : SmallS s := by
  have h1 := h.len
  have h2 := h.fuel
  have h3 := h.ans
  have h4 := h.ev
  exact ⟨by omega, by omega, by omega⟩
set_option maxRecDepth 100000 in
set_option maxHeartbeats 10000000 in
theorem Walk_any (p : Prg) (v : Value) (s : Sta) (u e a : Value) (w : World) (hp : Lay.rep w (Lt w.heap.size) p [v]) (hf : Lay.rep w (Lt w.heap.size) s.frames [u]) (he : Lay.rep w (Lt w.heap.size) s.events [e]) (ha : Lay.rep w (Lt w.heap.size) s.answers [a]) (hz : stateFault p s = 0) (hrun : RunOk p s) (him : ∀ f ∈ p.funcs, ∀ x ∈ f.code, I64 x.imm) (hh : Has w) :
    Calls Tryd.prog 64 #[.agg #[v], .agg (staCells s u e a).toArray, .int .i64 10001] w fun r w' => ∃ u' e' a', r = .returned (.tuple #[.agg (staCells (endS p s) u' e' a').toArray, .int .i64 0]) ∧ Lay.rep w' (Fresh w w') (endS p s).frames [u'] ∧ Lay.rep w' (Fresh w w') (endS p s).events [e'] ∧ Lay.rep w' (Fresh w w') (endS p s).answers [a'] ∧ Below w.heap.size w w' := by
  obtain ⟨A, c, rfl, hc, hm, -⟩ := rep_prg_at hp
  obtain ⟨A2, c2, rfl, hc2, hm2, -⟩ := rep_frames_at hf
  obtain ⟨AE, ce, rfl, hce, hme, -⟩ := rep_ints_at he
  obtain ⟨AA, ca, rfl, hca, hma, -⟩ := rep_ints_at ha
  unfold maxLen at hm hm2 hme hma
  have HR := Lib.hid hp
  have HF := Lib.hid hf
  have HE := Lib.hid he
  have HA := Lib.hid ha
  have HH := Lib.hid hh
  clear hp hf he ha hh
  have HP := Lib.hid (Hp.start w)
  unfold staCells
  obtain ⟨hlf, hle, hla⟩ := runOk_small hrun
  have HZ := Lib.hid hz
  have HRUN := Lib.hid hrun
  have HIM := Lib.hid him
  clear hz hrun him
  go_enter Tryd.func64, Tryd.ntmps64
  go_upto_region 6 with (first | (refine wpList_alloc_hp (o := ⟨some 6, _, _, _, _, _⟩) rfl _ rfl HP.out (.agg #[.int .i64 0, .int .i64 0, .slice none 0 0, .int .i64 0, .int .i64 0, .int .i64 0, .int .i64 0, .int .i64 0, .int .i64 0, .int .i64 0, .int .i64 0, .int .i64 0, .int .i64 0, .int .i64 0, .int .i64 0, .int .i64 0, .int .i64 0, .int .i64 0, .int .i64 0, .int .i64 0, .slice none 0 0, .slice none 0 0]) (by kernel_rfl) [_, _, _, _, _, _, _, _, _, _, _, _, _, _, _, _, _, _, _, _, _, _] rfl ?_; clear HP; intro g6 w6 HP; replace HP := Lib.hid HP) | (refine wpList_box_hp (o := ⟨some 3, _, _, _, _, _⟩) rfl _ _ rfl HP.out [_] rfl ?_; clear HP; intro g3 w3 HP; replace HP := Lib.hid HP) | (refine wpList_box_hp (o := ⟨some 4, _, _, _, _, _⟩) rfl _ _ rfl HP.out [_, _, _, _, _, _, _, _, _, _, _, _, _, _, _, _, _, _, _, _, _, _] rfl ?_; clear HP; intro g4 w4 HP; replace HP := Lib.hid HP) | (refine wpList_ldR0 rfl 24 _ rfl HP.out rfl Tryd.underlying24 rfl (by kernel_rfl) ?_) | (refine wpList_ldR1 rfl 24 _ rfl HP.out rfl Tryd.underlying24 rfl (by kernel_rfl) ?_) | (refine wpList_ldR2 rfl 24 _ rfl HP.out rfl Tryd.underlying24 rfl (by kernel_rfl) ?_) | (refine wpList_ldR0 rfl 29 _ rfl HP.out rfl Tryd.underlying29 rfl (by kernel_rfl) ?_) | (refine wpList_ldR1 rfl 29 _ rfl HP.out rfl Tryd.underlying29 rfl (by kernel_rfl) ?_) | (refine wpList_ldR2 rfl 29 _ rfl HP.out rfl Tryd.underlying29 rfl (by kernel_rfl) ?_) | (go_at_call 59; refine (stepCheck_any p _ s _ _ _ _ (HP.out.rep (F := ⟨w, Lt w.heap.size⟩) (by simp) HR.out) (HP.out.rep (F := ⟨w, Lt w.heap.size⟩) (by simp) HF.out) (HP.out.rep (F := ⟨w, Lt w.heap.size⟩) (by simp) HE.out) (HP.out.rep (F := ⟨w, Lt w.heap.size⟩) (by simp) HA.out) (HH.out.keep HP.out.below rfl)).mono ?_; rintro e w4 ⟨rfl, hb⟩; replace HP := Lib.hid (HP.out.call0 hb); clear hb; rw [HZ.out]))
  replace HP := Lib.hid HP.out.drew
  refine wp_region_held_drew (S := fun w' => At w' ⟨g3, 0, none⟩ [.slice A p.funcs.length c] ∧ At w' ⟨g4, 0, none⟩ (staCells s (.slice A2 s.frames.length c2) (.slice AE s.events.length ce) (.slice AA s.answers.length ca))) (by kernel_rfl) ⟨HP.out.blkAt (.tail _ (.tail _ (.head _))) 0, HP.out.blkAt (.tail _ (.head _)) 0⟩ (fun hHeld => ?_)
  have HS0 := Lib.hid hHeld
  clear hHeld
  (try simp only [Act.put, List.setIfInBounds_toArray, List.set_cons_zero, List.set_cons_succ])
  refine wpAnyH_row (i := 0) rfl (by kernel_rfl) (by kernel_rfl) (by kernel_rfl) (fun _ _ _ _ h => h) rfl 29 _ rfl _ rfl _ _ (fun _ h => h.2) Tryd.underlying29 rfl (by kernel_rfl) HS0.out ?_
  (try simp only [List.getElem_toArray, List.getElem_cons_succ, List.getElem_cons_zero, Act.put, List.setIfInBounds_toArray, List.set_cons_zero, List.set_cons_succ])
  refine wpAnyH_row (i := 2) rfl (by kernel_rfl) (by kernel_rfl) (by kernel_rfl) (fun _ _ _ _ h => h) rfl 24 _ rfl _ rfl _ _ (fun _ h => h.1) Tryd.underlying24 rfl (by kernel_rfl) HS0.out ?_
  (try simp only [List.getElem_toArray, List.getElem_cons_succ, List.getElem_cons_zero, Act.put, List.setIfInBounds_toArray, List.set_cons_zero, List.set_cons_succ])
  refine wpAnyH_ready (rs := [1]) (by kernel_rfl) (by simp) ?_
  refine AllReadyH.cons rfl (fun K hK => ?_) AllReadyH.nil
  go_simp
  refine (own_own s _ _ _ _ (HP.out.rep (F := ⟨w, Lt w.heap.size⟩) (by simp) HF.out) (HP.out.rep (F := ⟨w, Lt w.heap.size⟩) (by simp) HE.out) (HP.out.rep (F := ⟨w, Lt w.heap.size⟩) (by simp) HA.out) hlf hle hla).mono ?_
  rintro r1 w5 ⟨u5, e5, a5, rfl, hb5⟩
  obtain ⟨A5, c5, rfl, hc5, hm5, -⟩ := rep_frames_at (hb5.rowFrames (.head _) rfl)
  obtain ⟨A6, c6, rfl, hc6, hm6, -⟩ := rep_ints_at (hb5.rowInts (.tail _ (.head _)) rfl)
  obtain ⟨A7, c7, rfl, hc7, hm7, -⟩ := rep_ints_at (hb5.rowInts (.tail _ (.tail _ (.head _))) rfl)
  replace HP := Lib.hid (by simpa only [List.cons_append, List.nil_append] using HP.out.takeEnd hb5)
  clear hb5
  dsimp only
  refine hK.out _ _ ⟨HP.out.blkAt (.tail _ (.tail _ (.head _))) 0, HP.out.blkAt (.tail _ (.head _)) 0⟩ (fun hHeld => ?_)
  clear hK K hHeld
  (try simp only [List.getElem_toArray, List.getElem_cons_succ, List.getElem_cons_zero, Act.put, List.setIfInBounds_toArray, List.set_cons_zero, List.set_cons_succ])
  refine wpAnyH_ready (rs := [3]) (by kernel_rfl) (by simp) ?_
  refine AllReadyH.cons rfl (fun K hK => ?_) AllReadyH.nil
  simp only [staCells]
  go_simp
  refine hK.out _ _ ⟨HP.out.blkAt (.tail _ (.tail _ (.head _))) 0, HP.out.blkAt (.tail _ (.head _)) 0⟩ (fun hHeld => ?_)
  clear hK K hHeld
  (try simp only [List.getElem_toArray, List.getElem_cons_succ, List.getElem_cons_zero, Act.put, List.setIfInBounds_toArray, List.set_cons_zero, List.set_cons_succ])
  refine wpAnyH_ready (rs := [4]) (by kernel_rfl) (by simp) ?_
  refine AllReadyH.cons rfl (fun K hK => ?_) AllReadyH.nil
  refine wanted_only rfl ?_
  refine wpList_box_hp rfl _ _ rfl HP.out (engCells s (.slice A5 s.frames.length c5) (.slice A6 s.events.length c6) (.slice A7 s.answers.length c7) (.slice A p.funcs.length c)) rfl ?_
  clear HP
  intro ge we HP
  replace HP := Lib.hid HP
  refine wpList_nil ?_
  refine hK.out _ _ ⟨HP.out.blkAt (.tail _ (.tail _ (.tail _ (.head _)))) 0, HP.out.blkAt (.tail _ (.tail _ (.head _))) 0⟩ (fun hHeld => ?_)
  clear hK K hHeld
  (try simp only [List.getElem_toArray, List.getElem_cons_succ, List.getElem_cons_zero, Act.put, List.setIfInBounds_toArray, List.set_cons_zero, List.set_cons_succ])
  refine wpAnyH_ready (rs := [5]) (by kernel_rfl) (by simp) ?_
  refine AllReadyH.cons rfl (fun K hK => ?_) AllReadyH.nil
  go_simp
  refine hK.out _ _ ⟨HP.out.blkAt (.tail _ (.tail _ (.tail _ (.head _)))) 0, HP.out.blkAt (.tail _ (.tail _ (.head _))) 0⟩ (fun hHeld => ?_)
  clear hK K hHeld
  (try simp only [List.getElem_toArray, List.getElem_cons_succ, List.getElem_cons_zero, Act.put, List.setIfInBounds_toArray, List.set_cons_zero, List.set_cons_succ])
  clear HS0
  refine wpAnyH_done (by kernel_rfl) ?_ _
  (try simp only [List.getElem_toArray, List.getElem_cons_succ, List.getElem_cons_zero, Act.put, List.setIfInBounds_toArray, List.set_cons_zero, List.set_cons_succ])
  replace HP := Lib.hid ((HP.out.drop (A := [_, _])).drop (A := [_, _]))
  simp only [List.cons_append, List.nil_append] at HP
  have HAI := Lib.hid (HP.out.rowIntsIn (v := .slice A7 s.answers.length c7) (.tail _ (.tail _ (.tail _ (.tail _ (.head _))))) rfl)
  have HRP := Lib.hid (HP.out.repMore (.head _) HR.out (S := fun b => Lt w.heap.size b ∨ (Res.row (.slice A7 s.answers.length c7) 3 1 s.answers.length (s.answers.map (Value.int .i64))).foot = some b) (fun b hb => .inl hb))
  have HAG := Lib.hid (Lay.more (S' := fun b => Lt w.heap.size b ∨ (Res.row (.slice A7 s.answers.length c7) 3 1 s.answers.length (s.answers.map (Value.int .i64))).foot = some b) (fun b hb => .inr hb) HAI.out)
  clear HAI
  replace HP := Lib.hid (eng_own (s := s) HP.out rfl)
  go_wp2
  go_loopw [2] (fun n wr => ∃ (k : Nat) (t : Sta) (F E A9 : Value), n = .int .i64 k ∧ k ≤ 10001 ∧ Hid (RunOk p t ∧ endS p t = endS p s ∧ (t.status = 0 → t.fuel + 1 ≤ k)) ∧ Hid (Lay.rep (⟨we, fun b => Lt w.heap.size b ∨ (Res.row (.slice A7 s.answers.length c7) 3 1 s.answers.length (s.answers.map (Value.int .i64))).foot = some b⟩ : Fro).w (⟨we, fun b => Lt w.heap.size b ∨ (Res.row (.slice A7 s.answers.length c7) 3 1 s.answers.length (s.answers.map (Value.int .i64))).foot = some b⟩ : Fro).S t.answers [A9]) ∧ Hid (Hp w [⟨we, fun b => Lt w.heap.size b ∨ (Res.row (.slice A7 s.answers.length c7) 3 1 s.answers.length (s.answers.map (Value.int .i64))).foot = some b⟩] [.blk ge 92 (engCells t F E A9 (.slice A p.funcs.length c)), .row F 75 14 t.frames.length (t.frames.flatMap frmCells), .row E 3 1 t.events.length (t.events.map (Value.int .i64)), .blk g6 29 [iV 0, iV 0, .slice none 0 0, iV 0, iV 0, iV 0, iV 0, iV 0, iV 0, iV 0, iV 0, iV 0, iV 0, iV 0, iV 0, iV 0, iV 0, iV 0, iV 0, iV 0, .slice none 0 0, .slice none 0 0]] wr)) (fun n _ => (intOf n).toNat)
  case atStart => exact ⟨10001, s, _, _, _, rfl, by omega, Lib.hid ⟨HRUN.out, rfl, fun _ => by have := HRUN.out.fuel; omega⟩, HAG, HP⟩
  case round =>
    clear HP HAG
    obtain ⟨k, t, F, E, A9, rfl, hk1, HI, HAG, HP⟩ := hrel
    obtain ⟨wo, rfl⟩ : ∃ wo : World, wo = wr := ⟨_, rfl⟩
    by_cases hst : t.status = 0
    · obtain ⟨fs, f, hfr⟩ := frames_last (HI.out.1.top hst)
      have hkf := HI.out.2.2 hst
      have hfu := HI.out.1.fuel
      have hk0 : 0 < k := by omega
      have hkb : decide ((0 : Int) < (k : Int)) = true := decide_eq_true (by omega)
      have hkb2 : decide (0 < k) = true := decide_eq_true hk0
      have hsb : (t.status == 0) = true := by simpa using hst
      have HST := Lib.hid hst
      have HFR := Lib.hid hfr
      have HN := Lib.hid (HI.out.1.nextOf (sf_zero HZ.out).1 HIM.out hfr)
      have HEN := Lib.hid ((endS_next hfr hst hfu.1).symm.trans HI.out.2.1)
      have HNF := Lib.hid (fun h => next_fuel (p := p) (s := t) (fs := fs) (f := f) h)
      have HK1 := Lib.hid hkf
      have HSM := Lib.hid (runOk_small HI.out.1)
      clear hst hfr hkf
      unfold engCells at HP
      have cg := HP.out.cell (.head _) 0 _ rfl
      go_wp2_with (first | (refine wpList_ld0 rfl 3 _ rfl HP.out rfl rfl Tryd.underlying3 rfl ?_) | (go_at_call 61; refine (gnext_any t fs f HFR.out _ _ _ _ ge p w _ _ _ HI.out.1.len (by have := HSM.out.2.1; have := HI.out.1.ev; have := HI.out.1.fuel; omega) HI.out.1.fuel (okP_of (proven_prg (sf_zero HZ.out).1)) (fun g hg => rch_own (HI.out.1.rch g hg)) ⟨we, fun b => Lt w.heap.size b ∨ (Res.row (.slice A7 s.answers.length c7) 3 1 s.answers.length (s.answers.map (Value.int .i64))).foot = some b⟩ (.head _) HRP.out HAG.out HP.out).mono ?_; clear HP cg; rintro r6 w6 ⟨rfl, F', E', A', hA', HP⟩; replace HP := Lib.hid HP; replace HAG := Lib.hid hA'; clear hA'))
      go_roundw
      case rel =>
        refine ⟨k - 1, nextOf p t fs f, F', E', A', ?_, by omega, Lib.hid ⟨HN.out, HEN.out, fun h => ?_⟩, HAG, HP⟩
        · congr 1; omega
        · have h1 := HNF.out h
          have h2 := HK1.out
          omega
      case measure => simp [intOf]; omega
    · have hend : t = endS p s := by rw [← HI.out.2.1, endS_done p hst]
      have hsb : (t.status == 0) = false := by simpa using hst
      have HB := Lib.hid (runOk_small HI.out.1)
      have HEND := Lib.hid hend
      clear hst hend
      unfold engCells at HP
      have cg := HP.out.cell (.head _) 0 _ rfl
      rw [← HEND.out]
      by_cases hk0 : 0 < k
      · have hkb : decide ((0 : Int) < (k : Int)) = true := decide_eq_true (by omega)
        have hkb2 : decide (0 < k) = true := decide_eq_true hk0
        go_upto_region 10 with (fail)
        clear cg
        have HROW := Lib.hid (At.left (cs := staCells t F E A9) (ds := [.slice A p.funcs.length c]) (HP.out.blkAt (.head _) 0))
        go_wp2_with (first | (refine wpList_load_at rfl 29 _ rfl _ rfl _ _ HROW.out Tryd.underlying29 rfl (by kernel_rfl) ?_) | (go_at_call 60; refine (own_own t _ _ _ _ (Lay.more fresh_lt (HP.out.rowFrames (.tail _ (.head _)) rfl)) (Lay.more fresh_lt (HP.out.rowInts (.tail _ (.tail _ (.head _))) rfl)) (HP.out.rep (.head _) HAG.out) HB.out.1 HB.out.2.1 HB.out.2.2).mono ?_; rintro r7 w7 ⟨u7, e7, a7, rfl, hb7⟩; replace HP := Lib.hid (by simpa only [List.cons_append, List.nil_append] using HP.out.takeEnd hb7); clear hb7) | (refine wpList_stR3 rfl 29 _ _ rfl HP.out rfl (cs' := staCells t u7 e7 a7) rfl rfl (sta_one (HP.out.rowOne _ (.tail _ (.tail _ (.tail _ (.tail _ (.head _)))))) (HP.out.rowOne _ (.tail _ (.tail _ (.tail _ (.tail _ (.tail _ (.head _))))))) (HP.out.rowOne _ (.tail _ (.tail _ (.tail _ (.tail _ (.tail _ (.tail _ (.head _))))))))) (by kernel_rfl) ?_; clear HP; intro wst HP; replace HP := Lib.hid HP))
        skip
        refine bodyPost_ret (results_cell_row_tmp2 rfl _ _ g6 29 (staCells t u7 e7 a7).toArray (0, 0) _ rfl (HP.out.blk (.tail _ (.tail _ (.tail _ (.head _))))) Tryd.underlying29 rfl (by kernel_rfl)) rfl ⟨u7, e7, a7, by first | rfl | (rw [← HEND.out]; rfl), HP.out.rowFrames (.tail _ (.tail _ (.tail _ (.tail _ (.head _))))) (by first | rfl | rw [← HEND.out]), HP.out.rowInts (.tail _ (.tail _ (.tail _ (.tail _ (.tail _ (.head _)))))) (by first | rfl | rw [← HEND.out]), HP.out.rowInts (.tail _ (.tail _ (.tail _ (.tail _ (.tail _ (.tail _ (.head _))))))) (by first | rfl | rw [← HEND.out]), HP.out.below⟩
      · have hkb : decide ((0 : Int) < (k : Int)) = false := decide_eq_false (by omega)
        have hkb2 : decide (0 < k) = false := decide_eq_false hk0
        go_upto_region 10 with (fail)
        clear cg
        have HROW := Lib.hid (At.left (cs := staCells t F E A9) (ds := [.slice A p.funcs.length c]) (HP.out.blkAt (.head _) 0))
        go_wp2_with (first | (refine wpList_load_at rfl 29 _ rfl _ rfl _ _ HROW.out Tryd.underlying29 rfl (by kernel_rfl) ?_) | (go_at_call 60; refine (own_own t _ _ _ _ (Lay.more fresh_lt (HP.out.rowFrames (.tail _ (.head _)) rfl)) (Lay.more fresh_lt (HP.out.rowInts (.tail _ (.tail _ (.head _))) rfl)) (HP.out.rep (.head _) HAG.out) HB.out.1 HB.out.2.1 HB.out.2.2).mono ?_; rintro r7 w7 ⟨u7, e7, a7, rfl, hb7⟩; replace HP := Lib.hid (by simpa only [List.cons_append, List.nil_append] using HP.out.takeEnd hb7); clear hb7) | (refine wpList_stR3 rfl 29 _ _ rfl HP.out rfl (cs' := staCells t u7 e7 a7) rfl rfl (sta_one (HP.out.rowOne _ (.tail _ (.tail _ (.tail _ (.tail _ (.head _)))))) (HP.out.rowOne _ (.tail _ (.tail _ (.tail _ (.tail _ (.tail _ (.head _))))))) (HP.out.rowOne _ (.tail _ (.tail _ (.tail _ (.tail _ (.tail _ (.tail _ (.head _))))))))) (by kernel_rfl) ?_; clear HP; intro wst HP; replace HP := Lib.hid HP))
        skip
        refine bodyPost_ret (results_cell_row_tmp2 rfl _ _ g6 29 (staCells t u7 e7 a7).toArray (0, 0) _ rfl (HP.out.blk (.tail _ (.tail _ (.tail _ (.head _))))) Tryd.underlying29 rfl (by kernel_rfl)) rfl ⟨u7, e7, a7, by first | rfl | (rw [← HEND.out]; rfl), HP.out.rowFrames (.tail _ (.tail _ (.tail _ (.tail _ (.head _))))) (by first | rfl | rw [← HEND.out]), HP.out.rowInts (.tail _ (.tail _ (.tail _ (.tail _ (.tail _ (.head _)))))) (by first | rfl | rw [← HEND.out]), HP.out.rowInts (.tail _ (.tail _ (.tail _ (.tail _ (.tail _ (.tail _ (.head _))))))) (by first | rfl | rw [← HEND.out]), HP.out.below⟩
end Go.Proofs.YtfhoffpdodjfeaaDoor
