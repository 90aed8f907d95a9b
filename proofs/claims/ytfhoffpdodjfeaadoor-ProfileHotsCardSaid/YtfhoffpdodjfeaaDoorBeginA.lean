/- step.Begin. -/
import Derived.Test.YtfhoffpdodjfeaaDoorMgCloneCloneFOwnInts4
import Derived.Test.YtfhoffpdodjfeaaDoorCopyHp
import Derived.Laws.ResultCell
import Derived.Test.YtfhoffpdodjfeaaDoorMgHeldHeldB2
import Derived.Test.YtfhoffpdodjfeaaDoorMgBegLawNextAnsRunLawRunLawBBegRun5
import Derived.Test.YtfhoffpdodjfeaaDoorMgSureTProvenProvenB3
import Derived.Test.YtfhoffpdodjfeaaDoorMgSureRunProvenLawStateLawWrapS4
import Derived.Test.YtfhoffpdodjfeaaDoorMgReadsOfStateNextLaw3
import Derived.Test.YtfhoffpdodjfeaaDoorMgHotLawCopy2
set_option linter.unusedSimpArgs false
set_option linter.unusedVariables false
namespace Go.Proofs.YtfhoffpdodjfeaaDoor
open Go.RowKit Plain64
attribute [local irreducible] wpList Code.wp Oper.wp
theorem results_cell_row_tmp {P : Program} {fn : Func} {p u : Tmp} {ty : TypeId} (h : fn.results = #[.cell p ty, .tmp u]) (tmps : Array Value) (w : World) (g : Nat) (t : TypeId) (cs : Array Value) (fr : Nat × Nat) (d : TypeDesc)
    (hp : tmps.getD p undef = .pointer (some ⟨g, 0, none⟩)) (hg : w.heap[g]? = some (.cells cs t fr))
    (hu : P.underlying ty = some d) (hd : (match d with | .struct _ | .array _ _ => true | _ => false) = true) (hi : (P.info? ty).map (·.size) = some cs.size) :
    (results fn tmps).run P w = .ok (.tuple #[.agg cs, tmps.getD u undef]) w := by
  rw [results_cell_tmp h, hp]
  simp [asAddr, run_loadVar_row w g t ty cs fr d hg hu hd hi, Result.andThen]
theorem rep_frames_nil {w : World} {S : Nat → Prop} : Lay.rep w S ([] : List Frm) [.slice none 0 0] := ⟨none, 0, rfl, Nat.le_refl _, by unfold maxLen; omega, fun k x h => by simp at h⟩
set_option maxRecDepth 10000 in
set_option maxHeartbeats 4000000 in
theorem Begin_any (p : Prg) (v : Value) (xs ys : List Int) (u1 u2 : Value) (fuel : Int) (w : World) (hp : Lay.rep w (Lt w.heap.size) p [v]) (hx : Lay.rep w (Lt w.heap.size) xs [u1]) (hy : Lay.rep w (Lt w.heap.size) ys [u2]) (hh : Has w) :
    Calls Tryd.prog 14 #[.agg #[v], u1, u2, .int .i64 fuel] w fun r w' => ∃ u e a, r = .returned (.tuple #[.agg (staCells (begunAns p xs ys fuel).1 u e a).toArray, .int .i64 (begunAns p xs ys fuel).2]) ∧ Lay.rep w' (Fresh w w') (begunAns p xs ys fuel).1.frames [u] ∧ Lay.rep w' (Fresh w w') (begunAns p xs ys fuel).1.events [e] ∧ Lay.rep w' (Fresh w w') (begunAns p xs ys fuel).1.answers [a] ∧ Below w.heap.size w w' := by
  obtain ⟨A, c, rfl, hc, hm, hx'⟩ := rep_prg_at hp
  obtain ⟨A1, c1, rfl, hc1, hm1, hx1⟩ := rep_ints_at hx
  obtain ⟨A2, c2, rfl, hc2, hm2, hx2⟩ := rep_ints_at hy
  unfold maxLen at hm hm1 hm2
  have HX := Lib.hid hx'
  have HX1 := Lib.hid hx1
  have HX2 := Lib.hid hx2
  have HR := Lib.hid hp
  have HRX := Lib.hid hx
  have HRY := Lib.hid hy
  have HH := Lib.hid hh
  clear hx' hp hh hx hy hx1 hx2
  have HP := Lib.hid (Hp.start w)
  by_cases hz : proven p = 0
  · have HZ := Lib.hid hz
    clear hz
    go_enter Tryd.func14, Tryd.ntmps14
    go_upto_region 2 with (first | (refine wpList_alloc_hp (o := ⟨some 8, _, _, _, _, _⟩) rfl _ rfl HP.out (.agg #[.int .i64 0, .int .i64 0, .slice none 0 0, .int .i64 0, .int .i64 0, .int .i64 0, .int .i64 0, .int .i64 0, .int .i64 0, .int .i64 0, .int .i64 0, .int .i64 0, .int .i64 0, .int .i64 0, .int .i64 0, .int .i64 0, .int .i64 0, .int .i64 0, .int .i64 0, .int .i64 0, .slice none 0 0, .slice none 0 0]) (by kernel_rfl) [_, _, _, _, _, _, _, _, _, _, _, _, _, _, _, _, _, _, _, _, _, _] rfl ?_; clear HP; intro g8 w8 HP; replace HP := Lib.hid HP) | (refine wpList_box_hp (o := ⟨some 4, _, _, _, _, _⟩) rfl _ _ rfl HP.out [_] rfl ?_; clear HP; intro g4 w4 HP; replace HP := Lib.hid HP) | (refine wpList_ldR0 rfl 24 _ rfl HP.out rfl Tryd.underlying24 rfl (by kernel_rfl) ?_) | (refine wpList_ldR1 rfl 24 _ rfl HP.out rfl Tryd.underlying24 rfl (by kernel_rfl) ?_) | (go_at_call 44; refine (proofCheck_any p _ _ (HP.out.rep (F := ⟨w, Lt w.heap.size⟩) (by simp) HR.out) (HH.out.keep HP.out.below rfl)).mono ?_; rintro e w4 ⟨rfl, hb⟩; replace HP := Lib.hid (HP.out.call0 hb); clear hb; rw [HZ.out]))
    obtain ⟨n1, n2⟩ := (okP_of (proven_prg HZ.out)).len
    obtain ⟨ad, vc, rfl, hab, hat, hcode⟩ := HX.out 0 (by omega)
    obtain ⟨f0, hf0⟩ : ∃ f0, p.funcs[0] = f0 := ⟨_, rfl⟩
    have HF0 := Lib.hid hf0
    have HOF := Lib.hid ((okP_of (proven_prg HZ.out)).fns f0 (hf0 ▸ List.getElem_mem _))
    obtain ⟨p1, p2, p3⟩ := HOF.out.params
    have HFG := Lib.hid (show ((p.funcs[0]?).map Fun.params).getD 0 = f0.params by rw [List.getElem?_eq_getElem (by omega), hf0]; rfl)
    rw [hf0] at hat
    clear hf0 hcode
    have hfs := HP.out.cell (.tail _ (.head _)) 0 _ rfl
    have hpar := (HP.out.at_ (F := ⟨w, Lt w.heap.size⟩) (.head _) hat (by rw [block_of_add]; exact hab)).fld0 rfl
    have h00 : ad.add (0 * 3) = ad := by rw [Nat.zero_mul]; simp [Addr.add]
    rw [h00] at hpar
    clear hat hab h00
    by_cases h1 : (xs.length : Int) = f0.params
    · have hb1 : ((xs.length : Int) != f0.params) = false := by simpa using h1
      have H1 := Lib.hid h1
      clear h1
      by_cases h2 : ys.length ≤ 100
      · have hb2 : decide (100 < (ys.length : Int)) = false := decide_eq_false (by omega)
        by_cases h3 : 0 ≤ fuel ∧ fuel ≤ 10000
        · have HANS := Lib.hid (show begunAns p xs ys fuel = (begS xs ys fuel, 0) by
            unfold begunAns
            rw [if_neg (by simpa using HZ.out), if_neg (by rw [HFG.out]; exact fun h => h.elim (fun h => h H1.out) (fun h => by omega)), if_neg (by omega)])
          obtain ⟨h3, h4⟩ := h3
          have hl3 : xs.length ≤ 2 := by have := H1.out; omega
          have HSRC : Hid (∀ (j : Nat) (v : Value), (List.map (Value.int IntKind.i64) xs)[j]? = some v → ∃ a, A1 = some a ∧ Lt w.heap.size a.block ∧ w.cell? (a.add j) = some v) := Lib.hid (fun j v hv => by
            rw [List.getElem?_map] at hv
            cases hj : xs[j]? with
            | none => rw [hj] at hv; cases hv
            | some y =>
              rw [hj] at hv; cases hv
              obtain ⟨hjl, rfl⟩ := List.getElem?_eq_some_iff.1 hj
              exact HX1.out j hjl)
          have HCPY : Hid (∀ (w1 : World) (L : List Res), Hp w [{ w := w, S := Lt w.heap.size }] L w1 → 0 < (List.map (Value.int IntKind.i64) xs).length → ∃ a, A1 = some a ∧ ∀ j v, (List.map (Value.int IntKind.i64) xs)[j]? = some v → w1.cell? (a.add j) = some v) := Lib.hid (fun w1 L hH h0 => by
            obtain ⟨a, ha, -, -⟩ := HSRC.out 0 _ (List.getElem?_eq_getElem h0)
            refine ⟨a, ha, fun j v hv => ?_⟩
            obtain ⟨a', ha', hl', hc'⟩ := HSRC.out j v hv
            rw [ha] at ha'; cases ha'
            exact (hH.alike (F := ⟨w, Lt w.heap.size⟩) (.head _) (a.add j) (by rw [block_of_add]; exact hl')).trans hc')
          go_upto_region 10 with (first | (refine wpList_alloc_hp (o := ⟨some 11, _, _, _, _, _⟩) rfl _ rfl HP.out (.agg #[.int .i64 0, .int .i64 0, .int .i64 0, .int .i64 0, .int .i64 0, .int .i64 0, .int .i64 0, .int .i64 0, .int .i64 0, .int .i64 0, .int .i64 0, .int .i64 0, .int .i64 0, .int .i64 0]) (by kernel_rfl) [_, _, _, _, _, _, _, _, _, _, _, _, _, _] rfl ?_; clear HP; intro g11 w11 HP; replace HP := Lib.hid HP) | (refine wpList_copy_hp rfl _ _ _ _ rfl 3 Tryd.underlying25 (by kernel_rfl) HP.out rfl rfl (List.map (Value.int .i64) xs) (by rw [List.length_map]; exact (Nat.min_eq_left (by omega)).symm) (HCPY.out _ _ HP.out) (by rw [List.length_map]; show 2 + xs.length ≤ 14; omega) (by simp [Value.oneCell']) (beg_cells xs hl3) ?_; clear HP; intro wcp HP; replace HP := Lib.hid HP))
          (try simp only [Act.put, List.setIfInBounds_toArray, List.set_cons_zero, List.set_cons_succ])
          obtain ⟨x, hxf⟩ : ∃ x, begF xs = x := ⟨_, rfl⟩
          rw [hxf] at HP
          have HXF := Lib.hid hxf
          clear hxf
          have HP0 := Lib.hid HP.out.drew
          clear HP
          refine wp_region_held_drew (S := fun w' => At w' ⟨g11, 0, none⟩ (frmCells x)) (by kernel_rfl) (HP0.out.blkAt (.head _) 0) (fun hHeld => ?_)
          have HS0 := Lib.hid hHeld
          clear hHeld
          refine wpAnyH_row (i := 0) rfl (by kernel_rfl) (by kernel_rfl) (by kernel_rfl) (fun _ _ _ _ h => h) rfl 75 _ rfl _ rfl _ _ (fun _ h => h) Tryd.underlying75 rfl (by kernel_rfl) HS0.out ?_
          (try simp only [Act.put, List.setIfInBounds_toArray, List.set_cons_zero, List.set_cons_succ])
          refine wpAnyH_move (i := 2) rfl (by kernel_rfl) (by kernel_rfl) (by kernel_rfl) (fun _ _ _ _ h => h) rfl _ rfl _ rfl HS0.out ?_
          (try simp only [Act.put, List.setIfInBounds_toArray, List.set_cons_zero, List.set_cons_succ])
          refine wpAnyH_move (i := 3) rfl (by kernel_rfl) (by kernel_rfl) (by kernel_rfl) (fun _ _ _ _ h => h) rfl _ rfl _ rfl HS0.out ?_
          (try simp only [Act.put, List.setIfInBounds_toArray, List.set_cons_zero, List.set_cons_succ])
          refine wpAnyH_ready (rs := [1, 4]) (by kernel_rfl) (by simp) ?_
          refine AllReadyH.cons rfl (fun K hK => ?_) (AllReadyH.cons rfl (fun K hK => ?_) AllReadyH.nil)
          · refine wanted_only rfl ?_
            refine wpList_slice_hp rfl 26 75 1 _ rfl HP0.out Tryd.underlying26 (frmCells x).toArray (by kernel_rfl) ?_
            intro gi wi HP
            have HP1 := Lib.hid HP
            clear HP
            refine wpList_nil ?_
            refine hK.out _ _ (HP1.out.blkAt (.tail _ (.head _)) 0) (fun hHeld => ?_)
            clear hK K hHeld HP0
            (try simp only [Act.put, List.setIfInBounds_toArray, List.set_cons_zero, List.set_cons_succ])
            refine wpAnyH_ready (rs := [4]) (by kernel_rfl) (by simp) ?_
            refine AllReadyH.cons rfl (fun K hK => ?_) AllReadyH.nil
            go_simp
            go_wp2_with (go_at_call 45; refine (Clone_any ys _ _ (HP1.out.rep (F := ⟨w, Lt w.heap.size⟩) (by simp) HRY.out) (by omega)).mono ?_; rintro r1 w5 ⟨v5, rfl, hv5, hb5⟩; have HP2 := Lib.hid (HP1.out.call hb5); have HSZ := Lib.hid HP1.out.size; obtain ⟨A5, c5, rfl, hc5, hm5, -⟩ := rep_ints_at hv5; have HV5 := Lib.hid hv5; clear hb5 hv5)
            refine hK.out _ _ (HP2.out.blkAt (.tail _ (.head _)) 0) (fun hHeld => ?_)
            clear hK K hHeld HP1
            refine wpAnyH_ready (rs := [5]) (by kernel_rfl) (by simp) ?_
            refine AllReadyH.cons rfl (fun K hK => ?_) AllReadyH.nil
            go_simp
            refine hK.out _ _ (HP2.out.blkAt (.tail _ (.head _)) 0) (fun hHeld => ?_)
            clear hK K hHeld
            refine wpAnyH_ready (rs := [6]) (by kernel_rfl) (by simp) ?_
            refine AllReadyH.cons rfl (fun K hK => ?_) AllReadyH.nil
            refine wanted_only rfl ?_
            refine wpList_stR2 rfl 29 _ _ rfl HP2.out rfl (cs' := staCells (begS xs ys fuel) (.slice (some ⟨gi, 0, none⟩) 1 1) (.slice none 0 0) (.slice A5 ys.length c5)) rfl rfl (by simp [staCells, Value.oneCell']) (by kernel_rfl) ?_
            intro wst HP3
            have HP := Lib.hid HP3
            clear HP3 HP2
            refine wpList_nil ?_
            refine hK.out _ _ (HP.out.blkAt (.tail _ (.head _)) 0) (fun hHeld => ?_)
            clear hK K hHeld
            refine wpAnyH_ready (rs := [7]) (by kernel_rfl) (by simp) ?_
            refine AllReadyH.cons rfl (fun K hK => ?_) AllReadyH.nil
            go_simp
            refine hK.out _ _ (HP.out.blkAt (.tail _ (.head _)) 0) (fun hHeld => ?_)
            clear hK K hHeld
            refine wpAnyH_done (by kernel_rfl) ?_ _
            go_wp2
            rw [HANS.out]
            refine bodyPost_ret (results_cell_row_tmp rfl _ _ g8 29 (staCells (begS xs ys fuel) (.slice (some ⟨gi, 0, none⟩) 1 1) (.slice none 0 0) (.slice A5 ys.length c5)).toArray (0, 0) _ rfl (HP.out.blk (.tail _ (.tail _ (.head _)))) Tryd.underlying29 rfl (by kernel_rfl)) rfl ⟨_, _, _, rfl, ?_, rep_ints_nil, ?_, HP.out.below⟩
            · have HPr := Hp.rowOf (A := []) (n := 1) (sz := 14) HP.out rfl (by unfold maxLen; decide)
              exact HPr.rowFrames (.head _) (by rw [← HXF.out]; simp [begS])
            · exact HP.out.repMore (.head _) HV5.out (fun b hb => ⟨Nat.le_trans HSZ.out hb.1, (HP.out.fro _ (.head _) b hb).1⟩)
          · go_simp
            go_wp2_with (go_at_call 45; refine (Clone_any ys _ _ (HP0.out.rep (F := ⟨w, Lt w.heap.size⟩) (by simp) HRY.out) (by omega)).mono ?_; rintro r1 w5 ⟨v5, rfl, hv5, hb5⟩; have HP1 := Lib.hid (HP0.out.call hb5); have HSZ := Lib.hid HP0.out.size; obtain ⟨A5, c5, rfl, hc5, hm5, -⟩ := rep_ints_at hv5; have HV5 := Lib.hid hv5; clear hb5 hv5)
            refine hK.out _ _ (HP1.out.blkAt (.head _) 0) (fun hHeld => ?_)
            clear hK K hHeld HP0
            refine wpAnyH_ready (rs := [1]) (by kernel_rfl) (by simp) ?_
            refine AllReadyH.cons rfl (fun K hK => ?_) AllReadyH.nil
            refine wanted_only rfl ?_
            refine wpList_slice_hp rfl 26 75 1 _ rfl HP1.out Tryd.underlying26 (frmCells x).toArray (by kernel_rfl) ?_
            intro gi wi HP
            have HP2 := Lib.hid HP
            clear HP
            refine wpList_nil ?_
            refine hK.out _ _ (HP2.out.blkAt (.tail _ (.head _)) 0) (fun hHeld => ?_)
            clear hK K hHeld HP1
            (try simp only [Act.put, List.setIfInBounds_toArray, List.set_cons_zero, List.set_cons_succ])
            refine wpAnyH_ready (rs := [5]) (by kernel_rfl) (by simp) ?_
            refine AllReadyH.cons rfl (fun K hK => ?_) AllReadyH.nil
            go_simp
            refine hK.out _ _ (HP2.out.blkAt (.tail _ (.head _)) 0) (fun hHeld => ?_)
            clear hK K hHeld
            refine wpAnyH_ready (rs := [6]) (by kernel_rfl) (by simp) ?_
            refine AllReadyH.cons rfl (fun K hK => ?_) AllReadyH.nil
            refine wanted_only rfl ?_
            refine wpList_stR2 rfl 29 _ _ rfl HP2.out rfl (cs' := staCells (begS xs ys fuel) (.slice (some ⟨gi, 0, none⟩) 1 1) (.slice none 0 0) (.slice A5 ys.length c5)) rfl rfl (by simp [staCells, Value.oneCell']) (by kernel_rfl) ?_
            intro wst HP3
            have HP := Lib.hid HP3
            clear HP3 HP2
            refine wpList_nil ?_
            refine hK.out _ _ (HP.out.blkAt (.tail _ (.head _)) 0) (fun hHeld => ?_)
            clear hK K hHeld
            refine wpAnyH_ready (rs := [7]) (by kernel_rfl) (by simp) ?_
            refine AllReadyH.cons rfl (fun K hK => ?_) AllReadyH.nil
            go_simp
            refine hK.out _ _ (HP.out.blkAt (.tail _ (.head _)) 0) (fun hHeld => ?_)
            clear hK K hHeld
            refine wpAnyH_done (by kernel_rfl) ?_ _
            go_wp2
            rw [HANS.out]
            refine bodyPost_ret (results_cell_row_tmp rfl _ _ g8 29 (staCells (begS xs ys fuel) (.slice (some ⟨gi, 0, none⟩) 1 1) (.slice none 0 0) (.slice A5 ys.length c5)).toArray (0, 0) _ rfl (HP.out.blk (.tail _ (.tail _ (.head _)))) Tryd.underlying29 rfl (by kernel_rfl)) rfl ⟨_, _, _, rfl, ?_, rep_ints_nil, ?_, HP.out.below⟩
            · have HPr := Hp.rowOf (A := []) (n := 1) (sz := 14) HP.out rfl (by unfold maxLen; decide)
              exact HPr.rowFrames (.head _) (by rw [← HXF.out]; simp [begS])
            · exact HP.out.repMore (.head _) HV5.out (fun b hb => ⟨Nat.le_trans HSZ.out hb.1, (HP.out.fro _ (.head _) b hb).1⟩)
        · have HANS := Lib.hid (show begunAns p xs ys fuel = (zeroS, 2) by
            unfold begunAns
            rw [if_neg (by simpa using HZ.out), if_neg (by rw [HFG.out]; exact fun h => h.elim (fun h => h H1.out) (fun h => by omega)), if_pos (by omega)])
          have hq : fuel < 0 ∨ (0 ≤ fuel ∧ 10000 < fuel) := by omega
          clear h3
          rcases hq with q1 | ⟨q1, q2⟩
          all_goals
            go_wp2_with (first | (refine wpList_stR0 rfl 29 _ _ rfl HP.out rfl (cs' := staCells zeroS (.slice none 0 0) (.slice none 0 0) (.slice none 0 0)) rfl rfl (by simp [staCells, Value.oneCell']) (by kernel_rfl) ?_; clear HP; intro wst HP; replace HP := Lib.hid HP) | (refine wpList_stR1 rfl 29 _ _ rfl HP.out rfl (cs' := staCells zeroS (.slice none 0 0) (.slice none 0 0) (.slice none 0 0)) rfl rfl (by simp [staCells, Value.oneCell']) (by kernel_rfl) ?_; clear HP; intro wst HP; replace HP := Lib.hid HP))
            rw [HANS.out]
            refine bodyPost_ret (results_cell_row_tmp rfl _ _ g8 29 (staCells zeroS (.slice none 0 0) (.slice none 0 0) (.slice none 0 0)).toArray (0, 0) _ rfl (HP.out.blk (.head _)) Tryd.underlying29 rfl (by kernel_rfl)) rfl ⟨_, _, _, rfl, rep_frames_nil, rep_ints_nil, rep_ints_nil, HP.out.below⟩
      · have HANS := Lib.hid (show begunAns p xs ys fuel = (zeroS, 1) by
          unfold begunAns
          rw [if_neg (by simpa using HZ.out), if_pos (.inr (by omega))])
        have hb2 : decide (100 < (ys.length : Int)) = true := decide_eq_true (by omega)
        clear h2
        go_wp2_with (first | (refine wpList_stR0 rfl 29 _ _ rfl HP.out rfl (cs' := staCells zeroS (.slice none 0 0) (.slice none 0 0) (.slice none 0 0)) rfl rfl (by simp [staCells, Value.oneCell']) (by kernel_rfl) ?_; clear HP; intro wst HP; replace HP := Lib.hid HP) | (refine wpList_stR1 rfl 29 _ _ rfl HP.out rfl (cs' := staCells zeroS (.slice none 0 0) (.slice none 0 0) (.slice none 0 0)) rfl rfl (by simp [staCells, Value.oneCell']) (by kernel_rfl) ?_; clear HP; intro wst HP; replace HP := Lib.hid HP))
        rw [HANS.out]
        refine bodyPost_ret (results_cell_row_tmp rfl _ _ g8 29 (staCells zeroS (.slice none 0 0) (.slice none 0 0) (.slice none 0 0)).toArray (0, 0) _ rfl (HP.out.blk (.head _)) Tryd.underlying29 rfl (by kernel_rfl)) rfl ⟨_, _, _, rfl, rep_frames_nil, rep_ints_nil, rep_ints_nil, HP.out.below⟩
    · have HANS := Lib.hid (show begunAns p xs ys fuel = (zeroS, 1) by
        unfold begunAns
        rw [if_neg (by simpa using HZ.out), if_pos (.inl (by rw [HFG.out]; exact h1))])
      have hb1 : ((xs.length : Int) != f0.params) = true := by simpa using h1
      clear h1
      go_wp2_with (first | (refine wpList_stR0 rfl 29 _ _ rfl HP.out rfl (cs' := staCells zeroS (.slice none 0 0) (.slice none 0 0) (.slice none 0 0)) rfl rfl (by simp [staCells, Value.oneCell']) (by kernel_rfl) ?_; clear HP; intro wst HP; replace HP := Lib.hid HP) | (refine wpList_stR1 rfl 29 _ _ rfl HP.out rfl (cs' := staCells zeroS (.slice none 0 0) (.slice none 0 0) (.slice none 0 0)) rfl rfl (by simp [staCells, Value.oneCell']) (by kernel_rfl) ?_; clear HP; intro wst HP; replace HP := Lib.hid HP))
      rw [HANS.out]
      refine bodyPost_ret (results_cell_row_tmp rfl _ _ g8 29 (staCells zeroS (.slice none 0 0) (.slice none 0 0) (.slice none 0 0)).toArray (0, 0) _ rfl (HP.out.blk (.head _)) Tryd.underlying29 rfl (by kernel_rfl)) rfl ⟨_, _, _, rfl, rep_frames_nil, rep_ints_nil, rep_ints_nil, HP.out.below⟩
  · have hans : begunAns p xs ys fuel = (zeroS, proven p) := by unfold begunAns; rw [if_pos hz]
    obtain ⟨e0, he0⟩ : ∃ e0, proven p = e0 := ⟨_, rfl⟩
    rw [he0] at hz hans
    have HANS := Lib.hid hans
    have HE0 := Lib.hid he0
    have hzb : (e0 != 0) = true := by simpa using hz
    clear he0 hz hans
    go_enter Tryd.func14, Tryd.ntmps14
    go_wp2_with (first | (refine wpList_stR0 rfl 29 _ _ rfl HP.out rfl (cs' := staCells zeroS (.slice none 0 0) (.slice none 0 0) (.slice none 0 0)) rfl rfl (by simp [staCells, Value.oneCell']) (by kernel_rfl) ?_; clear HP; intro wst HP; replace HP := Lib.hid HP) | (refine wpList_stR1 rfl 29 _ _ rfl HP.out rfl (cs' := staCells zeroS (.slice none 0 0) (.slice none 0 0) (.slice none 0 0)) rfl rfl (by simp [staCells, Value.oneCell']) (by kernel_rfl) ?_; clear HP; intro wst HP; replace HP := Lib.hid HP) | (refine wpList_alloc_hp (o := ⟨some 8, _, _, _, _, _⟩) rfl _ rfl HP.out (.agg #[.int .i64 0, .int .i64 0, .slice none 0 0, .int .i64 0, .int .i64 0, .int .i64 0, .int .i64 0, .int .i64 0, .int .i64 0, .int .i64 0, .int .i64 0, .int .i64 0, .int .i64 0, .int .i64 0, .int .i64 0, .int .i64 0, .int .i64 0, .int .i64 0, .int .i64 0, .int .i64 0, .slice none 0 0, .slice none 0 0]) (by kernel_rfl) [_, _, _, _, _, _, _, _, _, _, _, _, _, _, _, _, _, _, _, _, _, _] rfl ?_; clear HP; intro g8 w8 HP; replace HP := Lib.hid HP) | (refine wpList_box_hp (o := ⟨some 4, _, _, _, _, _⟩) rfl _ _ rfl HP.out [_] rfl ?_; clear HP; intro g4 w4 HP; replace HP := Lib.hid HP) | (refine wpList_ldR0 rfl 24 _ rfl HP.out rfl Tryd.underlying24 rfl (by kernel_rfl) ?_) | (refine wpList_ldR1 rfl 24 _ rfl HP.out rfl Tryd.underlying24 rfl (by kernel_rfl) ?_) | (go_at_call 44; refine (proofCheck_any p _ _ (HP.out.rep (F := ⟨w, Lt w.heap.size⟩) (by simp) HR.out) (HH.out.keep HP.out.below rfl)).mono ?_; rintro e w4 ⟨rfl, hb⟩; replace HP := Lib.hid (HP.out.call0 hb); clear hb; rw [HE0.out]))
    rw [HANS.out]
    refine bodyPost_ret (results_cell_row_tmp rfl _ _ g8 29 (staCells zeroS (.slice none 0 0) (.slice none 0 0) (.slice none 0 0)).toArray (0, 0) _ rfl (HP.out.blk (.head _)) Tryd.underlying29 rfl (by kernel_rfl)) rfl ⟨_, _, _, rfl, rep_frames_nil, rep_ints_nil, rep_ints_nil, HP.out.below⟩
end Go.Proofs.YtfhoffpdodjfeaaDoor
