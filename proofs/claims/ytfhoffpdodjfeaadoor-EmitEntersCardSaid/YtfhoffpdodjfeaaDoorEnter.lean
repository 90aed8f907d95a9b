/- emit.Enter. -/
import Derived.Test.YtfhoffpdodjfeaaDoorRunning
import Derived.Test.YtfhoffpdodjfeaaDoorCopyHp
import Derived.Test.YtfhoffpdodjfeaaDoorMgHeldHeldB2
set_option linter.unusedSimpArgs false
set_option linter.unusedVariables false
namespace Go.Proofs.YtfhoffpdodjfeaaDoor
open Go.RowKit Plain64
attribute [local irreducible] wpList Code.wp Oper.wp
theorem cpuC_len (c : Cpv) : (cpuCells c).length = 98 := cpuL_len (by simp) (by simp)
theorem cpuC_one {c : Cpv} : ∀ v ∈ cpuCells c, v.oneCell' = true := cpuL_one
theorem ints_one (xs : List Int) : ∀ v ∈ xs.map (Value.int .i64), v.oneCell' = true := fun v hv => by obtain ⟨n, -, rfl⟩ := List.mem_map.1 hv; rfl
theorem mm_src {w : World} {g : Nat} {s : Sta} (h : ∀ j, j < 16 → w.cell? ⟨g, 3 + j, none⟩ = some (iV (s.mm j))) : ∀ j v, (s.memory.toList.map (Value.int .i64))[j]? = some v → w.cell? ((⟨g, 3, none⟩ : Addr).add j) = some v := by
  intro j v hv
  rw [List.getElem?_map] at hv
  obtain ⟨n, hn, rfl⟩ := Option.map_eq_some_iff.1 hv
  have hj : j < 16 := by have := (List.getElem?_eq_some_iff.1 hn).1; simpa using this
  rw [Addr.add_lit, h j hj]
  unfold Sta.mm
  rw [List.getD_eq_getElem?_getD, hn]; rfl
theorem rg_src {w : World} {g : Nat} {f : Frm} (h : ∀ j, j < 12 → w.cell? ⟨g, 2 + j, none⟩ = some (iV (f.rg j))) : ∀ j v, (f.regs.toList.map (Value.int .i64))[j]? = some v → w.cell? ((⟨g, 2, none⟩ : Addr).add j) = some v := by
  intro j v hv
  rw [List.getElem?_map] at hv
  obtain ⟨n, hn, rfl⟩ := Option.map_eq_some_iff.1 hv
  have hj : j < 12 := by have := (List.getElem?_eq_some_iff.1 hn).1; simpa using this
  rw [Addr.add_lit, h j hj]
  unfold Frm.rg
  rw [List.getD_eq_getElem?_getD, hn]; rfl
set_option maxRecDepth 100000 in
set_option maxHeartbeats 4000000 in
theorem Enter_any (p : Prg) (v : Value) (s : Sta) (u e a : Value) (w : World) (hp : Lay.rep w (Lt w.heap.size) p [v]) (hf : Lay.rep w (Lt w.heap.size) s.frames [u]) (he : Lay.rep w (Lt w.heap.size) s.events [e]) (ha : Lay.rep w (Lt w.heap.size) s.answers [a]) (hh : Has w) :
    Calls Tryd.prog 22 #[.agg #[v], .agg (staCells s u e a).toArray] w fun r w' => r = .returned (.tuple #[.agg (cpuCells (enterAns p s).1).toArray, .int .i64 (enterAns p s).2]) ∧ Below w.heap.size w w' := by
  obtain ⟨A, c, rfl, hc, hm, -⟩ := rep_prg_at hp
  obtain ⟨A2, c2, rfl, hc2, hm2, hx2⟩ := rep_frames_at hf
  obtain ⟨AE, ce, rfl, hce, hme, -⟩ := rep_ints_at he
  obtain ⟨AA, ca, rfl, hca, hma, -⟩ := rep_ints_at ha
  unfold maxLen at hm hm2 hme hma
  have HX2 := Lib.hid hx2
  have HR := Lib.hid hp
  have HF := Lib.hid hf
  have HE := Lib.hid he
  have HA := Lib.hid ha
  have HH := Lib.hid hh
  clear hp hf he ha hh hx2
  have HP := Lib.hid (Hp.start w)
  by_cases hz : runFault p s = 0
  · obtain ⟨f, hff⟩ : ∃ f, lastF s = f := ⟨_, rfl⟩
    have HRA := Lib.hid (show runningAns p s = (f, 0) by unfold runningAns; rw [hz, if_pos rfl, hff])
    have HEA := Lib.hid (show enterAns p s = (enterC s f, 0) by unfold enterAns; rw [if_neg (by simpa using hz), hff])
    clear hz hff
    unfold staCells
    go_enter Tryd.func22, Tryd.ntmps22
    go_upto_region 5 with (first | (refine wpList_alloc_hp (o := ⟨some 4, _, _, _, _, _⟩) rfl _ rfl HP.out (.agg (cpuL z32 0 (List.replicate 64 0) false).toArray) (by kernel_rfl) (cpuL z32 0 (List.replicate 64 0) false) rfl ?_; clear HP; intro g4 w4 HP; replace HP := Lib.hid HP) | (refine wpList_alloc_hp (o := ⟨some 8, _, _, _, _, _⟩) rfl _ rfl HP.out (.agg (cpuL z32 0 (List.replicate 64 0) false).toArray) (by kernel_rfl) (cpuL z32 0 (List.replicate 64 0) false) rfl ?_; clear HP; intro g8 w8 HP; replace HP := Lib.hid HP) | (refine wpList_alloc_hp (o := ⟨some 6, _, _, _, _, _⟩) rfl _ rfl HP.out (.agg #[.int .i64 0, .int .i64 0, .int .i64 0, .int .i64 0, .int .i64 0, .int .i64 0, .int .i64 0, .int .i64 0, .int .i64 0, .int .i64 0, .int .i64 0, .int .i64 0, .int .i64 0, .int .i64 0]) (by kernel_rfl) [_, _, _, _, _, _, _, _, _, _, _, _, _, _] rfl ?_; clear HP; intro g6 w6 HP; replace HP := Lib.hid HP) | (refine wpList_box_hp (o := ⟨some 2, _, _, _, _, _⟩) rfl _ _ rfl HP.out [_] rfl ?_; clear HP; intro g2 w2 HP; replace HP := Lib.hid HP) | (refine wpList_box_hp (o := ⟨some 3, _, _, _, _, _⟩) rfl _ _ rfl HP.out [_, _, _, _, _, _, _, _, _, _, _, _, _, _, _, _, _, _, _, _, _, _] rfl ?_; clear HP; intro g3 w3 HP; replace HP := Lib.hid HP) | (refine wpList_ldR0 rfl 24 _ rfl HP.out rfl Tryd.underlying24 rfl (by kernel_rfl) ?_) | (refine wpList_ldR1 rfl 24 _ rfl HP.out rfl Tryd.underlying24 rfl (by kernel_rfl) ?_) | (refine wpList_ldR2 rfl 24 _ rfl HP.out rfl Tryd.underlying24 rfl (by kernel_rfl) ?_) | (refine wpList_ldR0 rfl 29 _ rfl HP.out rfl Tryd.underlying29 rfl (by kernel_rfl) ?_) | (refine wpList_ldR1 rfl 29 _ rfl HP.out rfl Tryd.underlying29 rfl (by kernel_rfl) ?_) | (refine wpList_ldR2 rfl 29 _ rfl HP.out rfl Tryd.underlying29 rfl (by kernel_rfl) ?_) | (go_at_call 52; refine (running_any p _ s _ _ _ _ (HP.out.rep (F := ⟨w, Lt w.heap.size⟩) (by simp) HR.out) (HP.out.rep (F := ⟨w, Lt w.heap.size⟩) (by simp) HF.out) (HP.out.rep (F := ⟨w, Lt w.heap.size⟩) (by simp) HE.out) (HP.out.rep (F := ⟨w, Lt w.heap.size⟩) (by simp) HA.out) (HH.out.keep HP.out.below rfl)).mono ?_; rintro e w5 ⟨rfl, hb⟩; replace HP := Lib.hid (HP.out.call0 hb); clear hb; rw [HRA.out]) | (refine wpList_stR0 rfl 75 _ _ rfl HP.out rfl (cs' := frmCells f) rfl rfl (by simp [frmCells, Value.oneCell']) (by kernel_rfl) ?_; clear HP; intro wst HP; replace HP := Lib.hid HP))
    replace HP := Lib.hid HP.out.drew
    refine wp_region_held_drew (S := fun _ => True) (by kernel_rfl) trivial (fun hHeld => ?_)
    have HS0 := Lib.hid hHeld
    clear hHeld
    (try simp only [Act.put, List.setIfInBounds_toArray, List.set_cons_zero, List.set_cons_succ])
    refine wpAnyH_take (i := 0) (v := ?_) rfl (by kernel_rfl) (by kernel_rfl) (by kernel_rfl) (fun _ _ _ h => h) (.inl ⟨by simp [Region.wanted], ?_⟩) HS0.out ?_
    rotate_left
    · intro w' hw
      go_simp
      (try with_reducible rfl)
    (try simp only [List.getElem_toArray, List.getElem_cons_succ, List.getElem_cons_zero, Act.put, List.setIfInBounds_toArray, List.set_cons_zero, List.set_cons_succ])
    refine wpAnyH_take (i := 1) (v := ?_) rfl (by kernel_rfl) (by kernel_rfl) (by kernel_rfl) (fun _ _ _ h => h) (.inl ⟨by simp [Region.wanted], ?_⟩) HS0.out ?_
    rotate_left
    · intro w' hw
      go_simp
      (try with_reducible rfl)
    (try simp only [List.getElem_toArray, List.getElem_cons_succ, List.getElem_cons_zero, Act.put, List.setIfInBounds_toArray, List.set_cons_zero, List.set_cons_succ])
    refine wpAnyH_take (i := 2) (v := ?_) rfl (by kernel_rfl) (by kernel_rfl) (by kernel_rfl) (fun _ _ _ h => h) (.inl ⟨by simp [Region.wanted], ?_⟩) HS0.out ?_
    rotate_left
    · intro w' hw
      go_simp
      (try with_reducible rfl)
    (try simp only [List.getElem_toArray, List.getElem_cons_succ, List.getElem_cons_zero, Act.put, List.setIfInBounds_toArray, List.set_cons_zero, List.set_cons_succ])
    refine wpAnyH_take (i := 3) (v := ?_) rfl (by kernel_rfl) (by kernel_rfl) (by kernel_rfl) (fun _ _ _ h => h) (.inl ⟨by simp [Region.wanted], ?_⟩) HS0.out ?_
    rotate_left
    · intro w' hw
      go_simp
      (try with_reducible rfl)
    (try simp only [List.getElem_toArray, List.getElem_cons_succ, List.getElem_cons_zero, Act.put, List.setIfInBounds_toArray, List.set_cons_zero, List.set_cons_succ])
    refine wpAnyH_ready (rs := [4]) (by kernel_rfl) (by simp) ?_
    refine AllReadyH.cons rfl (fun K hK => ?_) AllReadyH.nil
    refine wanted_only rfl ?_
    refine wpList_copy_hp rfl _ _ _ _ rfl 3 Tryd.underlying25 (by kernel_rfl) HP.out rfl rfl (s.memory.toList.map (Value.int .i64)) (by rw [List.length_map, Vector.length_toList]; rfl) (fun _ => ⟨_, rfl, (mm_src (s := s) (fun j hj => HP.out.cell (cs := staCells s (.slice A2 s.frames.length c2) (.slice AE s.events.length ce) (.slice AA s.answers.length ca)) (.tail _ (.tail _ (.tail _ (.head _)))) (3 + j) _ (sta_mem s _ _ _ j hj)))⟩) (by rw [List.length_map, Vector.length_toList, cpuL_len rfl (by simp)]; omega) (ints_one _) (cpuL_splice (r := z32) rfl 0 s.memory.toList (by simp)) ?_
    clear HP
    intro wcp HP
    replace HP := Lib.hid HP
    refine wpList_nil ?_
    refine hK.out _ _ trivial (fun hHeld => ?_)
    clear hK K hHeld HS0
    refine wpAnyH_done (by kernel_rfl) ?_ _
    (try simp only [List.getElem_toArray, List.getElem_cons_succ, List.getElem_cons_zero, Act.put, List.setIfInBounds_toArray, List.set_cons_zero, List.set_cons_succ])
    go_upto_region 6 with (fail)
    replace HP := Lib.hid HP.out.drew
    refine wp_region_held_drew (S := fun _ => True) (by kernel_rfl) trivial (fun hHeld => ?_)
    have HS0 := Lib.hid hHeld
    clear hHeld
    (try simp only [Act.put, List.setIfInBounds_toArray, List.set_cons_zero, List.set_cons_succ])
    refine wpAnyH_take (i := 0) (v := ?_) rfl (by kernel_rfl) (by kernel_rfl) (by kernel_rfl) (fun _ _ _ h => h) (.inl ⟨by simp [Region.wanted], ?_⟩) HS0.out ?_
    rotate_left
    · intro w' hw
      go_simp
      (try with_reducible rfl)
    (try simp only [List.getElem_toArray, List.getElem_cons_succ, List.getElem_cons_zero, Act.put, List.setIfInBounds_toArray, List.set_cons_zero, List.set_cons_succ])
    refine wpAnyH_take (i := 1) (v := ?_) rfl (by kernel_rfl) (by kernel_rfl) (by kernel_rfl) (fun _ _ _ h => h) (.inl ⟨by simp [Region.wanted], ?_⟩) HS0.out ?_
    rotate_left
    · intro w' hw
      go_simp
      (try with_reducible rfl)
    (try simp only [List.getElem_toArray, List.getElem_cons_succ, List.getElem_cons_zero, Act.put, List.setIfInBounds_toArray, List.set_cons_zero, List.set_cons_succ])
    refine wpAnyH_take (i := 2) (v := ?_) rfl (by kernel_rfl) (by kernel_rfl) (by kernel_rfl) (fun _ _ _ h => h) (.inl ⟨by simp [Region.wanted], ?_⟩) HS0.out ?_
    rotate_left
    · intro w' hw
      go_simp
      (try with_reducible rfl)
    (try simp only [List.getElem_toArray, List.getElem_cons_succ, List.getElem_cons_zero, Act.put, List.setIfInBounds_toArray, List.set_cons_zero, List.set_cons_succ])
    refine wpAnyH_take (i := 3) (v := ?_) rfl (by kernel_rfl) (by kernel_rfl) (by kernel_rfl) (fun _ _ _ h => h) (.inl ⟨by simp [Region.wanted], ?_⟩) HS0.out ?_
    rotate_left
    · intro w' hw
      go_simp
      (try with_reducible rfl)
    (try simp only [List.getElem_toArray, List.getElem_cons_succ, List.getElem_cons_zero, Act.put, List.setIfInBounds_toArray, List.set_cons_zero, List.set_cons_succ])
    refine wpAnyH_ready (rs := [4]) (by kernel_rfl) (by simp) ?_
    refine AllReadyH.cons rfl (fun K hK => ?_) AllReadyH.nil
    refine wanted_only rfl ?_
    refine wpList_copy_hp rfl _ _ _ _ rfl 3 Tryd.underlying25 (by kernel_rfl) HP.out rfl rfl (f.regs.toList.map (Value.int .i64)) (by rw [List.length_map, Vector.length_toList]; rfl) (fun _ => ⟨_, rfl, (rg_src (f := f) (fun j hj => HP.out.cell (.tail _ (.head _)) (2 + j) _ (frm_reg f j hj)))⟩) (by rw [List.length_map, Vector.length_toList, cpuL_len rfl (by simp)]; omega) (ints_one _) (cpuL_splice (r := z32) rfl 16 f.regs.toList (by simp)) ?_
    clear HP
    intro wcp HP
    replace HP := Lib.hid HP
    refine wpList_nil ?_
    refine hK.out _ _ trivial (fun hHeld => ?_)
    clear hK K hHeld HS0
    refine wpAnyH_done (by kernel_rfl) ?_ _
    (try simp only [List.getElem_toArray, List.getElem_cons_succ, List.getElem_cons_zero, Act.put, List.setIfInBounds_toArray, List.set_cons_zero, List.set_cons_succ])
    go_upto_region 8 with (first | (refine wpList_ld0 rfl 3 _ rfl HP.out rfl rfl Tryd.underlying3 rfl ?_) | (refine wpList_ld1 rfl 3 _ rfl HP.out rfl rfl Tryd.underlying3 rfl ?_) | (refine wpList_ld2 rfl 3 _ rfl HP.out rfl rfl Tryd.underlying3 rfl ?_) | (refine wpList_ld3 rfl 3 _ rfl HP.out rfl rfl Tryd.underlying3 rfl ?_) | (refine wpList_st0 rfl 3 _ _ rfl HP.out rfl rfl (by rw [cpuL_len rfl (by simp)]; omega) rfl (cpuL_set (r := z32) rfl 28 (by simp) _) (by kernel_rfl) ?_; clear HP; intro wst HP; replace HP := Lib.hid HP) | (refine wpList_st0 rfl 3 _ _ rfl HP.out rfl rfl (by rw [cpuL_len rfl (by simp)]; omega) rfl (cpuL_set (r := z32) rfl 29 (by simp) _) (by kernel_rfl) ?_; clear HP; intro wst HP; replace HP := Lib.hid HP))
    rw [enterL_eq, ← enterC_cells] at HP
    go_wp2_with (first | (refine wpList_ldR0 rfl 44 _ rfl HP.out rfl Tryd.underlying44 rfl (by rw [cpuC_len]; kernel_rfl) ?_) | (refine wpList_stR2 rfl 44 _ _ rfl HP.out rfl (cs' := cpuCells (enterC s f)) rfl (by rw [cpuC_len]; rfl) cpuC_one (by rw [cpuC_len]; kernel_rfl) ?_; clear HP; intro wst HP; replace HP := Lib.hid HP))
    rw [HEA.out]
    refine bodyPost_ret (results_cell_row_tmp2 rfl _ _ g4 44 (cpuCells (enterC s f)).toArray (0, 0) _ rfl (HP.out.blk (.tail _ (.tail _ (.head _)))) Tryd.underlying44 rfl (by rw [List.size_toArray, cpuC_len]; kernel_rfl)) rfl ⟨rfl, HP.out.below⟩
  · have hea : enterAns p s = (zeroC, runFault p s) := by unfold enterAns; rw [if_pos hz]
    obtain ⟨e0, he0⟩ : ∃ e0, runFault p s = e0 := ⟨_, rfl⟩
    rw [he0] at hz hea
    have HRA := Lib.hid (show runningAns p s = (zeroF, e0) by unfold runningAns; rw [he0, if_neg hz])
    have HEA := Lib.hid hea
    have hzb : (e0 != 0) = true := by simpa using hz
    clear he0 hz hea
    unfold staCells
    go_enter Tryd.func22, Tryd.ntmps22
    go_wp2_with (first | (refine wpList_alloc_hp (o := ⟨some 4, _, _, _, _, _⟩) rfl _ rfl HP.out (.agg (cpuL z32 0 (List.replicate 64 0) false).toArray) (by kernel_rfl) (cpuL z32 0 (List.replicate 64 0) false) rfl ?_; clear HP; intro g4 w4 HP; replace HP := Lib.hid HP) | (refine wpList_alloc_hp (o := ⟨some 6, _, _, _, _, _⟩) rfl _ rfl HP.out (.agg #[.int .i64 0, .int .i64 0, .int .i64 0, .int .i64 0, .int .i64 0, .int .i64 0, .int .i64 0, .int .i64 0, .int .i64 0, .int .i64 0, .int .i64 0, .int .i64 0, .int .i64 0, .int .i64 0]) (by kernel_rfl) [_, _, _, _, _, _, _, _, _, _, _, _, _, _] rfl ?_; clear HP; intro g6 w6 HP; replace HP := Lib.hid HP) | (refine wpList_box_hp (o := ⟨some 2, _, _, _, _, _⟩) rfl _ _ rfl HP.out [_] rfl ?_; clear HP; intro g2 w2 HP; replace HP := Lib.hid HP) | (refine wpList_box_hp (o := ⟨some 3, _, _, _, _, _⟩) rfl _ _ rfl HP.out [_, _, _, _, _, _, _, _, _, _, _, _, _, _, _, _, _, _, _, _, _, _] rfl ?_; clear HP; intro g3 w3 HP; replace HP := Lib.hid HP) | (refine wpList_ldR0 rfl 24 _ rfl HP.out rfl Tryd.underlying24 rfl (by kernel_rfl) ?_) | (refine wpList_ldR1 rfl 24 _ rfl HP.out rfl Tryd.underlying24 rfl (by kernel_rfl) ?_) | (refine wpList_ldR2 rfl 24 _ rfl HP.out rfl Tryd.underlying24 rfl (by kernel_rfl) ?_) | (refine wpList_ldR0 rfl 29 _ rfl HP.out rfl Tryd.underlying29 rfl (by kernel_rfl) ?_) | (refine wpList_ldR1 rfl 29 _ rfl HP.out rfl Tryd.underlying29 rfl (by kernel_rfl) ?_) | (refine wpList_ldR2 rfl 29 _ rfl HP.out rfl Tryd.underlying29 rfl (by kernel_rfl) ?_) | (go_at_call 52; refine (running_any p _ s _ _ _ _ (HP.out.rep (F := ⟨w, Lt w.heap.size⟩) (by simp) HR.out) (HP.out.rep (F := ⟨w, Lt w.heap.size⟩) (by simp) HF.out) (HP.out.rep (F := ⟨w, Lt w.heap.size⟩) (by simp) HE.out) (HP.out.rep (F := ⟨w, Lt w.heap.size⟩) (by simp) HA.out) (HH.out.keep HP.out.below rfl)).mono ?_; rintro e w5 ⟨rfl, hb⟩; replace HP := Lib.hid (HP.out.call0 hb); clear hb; rw [HRA.out]) | (refine wpList_stR0 rfl 75 _ _ rfl HP.out rfl (cs' := frmCells zeroF) rfl rfl (by simp [frmCells, Value.oneCell']) (by kernel_rfl) ?_; clear HP; intro wst HP; replace HP := Lib.hid HP) | (refine wpList_stR1 rfl 44 _ _ rfl HP.out rfl (cs' := (cpuL z32 0 (List.replicate 64 0) false)) rfl rfl cpuL_one (by kernel_rfl) ?_; clear HP; intro wst HP; replace HP := Lib.hid HP))
    rw [HEA.out]
    rw [← zeroC_cells] at HP
    refine bodyPost_ret (results_cell_row_tmp2 rfl _ _ g4 44 (cpuCells zeroC).toArray (0, 0) _ rfl (HP.out.blk (.tail _ (.head _))) Tryd.underlying44 rfl (by rw [List.size_toArray, cpuC_len]; kernel_rfl)) rfl ⟨rfl, HP.out.below⟩
end Go.Proofs.YtfhoffpdodjfeaaDoor
