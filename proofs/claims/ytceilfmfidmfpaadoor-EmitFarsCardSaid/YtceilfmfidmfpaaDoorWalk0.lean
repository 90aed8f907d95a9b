/- step.Walk with no step: a state in new memory. -/
import Derived.Test.YtceilfmfidmfpaaDoorMgProfLawBlkMemReadsHReadsKTidyLaw5
import Derived.Test.YtceilfmfidmfpaaDoorMgSureTProvenProvenBStepCheck4
import Derived.Test.YtceilfmfidmfpaaDoorMgCloneCloneFOwn3
import Derived.Test.YtceilfmfidmfpaaDoorMgHeldHeldB2
import Derived.Test.YtceilfmfidmfpaaDoorRes
set_option linter.unusedSimpArgs false
set_option linter.unusedVariables false
namespace Go.Proofs.YtceilfmfidmfpaaDoor
open Go.RowKit Plain64
attribute [local irreducible] wpList Code.wp Oper.wp
theorem rep_frames_nil0 {w : World} {S : Nat → Prop} : Lay.rep w S ([] : List Frm) [.slice none 0 0] := ⟨none, 0, rfl, Nat.le_refl _, by unfold maxLen; omega, fun k x h => by simp at h⟩
theorem fresh_lt0 {w w' : World} : ∀ b, Fresh w w' b → Lt w'.heap.size b := fun _ h => h.2
theorem Hp.rowOne0 {w0 w : World} {Fs : List Fro} {L : List Res} {e : TypeId} {sz n : Nat} {cs : List Value} (v : Value) (h : Hp w0 Fs L w) (hm : Res.row v e sz n cs ∈ L) : v.oneCell' = true := by
  rcases (h.row hm).2 with ⟨rfl, _⟩ | ⟨g, cap, cur, rfl, _⟩ <;> rfl
theorem sta_one0 {s : Sta} {u e a : Value} (h1 : u.oneCell' = true) (h2 : e.oneCell' = true) (h3 : a.oneCell' = true) : ∀ v ∈ staCells s u e a, v.oneCell' = true := by
  unfold staCells
  intro v hv
  simp only [List.mem_cons, List.not_mem_nil, or_false] at hv
  rcases hv with rfl | rfl | rfl | rfl | rfl | rfl | rfl | rfl | rfl | rfl | rfl | rfl | rfl | rfl | rfl | rfl | rfl | rfl | rfl | rfl | rfl | rfl <;> first | rfl | assumption
set_option maxRecDepth 100000 in
set_option maxHeartbeats 10000000 in
theorem Walk0_any (p : Prg) (v : Value) (s : Sta) (u e a : Value) (w : World) (hp : Lay.rep w (Lt w.heap.size) p [v]) (hf : Lay.rep w (Lt w.heap.size) s.frames [u]) (he : Lay.rep w (Lt w.heap.size) s.events [e]) (ha : Lay.rep w (Lt w.heap.size) s.answers [a]) (hz : stateFault p s = 0) (hle : s.events.length ≤ 17592186044000) (hh : Has w) :
    Calls Tryd.prog 15 #[.agg #[v], .agg (staCells s u e a).toArray, .int .i64 0] w fun r w' => ∃ u' e' a', r = .returned (.tuple #[.agg (staCells s u' e' a').toArray, .int .i64 0]) ∧ Hp w [⟨w, Lt w.heap.size⟩] (ownS s u' e' a') w' := by
  obtain ⟨A, c, rfl, hc, hm, -⟩ := rep_prg_at hp
  obtain ⟨A2, c2, rfl, hc2, hm2, -⟩ := rep_frames_at hf
  obtain ⟨AE, ce, rfl, hce, hme, -⟩ := rep_ints_at he
  obtain ⟨AA, ca, rfl, hca, hma, -⟩ := rep_ints_at ha
  unfold maxLen at hm hm2 hme hma
  have HR := Lib.hid hp
  have HF := Lib.hid hf
  have HE := Lib.hid he
  have HA := Lib.hid ha
  have HH := Lib.hid hh
  clear hp hf he ha hh
  have HP := Lib.hid (Hp.start w)
  unfold staCells
  have hlf : s.frames.length ≤ 1256584717421 := by have := (sf_zero hz).2.1.frames; omega
  have hla : s.answers.length ≤ 17592186044000 := by have := (sf_zero hz).2.1.answers; omega
  have HZ := Lib.hid hz
  clear hz
  go_enter Tryd.func15, Tryd.ntmps15
  go_upto_region 6 with (first | (refine wpList_alloc_hp (o := ⟨some 6, _, _, _, _, _⟩) rfl _ rfl HP.out (.agg #[.int .i64 0, .int .i64 0, .slice none 0 0, .int .i64 0, .int .i64 0, .int .i64 0, .int .i64 0, .int .i64 0, .int .i64 0, .int .i64 0, .int .i64 0, .int .i64 0, .int .i64 0, .int .i64 0, .int .i64 0, .int .i64 0, .int .i64 0, .int .i64 0, .int .i64 0, .int .i64 0, .slice none 0 0, .slice none 0 0]) (by kernel_rfl) [_, _, _, _, _, _, _, _, _, _, _, _, _, _, _, _, _, _, _, _, _, _] rfl ?_; clear HP; intro g6 w6 HP; replace HP := Lib.hid HP) | (refine wpList_box_hp (o := ⟨some 3, _, _, _, _, _⟩) rfl _ _ rfl HP.out [_] rfl ?_; clear HP; intro g3 w3 HP; replace HP := Lib.hid HP) | (refine wpList_box_hp (o := ⟨some 4, _, _, _, _, _⟩) rfl _ _ rfl HP.out [_, _, _, _, _, _, _, _, _, _, _, _, _, _, _, _, _, _, _, _, _, _] rfl ?_; clear HP; intro g4 w4 HP; replace HP := Lib.hid HP) | (refine wpList_ldR0 rfl 24 _ rfl HP.out rfl Tryd.underlying24 rfl (by kernel_rfl) ?_) | (refine wpList_ldR1 rfl 24 _ rfl HP.out rfl Tryd.underlying24 rfl (by kernel_rfl) ?_) | (refine wpList_ldR2 rfl 24 _ rfl HP.out rfl Tryd.underlying24 rfl (by kernel_rfl) ?_) | (refine wpList_ldR0 rfl 29 _ rfl HP.out rfl Tryd.underlying29 rfl (by kernel_rfl) ?_) | (refine wpList_ldR1 rfl 29 _ rfl HP.out rfl Tryd.underlying29 rfl (by kernel_rfl) ?_) | (refine wpList_ldR2 rfl 29 _ rfl HP.out rfl Tryd.underlying29 rfl (by kernel_rfl) ?_) | (go_at_call 23; refine (stepCheck_any p _ s _ _ _ _ (HP.out.rep (F := ⟨w, Lt w.heap.size⟩) (by simp) HR.out) (HP.out.rep (F := ⟨w, Lt w.heap.size⟩) (by simp) HF.out) (HP.out.rep (F := ⟨w, Lt w.heap.size⟩) (by simp) HE.out) (HP.out.rep (F := ⟨w, Lt w.heap.size⟩) (by simp) HA.out) (HH.out.keep HP.out.below rfl)).mono ?_; rintro e w4 ⟨rfl, hb⟩; replace HP := Lib.hid (HP.out.call0 hb); clear hb; rw [HZ.out]))
  replace HP := Lib.hid HP.out.drew
  refine wp_region_held_drew (S := fun w' => At w' ⟨g3, 0, none⟩ [.slice A p.funcs.length c] ∧ At w' ⟨g4, 0, none⟩ (staCells s (.slice A2 s.frames.length c2) (.slice AE s.events.length ce) (.slice AA s.answers.length ca))) (by kernel_rfl) ⟨HP.out.blkAt (.tail _ (.tail _ (.head _))) 0, HP.out.blkAt (.tail _ (.head _)) 0⟩ (fun hHeld => ?_)
  have HS0 := Lib.hid hHeld
  clear hHeld
  (try simp only [Act.put, List.setIfInBounds_toArray, List.set_cons_zero, List.set_cons_succ])
  refine wpAnyH_row (i := 0) rfl (by kernel_rfl) (by kernel_rfl) (by kernel_rfl) (fun _ _ _ _ h => h) rfl 29 _ rfl _ rfl _ _ (fun _ h => h.2) Tryd.underlying29 rfl (by kernel_rfl) HS0.out ?_
  (try simp only [List.getElem_toArray, List.getElem_cons_succ, List.getElem_cons_zero, Act.put, List.setIfInBounds_toArray, List.set_cons_zero, List.set_cons_succ])
  refine wpAnyH_row (i := 2) rfl (by kernel_rfl) (by kernel_rfl) (by kernel_rfl) (fun _ _ _ _ h => h) rfl 24 _ rfl _ rfl _ _ (fun _ h => h.1) Tryd.underlying24 rfl (by kernel_rfl) HS0.out ?_
  (try simp only [List.getElem_toArray, List.getElem_cons_succ, List.getElem_cons_zero, Act.put, List.setIfInBounds_toArray, List.set_cons_zero, List.set_cons_succ])
  refine wpAnyH_ready (rs := [1]) (by kernel_rfl) (by simp) ?_
  refine AllReadyH.cons rfl (fun K hK => ?_) AllReadyH.nil
  go_simp
  refine (own_own s _ _ _ _ (HP.out.rep (F := ⟨w, Lt w.heap.size⟩) (by simp) HF.out) (HP.out.rep (F := ⟨w, Lt w.heap.size⟩) (by simp) HE.out) (HP.out.rep (F := ⟨w, Lt w.heap.size⟩) (by simp) HA.out) hlf hle hla).mono ?_
  rintro r1 w5 ⟨u5, e5, a5, rfl, hb5⟩
  obtain ⟨A5, c5, rfl, hc5, hm5, -⟩ := rep_frames_at (hb5.rowFrames (.head _) rfl)
  obtain ⟨A6, c6, rfl, hc6, hm6, -⟩ := rep_ints_at (hb5.rowInts (.tail _ (.head _)) rfl)
  obtain ⟨A7, c7, rfl, hc7, hm7, -⟩ := rep_ints_at (hb5.rowInts (.tail _ (.tail _ (.head _))) rfl)
  replace HP := Lib.hid (by simpa only [List.cons_append, List.nil_append] using HP.out.takeEnd hb5)
  clear hb5
  dsimp only
  refine hK.out _ _ ⟨HP.out.blkAt (.tail _ (.tail _ (.head _))) 0, HP.out.blkAt (.tail _ (.head _)) 0⟩ (fun hHeld => ?_)
  clear hK K hHeld
  (try simp only [List.getElem_toArray, List.getElem_cons_succ, List.getElem_cons_zero, Act.put, List.setIfInBounds_toArray, List.set_cons_zero, List.set_cons_succ])
  refine wpAnyH_ready (rs := [3]) (by kernel_rfl) (by simp) ?_
  refine AllReadyH.cons rfl (fun K hK => ?_) AllReadyH.nil
  simp only [staCells]
  go_simp
  refine hK.out _ _ ⟨HP.out.blkAt (.tail _ (.tail _ (.head _))) 0, HP.out.blkAt (.tail _ (.head _)) 0⟩ (fun hHeld => ?_)
  clear hK K hHeld
  (try simp only [List.getElem_toArray, List.getElem_cons_succ, List.getElem_cons_zero, Act.put, List.setIfInBounds_toArray, List.set_cons_zero, List.set_cons_succ])
  refine wpAnyH_ready (rs := [4]) (by kernel_rfl) (by simp) ?_
  refine AllReadyH.cons rfl (fun K hK => ?_) AllReadyH.nil
  refine wanted_only rfl ?_
  refine wpList_box_hp rfl _ _ rfl HP.out (staCells s (.slice A5 s.frames.length c5) (.slice A6 s.events.length c6) (.slice A7 s.answers.length c7) ++ [.slice A p.funcs.length c]) rfl ?_
  clear HP
  intro ge we HP
  replace HP := Lib.hid HP
  refine wpList_nil ?_
  refine hK.out _ _ ⟨HP.out.blkAt (.tail _ (.tail _ (.tail _ (.head _)))) 0, HP.out.blkAt (.tail _ (.tail _ (.head _))) 0⟩ (fun hHeld => ?_)
  clear hK K hHeld
  (try simp only [List.getElem_toArray, List.getElem_cons_succ, List.getElem_cons_zero, Act.put, List.setIfInBounds_toArray, List.set_cons_zero, List.set_cons_succ])
  refine wpAnyH_ready (rs := [5]) (by kernel_rfl) (by simp) ?_
  refine AllReadyH.cons rfl (fun K hK => ?_) AllReadyH.nil
  go_simp
  refine hK.out _ _ ⟨HP.out.blkAt (.tail _ (.tail _ (.tail _ (.head _)))) 0, HP.out.blkAt (.tail _ (.tail _ (.head _))) 0⟩ (fun hHeld => ?_)
  clear hK K hHeld
  (try simp only [List.getElem_toArray, List.getElem_cons_succ, List.getElem_cons_zero, Act.put, List.setIfInBounds_toArray, List.set_cons_zero, List.set_cons_succ])
  clear HS0
  refine wpAnyH_done (by kernel_rfl) ?_ _
  (try simp only [List.getElem_toArray, List.getElem_cons_succ, List.getElem_cons_zero, Act.put, List.setIfInBounds_toArray, List.set_cons_zero, List.set_cons_succ])
  go_wp2
  refine wp_loop_rounds 1 ?_
  rw [rounds_succ]
  go_upto_region 10 with (fail)
  have HROW := Lib.hid (At.left (cs := staCells s (.slice A5 s.frames.length c5) (.slice A6 s.events.length c6) (.slice A7 s.answers.length c7)) (ds := [.slice A p.funcs.length c]) (HP.out.blkAt (.head _) 0))
  go_wp2_with (first | (refine wpList_load_at rfl 29 _ rfl _ rfl _ _ HROW.out Tryd.underlying29 rfl (by kernel_rfl) ?_) | (go_at_call 31; refine (own_own s _ _ _ _ (Lay.more fresh_lt0 (HP.out.rowFrames (.tail _ (.tail _ (.tail _ (.tail _ (.head _))))) rfl)) (Lay.more fresh_lt0 (HP.out.rowInts (.tail _ (.tail _ (.tail _ (.tail _ (.tail _ (.head _)))))) rfl)) (Lay.more fresh_lt0 (HP.out.rowInts (.tail _ (.tail _ (.tail _ (.tail _ (.tail _ (.tail _ (.head _))))))) rfl)) hlf hle hla).mono ?_; rintro r7 w7 ⟨u7, e7, a7, rfl, hb7⟩; replace HP := Lib.hid (by simpa only [List.cons_append, List.nil_append] using HP.out.takeEnd hb7); clear hb7) | (refine wpList_stR1 rfl 29 _ _ rfl HP.out rfl (cs' := staCells s u7 e7 a7) rfl rfl (sta_one0 (HP.out.rowOne0 _ (.tail _ (.tail _ (.tail _ (.tail _ (.tail _ (.tail _ (.tail _ (.head _))))))))) (HP.out.rowOne0 _ (.tail _ (.tail _ (.tail _ (.tail _ (.tail _ (.tail _ (.tail _ (.tail _ (.head _)))))))))) (HP.out.rowOne0 _ (.tail _ (.tail _ (.tail _ (.tail _ (.tail _ (.tail _ (.tail _ (.tail _ (.tail _ (.head _)))))))))))) (by kernel_rfl) ?_; clear HP; intro wst HP; replace HP := Lib.hid HP))
  (try simp only [Exit.inBlock, Exit.then])
  refine bodyPost_ret (results_cell_row_tmp2 (by rfl) _ _ g6 29 (staCells s u7 e7 a7).toArray (0, 0) _ (by rfl) (HP.out.blk (.tail _ (.head _))) Tryd.underlying29 rfl (by kernel_rfl)) (by rfl) ⟨u7, e7, a7, rfl, (((((((HP.out.drop (A := [])).drop (A := [])).drop (A := [])).drop (A := [])).drop (A := [])).drop (A := [])).drop (A := []))⟩
end Go.Proofs.YtceilfmfidmfpaaDoor
