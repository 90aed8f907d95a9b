/- The law EmitEnters, walked. -/
import Derived.Test.YtfhoffpdodjfeaaDoorEntered
import Derived.Test.YtfhoffpdodjfeaaDoorStates
import Derived.Test.YtfhoffpdodjfeaaDoorCodeF
import Derived.Test.YtfhoffpdodjfeaaDoorMgHeldHeldB2
set_option linter.unusedSimpArgs false
set_option linter.unusedVariables false
namespace Go.Proofs.YtfhoffpdodjfeaaDoor
open Go.RowKit Plain64
attribute [local irreducible] wpList Code.wp Oper.wp
theorem Hp.blkAt0 {w0 w : World} {Fs : List Fro} {L : List Res} {g : Nat} {t : TypeId} {cs : List Value} (h : Hp w0 Fs L w) (hr : Res.blk g t cs ∈ L) : At w ⟨g, 0, none⟩ cs := h.blkAt hr 0
theorem run_eq_cpu (x : Cpv) (w : World) : (binOp .eql 44 (.agg (cpuCells x).toArray) (.agg (cpuCells x).toArray)).run Tryd.prog w = .ok (.bool true) w := by
  rw [run_eql_struct, eq_cpu' 9997 x w]; rfl
set_option maxRecDepth 100000 in
set_option maxHeartbeats 10000000 in
theorem emitEnters_any (p : Prg) (v : Value) (s : Sta) (u e a : Value) (w : World) (hp : Lay.rep w (Lt w.heap.size) p [v]) (hok : Lay.ok p) (hf : Lay.rep w (Lt w.heap.size) s.frames [u]) (he : Lay.rep w (Lt w.heap.size) s.events [e]) (ha : Lay.rep w (Lt w.heap.size) s.answers [a])
    (hlf : s.frames.length ≤ 1256584717421) (hle : s.events.length ≤ 17592186044000) (hla : s.answers.length ≤ 17592186044000) (hh : Has w) :
    Calls Tryd.prog 5 #[.agg #[v], .agg (staCells s u e a).toArray] w fun r w' => r = .returned (.bool true) ∧ Below w.heap.size w w' := by
  have HR := Lib.hid hp
  have HOK := Lib.hid hok
  have HF := Lib.hid hf
  have HE := Lib.hid he
  have HAN := Lib.hid ha
  have HH := Lib.hid hh
  clear hp hok hf he ha hh
  unfold staCells
  have HP := Lib.hid (Hp.start w)
  go_enter Tryd.func5, Tryd.ntmps5
  go_upto_region 1 with (first | (refine wpList_box_hp (o := ⟨some 2, _, _, _, _, _⟩) rfl _ _ rfl HP.out [_] rfl ?_; clear HP; intro g2 w2 HP; replace HP := Lib.hid HP) | (refine wpList_box_hp (o := ⟨some 3, _, _, _, _, _⟩) rfl _ _ rfl HP.out [_, _, _, _, _, _, _, _, _, _, _, _, _, _, _, _, _, _, _, _, _, _] rfl ?_; clear HP; intro g3 w3 HP; replace HP := Lib.hid HP))
  replace HP := Lib.hid HP.out.drew
  refine wp_region_held_drew (S := fun w' => At w' ⟨g2, 0, none⟩ [v] ∧ At w' ⟨g3, 0, none⟩ (staCells s u e a)) (by kernel_rfl) ⟨HP.out.blkAt0 (.tail _ (.head _)), HP.out.blkAt0 (.head _)⟩ (fun hHeld => ?_)
  have HS0 := Lib.hid hHeld
  clear hHeld
  (try simp only [Act.put, List.setIfInBounds_toArray, List.set_cons_zero, List.set_cons_succ])
  refine wpAnyH_row (i := 0) rfl (by kernel_rfl) (by kernel_rfl) (by kernel_rfl) (fun _ _ _ _ h => h) rfl 24 _ rfl _ rfl _ _ (fun _ h => h.1) Tryd.underlying24 rfl (by kernel_rfl) HS0.out ?_
  (try simp only [List.getElem_toArray, List.getElem_cons_succ, List.getElem_cons_zero, Act.put, List.setIfInBounds_toArray, List.set_cons_zero, List.set_cons_succ])
  refine wpAnyH_row (i := 2) rfl (by kernel_rfl) (by kernel_rfl) (by kernel_rfl) (fun _ _ _ _ h => h) rfl 29 _ rfl _ rfl _ _ (fun _ h => h.2) Tryd.underlying29 rfl (by kernel_rfl) HS0.out ?_
  (try simp only [List.getElem_toArray, List.getElem_cons_succ, List.getElem_cons_zero, Act.put, List.setIfInBounds_toArray, List.set_cons_zero, List.set_cons_succ])
  refine wpAnyH_ready (rs := [1, 8]) (by kernel_rfl) (by simp) ?_
  refine AllReadyH.cons rfl (fun K hK => ?_) (AllReadyH.cons rfl (fun K hK => ?_) AllReadyH.nil)
  · skip
    go_simp
    refine (programs_any p _ _ (HP.out.rep (F := ⟨w, Lt w.heap.size⟩) (by simp) HR.out) HOK.out).mono ?_
    rintro r1 w1 ⟨v1, rfl, hv1, hb1⟩
    replace HP := Lib.hid (HP.out.call hb1)
    have HV1 := Lib.hid hv1
    clear hb1 hv1
    dsimp only
    refine hK.out _ _ ⟨HP.out.blkAt0 (.tail _ (.head _)), HP.out.blkAt0 (.head _)⟩ (fun hHeld => ?_)
    replace HS0 := Lib.hid hHeld
    clear hK K hHeld
    (try simp only [List.getElem_toArray, List.getElem_cons_succ, List.getElem_cons_zero, Act.put, List.setIfInBounds_toArray, List.set_cons_zero, List.set_cons_succ])
    refine wpAnyH_ready (rs := [3, 8]) (by kernel_rfl) (by simp) ?_
    refine AllReadyH.cons rfl (fun K hK => ?_) (AllReadyH.cons rfl (fun K hK => ?_) AllReadyH.nil)
    · skip
      go_simp
      refine (states_any s _ _ _ _ (HP.out.rep (F := ⟨w, Lt w.heap.size⟩) (by simp) HF.out) (HP.out.rep (F := ⟨w, Lt w.heap.size⟩) (by simp) HE.out) (HP.out.rep (F := ⟨w, Lt w.heap.size⟩) (by simp) HAN.out) hlf hle hla).mono ?_
      rintro r2 w4 ⟨u4, e4, a4, rfl, h1, h2, h3, hb2⟩
      replace HP := Lib.hid (HP.out.call hb2)
      have H1 := Lib.hid h1
      have H2 := Lib.hid h2
      have H3 := Lib.hid h3
      clear hb2 h1 h2 h3
      dsimp only
      refine hK.out _ _ ⟨HP.out.blkAt0 (.tail _ (.head _)), HP.out.blkAt0 (.head _)⟩ (fun hHeld => ?_)
      replace HS0 := Lib.hid hHeld
      clear hK K hHeld
      (try simp only [List.getElem_toArray, List.getElem_cons_succ, List.getElem_cons_zero, Act.put, List.setIfInBounds_toArray, List.set_cons_zero, List.set_cons_succ])
      refine wpAnyH_ready (rs := [4, 8]) (by kernel_rfl) (by simp) ?_
      refine AllReadyH.cons rfl (fun K hK => ?_) (AllReadyH.cons rfl (fun K hK => ?_) AllReadyH.nil)
      · skip
        go_simp
        refine (Enter_any p _ s _ _ _ _ (HP.out.rep (.tail _ (.head _)) HV1.out) (HP.out.rep (.head _) H1.out) (HP.out.rep (.head _) H2.out) (HP.out.rep (.head _) H3.out) (HH.out.keep HP.out.below rfl)).mono ?_
        rintro r3 w5 ⟨rfl, hb3⟩
        replace HP := Lib.hid (HP.out.call0 hb3)
        clear hb3
        dsimp only
        refine hK.out _ _ ⟨HP.out.blkAt0 (.tail _ (.head _)), HP.out.blkAt0 (.head _)⟩ (fun hHeld => ?_)
        replace HS0 := Lib.hid hHeld
        clear hK K hHeld
        (try simp only [List.getElem_toArray, List.getElem_cons_succ, List.getElem_cons_zero, Act.put, List.setIfInBounds_toArray, List.set_cons_zero, List.set_cons_succ])
        refine wpAnyH_take (i := 5) (v := ?_) rfl (by kernel_rfl) (by kernel_rfl) (by kernel_rfl) (fun _ _ _ h => h) (.inl ⟨by simp [Region.wanted], ?_⟩) HS0.out ?_
        rotate_left
        · intro w' hw
          obtain ⟨k0, k1⟩ := hw
          go_simp
          (try with_reducible rfl)
        (try simp only [List.getElem_toArray, List.getElem_cons_succ, List.getElem_cons_zero, Act.put, List.setIfInBounds_toArray, List.set_cons_zero, List.set_cons_succ])
        refine wpAnyH_take (i := 6) (v := ?_) rfl (by kernel_rfl) (by kernel_rfl) (by kernel_rfl) (fun _ _ _ h => h) (.inl ⟨by simp [Region.wanted], ?_⟩) HS0.out ?_
        rotate_left
        · intro w' hw
          obtain ⟨k0, k1⟩ := hw
          go_simp
          (try with_reducible rfl)
        (try simp only [List.getElem_toArray, List.getElem_cons_succ, List.getElem_cons_zero, Act.put, List.setIfInBounds_toArray, List.set_cons_zero, List.set_cons_succ])
        refine wpAnyH_take (i := 7) (v := ?_) rfl (by kernel_rfl) (by kernel_rfl) (by kernel_rfl) (fun _ _ _ h => h) (.inl ⟨by simp [Region.wanted], ?_⟩) HS0.out ?_
        rotate_left
        · intro w' hw
          obtain ⟨k0, k1⟩ := hw
          go_simp
          (try with_reducible rfl)
        (try simp only [List.getElem_toArray, List.getElem_cons_succ, List.getElem_cons_zero, Act.put, List.setIfInBounds_toArray, List.set_cons_zero, List.set_cons_succ])
        refine wpAnyH_ready (rs := [8]) (by kernel_rfl) (by simp) ?_
        refine AllReadyH.cons rfl (fun K hK => ?_) AllReadyH.nil
        refine wanted_only rfl ?_
        (refine wpList_alloc_hp (o := ⟨some 5, _, _, _, _, _⟩) rfl _ rfl HP.out (.agg (cpuL z32 0 (List.replicate 64 0) false).toArray) (by kernel_rfl) (cpuL z32 0 (List.replicate 64 0) false) rfl ?_; clear HP; intro g5 w5 HP; replace HP := Lib.hid HP)
        refine wpList_nil ?_
        refine hK.out _ _ ⟨HP.out.blkAt0 (.tail _ (.tail _ (.head _))), HP.out.blkAt0 (.tail _ (.head _))⟩ (fun hHeld => ?_)
        replace HS0 := Lib.hid hHeld
        clear hK K hHeld
        (try simp only [List.getElem_toArray, List.getElem_cons_succ, List.getElem_cons_zero, Act.put, List.setIfInBounds_toArray, List.set_cons_zero, List.set_cons_succ])
        refine wpAnyH_ready (rs := [9]) (by kernel_rfl) (by simp) ?_
        refine AllReadyH.cons rfl (fun K hK => ?_) AllReadyH.nil
        refine wanted_only rfl ?_
        (refine wpList_stR0 rfl 44 _ _ rfl HP.out rfl (cs' := cpuCells (enterAns p s).1) rfl (by rw [cpuC_len]; rfl) cpuC_one (by rw [cpuC_len]; kernel_rfl) ?_; clear HP; intro wst HP; replace HP := Lib.hid HP)
        refine wpList_nil ?_
        refine hK.out _ _ ⟨HP.out.blkAt0 (.tail _ (.tail _ (.head _))), HP.out.blkAt0 (.tail _ (.head _))⟩ (fun hHeld => ?_)
        replace HS0 := Lib.hid hHeld
        clear hK K hHeld
        (try simp only [List.getElem_toArray, List.getElem_cons_succ, List.getElem_cons_zero, Act.put, List.setIfInBounds_toArray, List.set_cons_zero, List.set_cons_succ])
        refine wpAnyH_ready (rs := [10]) (by kernel_rfl) (by simp) ?_
        refine AllReadyH.cons rfl (fun K hK => ?_) AllReadyH.nil
        go_simp
        refine hK.out _ _ ⟨HP.out.blkAt0 (.tail _ (.tail _ (.head _))), HP.out.blkAt0 (.tail _ (.head _))⟩ (fun hHeld => ?_)
        replace HS0 := Lib.hid hHeld
        clear hK K hHeld
        (try simp only [List.getElem_toArray, List.getElem_cons_succ, List.getElem_cons_zero, Act.put, List.setIfInBounds_toArray, List.set_cons_zero, List.set_cons_succ])
        refine wpAnyH_done (by kernel_rfl) ?_ _
        (try simp only [List.getElem_toArray, List.getElem_cons_succ, List.getElem_cons_zero, Act.put, List.setIfInBounds_toArray, List.set_cons_zero, List.set_cons_succ])
        go_upto_region 3 with (first | (refine wpList_ldR0 rfl 24 _ rfl HP.out rfl Tryd.underlying24 rfl (by kernel_rfl) ?_) | (refine wpList_ldR1 rfl 24 _ rfl HP.out rfl Tryd.underlying24 rfl (by kernel_rfl) ?_) | (refine wpList_ldR2 rfl 24 _ rfl HP.out rfl Tryd.underlying24 rfl (by kernel_rfl) ?_) | (refine wpList_ldR3 rfl 24 _ rfl HP.out rfl Tryd.underlying24 rfl (by kernel_rfl) ?_) | (refine wpList_ldR0 rfl 29 _ rfl HP.out rfl Tryd.underlying29 rfl (by kernel_rfl) ?_) | (refine wpList_ldR1 rfl 29 _ rfl HP.out rfl Tryd.underlying29 rfl (by kernel_rfl) ?_) | (refine wpList_ldR2 rfl 29 _ rfl HP.out rfl Tryd.underlying29 rfl (by kernel_rfl) ?_) | (refine wpList_ldR3 rfl 29 _ rfl HP.out rfl Tryd.underlying29 rfl (by kernel_rfl) ?_) | (go_at_call 24; refine (Entered_any p _ s _ _ _ _ (HP.out.rep (F := ⟨w, Lt w.heap.size⟩) (by simp) HR.out) (HP.out.rep (F := ⟨w, Lt w.heap.size⟩) (by simp) HF.out) (HP.out.rep (F := ⟨w, Lt w.heap.size⟩) (by simp) HE.out) (HP.out.rep (F := ⟨w, Lt w.heap.size⟩) (by simp) HAN.out)).mono ?_; rintro r6 w6 ⟨rfl, hb⟩; replace HP := Lib.hid (HP.out.call0 hb); clear hb) | (refine wpList_alloc_hp (o := ⟨some 7, _, _, _, _, _⟩) rfl _ rfl HP.out (.agg (cpuL z32 0 (List.replicate 64 0) false).toArray) (by kernel_rfl) (cpuL z32 0 (List.replicate 64 0) false) rfl ?_; clear HP; intro g7 w7 HP; replace HP := Lib.hid HP) | (refine wpList_stR0 rfl 44 _ _ rfl HP.out rfl (cs' := cpuCells (enterAns p s).1) rfl (by rw [cpuC_len]; rfl) cpuC_one (by rw [cpuC_len]; kernel_rfl) ?_; clear HP; intro wst HP; replace HP := Lib.hid HP))
        (try simp only [List.getElem_toArray, List.getElem_cons_succ, List.getElem_cons_zero, Act.put, List.setIfInBounds_toArray, List.set_cons_zero, List.set_cons_succ])
        have hq := run_eq_cpu (enterAns p s).1
        have hq2 := fun w => eq_cpu' 9997 (enterAns p s).1 w
        go_wp2_with (first | (refine wpList_ldR0 rfl 44 _ rfl HP.out rfl Tryd.underlying44 rfl (by rw [cpuC_len]; kernel_rfl) ?_) | (refine wpList_ldR1 rfl 44 _ rfl HP.out rfl Tryd.underlying44 rfl (by rw [cpuC_len]; kernel_rfl) ?_))
        go_ret
        exact ⟨ret_bool (by simp), HP.out.below⟩
      · skip
        refine wanted_only rfl ?_
        (refine wpList_alloc_hp (o := ⟨some 5, _, _, _, _, _⟩) rfl _ rfl HP.out (.agg (cpuL z32 0 (List.replicate 64 0) false).toArray) (by kernel_rfl) (cpuL z32 0 (List.replicate 64 0) false) rfl ?_; clear HP; intro g5 w5 HP; replace HP := Lib.hid HP)
        refine wpList_nil ?_
        refine hK.out _ _ ⟨HP.out.blkAt0 (.tail _ (.tail _ (.head _))), HP.out.blkAt0 (.tail _ (.head _))⟩ (fun hHeld => ?_)
        replace HS0 := Lib.hid hHeld
        clear hK K hHeld
        (try simp only [List.getElem_toArray, List.getElem_cons_succ, List.getElem_cons_zero, Act.put, List.setIfInBounds_toArray, List.set_cons_zero, List.set_cons_succ])
        refine wpAnyH_ready (rs := [4]) (by kernel_rfl) (by simp) ?_
        refine AllReadyH.cons rfl (fun K hK => ?_) AllReadyH.nil
        go_simp
        refine (Enter_any p _ s _ _ _ _ (HP.out.rep (.tail _ (.head _)) HV1.out) (HP.out.rep (.head _) H1.out) (HP.out.rep (.head _) H2.out) (HP.out.rep (.head _) H3.out) (HH.out.keep HP.out.below rfl)).mono ?_
        rintro r3 w5 ⟨rfl, hb3⟩
        replace HP := Lib.hid (HP.out.call0 hb3)
        clear hb3
        dsimp only
        refine hK.out _ _ ⟨HP.out.blkAt0 (.tail _ (.tail _ (.head _))), HP.out.blkAt0 (.tail _ (.head _))⟩ (fun hHeld => ?_)
        replace HS0 := Lib.hid hHeld
        clear hK K hHeld
        (try simp only [List.getElem_toArray, List.getElem_cons_succ, List.getElem_cons_zero, Act.put, List.setIfInBounds_toArray, List.set_cons_zero, List.set_cons_succ])
        refine wpAnyH_take (i := 5) (v := ?_) rfl (by kernel_rfl) (by kernel_rfl) (by kernel_rfl) (fun _ _ _ h => h) (.inl ⟨by simp [Region.wanted], ?_⟩) HS0.out ?_
        rotate_left
        · intro w' hw
          obtain ⟨k0, k1⟩ := hw
          go_simp
          (try with_reducible rfl)
        (try simp only [List.getElem_toArray, List.getElem_cons_succ, List.getElem_cons_zero, Act.put, List.setIfInBounds_toArray, List.set_cons_zero, List.set_cons_succ])
        refine wpAnyH_take (i := 6) (v := ?_) rfl (by kernel_rfl) (by kernel_rfl) (by kernel_rfl) (fun _ _ _ h => h) (.inl ⟨by simp [Region.wanted], ?_⟩) HS0.out ?_
        rotate_left
        · intro w' hw
          obtain ⟨k0, k1⟩ := hw
          go_simp
          (try with_reducible rfl)
        (try simp only [List.getElem_toArray, List.getElem_cons_succ, List.getElem_cons_zero, Act.put, List.setIfInBounds_toArray, List.set_cons_zero, List.set_cons_succ])
        refine wpAnyH_take (i := 7) (v := ?_) rfl (by kernel_rfl) (by kernel_rfl) (by kernel_rfl) (fun _ _ _ h => h) (.inl ⟨by simp [Region.wanted], ?_⟩) HS0.out ?_
        rotate_left
        · intro w' hw
          obtain ⟨k0, k1⟩ := hw
          go_simp
          (try with_reducible rfl)
        (try simp only [List.getElem_toArray, List.getElem_cons_succ, List.getElem_cons_zero, Act.put, List.setIfInBounds_toArray, List.set_cons_zero, List.set_cons_succ])
        refine wpAnyH_ready (rs := [9]) (by kernel_rfl) (by simp) ?_
        refine AllReadyH.cons rfl (fun K hK => ?_) AllReadyH.nil
        refine wanted_only rfl ?_
        (refine wpList_stR0 rfl 44 _ _ rfl HP.out rfl (cs' := cpuCells (enterAns p s).1) rfl (by rw [cpuC_len]; rfl) cpuC_one (by rw [cpuC_len]; kernel_rfl) ?_; clear HP; intro wst HP; replace HP := Lib.hid HP)
        refine wpList_nil ?_
        refine hK.out _ _ ⟨HP.out.blkAt0 (.tail _ (.tail _ (.head _))), HP.out.blkAt0 (.tail _ (.head _))⟩ (fun hHeld => ?_)
        replace HS0 := Lib.hid hHeld
        clear hK K hHeld
        (try simp only [List.getElem_toArray, List.getElem_cons_succ, List.getElem_cons_zero, Act.put, List.setIfInBounds_toArray, List.set_cons_zero, List.set_cons_succ])
        refine wpAnyH_ready (rs := [10]) (by kernel_rfl) (by simp) ?_
        refine AllReadyH.cons rfl (fun K hK => ?_) AllReadyH.nil
        go_simp
        refine hK.out _ _ ⟨HP.out.blkAt0 (.tail _ (.tail _ (.head _))), HP.out.blkAt0 (.tail _ (.head _))⟩ (fun hHeld => ?_)
        replace HS0 := Lib.hid hHeld
        clear hK K hHeld
        (try simp only [List.getElem_toArray, List.getElem_cons_succ, List.getElem_cons_zero, Act.put, List.setIfInBounds_toArray, List.set_cons_zero, List.set_cons_succ])
        refine wpAnyH_done (by kernel_rfl) ?_ _
        (try simp only [List.getElem_toArray, List.getElem_cons_succ, List.getElem_cons_zero, Act.put, List.setIfInBounds_toArray, List.set_cons_zero, List.set_cons_succ])
        go_upto_region 3 with (first | (refine wpList_ldR0 rfl 24 _ rfl HP.out rfl Tryd.underlying24 rfl (by kernel_rfl) ?_) | (refine wpList_ldR1 rfl 24 _ rfl HP.out rfl Tryd.underlying24 rfl (by kernel_rfl) ?_) | (refine wpList_ldR2 rfl 24 _ rfl HP.out rfl Tryd.underlying24 rfl (by kernel_rfl) ?_) | (refine wpList_ldR3 rfl 24 _ rfl HP.out rfl Tryd.underlying24 rfl (by kernel_rfl) ?_) | (refine wpList_ldR0 rfl 29 _ rfl HP.out rfl Tryd.underlying29 rfl (by kernel_rfl) ?_) | (refine wpList_ldR1 rfl 29 _ rfl HP.out rfl Tryd.underlying29 rfl (by kernel_rfl) ?_) | (refine wpList_ldR2 rfl 29 _ rfl HP.out rfl Tryd.underlying29 rfl (by kernel_rfl) ?_) | (refine wpList_ldR3 rfl 29 _ rfl HP.out rfl Tryd.underlying29 rfl (by kernel_rfl) ?_) | (go_at_call 24; refine (Entered_any p _ s _ _ _ _ (HP.out.rep (F := ⟨w, Lt w.heap.size⟩) (by simp) HR.out) (HP.out.rep (F := ⟨w, Lt w.heap.size⟩) (by simp) HF.out) (HP.out.rep (F := ⟨w, Lt w.heap.size⟩) (by simp) HE.out) (HP.out.rep (F := ⟨w, Lt w.heap.size⟩) (by simp) HAN.out)).mono ?_; rintro r6 w6 ⟨rfl, hb⟩; replace HP := Lib.hid (HP.out.call0 hb); clear hb) | (refine wpList_alloc_hp (o := ⟨some 7, _, _, _, _, _⟩) rfl _ rfl HP.out (.agg (cpuL z32 0 (List.replicate 64 0) false).toArray) (by kernel_rfl) (cpuL z32 0 (List.replicate 64 0) false) rfl ?_; clear HP; intro g7 w7 HP; replace HP := Lib.hid HP) | (refine wpList_stR0 rfl 44 _ _ rfl HP.out rfl (cs' := cpuCells (enterAns p s).1) rfl (by rw [cpuC_len]; rfl) cpuC_one (by rw [cpuC_len]; kernel_rfl) ?_; clear HP; intro wst HP; replace HP := Lib.hid HP))
        (try simp only [List.getElem_toArray, List.getElem_cons_succ, List.getElem_cons_zero, Act.put, List.setIfInBounds_toArray, List.set_cons_zero, List.set_cons_succ])
        have hq := run_eq_cpu (enterAns p s).1
        have hq2 := fun w => eq_cpu' 9997 (enterAns p s).1 w
        go_wp2_with (first | (refine wpList_ldR0 rfl 44 _ rfl HP.out rfl Tryd.underlying44 rfl (by rw [cpuC_len]; kernel_rfl) ?_) | (refine wpList_ldR1 rfl 44 _ rfl HP.out rfl Tryd.underlying44 rfl (by rw [cpuC_len]; kernel_rfl) ?_))
        go_ret
        exact ⟨ret_bool (by simp), HP.out.below⟩
    · skip
      refine wanted_only rfl ?_
      (refine wpList_alloc_hp (o := ⟨some 5, _, _, _, _, _⟩) rfl _ rfl HP.out (.agg (cpuL z32 0 (List.replicate 64 0) false).toArray) (by kernel_rfl) (cpuL z32 0 (List.replicate 64 0) false) rfl ?_; clear HP; intro g5 w5 HP; replace HP := Lib.hid HP)
      refine wpList_nil ?_
      refine hK.out _ _ ⟨HP.out.blkAt0 (.tail _ (.tail _ (.head _))), HP.out.blkAt0 (.tail _ (.head _))⟩ (fun hHeld => ?_)
      replace HS0 := Lib.hid hHeld
      clear hK K hHeld
      (try simp only [List.getElem_toArray, List.getElem_cons_succ, List.getElem_cons_zero, Act.put, List.setIfInBounds_toArray, List.set_cons_zero, List.set_cons_succ])
      refine wpAnyH_ready (rs := [3]) (by kernel_rfl) (by simp) ?_
      refine AllReadyH.cons rfl (fun K hK => ?_) AllReadyH.nil
      go_simp
      refine (states_any s _ _ _ _ (HP.out.rep (F := ⟨w, Lt w.heap.size⟩) (by simp) HF.out) (HP.out.rep (F := ⟨w, Lt w.heap.size⟩) (by simp) HE.out) (HP.out.rep (F := ⟨w, Lt w.heap.size⟩) (by simp) HAN.out) hlf hle hla).mono ?_
      rintro r2 w4 ⟨u4, e4, a4, rfl, h1, h2, h3, hb2⟩
      replace HP := Lib.hid (HP.out.call hb2)
      have H1 := Lib.hid h1
      have H2 := Lib.hid h2
      have H3 := Lib.hid h3
      clear hb2 h1 h2 h3
      dsimp only
      refine hK.out _ _ ⟨HP.out.blkAt0 (.tail _ (.tail _ (.head _))), HP.out.blkAt0 (.tail _ (.head _))⟩ (fun hHeld => ?_)
      replace HS0 := Lib.hid hHeld
      clear hK K hHeld
      (try simp only [List.getElem_toArray, List.getElem_cons_succ, List.getElem_cons_zero, Act.put, List.setIfInBounds_toArray, List.set_cons_zero, List.set_cons_succ])
      refine wpAnyH_ready (rs := [4]) (by kernel_rfl) (by simp) ?_
      refine AllReadyH.cons rfl (fun K hK => ?_) AllReadyH.nil
      go_simp
      refine (Enter_any p _ s _ _ _ _ (HP.out.rep (.tail _ (.head _)) HV1.out) (HP.out.rep (.head _) H1.out) (HP.out.rep (.head _) H2.out) (HP.out.rep (.head _) H3.out) (HH.out.keep HP.out.below rfl)).mono ?_
      rintro r3 w5 ⟨rfl, hb3⟩
      replace HP := Lib.hid (HP.out.call0 hb3)
      clear hb3
      dsimp only
      refine hK.out _ _ ⟨HP.out.blkAt0 (.tail _ (.tail _ (.head _))), HP.out.blkAt0 (.tail _ (.head _))⟩ (fun hHeld => ?_)
      replace HS0 := Lib.hid hHeld
      clear hK K hHeld
      (try simp only [List.getElem_toArray, List.getElem_cons_succ, List.getElem_cons_zero, Act.put, List.setIfInBounds_toArray, List.set_cons_zero, List.set_cons_succ])
      refine wpAnyH_take (i := 5) (v := ?_) rfl (by kernel_rfl) (by kernel_rfl) (by kernel_rfl) (fun _ _ _ h => h) (.inl ⟨by simp [Region.wanted], ?_⟩) HS0.out ?_
      rotate_left
      · intro w' hw
        obtain ⟨k0, k1⟩ := hw
        go_simp
        (try with_reducible rfl)
      (try simp only [List.getElem_toArray, List.getElem_cons_succ, List.getElem_cons_zero, Act.put, List.setIfInBounds_toArray, List.set_cons_zero, List.set_cons_succ])
      refine wpAnyH_take (i := 6) (v := ?_) rfl (by kernel_rfl) (by kernel_rfl) (by kernel_rfl) (fun _ _ _ h => h) (.inl ⟨by simp [Region.wanted], ?_⟩) HS0.out ?_
      rotate_left
      · intro w' hw
        obtain ⟨k0, k1⟩ := hw
        go_simp
        (try with_reducible rfl)
      (try simp only [List.getElem_toArray, List.getElem_cons_succ, List.getElem_cons_zero, Act.put, List.setIfInBounds_toArray, List.set_cons_zero, List.set_cons_succ])
      refine wpAnyH_take (i := 7) (v := ?_) rfl (by kernel_rfl) (by kernel_rfl) (by kernel_rfl) (fun _ _ _ h => h) (.inl ⟨by simp [Region.wanted], ?_⟩) HS0.out ?_
      rotate_left
      · intro w' hw
        obtain ⟨k0, k1⟩ := hw
        go_simp
        (try with_reducible rfl)
      (try simp only [List.getElem_toArray, List.getElem_cons_succ, List.getElem_cons_zero, Act.put, List.setIfInBounds_toArray, List.set_cons_zero, List.set_cons_succ])
      refine wpAnyH_ready (rs := [9]) (by kernel_rfl) (by simp) ?_
      refine AllReadyH.cons rfl (fun K hK => ?_) AllReadyH.nil
      refine wanted_only rfl ?_
      (refine wpList_stR0 rfl 44 _ _ rfl HP.out rfl (cs' := cpuCells (enterAns p s).1) rfl (by rw [cpuC_len]; rfl) cpuC_one (by rw [cpuC_len]; kernel_rfl) ?_; clear HP; intro wst HP; replace HP := Lib.hid HP)
      refine wpList_nil ?_
      refine hK.out _ _ ⟨HP.out.blkAt0 (.tail _ (.tail _ (.head _))), HP.out.blkAt0 (.tail _ (.head _))⟩ (fun hHeld => ?_)
      replace HS0 := Lib.hid hHeld
      clear hK K hHeld
      (try simp only [List.getElem_toArray, List.getElem_cons_succ, List.getElem_cons_zero, Act.put, List.setIfInBounds_toArray, List.set_cons_zero, List.set_cons_succ])
      refine wpAnyH_ready (rs := [10]) (by kernel_rfl) (by simp) ?_
      refine AllReadyH.cons rfl (fun K hK => ?_) AllReadyH.nil
      go_simp
      refine hK.out _ _ ⟨HP.out.blkAt0 (.tail _ (.tail _ (.head _))), HP.out.blkAt0 (.tail _ (.head _))⟩ (fun hHeld => ?_)
      replace HS0 := Lib.hid hHeld
      clear hK K hHeld
      (try simp only [List.getElem_toArray, List.getElem_cons_succ, List.getElem_cons_zero, Act.put, List.setIfInBounds_toArray, List.set_cons_zero, List.set_cons_succ])
      refine wpAnyH_done (by kernel_rfl) ?_ _
      (try simp only [List.getElem_toArray, List.getElem_cons_succ, List.getElem_cons_zero, Act.put, List.setIfInBounds_toArray, List.set_cons_zero, List.set_cons_succ])
      go_upto_region 3 with (first | (refine wpList_ldR0 rfl 24 _ rfl HP.out rfl Tryd.underlying24 rfl (by kernel_rfl) ?_) | (refine wpList_ldR1 rfl 24 _ rfl HP.out rfl Tryd.underlying24 rfl (by kernel_rfl) ?_) | (refine wpList_ldR2 rfl 24 _ rfl HP.out rfl Tryd.underlying24 rfl (by kernel_rfl) ?_) | (refine wpList_ldR3 rfl 24 _ rfl HP.out rfl Tryd.underlying24 rfl (by kernel_rfl) ?_) | (refine wpList_ldR0 rfl 29 _ rfl HP.out rfl Tryd.underlying29 rfl (by kernel_rfl) ?_) | (refine wpList_ldR1 rfl 29 _ rfl HP.out rfl Tryd.underlying29 rfl (by kernel_rfl) ?_) | (refine wpList_ldR2 rfl 29 _ rfl HP.out rfl Tryd.underlying29 rfl (by kernel_rfl) ?_) | (refine wpList_ldR3 rfl 29 _ rfl HP.out rfl Tryd.underlying29 rfl (by kernel_rfl) ?_) | (go_at_call 24; refine (Entered_any p _ s _ _ _ _ (HP.out.rep (F := ⟨w, Lt w.heap.size⟩) (by simp) HR.out) (HP.out.rep (F := ⟨w, Lt w.heap.size⟩) (by simp) HF.out) (HP.out.rep (F := ⟨w, Lt w.heap.size⟩) (by simp) HE.out) (HP.out.rep (F := ⟨w, Lt w.heap.size⟩) (by simp) HAN.out)).mono ?_; rintro r6 w6 ⟨rfl, hb⟩; replace HP := Lib.hid (HP.out.call0 hb); clear hb) | (refine wpList_alloc_hp (o := ⟨some 7, _, _, _, _, _⟩) rfl _ rfl HP.out (.agg (cpuL z32 0 (List.replicate 64 0) false).toArray) (by kernel_rfl) (cpuL z32 0 (List.replicate 64 0) false) rfl ?_; clear HP; intro g7 w7 HP; replace HP := Lib.hid HP) | (refine wpList_stR0 rfl 44 _ _ rfl HP.out rfl (cs' := cpuCells (enterAns p s).1) rfl (by rw [cpuC_len]; rfl) cpuC_one (by rw [cpuC_len]; kernel_rfl) ?_; clear HP; intro wst HP; replace HP := Lib.hid HP))
      (try simp only [List.getElem_toArray, List.getElem_cons_succ, List.getElem_cons_zero, Act.put, List.setIfInBounds_toArray, List.set_cons_zero, List.set_cons_succ])
      have hq := run_eq_cpu (enterAns p s).1
      have hq2 := fun w => eq_cpu' 9997 (enterAns p s).1 w
      go_wp2_with (first | (refine wpList_ldR0 rfl 44 _ rfl HP.out rfl Tryd.underlying44 rfl (by rw [cpuC_len]; kernel_rfl) ?_) | (refine wpList_ldR1 rfl 44 _ rfl HP.out rfl Tryd.underlying44 rfl (by rw [cpuC_len]; kernel_rfl) ?_))
      go_ret
      exact ⟨ret_bool (by simp), HP.out.below⟩
  · skip
    refine wanted_only rfl ?_
    (refine wpList_alloc_hp (o := ⟨some 5, _, _, _, _, _⟩) rfl _ rfl HP.out (.agg (cpuL z32 0 (List.replicate 64 0) false).toArray) (by kernel_rfl) (cpuL z32 0 (List.replicate 64 0) false) rfl ?_; clear HP; intro g5 w5 HP; replace HP := Lib.hid HP)
    refine wpList_nil ?_
    refine hK.out _ _ ⟨HP.out.blkAt0 (.tail _ (.tail _ (.head _))), HP.out.blkAt0 (.tail _ (.head _))⟩ (fun hHeld => ?_)
    replace HS0 := Lib.hid hHeld
    clear hK K hHeld
    (try simp only [List.getElem_toArray, List.getElem_cons_succ, List.getElem_cons_zero, Act.put, List.setIfInBounds_toArray, List.set_cons_zero, List.set_cons_succ])
    refine wpAnyH_ready (rs := [1]) (by kernel_rfl) (by simp) ?_
    refine AllReadyH.cons rfl (fun K hK => ?_) AllReadyH.nil
    go_simp
    refine (programs_any p _ _ (HP.out.rep (F := ⟨w, Lt w.heap.size⟩) (by simp) HR.out) HOK.out).mono ?_
    rintro r1 w1 ⟨v1, rfl, hv1, hb1⟩
    replace HP := Lib.hid (HP.out.call hb1)
    have HV1 := Lib.hid hv1
    clear hb1 hv1
    dsimp only
    refine hK.out _ _ ⟨HP.out.blkAt0 (.tail _ (.tail _ (.head _))), HP.out.blkAt0 (.tail _ (.head _))⟩ (fun hHeld => ?_)
    replace HS0 := Lib.hid hHeld
    clear hK K hHeld
    (try simp only [List.getElem_toArray, List.getElem_cons_succ, List.getElem_cons_zero, Act.put, List.setIfInBounds_toArray, List.set_cons_zero, List.set_cons_succ])
    refine wpAnyH_ready (rs := [3]) (by kernel_rfl) (by simp) ?_
    refine AllReadyH.cons rfl (fun K hK => ?_) AllReadyH.nil
    go_simp
    refine (states_any s _ _ _ _ (HP.out.rep (F := ⟨w, Lt w.heap.size⟩) (by simp) HF.out) (HP.out.rep (F := ⟨w, Lt w.heap.size⟩) (by simp) HE.out) (HP.out.rep (F := ⟨w, Lt w.heap.size⟩) (by simp) HAN.out) hlf hle hla).mono ?_
    rintro r2 w4 ⟨u4, e4, a4, rfl, h1, h2, h3, hb2⟩
    replace HP := Lib.hid (HP.out.call hb2)
    have H1 := Lib.hid h1
    have H2 := Lib.hid h2
    have H3 := Lib.hid h3
    clear hb2 h1 h2 h3
    dsimp only
    refine hK.out _ _ ⟨HP.out.blkAt0 (.tail _ (.tail _ (.head _))), HP.out.blkAt0 (.tail _ (.head _))⟩ (fun hHeld => ?_)
    replace HS0 := Lib.hid hHeld
    clear hK K hHeld
    (try simp only [List.getElem_toArray, List.getElem_cons_succ, List.getElem_cons_zero, Act.put, List.setIfInBounds_toArray, List.set_cons_zero, List.set_cons_succ])
    refine wpAnyH_ready (rs := [4]) (by kernel_rfl) (by simp) ?_
    refine AllReadyH.cons rfl (fun K hK => ?_) AllReadyH.nil
    go_simp
    refine (Enter_any p _ s _ _ _ _ (HP.out.rep (.tail _ (.head _)) HV1.out) (HP.out.rep (.head _) H1.out) (HP.out.rep (.head _) H2.out) (HP.out.rep (.head _) H3.out) (HH.out.keep HP.out.below rfl)).mono ?_
    rintro r3 w5 ⟨rfl, hb3⟩
    replace HP := Lib.hid (HP.out.call0 hb3)
    clear hb3
    dsimp only
    refine hK.out _ _ ⟨HP.out.blkAt0 (.tail _ (.tail _ (.head _))), HP.out.blkAt0 (.tail _ (.head _))⟩ (fun hHeld => ?_)
    replace HS0 := Lib.hid hHeld
    clear hK K hHeld
    (try simp only [List.getElem_toArray, List.getElem_cons_succ, List.getElem_cons_zero, Act.put, List.setIfInBounds_toArray, List.set_cons_zero, List.set_cons_succ])
    refine wpAnyH_take (i := 5) (v := ?_) rfl (by kernel_rfl) (by kernel_rfl) (by kernel_rfl) (fun _ _ _ h => h) (.inl ⟨by simp [Region.wanted], ?_⟩) HS0.out ?_
    rotate_left
    · intro w' hw
      obtain ⟨k0, k1⟩ := hw
      go_simp
      (try with_reducible rfl)
    (try simp only [List.getElem_toArray, List.getElem_cons_succ, List.getElem_cons_zero, Act.put, List.setIfInBounds_toArray, List.set_cons_zero, List.set_cons_succ])
    refine wpAnyH_take (i := 6) (v := ?_) rfl (by kernel_rfl) (by kernel_rfl) (by kernel_rfl) (fun _ _ _ h => h) (.inl ⟨by simp [Region.wanted], ?_⟩) HS0.out ?_
    rotate_left
    · intro w' hw
      obtain ⟨k0, k1⟩ := hw
      go_simp
      (try with_reducible rfl)
    (try simp only [List.getElem_toArray, List.getElem_cons_succ, List.getElem_cons_zero, Act.put, List.setIfInBounds_toArray, List.set_cons_zero, List.set_cons_succ])
    refine wpAnyH_take (i := 7) (v := ?_) rfl (by kernel_rfl) (by kernel_rfl) (by kernel_rfl) (fun _ _ _ h => h) (.inl ⟨by simp [Region.wanted], ?_⟩) HS0.out ?_
    rotate_left
    · intro w' hw
      obtain ⟨k0, k1⟩ := hw
      go_simp
      (try with_reducible rfl)
    (try simp only [List.getElem_toArray, List.getElem_cons_succ, List.getElem_cons_zero, Act.put, List.setIfInBounds_toArray, List.set_cons_zero, List.set_cons_succ])
    refine wpAnyH_ready (rs := [9]) (by kernel_rfl) (by simp) ?_
    refine AllReadyH.cons rfl (fun K hK => ?_) AllReadyH.nil
    refine wanted_only rfl ?_
    (refine wpList_stR0 rfl 44 _ _ rfl HP.out rfl (cs' := cpuCells (enterAns p s).1) rfl (by rw [cpuC_len]; rfl) cpuC_one (by rw [cpuC_len]; kernel_rfl) ?_; clear HP; intro wst HP; replace HP := Lib.hid HP)
    refine wpList_nil ?_
    refine hK.out _ _ ⟨HP.out.blkAt0 (.tail _ (.tail _ (.head _))), HP.out.blkAt0 (.tail _ (.head _))⟩ (fun hHeld => ?_)
    replace HS0 := Lib.hid hHeld
    clear hK K hHeld
    (try simp only [List.getElem_toArray, List.getElem_cons_succ, List.getElem_cons_zero, Act.put, List.setIfInBounds_toArray, List.set_cons_zero, List.set_cons_succ])
    refine wpAnyH_ready (rs := [10]) (by kernel_rfl) (by simp) ?_
    refine AllReadyH.cons rfl (fun K hK => ?_) AllReadyH.nil
    go_simp
    refine hK.out _ _ ⟨HP.out.blkAt0 (.tail _ (.tail _ (.head _))), HP.out.blkAt0 (.tail _ (.head _))⟩ (fun hHeld => ?_)
    replace HS0 := Lib.hid hHeld
    clear hK K hHeld
    (try simp only [List.getElem_toArray, List.getElem_cons_succ, List.getElem_cons_zero, Act.put, List.setIfInBounds_toArray, List.set_cons_zero, List.set_cons_succ])
    refine wpAnyH_done (by kernel_rfl) ?_ _
    (try simp only [List.getElem_toArray, List.getElem_cons_succ, List.getElem_cons_zero, Act.put, List.setIfInBounds_toArray, List.set_cons_zero, List.set_cons_succ])
    go_upto_region 3 with (first | (refine wpList_ldR0 rfl 24 _ rfl HP.out rfl Tryd.underlying24 rfl (by kernel_rfl) ?_) | (refine wpList_ldR1 rfl 24 _ rfl HP.out rfl Tryd.underlying24 rfl (by kernel_rfl) ?_) | (refine wpList_ldR2 rfl 24 _ rfl HP.out rfl Tryd.underlying24 rfl (by kernel_rfl) ?_) | (refine wpList_ldR3 rfl 24 _ rfl HP.out rfl Tryd.underlying24 rfl (by kernel_rfl) ?_) | (refine wpList_ldR0 rfl 29 _ rfl HP.out rfl Tryd.underlying29 rfl (by kernel_rfl) ?_) | (refine wpList_ldR1 rfl 29 _ rfl HP.out rfl Tryd.underlying29 rfl (by kernel_rfl) ?_) | (refine wpList_ldR2 rfl 29 _ rfl HP.out rfl Tryd.underlying29 rfl (by kernel_rfl) ?_) | (refine wpList_ldR3 rfl 29 _ rfl HP.out rfl Tryd.underlying29 rfl (by kernel_rfl) ?_) | (go_at_call 24; refine (Entered_any p _ s _ _ _ _ (HP.out.rep (F := ⟨w, Lt w.heap.size⟩) (by simp) HR.out) (HP.out.rep (F := ⟨w, Lt w.heap.size⟩) (by simp) HF.out) (HP.out.rep (F := ⟨w, Lt w.heap.size⟩) (by simp) HE.out) (HP.out.rep (F := ⟨w, Lt w.heap.size⟩) (by simp) HAN.out)).mono ?_; rintro r6 w6 ⟨rfl, hb⟩; replace HP := Lib.hid (HP.out.call0 hb); clear hb) | (refine wpList_alloc_hp (o := ⟨some 7, _, _, _, _, _⟩) rfl _ rfl HP.out (.agg (cpuL z32 0 (List.replicate 64 0) false).toArray) (by kernel_rfl) (cpuL z32 0 (List.replicate 64 0) false) rfl ?_; clear HP; intro g7 w7 HP; replace HP := Lib.hid HP) | (refine wpList_stR0 rfl 44 _ _ rfl HP.out rfl (cs' := cpuCells (enterAns p s).1) rfl (by rw [cpuC_len]; rfl) cpuC_one (by rw [cpuC_len]; kernel_rfl) ?_; clear HP; intro wst HP; replace HP := Lib.hid HP))
    (try simp only [List.getElem_toArray, List.getElem_cons_succ, List.getElem_cons_zero, Act.put, List.setIfInBounds_toArray, List.set_cons_zero, List.set_cons_succ])
    have hq := run_eq_cpu (enterAns p s).1
    have hq2 := fun w => eq_cpu' 9997 (enterAns p s).1 w
    go_wp2_with (first | (refine wpList_ldR0 rfl 44 _ rfl HP.out rfl Tryd.underlying44 rfl (by rw [cpuC_len]; kernel_rfl) ?_) | (refine wpList_ldR1 rfl 44 _ rfl HP.out rfl Tryd.underlying44 rfl (by rw [cpuC_len]; kernel_rfl) ?_))
    go_ret
    exact ⟨ret_bool (by simp), HP.out.below⟩
end Go.Proofs.YtfhoffpdodjfeaaDoor
