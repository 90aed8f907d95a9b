/- The law EmitFars, walked. -/
import Derived.Test.YtceilfmfidmfpaaDoorFar
import Derived.Test.YtceilfmfidmfpaaDoorFarOf
import Derived.Test.YtceilfmfidmfpaaDoorMgCopyReads2MdAMdBMdCMdDMdEStates8
import Derived.Test.YtceilfmfidmfpaaDoorSameSta
import Derived.Test.YtceilfmfidmfpaaDoorCodeF
import Derived.Test.YtceilfmfidmfpaaDoorMgHeldHeldB2
set_option linter.unusedSimpArgs false
set_option linter.unusedVariables false
namespace Go.Proofs.YtceilfmfidmfpaaDoor
open Go.RowKit Plain64
attribute [local irreducible] wpList Code.wp Oper.wp
theorem Hp.blkAt0E {w0 w : World} {Fs : List Fro} {L : List Res} {g : Nat} {t : TypeId} {cs : List Value} (h : Hp w0 Fs L w) (hr : Res.blk g t cs ∈ L) : At w ⟨g, 0, none⟩ cs := h.blkAt hr 0
theorem sta_ok {s : Sta} (h : Lay.ok s) : s.events.length ≤ 17592186043999 ∧ s.answers.length ≤ 17592186044000 ∧ (∀ g ∈ s.frames, ∀ i, I64 (g.rg i)) ∧ (∀ i, I64 (s.mm i)) := by
  obtain ⟨_, _, h1, h4, _, h2, h3⟩ := h
  have b2 : Lay.bytes Int = 8 := rfl
  have e2 : s.events.length * Lay.bytes Int ≤ 140737488351232 := h2.1
  have e3 : s.answers.length * Lay.bytes Int ≤ 140737488351232 := h3.1
  rw [b2] at e2 e3
  refine ⟨by omega, by omega, fun g hg i => ?_, fun i => ?_⟩
  · obtain ⟨_, _, h5⟩ := h1.2 g hg
    unfold Frm.rg
    by_cases hi : i < 12
    · have h6 := h5 i hi
      rw [List.getD_eq_getElem?_getD, Vector.getElem?_toList, Vector.getElem?_eq_getElem hi]
      exact h6
    · rw [List.getD_eq_getElem?_getD, List.getElem?_eq_none (by simp; omega)]
      exact i64_zero
  · unfold Sta.mm
    by_cases hi : i < 16
    · have h6 := h4 i hi
      rw [List.getD_eq_getElem?_getD, Vector.getElem?_toList, Vector.getElem?_eq_getElem hi]
      exact h6
    · rw [List.getD_eq_getElem?_getD, List.getElem?_eq_none (by simp; omega)]
      exact i64_zero
theorem prg_imm {p : Prg} (h : Lay.ok p) : ∀ f ∈ p.funcs, ∀ x ∈ f.code, I64 x.imm := fun f hf x hx => by
  have h1 : Lay.ok f := h.2 f hf
  obtain ⟨_, _, h2⟩ := h1
  obtain ⟨_, _, _, _, h3⟩ := (show Lay.ok x from h2.2 x hx)
  exact h3
set_option maxRecDepth 100000 in
set_option maxHeartbeats 10000000 in
theorem emitFars_any (p : Prg) (v : Value) (s : Sta) (u e a : Value) (w : World) (hp : Lay.rep w (Lt w.heap.size) p [v]) (hok : Lay.ok p) (hf : Lay.rep w (Lt w.heap.size) s.frames [u]) (he : Lay.rep w (Lt w.heap.size) s.events [e]) (ha : Lay.rep w (Lt w.heap.size) s.answers [a])
    (hlf : s.frames.length ≤ 1256584717421) (hos : Lay.ok s) (hh : Has w) :
    Calls Tryd.prog 3 #[.agg #[v], .agg (staCells s u e a).toArray] w fun r w' => r = .returned (.bool true) ∧ Below w.heap.size w w' := by
  have HR := Lib.hid hp
  have HOK := Lib.hid hok
  have HF := Lib.hid hf
  have HE := Lib.hid he
  have HAN := Lib.hid ha
  have HH := Lib.hid hh
  clear hp hok hf he ha hh
  obtain ⟨hle9, hla, hri, hmi⟩ := sta_ok hos
  have hle : s.events.length ≤ 17592186044000 := by omega
  have HIM := Lib.hid (prg_imm HOK.out)
  have HRI := Lib.hid hri
  have HMI := Lib.hid hmi
  clear hri hmi hos
  obtain ⟨X, nn, cd, hla0⟩ : ∃ X nn cd, farAns p s = ((X, nn), cd) := ⟨_, _, _, rfl⟩
  have HLA := Lib.hid hla0
  clear hla0
  have HP := Lib.hid (Hp.start w)
  go_enter Tryd.func3, Tryd.ntmps3
  go_upto_region 2 with (first | (refine wpList_box_hp (o := ⟨some 2, _, _, _, _, _⟩) rfl _ _ rfl HP.out [v] rfl ?_; clear HP; intro g2 w2 HP; replace HP := Lib.hid HP) | (refine wpList_box_hp (o := ⟨some 3, _, _, _, _, _⟩) rfl _ _ rfl HP.out (staCells s u e a) rfl ?_; clear HP; intro g3 w3 HP; replace HP := Lib.hid HP) | (refine wpList_ldR0 rfl 29 _ rfl HP.out rfl Tryd.underlying29 rfl (by kernel_rfl) ?_) | (go_at_call 4; refine (states_any s _ _ _ _ (HP.out.rep (F := ⟨w, Lt w.heap.size⟩) (by simp) HF.out) (HP.out.rep (F := ⟨w, Lt w.heap.size⟩) (by simp) HE.out) (HP.out.rep (F := ⟨w, Lt w.heap.size⟩) (by simp) HAN.out) hlf hle hla).mono ?_; rintro r2 w4 ⟨u4, e4, a4, rfl, h1, h2, h3, hb2⟩; replace HP := Lib.hid (HP.out.call hb2); clear hb2; have HF4 := Lib.hid h1; have HE4 := Lib.hid h2; have HA4 := Lib.hid h3; obtain ⟨Af4, cf4, rfl, -, -, -⟩ := rep_frames_at h1; obtain ⟨Ae4, ce4, rfl, -, -, -⟩ := rep_ints_at h2; obtain ⟨Aa4, ca4, rfl, -, -, -⟩ := rep_ints_at h3; clear h1 h2 h3) | (refine wpList_alloc_hp (o := ⟨some 5, _, _, _, _, _⟩) rfl _ rfl HP.out (.agg (staCells zeroS (.slice none 0 0) (.slice none 0 0) (.slice none 0 0)).toArray) (by kernel_rfl) (staCells zeroS (.slice none 0 0) (.slice none 0 0) (.slice none 0 0)) rfl ?_; clear HP; intro g5 w5 HP; replace HP := Lib.hid HP) | (refine wpList_stR0 rfl 29 _ _ rfl HP.out rfl (cs' := staCells s (.slice Af4 s.frames.length cf4) (.slice Ae4 s.events.length ce4) (.slice Aa4 s.answers.length ca4)) rfl rfl (by simp [staCells, Value.oneCell']) (by kernel_rfl) ?_; clear HP; intro wst HP; replace HP := Lib.hid HP))
  replace HP := Lib.hid HP.out.drew
  refine wp_region_held_drew (S := fun w' => At w' ⟨g2, 0, none⟩ [v] ∧ At w' ⟨g5, 0, none⟩ (staCells s (.slice Af4 s.frames.length cf4) (.slice Ae4 s.events.length ce4) (.slice Aa4 s.answers.length ca4))) (by kernel_rfl) ⟨HP.out.blkAt0E (.tail _ (.tail _ (.head _))), HP.out.blkAt0E (.head _)⟩ (fun hHeld => ?_)
  have HS0 := Lib.hid hHeld
  clear hHeld
  (try simp only [Act.put, List.setIfInBounds_toArray, List.set_cons_zero, List.set_cons_succ])
  refine wpAnyH_row (i := 0) rfl (by kernel_rfl) (by kernel_rfl) (by kernel_rfl) (fun _ _ _ _ h => h) rfl 24 _ rfl _ rfl _ _ (fun _ h => h.1) Tryd.underlying24 rfl (by kernel_rfl) HS0.out ?_
  (try simp only [List.getElem_toArray, List.getElem_cons_succ, List.getElem_cons_zero, Act.put, List.setIfInBounds_toArray, List.set_cons_zero, List.set_cons_succ])
  refine wpAnyH_row (i := 2) rfl (by kernel_rfl) (by kernel_rfl) (by kernel_rfl) (fun _ _ _ _ h => h) rfl 29 _ rfl _ rfl _ _ (fun _ h => h.2) Tryd.underlying29 rfl (by kernel_rfl) HS0.out ?_
  (try simp only [List.getElem_toArray, List.getElem_cons_succ, List.getElem_cons_zero, Act.put, List.setIfInBounds_toArray, List.set_cons_zero, List.set_cons_succ])
  refine wpAnyH_ready (rs := [1, 8]) (by kernel_rfl) (by simp) ?_
  refine AllReadyH.cons rfl (fun K hK => ?_) (AllReadyH.cons rfl (fun K hK => ?_) AllReadyH.nil)
  · skip
    go_simp
    refine (programs_any p _ _ (HP.out.rep (F := ⟨w, Lt w.heap.size⟩) (by simp) HR.out) HOK.out).mono ?_
    rintro r1 w1 ⟨v1, rfl, hv1, hb1⟩
    replace HP := Lib.hid (HP.out.call hb1)
    have HV1 := Lib.hid hv1
    clear hb1 hv1
    dsimp only
    refine hK.out _ _ ⟨HP.out.blkAt0E (.tail _ (.tail _ (.head _))), HP.out.blkAt0E (.head _)⟩ (fun hHeld => ?_)
    replace HS0 := Lib.hid hHeld
    clear hK K hHeld
    (try simp only [List.getElem_toArray, List.getElem_cons_succ, List.getElem_cons_zero, Act.put, List.setIfInBounds_toArray, List.set_cons_zero, List.set_cons_succ])
    refine wpAnyH_ready (rs := [3, 8]) (by kernel_rfl) (by simp) ?_
    refine AllReadyH.cons rfl (fun K hK => ?_) (AllReadyH.cons rfl (fun K hK => ?_) AllReadyH.nil)
    · skip
      go_simp
      refine (Far_any p _ s _ _ _ _ (HP.out.rep (.head _) HV1.out) (HP.out.rep (.tail _ (.head _)) HF4.out) (HP.out.rep (.tail _ (.head _)) HE4.out) (HP.out.rep (.tail _ (.head _)) HA4.out) HIM.out HRI.out HMI.out hle9 (HH.out.keep HP.out.below rfl)).mono ?_
      rintro r3 w5 h3
      rw [HLA.out] at h3
      dsimp only at h3
      obtain ⟨ua, ea, aa, rfl, hf, he, ha, hb⟩ := h3
      replace HP := Lib.hid (HP.out.call hb)
      clear hb
      have HF1 := Lib.hid hf; have HE1 := Lib.hid he; have HA1 := Lib.hid ha; obtain ⟨Af1, cf1, rfl, -, -, -⟩ := rep_frames_at hf; obtain ⟨Ae1, ce1, rfl, -, -, -⟩ := rep_ints_at he; obtain ⟨Aa1, ca1, rfl, -, -, -⟩ := rep_ints_at ha; clear hf he ha
      dsimp only
      refine hK.out _ _ ⟨HP.out.blkAt0E (.tail _ (.tail _ (.head _))), HP.out.blkAt0E (.head _)⟩ (fun hHeld => ?_)
      replace HS0 := Lib.hid hHeld
      clear hK K hHeld
      (try simp only [List.getElem_toArray, List.getElem_cons_succ, List.getElem_cons_zero, Act.put, List.setIfInBounds_toArray, List.set_cons_zero, List.set_cons_succ])
      refine wpAnyH_take (i := 4) (v := ?_) rfl (by kernel_rfl) (by kernel_rfl) (by kernel_rfl) (fun _ _ _ h => h) (.inl ⟨by first | (simp [Region.wanted]; done) | rfl, ?_⟩) HS0.out ?_
      rotate_left
      · intro w' hw
        obtain ⟨k0, k1⟩ := hw
        go_simp
        (try with_reducible rfl)
      (try simp only [List.getElem_toArray, List.getElem_cons_succ, List.getElem_cons_zero, Act.put, List.setIfInBounds_toArray, List.set_cons_zero, List.set_cons_succ])
      refine wpAnyH_take (i := 5) (v := ?_) rfl (by kernel_rfl) (by kernel_rfl) (by kernel_rfl) (fun _ _ _ h => h) (.inl ⟨by first | (simp [Region.wanted]; done) | rfl, ?_⟩) HS0.out ?_
      rotate_left
      · intro w' hw
        obtain ⟨k0, k1⟩ := hw
        go_simp
        (try with_reducible rfl)
      (try simp only [List.getElem_toArray, List.getElem_cons_succ, List.getElem_cons_zero, Act.put, List.setIfInBounds_toArray, List.set_cons_zero, List.set_cons_succ])
      refine wpAnyH_take (i := 6) (v := ?_) rfl (by kernel_rfl) (by kernel_rfl) (by kernel_rfl) (fun _ _ _ h => h) (.inl ⟨by first | (simp [Region.wanted]; done) | rfl, ?_⟩) HS0.out ?_
      rotate_left
      · intro w' hw
        obtain ⟨k0, k1⟩ := hw
        go_simp
        (try with_reducible rfl)
      (try simp only [List.getElem_toArray, List.getElem_cons_succ, List.getElem_cons_zero, Act.put, List.setIfInBounds_toArray, List.set_cons_zero, List.set_cons_succ])
      refine wpAnyH_take (i := 7) (v := ?_) rfl (by kernel_rfl) (by kernel_rfl) (by kernel_rfl) (fun _ _ _ h => h) (.inl ⟨by first | (simp [Region.wanted]; done) | rfl, ?_⟩) HS0.out ?_
      rotate_left
      · intro w' hw
        obtain ⟨k0, k1⟩ := hw
        go_simp
        (try with_reducible rfl)
      (try simp only [List.getElem_toArray, List.getElem_cons_succ, List.getElem_cons_zero, Act.put, List.setIfInBounds_toArray, List.set_cons_zero, List.set_cons_succ])
      refine wpAnyH_ready (rs := [8]) (by kernel_rfl) (by simp) ?_
      refine AllReadyH.cons rfl (fun K hK => ?_) AllReadyH.nil
      refine wanted_only rfl ?_
      (refine wpList_alloc_hp (o := ⟨some 6, _, _, _, _, _⟩) rfl _ rfl HP.out (.agg (staCells zeroS (.slice none 0 0) (.slice none 0 0) (.slice none 0 0)).toArray) (by kernel_rfl) (staCells zeroS (.slice none 0 0) (.slice none 0 0) (.slice none 0 0)) rfl ?_; clear HP; intro g6 w6 HP; replace HP := Lib.hid HP)
      refine wpList_nil ?_
      refine hK.out _ _ ⟨HP.out.blkAt0E (.tail _ (.tail _ (.tail _ (.head _)))), HP.out.blkAt0E (.tail _ (.head _))⟩ (fun hHeld => ?_)
      replace HS0 := Lib.hid hHeld
      clear hK K hHeld
      (try simp only [List.getElem_toArray, List.getElem_cons_succ, List.getElem_cons_zero, Act.put, List.setIfInBounds_toArray, List.set_cons_zero, List.set_cons_succ])
      refine wpAnyH_ready (rs := [9]) (by kernel_rfl) (by simp) ?_
      refine AllReadyH.cons rfl (fun K hK => ?_) AllReadyH.nil
      refine wanted_only rfl ?_
      (refine wpList_stR0 rfl 29 _ _ rfl HP.out rfl (cs' := staCells X (.slice Af1 X.frames.length cf1) (.slice Ae1 X.events.length ce1) (.slice Aa1 X.answers.length ca1)) rfl rfl (by simp [staCells, Value.oneCell']) (by kernel_rfl) ?_; clear HP; intro wst HP; replace HP := Lib.hid HP)
      refine wpList_nil ?_
      refine hK.out _ _ ⟨HP.out.blkAt0E (.tail _ (.tail _ (.tail _ (.head _)))), HP.out.blkAt0E (.tail _ (.head _))⟩ (fun hHeld => ?_)
      replace HS0 := Lib.hid hHeld
      clear hK K hHeld
      (try simp only [List.getElem_toArray, List.getElem_cons_succ, List.getElem_cons_zero, Act.put, List.setIfInBounds_toArray, List.set_cons_zero, List.set_cons_succ])
      refine wpAnyH_ready (rs := [10]) (by kernel_rfl) (by simp) ?_
      refine AllReadyH.cons rfl (fun K hK => ?_) AllReadyH.nil
      go_simp
      refine hK.out _ _ ⟨HP.out.blkAt0E (.tail _ (.tail _ (.tail _ (.head _)))), HP.out.blkAt0E (.tail _ (.head _))⟩ (fun hHeld => ?_)
      replace HS0 := Lib.hid hHeld
      clear hK K hHeld
      (try simp only [List.getElem_toArray, List.getElem_cons_succ, List.getElem_cons_zero, Act.put, List.setIfInBounds_toArray, List.set_cons_zero, List.set_cons_succ])
      refine wpAnyH_ready (rs := [11]) (by kernel_rfl) (by simp) ?_
      refine AllReadyH.cons rfl (fun K hK => ?_) AllReadyH.nil
      go_simp
      refine hK.out _ _ ⟨HP.out.blkAt0E (.tail _ (.tail _ (.tail _ (.head _)))), HP.out.blkAt0E (.tail _ (.head _))⟩ (fun hHeld => ?_)
      replace HS0 := Lib.hid hHeld
      clear hK K hHeld
      (try simp only [List.getElem_toArray, List.getElem_cons_succ, List.getElem_cons_zero, Act.put, List.setIfInBounds_toArray, List.set_cons_zero, List.set_cons_succ])
      refine wpAnyH_done (by kernel_rfl) ?_ _
      (try simp only [List.getElem_toArray, List.getElem_cons_succ, List.getElem_cons_zero, Act.put, List.setIfInBounds_toArray, List.set_cons_zero, List.set_cons_succ])
      go_upto_region 4 with (first | (refine wpList_ldR3 rfl 24 _ rfl HP.out rfl Tryd.underlying24 rfl (by kernel_rfl) ?_) | (refine wpList_ldR2 rfl 29 _ rfl HP.out rfl Tryd.underlying29 rfl (by kernel_rfl) ?_) | (go_at_call 7; refine (FarOf_any p _ s _ _ _ _ (HP.out.rep (F := ⟨w, Lt w.heap.size⟩) (by simp) HR.out) (HP.out.rep (F := ⟨w, Lt w.heap.size⟩) (by simp) HF.out) (HP.out.rep (F := ⟨w, Lt w.heap.size⟩) (by simp) HE.out) (HP.out.rep (F := ⟨w, Lt w.heap.size⟩) (by simp) HAN.out) HIM.out HRI.out HMI.out hle9).mono ?_; rintro r6 w6 h6; rw [HLA.out] at h6; dsimp only at h6; obtain ⟨ub, eb, ab, rfl, hf, he, ha, hb⟩ := h6; replace HP := Lib.hid (HP.out.call hb); clear hb; have HF2 := Lib.hid hf; have HE2 := Lib.hid he; have HA2 := Lib.hid ha; obtain ⟨Af2, cf2, rfl, -, -, -⟩ := rep_frames_at hf; obtain ⟨Ae2, ce2, rfl, -, -, -⟩ := rep_ints_at he; obtain ⟨Aa2, ca2, rfl, -, -, -⟩ := rep_ints_at ha; clear hf he ha) | (refine wpList_alloc_hp (o := ⟨some 9, _, _, _, _, _⟩) rfl _ rfl HP.out (.agg (staCells zeroS (.slice none 0 0) (.slice none 0 0) (.slice none 0 0)).toArray) (by kernel_rfl) (staCells zeroS (.slice none 0 0) (.slice none 0 0) (.slice none 0 0)) rfl ?_; clear HP; intro g9 w9 HP; replace HP := Lib.hid HP) | (refine wpList_stR0 rfl 29 _ _ rfl HP.out rfl (cs' := staCells X (.slice Af2 X.frames.length cf2) (.slice Ae2 X.events.length ce2) (.slice Aa2 X.answers.length ca2)) rfl rfl (by simp [staCells, Value.oneCell']) (by kernel_rfl) ?_; clear HP; intro wst HP; replace HP := Lib.hid HP))
      (try simp only [List.getElem_toArray, List.getElem_cons_succ, List.getElem_cons_zero, Act.put, List.setIfInBounds_toArray, List.set_cons_zero, List.set_cons_succ])
      go_wp2_with (first | (refine wpList_load_w rfl 29 _ rfl _ rfl _ _ (HP.out.blkAt0E (.head _)) Tryd.underlying29 rfl (by kernel_rfl) ?_) | (refine wpList_load_w rfl 29 _ rfl _ rfl _ _ (HP.out.blkAt0E (.tail _ (.head _))) Tryd.underlying29 rfl (by kernel_rfl) ?_) | (refine wpList_load_w rfl 29 _ rfl _ rfl _ _ (HP.out.blkAt0E (.tail _ (.tail _ (.head _)))) Tryd.underlying29 rfl (by kernel_rfl) ?_) | (refine wpList_load_w rfl 29 _ rfl _ rfl _ _ (HP.out.blkAt0E (.tail _ (.tail _ (.tail _ (.head _))))) Tryd.underlying29 rfl (by kernel_rfl) ?_) | (have hmk := HMK; clear hmk; go_at_call 8; refine (sameState_any s _ _ _ _ _ _ _ (HP.out.rep (.tail _ (.tail _ (.tail _ (.head _)))) HF4.out) (HP.out.rep (.tail _ (.tail _ (.tail _ (.head _)))) HE4.out) (HP.out.rep (.tail _ (.tail _ (.tail _ (.head _)))) HA4.out) (HP.out.rep (F := ⟨w, Lt w.heap.size⟩) (by simp) HF.out) (HP.out.rep (F := ⟨w, Lt w.heap.size⟩) (by simp) HE.out) (HP.out.rep (F := ⟨w, Lt w.heap.size⟩) (by simp) HAN.out)).mono ?_; rintro r8 w8 ⟨rfl, hb⟩; replace HP := Lib.hid (HP.out.call0 hb); clear hb) | (go_at_call 8; refine (sameState_any X _ _ _ _ _ _ _ (HP.out.rep (.tail _ (.head _)) HF1.out) (HP.out.rep (.tail _ (.head _)) HE1.out) (HP.out.rep (.tail _ (.head _)) HA1.out) (HP.out.rep (.head _) HF2.out) (HP.out.rep (.head _) HE2.out) (HP.out.rep (.head _) HA2.out)).mono ?_; rintro r7 w7 ⟨rfl, hb⟩; replace HP := Lib.hid (HP.out.call0 hb); clear hb; have HMK := Lib.hid True.intro))
      go_ret
      exact ⟨ret_bool (by simp), HP.out.below⟩
    · skip
      refine wanted_only rfl ?_
      (refine wpList_alloc_hp (o := ⟨some 6, _, _, _, _, _⟩) rfl _ rfl HP.out (.agg (staCells zeroS (.slice none 0 0) (.slice none 0 0) (.slice none 0 0)).toArray) (by kernel_rfl) (staCells zeroS (.slice none 0 0) (.slice none 0 0) (.slice none 0 0)) rfl ?_; clear HP; intro g6 w6 HP; replace HP := Lib.hid HP)
      refine wpList_nil ?_
      refine hK.out _ _ ⟨HP.out.blkAt0E (.tail _ (.tail _ (.tail _ (.head _)))), HP.out.blkAt0E (.tail _ (.head _))⟩ (fun hHeld => ?_)
      replace HS0 := Lib.hid hHeld
      clear hK K hHeld
      (try simp only [List.getElem_toArray, List.getElem_cons_succ, List.getElem_cons_zero, Act.put, List.setIfInBounds_toArray, List.set_cons_zero, List.set_cons_succ])
      refine wpAnyH_ready (rs := [3]) (by kernel_rfl) (by simp) ?_
      refine AllReadyH.cons rfl (fun K hK => ?_) AllReadyH.nil
      go_simp
      refine (Far_any p _ s _ _ _ _ (HP.out.rep (.head _) HV1.out) (HP.out.rep (.tail _ (.head _)) HF4.out) (HP.out.rep (.tail _ (.head _)) HE4.out) (HP.out.rep (.tail _ (.head _)) HA4.out) HIM.out HRI.out HMI.out hle9 (HH.out.keep HP.out.below rfl)).mono ?_
      rintro r3 w5 h3
      rw [HLA.out] at h3
      dsimp only at h3
      obtain ⟨ua, ea, aa, rfl, hf, he, ha, hb⟩ := h3
      replace HP := Lib.hid (HP.out.call hb)
      clear hb
      have HF1 := Lib.hid hf; have HE1 := Lib.hid he; have HA1 := Lib.hid ha; obtain ⟨Af1, cf1, rfl, -, -, -⟩ := rep_frames_at hf; obtain ⟨Ae1, ce1, rfl, -, -, -⟩ := rep_ints_at he; obtain ⟨Aa1, ca1, rfl, -, -, -⟩ := rep_ints_at ha; clear hf he ha
      dsimp only
      refine hK.out _ _ ⟨HP.out.blkAt0E (.tail _ (.tail _ (.tail _ (.head _)))), HP.out.blkAt0E (.tail _ (.head _))⟩ (fun hHeld => ?_)
      replace HS0 := Lib.hid hHeld
      clear hK K hHeld
      (try simp only [List.getElem_toArray, List.getElem_cons_succ, List.getElem_cons_zero, Act.put, List.setIfInBounds_toArray, List.set_cons_zero, List.set_cons_succ])
      refine wpAnyH_take (i := 4) (v := ?_) rfl (by kernel_rfl) (by kernel_rfl) (by kernel_rfl) (fun _ _ _ h => h) (.inl ⟨by first | (simp [Region.wanted]; done) | rfl, ?_⟩) HS0.out ?_
      rotate_left
      · intro w' hw
        obtain ⟨k0, k1⟩ := hw
        go_simp
        (try with_reducible rfl)
      (try simp only [List.getElem_toArray, List.getElem_cons_succ, List.getElem_cons_zero, Act.put, List.setIfInBounds_toArray, List.set_cons_zero, List.set_cons_succ])
      refine wpAnyH_take (i := 5) (v := ?_) rfl (by kernel_rfl) (by kernel_rfl) (by kernel_rfl) (fun _ _ _ h => h) (.inl ⟨by first | (simp [Region.wanted]; done) | rfl, ?_⟩) HS0.out ?_
      rotate_left
      · intro w' hw
        obtain ⟨k0, k1⟩ := hw
        go_simp
        (try with_reducible rfl)
      (try simp only [List.getElem_toArray, List.getElem_cons_succ, List.getElem_cons_zero, Act.put, List.setIfInBounds_toArray, List.set_cons_zero, List.set_cons_succ])
      refine wpAnyH_take (i := 6) (v := ?_) rfl (by kernel_rfl) (by kernel_rfl) (by kernel_rfl) (fun _ _ _ h => h) (.inl ⟨by first | (simp [Region.wanted]; done) | rfl, ?_⟩) HS0.out ?_
      rotate_left
      · intro w' hw
        obtain ⟨k0, k1⟩ := hw
        go_simp
        (try with_reducible rfl)
      (try simp only [List.getElem_toArray, List.getElem_cons_succ, List.getElem_cons_zero, Act.put, List.setIfInBounds_toArray, List.set_cons_zero, List.set_cons_succ])
      refine wpAnyH_take (i := 7) (v := ?_) rfl (by kernel_rfl) (by kernel_rfl) (by kernel_rfl) (fun _ _ _ h => h) (.inl ⟨by first | (simp [Region.wanted]; done) | rfl, ?_⟩) HS0.out ?_
      rotate_left
      · intro w' hw
        obtain ⟨k0, k1⟩ := hw
        go_simp
        (try with_reducible rfl)
      (try simp only [List.getElem_toArray, List.getElem_cons_succ, List.getElem_cons_zero, Act.put, List.setIfInBounds_toArray, List.set_cons_zero, List.set_cons_succ])
      refine wpAnyH_ready (rs := [9]) (by kernel_rfl) (by simp) ?_
      refine AllReadyH.cons rfl (fun K hK => ?_) AllReadyH.nil
      refine wanted_only rfl ?_
      (refine wpList_stR0 rfl 29 _ _ rfl HP.out rfl (cs' := staCells X (.slice Af1 X.frames.length cf1) (.slice Ae1 X.events.length ce1) (.slice Aa1 X.answers.length ca1)) rfl rfl (by simp [staCells, Value.oneCell']) (by kernel_rfl) ?_; clear HP; intro wst HP; replace HP := Lib.hid HP)
      refine wpList_nil ?_
      refine hK.out _ _ ⟨HP.out.blkAt0E (.tail _ (.tail _ (.tail _ (.head _)))), HP.out.blkAt0E (.tail _ (.head _))⟩ (fun hHeld => ?_)
      replace HS0 := Lib.hid hHeld
      clear hK K hHeld
      (try simp only [List.getElem_toArray, List.getElem_cons_succ, List.getElem_cons_zero, Act.put, List.setIfInBounds_toArray, List.set_cons_zero, List.set_cons_succ])
      refine wpAnyH_ready (rs := [10]) (by kernel_rfl) (by simp) ?_
      refine AllReadyH.cons rfl (fun K hK => ?_) AllReadyH.nil
      go_simp
      refine hK.out _ _ ⟨HP.out.blkAt0E (.tail _ (.tail _ (.tail _ (.head _)))), HP.out.blkAt0E (.tail _ (.head _))⟩ (fun hHeld => ?_)
      replace HS0 := Lib.hid hHeld
      clear hK K hHeld
      (try simp only [List.getElem_toArray, List.getElem_cons_succ, List.getElem_cons_zero, Act.put, List.setIfInBounds_toArray, List.set_cons_zero, List.set_cons_succ])
      refine wpAnyH_ready (rs := [11]) (by kernel_rfl) (by simp) ?_
      refine AllReadyH.cons rfl (fun K hK => ?_) AllReadyH.nil
      go_simp
      refine hK.out _ _ ⟨HP.out.blkAt0E (.tail _ (.tail _ (.tail _ (.head _)))), HP.out.blkAt0E (.tail _ (.head _))⟩ (fun hHeld => ?_)
      replace HS0 := Lib.hid hHeld
      clear hK K hHeld
      (try simp only [List.getElem_toArray, List.getElem_cons_succ, List.getElem_cons_zero, Act.put, List.setIfInBounds_toArray, List.set_cons_zero, List.set_cons_succ])
      refine wpAnyH_done (by kernel_rfl) ?_ _
      (try simp only [List.getElem_toArray, List.getElem_cons_succ, List.getElem_cons_zero, Act.put, List.setIfInBounds_toArray, List.set_cons_zero, List.set_cons_succ])
      go_upto_region 4 with (first | (refine wpList_ldR3 rfl 24 _ rfl HP.out rfl Tryd.underlying24 rfl (by kernel_rfl) ?_) | (refine wpList_ldR2 rfl 29 _ rfl HP.out rfl Tryd.underlying29 rfl (by kernel_rfl) ?_) | (go_at_call 7; refine (FarOf_any p _ s _ _ _ _ (HP.out.rep (F := ⟨w, Lt w.heap.size⟩) (by simp) HR.out) (HP.out.rep (F := ⟨w, Lt w.heap.size⟩) (by simp) HF.out) (HP.out.rep (F := ⟨w, Lt w.heap.size⟩) (by simp) HE.out) (HP.out.rep (F := ⟨w, Lt w.heap.size⟩) (by simp) HAN.out) HIM.out HRI.out HMI.out hle9).mono ?_; rintro r6 w6 h6; rw [HLA.out] at h6; dsimp only at h6; obtain ⟨ub, eb, ab, rfl, hf, he, ha, hb⟩ := h6; replace HP := Lib.hid (HP.out.call hb); clear hb; have HF2 := Lib.hid hf; have HE2 := Lib.hid he; have HA2 := Lib.hid ha; obtain ⟨Af2, cf2, rfl, -, -, -⟩ := rep_frames_at hf; obtain ⟨Ae2, ce2, rfl, -, -, -⟩ := rep_ints_at he; obtain ⟨Aa2, ca2, rfl, -, -, -⟩ := rep_ints_at ha; clear hf he ha) | (refine wpList_alloc_hp (o := ⟨some 9, _, _, _, _, _⟩) rfl _ rfl HP.out (.agg (staCells zeroS (.slice none 0 0) (.slice none 0 0) (.slice none 0 0)).toArray) (by kernel_rfl) (staCells zeroS (.slice none 0 0) (.slice none 0 0) (.slice none 0 0)) rfl ?_; clear HP; intro g9 w9 HP; replace HP := Lib.hid HP) | (refine wpList_stR0 rfl 29 _ _ rfl HP.out rfl (cs' := staCells X (.slice Af2 X.frames.length cf2) (.slice Ae2 X.events.length ce2) (.slice Aa2 X.answers.length ca2)) rfl rfl (by simp [staCells, Value.oneCell']) (by kernel_rfl) ?_; clear HP; intro wst HP; replace HP := Lib.hid HP))
      (try simp only [List.getElem_toArray, List.getElem_cons_succ, List.getElem_cons_zero, Act.put, List.setIfInBounds_toArray, List.set_cons_zero, List.set_cons_succ])
      go_wp2_with (first | (refine wpList_load_w rfl 29 _ rfl _ rfl _ _ (HP.out.blkAt0E (.head _)) Tryd.underlying29 rfl (by kernel_rfl) ?_) | (refine wpList_load_w rfl 29 _ rfl _ rfl _ _ (HP.out.blkAt0E (.tail _ (.head _))) Tryd.underlying29 rfl (by kernel_rfl) ?_) | (refine wpList_load_w rfl 29 _ rfl _ rfl _ _ (HP.out.blkAt0E (.tail _ (.tail _ (.head _)))) Tryd.underlying29 rfl (by kernel_rfl) ?_) | (refine wpList_load_w rfl 29 _ rfl _ rfl _ _ (HP.out.blkAt0E (.tail _ (.tail _ (.tail _ (.head _))))) Tryd.underlying29 rfl (by kernel_rfl) ?_) | (have hmk := HMK; clear hmk; go_at_call 8; refine (sameState_any s _ _ _ _ _ _ _ (HP.out.rep (.tail _ (.tail _ (.tail _ (.head _)))) HF4.out) (HP.out.rep (.tail _ (.tail _ (.tail _ (.head _)))) HE4.out) (HP.out.rep (.tail _ (.tail _ (.tail _ (.head _)))) HA4.out) (HP.out.rep (F := ⟨w, Lt w.heap.size⟩) (by simp) HF.out) (HP.out.rep (F := ⟨w, Lt w.heap.size⟩) (by simp) HE.out) (HP.out.rep (F := ⟨w, Lt w.heap.size⟩) (by simp) HAN.out)).mono ?_; rintro r8 w8 ⟨rfl, hb⟩; replace HP := Lib.hid (HP.out.call0 hb); clear hb) | (go_at_call 8; refine (sameState_any X _ _ _ _ _ _ _ (HP.out.rep (.tail _ (.head _)) HF1.out) (HP.out.rep (.tail _ (.head _)) HE1.out) (HP.out.rep (.tail _ (.head _)) HA1.out) (HP.out.rep (.head _) HF2.out) (HP.out.rep (.head _) HE2.out) (HP.out.rep (.head _) HA2.out)).mono ?_; rintro r7 w7 ⟨rfl, hb⟩; replace HP := Lib.hid (HP.out.call0 hb); clear hb; have HMK := Lib.hid True.intro))
      go_ret
      exact ⟨ret_bool (by simp), HP.out.below⟩
  · skip
    refine wanted_only rfl ?_
    (refine wpList_alloc_hp (o := ⟨some 6, _, _, _, _, _⟩) rfl _ rfl HP.out (.agg (staCells zeroS (.slice none 0 0) (.slice none 0 0) (.slice none 0 0)).toArray) (by kernel_rfl) (staCells zeroS (.slice none 0 0) (.slice none 0 0) (.slice none 0 0)) rfl ?_; clear HP; intro g6 w6 HP; replace HP := Lib.hid HP)
    refine wpList_nil ?_
    refine hK.out _ _ ⟨HP.out.blkAt0E (.tail _ (.tail _ (.tail _ (.head _)))), HP.out.blkAt0E (.tail _ (.head _))⟩ (fun hHeld => ?_)
    replace HS0 := Lib.hid hHeld
    clear hK K hHeld
    (try simp only [List.getElem_toArray, List.getElem_cons_succ, List.getElem_cons_zero, Act.put, List.setIfInBounds_toArray, List.set_cons_zero, List.set_cons_succ])
    refine wpAnyH_ready (rs := [1]) (by kernel_rfl) (by simp) ?_
    refine AllReadyH.cons rfl (fun K hK => ?_) AllReadyH.nil
    go_simp
    refine (programs_any p _ _ (HP.out.rep (F := ⟨w, Lt w.heap.size⟩) (by simp) HR.out) HOK.out).mono ?_
    rintro r1 w1 ⟨v1, rfl, hv1, hb1⟩
    replace HP := Lib.hid (HP.out.call hb1)
    have HV1 := Lib.hid hv1
    clear hb1 hv1
    dsimp only
    refine hK.out _ _ ⟨HP.out.blkAt0E (.tail _ (.tail _ (.tail _ (.head _)))), HP.out.blkAt0E (.tail _ (.head _))⟩ (fun hHeld => ?_)
    replace HS0 := Lib.hid hHeld
    clear hK K hHeld
    (try simp only [List.getElem_toArray, List.getElem_cons_succ, List.getElem_cons_zero, Act.put, List.setIfInBounds_toArray, List.set_cons_zero, List.set_cons_succ])
    refine wpAnyH_ready (rs := [3]) (by kernel_rfl) (by simp) ?_
    refine AllReadyH.cons rfl (fun K hK => ?_) AllReadyH.nil
    go_simp
    refine (Far_any p _ s _ _ _ _ (HP.out.rep (.head _) HV1.out) (HP.out.rep (.tail _ (.head _)) HF4.out) (HP.out.rep (.tail _ (.head _)) HE4.out) (HP.out.rep (.tail _ (.head _)) HA4.out) HIM.out HRI.out HMI.out hle9 (HH.out.keep HP.out.below rfl)).mono ?_
    rintro r3 w5 h3
    rw [HLA.out] at h3
    dsimp only at h3
    obtain ⟨ua, ea, aa, rfl, hf, he, ha, hb⟩ := h3
    replace HP := Lib.hid (HP.out.call hb)
    clear hb
    have HF1 := Lib.hid hf; have HE1 := Lib.hid he; have HA1 := Lib.hid ha; obtain ⟨Af1, cf1, rfl, -, -, -⟩ := rep_frames_at hf; obtain ⟨Ae1, ce1, rfl, -, -, -⟩ := rep_ints_at he; obtain ⟨Aa1, ca1, rfl, -, -, -⟩ := rep_ints_at ha; clear hf he ha
    dsimp only
    refine hK.out _ _ ⟨HP.out.blkAt0E (.tail _ (.tail _ (.tail _ (.head _)))), HP.out.blkAt0E (.tail _ (.head _))⟩ (fun hHeld => ?_)
    replace HS0 := Lib.hid hHeld
    clear hK K hHeld
    (try simp only [List.getElem_toArray, List.getElem_cons_succ, List.getElem_cons_zero, Act.put, List.setIfInBounds_toArray, List.set_cons_zero, List.set_cons_succ])
    refine wpAnyH_take (i := 4) (v := ?_) rfl (by kernel_rfl) (by kernel_rfl) (by kernel_rfl) (fun _ _ _ h => h) (.inl ⟨by first | (simp [Region.wanted]; done) | rfl, ?_⟩) HS0.out ?_
    rotate_left
    · intro w' hw
      obtain ⟨k0, k1⟩ := hw
      go_simp
      (try with_reducible rfl)
    (try simp only [List.getElem_toArray, List.getElem_cons_succ, List.getElem_cons_zero, Act.put, List.setIfInBounds_toArray, List.set_cons_zero, List.set_cons_succ])
    refine wpAnyH_take (i := 5) (v := ?_) rfl (by kernel_rfl) (by kernel_rfl) (by kernel_rfl) (fun _ _ _ h => h) (.inl ⟨by first | (simp [Region.wanted]; done) | rfl, ?_⟩) HS0.out ?_
    rotate_left
    · intro w' hw
      obtain ⟨k0, k1⟩ := hw
      go_simp
      (try with_reducible rfl)
    (try simp only [List.getElem_toArray, List.getElem_cons_succ, List.getElem_cons_zero, Act.put, List.setIfInBounds_toArray, List.set_cons_zero, List.set_cons_succ])
    refine wpAnyH_take (i := 6) (v := ?_) rfl (by kernel_rfl) (by kernel_rfl) (by kernel_rfl) (fun _ _ _ h => h) (.inl ⟨by first | (simp [Region.wanted]; done) | rfl, ?_⟩) HS0.out ?_
    rotate_left
    · intro w' hw
      obtain ⟨k0, k1⟩ := hw
      go_simp
      (try with_reducible rfl)
    (try simp only [List.getElem_toArray, List.getElem_cons_succ, List.getElem_cons_zero, Act.put, List.setIfInBounds_toArray, List.set_cons_zero, List.set_cons_succ])
    refine wpAnyH_take (i := 7) (v := ?_) rfl (by kernel_rfl) (by kernel_rfl) (by kernel_rfl) (fun _ _ _ h => h) (.inl ⟨by first | (simp [Region.wanted]; done) | rfl, ?_⟩) HS0.out ?_
    rotate_left
    · intro w' hw
      obtain ⟨k0, k1⟩ := hw
      go_simp
      (try with_reducible rfl)
    (try simp only [List.getElem_toArray, List.getElem_cons_succ, List.getElem_cons_zero, Act.put, List.setIfInBounds_toArray, List.set_cons_zero, List.set_cons_succ])
    refine wpAnyH_ready (rs := [9]) (by kernel_rfl) (by simp) ?_
    refine AllReadyH.cons rfl (fun K hK => ?_) AllReadyH.nil
    refine wanted_only rfl ?_
    (refine wpList_stR0 rfl 29 _ _ rfl HP.out rfl (cs' := staCells X (.slice Af1 X.frames.length cf1) (.slice Ae1 X.events.length ce1) (.slice Aa1 X.answers.length ca1)) rfl rfl (by simp [staCells, Value.oneCell']) (by kernel_rfl) ?_; clear HP; intro wst HP; replace HP := Lib.hid HP)
    refine wpList_nil ?_
    refine hK.out _ _ ⟨HP.out.blkAt0E (.tail _ (.tail _ (.tail _ (.head _)))), HP.out.blkAt0E (.tail _ (.head _))⟩ (fun hHeld => ?_)
    replace HS0 := Lib.hid hHeld
    clear hK K hHeld
    (try simp only [List.getElem_toArray, List.getElem_cons_succ, List.getElem_cons_zero, Act.put, List.setIfInBounds_toArray, List.set_cons_zero, List.set_cons_succ])
    refine wpAnyH_ready (rs := [10]) (by kernel_rfl) (by simp) ?_
    refine AllReadyH.cons rfl (fun K hK => ?_) AllReadyH.nil
    go_simp
    refine hK.out _ _ ⟨HP.out.blkAt0E (.tail _ (.tail _ (.tail _ (.head _)))), HP.out.blkAt0E (.tail _ (.head _))⟩ (fun hHeld => ?_)
    replace HS0 := Lib.hid hHeld
    clear hK K hHeld
    (try simp only [List.getElem_toArray, List.getElem_cons_succ, List.getElem_cons_zero, Act.put, List.setIfInBounds_toArray, List.set_cons_zero, List.set_cons_succ])
    refine wpAnyH_ready (rs := [11]) (by kernel_rfl) (by simp) ?_
    refine AllReadyH.cons rfl (fun K hK => ?_) AllReadyH.nil
    go_simp
    refine hK.out _ _ ⟨HP.out.blkAt0E (.tail _ (.tail _ (.tail _ (.head _)))), HP.out.blkAt0E (.tail _ (.head _))⟩ (fun hHeld => ?_)
    replace HS0 := Lib.hid hHeld
    clear hK K hHeld
    (try simp only [List.getElem_toArray, List.getElem_cons_succ, List.getElem_cons_zero, Act.put, List.setIfInBounds_toArray, List.set_cons_zero, List.set_cons_succ])
    refine wpAnyH_done (by kernel_rfl) ?_ _
    (try simp only [List.getElem_toArray, List.getElem_cons_succ, List.getElem_cons_zero, Act.put, List.setIfInBounds_toArray, List.set_cons_zero, List.set_cons_succ])
    go_upto_region 4 with (first | (refine wpList_ldR3 rfl 24 _ rfl HP.out rfl Tryd.underlying24 rfl (by kernel_rfl) ?_) | (refine wpList_ldR2 rfl 29 _ rfl HP.out rfl Tryd.underlying29 rfl (by kernel_rfl) ?_) | (go_at_call 7; refine (FarOf_any p _ s _ _ _ _ (HP.out.rep (F := ⟨w, Lt w.heap.size⟩) (by simp) HR.out) (HP.out.rep (F := ⟨w, Lt w.heap.size⟩) (by simp) HF.out) (HP.out.rep (F := ⟨w, Lt w.heap.size⟩) (by simp) HE.out) (HP.out.rep (F := ⟨w, Lt w.heap.size⟩) (by simp) HAN.out) HIM.out HRI.out HMI.out hle9).mono ?_; rintro r6 w6 h6; rw [HLA.out] at h6; dsimp only at h6; obtain ⟨ub, eb, ab, rfl, hf, he, ha, hb⟩ := h6; replace HP := Lib.hid (HP.out.call hb); clear hb; have HF2 := Lib.hid hf; have HE2 := Lib.hid he; have HA2 := Lib.hid ha; obtain ⟨Af2, cf2, rfl, -, -, -⟩ := rep_frames_at hf; obtain ⟨Ae2, ce2, rfl, -, -, -⟩ := rep_ints_at he; obtain ⟨Aa2, ca2, rfl, -, -, -⟩ := rep_ints_at ha; clear hf he ha) | (refine wpList_alloc_hp (o := ⟨some 9, _, _, _, _, _⟩) rfl _ rfl HP.out (.agg (staCells zeroS (.slice none 0 0) (.slice none 0 0) (.slice none 0 0)).toArray) (by kernel_rfl) (staCells zeroS (.slice none 0 0) (.slice none 0 0) (.slice none 0 0)) rfl ?_; clear HP; intro g9 w9 HP; replace HP := Lib.hid HP) | (refine wpList_stR0 rfl 29 _ _ rfl HP.out rfl (cs' := staCells X (.slice Af2 X.frames.length cf2) (.slice Ae2 X.events.length ce2) (.slice Aa2 X.answers.length ca2)) rfl rfl (by simp [staCells, Value.oneCell']) (by kernel_rfl) ?_; clear HP; intro wst HP; replace HP := Lib.hid HP))
    (try simp only [List.getElem_toArray, List.getElem_cons_succ, List.getElem_cons_zero, Act.put, List.setIfInBounds_toArray, List.set_cons_zero, List.set_cons_succ])
    go_wp2_with (first | (refine wpList_load_w rfl 29 _ rfl _ rfl _ _ (HP.out.blkAt0E (.head _)) Tryd.underlying29 rfl (by kernel_rfl) ?_) | (refine wpList_load_w rfl 29 _ rfl _ rfl _ _ (HP.out.blkAt0E (.tail _ (.head _))) Tryd.underlying29 rfl (by kernel_rfl) ?_) | (refine wpList_load_w rfl 29 _ rfl _ rfl _ _ (HP.out.blkAt0E (.tail _ (.tail _ (.head _)))) Tryd.underlying29 rfl (by kernel_rfl) ?_) | (refine wpList_load_w rfl 29 _ rfl _ rfl _ _ (HP.out.blkAt0E (.tail _ (.tail _ (.tail _ (.head _))))) Tryd.underlying29 rfl (by kernel_rfl) ?_) | (have hmk := HMK; clear hmk; go_at_call 8; refine (sameState_any s _ _ _ _ _ _ _ (HP.out.rep (.tail _ (.tail _ (.tail _ (.head _)))) HF4.out) (HP.out.rep (.tail _ (.tail _ (.tail _ (.head _)))) HE4.out) (HP.out.rep (.tail _ (.tail _ (.tail _ (.head _)))) HA4.out) (HP.out.rep (F := ⟨w, Lt w.heap.size⟩) (by simp) HF.out) (HP.out.rep (F := ⟨w, Lt w.heap.size⟩) (by simp) HE.out) (HP.out.rep (F := ⟨w, Lt w.heap.size⟩) (by simp) HAN.out)).mono ?_; rintro r8 w8 ⟨rfl, hb⟩; replace HP := Lib.hid (HP.out.call0 hb); clear hb) | (go_at_call 8; refine (sameState_any X _ _ _ _ _ _ _ (HP.out.rep (.tail _ (.head _)) HF1.out) (HP.out.rep (.tail _ (.head _)) HE1.out) (HP.out.rep (.tail _ (.head _)) HA1.out) (HP.out.rep (.head _) HF2.out) (HP.out.rep (.head _) HE2.out) (HP.out.rep (.head _) HA2.out)).mono ?_; rintro r7 w7 ⟨rfl, hb⟩; replace HP := Lib.hid (HP.out.call0 hb); clear hb; have HMK := Lib.hid True.intro))
    go_ret
    exact ⟨ret_bool (by simp), HP.out.below⟩
end Go.Proofs.YtceilfmfidmfpaaDoor
