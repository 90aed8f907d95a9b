/- The law StepNexts, walked. -/
import Derived.Test.YtfhoffpdodjfeaaDoorNext
import Derived.Test.YtfhoffpdodjfeaaDoorNexted
import Derived.Test.YtfhoffpdodjfeaaDoorMgStates3
import Derived.Test.YtfhoffpdodjfeaaDoorSameSta
import Derived.Test.YtfhoffpdodjfeaaDoorCodeF
import Derived.Test.YtfhoffpdodjfeaaDoorMgCopyHp3
set_option linter.unusedSimpArgs false
set_option linter.unusedVariables false
namespace Go.Proofs.YtfhoffpdodjfeaaDoor
open Go.RowKit Plain64
attribute [local irreducible] wpList Code.wp Oper.wp
theorem Hp.blkAt0 {w0 w : World} {Fs : List Fro} {L : List Res} {g : Nat} {t : TypeId} {cs : List Value} (h : Hp w0 Fs L w) (hr : Res.blk g t cs ∈ L) : At w ⟨g, 0, none⟩ cs := h.blkAt hr 0
theorem ok_sta_small {x : Sta} (h : Lay.ok x) : x.events.length ≤ 17592186043904 ∧ x.answers.length ≤ 17592186043904 := by
  obtain ⟨-, -, -, -, -, h5, h6⟩ := h
  have h5 : x.events.length * 8 ≤ 140737488351232 := h5.1
  have h6 : x.answers.length * 8 ≤ 140737488351232 := h6.1
  omega
theorem ok_sta_regs {x : Sta} (h : Lay.ok x) : ∀ f ∈ x.frames, ∀ i, I64 (f.rg i) := by
  intro f hf i
  obtain ⟨-, -, h3, -⟩ := h
  have h4 : Lay.ok f.regs := (h3.2 f hf).2.2
  unfold Frm.rg
  rw [List.getD_eq_getElem?_getD]
  by_cases hi : i < 12
  · rw [List.getElem?_eq_getElem (by simpa using hi)]
    have h5 : I64 f.regs[i] := h4 i hi
    simpa using h5
  · rw [List.getElem?_eq_none (by simpa using hi)]
    exact ⟨by simp, by simp⟩
set_option maxRecDepth 100000 in
set_option maxHeartbeats 10000000 in
theorem stepNexts_any (p : Prg) (v : Value) (s : Sta) (u e a : Value) (w : World) (hp : Lay.rep w (Lt w.heap.size) p [v]) (hok : Lay.ok p) (hf : Lay.rep w (Lt w.heap.size) s.frames [u]) (he : Lay.rep w (Lt w.heap.size) s.events [e]) (ha : Lay.rep w (Lt w.heap.size) s.answers [a])
    (hlf : s.frames.length ≤ 1256584717421) (hoks : Lay.ok s) (hh : Has w) :
    Calls Tryd.prog 10 #[.agg #[v], .agg (staCells s u e a).toArray] w fun r w' => r = .returned (.bool true) ∧ Below w.heap.size w w' := by
  obtain ⟨he1, ha1⟩ := ok_sta_small hoks
  have hle0 : s.events.length ≤ 17592186043999 := by omega
  have hla0 : s.answers.length ≤ 17592186043999 := by omega
  have hle : s.events.length ≤ 17592186044000 := by omega
  have hla : s.answers.length ≤ 17592186044000 := by omega
  have HRG := Lib.hid (ok_sta_regs hoks)
  have HR := Lib.hid hp
  have HOK := Lib.hid hok
  have HF := Lib.hid hf
  have HE := Lib.hid he
  have HAN := Lib.hid ha
  have HH := Lib.hid hh
  clear hp hok hf he ha hh hoks he1 ha1
  unfold staCells
  have HP := Lib.hid (Hp.start w)
  go_enter Tryd.func10, Tryd.ntmps10
  go_upto_region 2 with (first | (refine wpList_box_hp (o := ⟨some 2, _, _, _, _, _⟩) rfl _ _ rfl HP.out [_] rfl ?_; clear HP; intro g2 w2 HP; replace HP := Lib.hid HP) | (refine wpList_box_hp (o := ⟨some 3, _, _, _, _, _⟩) rfl _ _ rfl HP.out [_, _, _, _, _, _, _, _, _, _, _, _, _, _, _, _, _, _, _, _, _, _] rfl ?_; clear HP; intro g3 w3 HP; replace HP := Lib.hid HP) | (refine wpList_ldR0 rfl 24 _ rfl HP.out rfl Tryd.underlying24 rfl (by kernel_rfl) ?_) | (refine wpList_ldR1 rfl 24 _ rfl HP.out rfl Tryd.underlying24 rfl (by kernel_rfl) ?_) | (refine wpList_ldR0 rfl 29 _ rfl HP.out rfl Tryd.underlying29 rfl (by kernel_rfl) ?_) | (refine wpList_ldR1 rfl 29 _ rfl HP.out rfl Tryd.underlying29 rfl (by kernel_rfl) ?_) | (go_at_call 23; refine (states_any s _ _ _ _ (HP.out.rep (F := ⟨w, Lt w.heap.size⟩) (by simp) HF.out) (HP.out.rep (F := ⟨w, Lt w.heap.size⟩) (by simp) HE.out) (HP.out.rep (F := ⟨w, Lt w.heap.size⟩) (by simp) HAN.out) hlf hle hla).mono ?_; rintro r2 w4 ⟨u4, e4, a4, rfl, h1, h2, h3, hb2⟩; replace HP := Lib.hid (HP.out.call hb2); have H1 := Lib.hid h1; have H2 := Lib.hid h2; have H3 := Lib.hid h3; obtain ⟨Bf, bf, rfl, -, -, -⟩ := rep_frames_at h1; obtain ⟨Be, be, rfl, -, -, -⟩ := rep_ints_at h2; obtain ⟨Ba, ba, rfl, -, -, -⟩ := rep_ints_at h3; clear hb2 h1 h2 h3) | (refine wpList_alloc_hp (o := ⟨some 5, _, _, _, _, _⟩) rfl _ rfl HP.out (.agg #[.int .i64 0, .int .i64 0, .slice none 0 0, .int .i64 0, .int .i64 0, .int .i64 0, .int .i64 0, .int .i64 0, .int .i64 0, .int .i64 0, .int .i64 0, .int .i64 0, .int .i64 0, .int .i64 0, .int .i64 0, .int .i64 0, .int .i64 0, .int .i64 0, .int .i64 0, .int .i64 0, .slice none 0 0, .slice none 0 0]) (by kernel_rfl) [_, _, _, _, _, _, _, _, _, _, _, _, _, _, _, _, _, _, _, _, _, _] rfl ?_; clear HP; intro g5 w5 HP; replace HP := Lib.hid HP) | (refine wpList_stR0 rfl 29 _ _ rfl HP.out rfl (cs' := staCells s (.slice Bf s.frames.length bf) (.slice Be s.events.length be) (.slice Ba s.answers.length ba)) rfl rfl (by simp [staCells, Value.oneCell']) (by kernel_rfl) ?_; clear HP; intro wst HP; replace HP := Lib.hid HP))
  replace HP := Lib.hid HP.out.drew
  refine wp_region_held_drew (S := fun w' => At w' ⟨g2, 0, none⟩ [v] ∧ At w' ⟨g5, 0, none⟩ (staCells s (.slice Bf s.frames.length bf) (.slice Be s.events.length be) (.slice Ba s.answers.length ba))) (by kernel_rfl) ⟨HP.out.blkAt0 (.tail _ (.tail _ (.head _))), HP.out.blkAt0 (.head _)⟩ (fun hHeld => ?_)
  have HS0 := Lib.hid hHeld
  clear hHeld
  (try simp only [Act.put, List.setIfInBounds_toArray, List.set_cons_zero, List.set_cons_succ])
  refine wpAnyH_row (i := 0) rfl (by kernel_rfl) (by kernel_rfl) (by kernel_rfl) (fun _ _ _ _ h => h) rfl 24 _ rfl _ rfl _ _ (fun _ h => h.1) Tryd.underlying24 rfl (by kernel_rfl) HS0.out ?_
  (try simp only [List.getElem_toArray, List.getElem_cons_succ, List.getElem_cons_zero, Act.put, List.setIfInBounds_toArray, List.set_cons_zero, List.set_cons_succ])
  refine wpAnyH_row (i := 2) rfl (by kernel_rfl) (by kernel_rfl) (by kernel_rfl) (fun _ _ _ _ h => h) rfl 29 _ rfl _ rfl _ _ (fun _ h => h.2) Tryd.underlying29 rfl (by kernel_rfl) HS0.out ?_
  (try simp only [List.getElem_toArray, List.getElem_cons_succ, List.getElem_cons_zero, Act.put, List.setIfInBounds_toArray, List.set_cons_zero, List.set_cons_succ])
  refine wpAnyH_ready (rs := [1, 7]) (by kernel_rfl) (by simp) ?_
  refine AllReadyH.cons rfl (fun K hK => ?_) (AllReadyH.cons rfl (fun K hK => ?_) AllReadyH.nil)
  · skip
    go_simp
    refine (programs_any p _ _ (HP.out.rep (F := ⟨w, Lt w.heap.size⟩) (by simp) HR.out) HOK.out).mono ?_
    rintro r1 w1 ⟨v1, rfl, hv1, hb1⟩
    replace HP := Lib.hid (HP.out.call hb1)
    have HV1 := Lib.hid hv1
    clear hb1 hv1
    dsimp only
    refine hK.out _ _ ⟨HP.out.blkAt0 (.tail _ (.tail _ (.head _))), HP.out.blkAt0 (.head _)⟩ (fun hHeld => ?_)
    replace HS0 := Lib.hid hHeld
    clear hK K hHeld
    (try simp only [List.getElem_toArray, List.getElem_cons_succ, List.getElem_cons_zero, Act.put, List.setIfInBounds_toArray, List.set_cons_zero, List.set_cons_succ])
    refine wpAnyH_ready (rs := [3, 7]) (by kernel_rfl) (by simp) ?_
    refine AllReadyH.cons rfl (fun K hK => ?_) (AllReadyH.cons rfl (fun K hK => ?_) AllReadyH.nil)
    · skip
      go_simp
      refine (Next_any p _ s _ _ _ _ (HP.out.rep (.head _) HV1.out) (HP.out.rep (.tail _ (.head _)) H1.out) (HP.out.rep (.tail _ (.head _)) H2.out) (HP.out.rep (.tail _ (.head _)) H3.out) hlf hle0 hla0 (HH.out.keep HP.out.below rfl)).mono ?_
      rintro r3 w5 ⟨ua, ea, aa, rfl, hf, he, ha, hb⟩
      replace HP := Lib.hid (HP.out.call hb)
      have HF1 := Lib.hid hf
      have HE1 := Lib.hid he
      have HA1 := Lib.hid ha
      obtain ⟨Af1, cf1, rfl, -, -, -⟩ := rep_frames_at hf
      obtain ⟨Ae1, ce1, rfl, -, -, -⟩ := rep_ints_at he
      obtain ⟨Aa1, ca1, rfl, -, -, -⟩ := rep_ints_at ha
      clear hb hf he ha
      dsimp only
      refine hK.out _ _ ⟨HP.out.blkAt0 (.tail _ (.tail _ (.head _))), HP.out.blkAt0 (.head _)⟩ (fun hHeld => ?_)
      replace HS0 := Lib.hid hHeld
      clear hK K hHeld
      (try simp only [List.getElem_toArray, List.getElem_cons_succ, List.getElem_cons_zero, Act.put, List.setIfInBounds_toArray, List.set_cons_zero, List.set_cons_succ])
      refine wpAnyH_take (i := 4) (v := ?_) rfl (by kernel_rfl) (by kernel_rfl) (by kernel_rfl) (fun _ _ _ h => h) (.inl ⟨by simp [Region.wanted], ?_⟩) HS0.out ?_
      rotate_left
      · intro w' hw
        obtain ⟨k0, k1⟩ := hw
        go_simp
        (try with_reducible rfl)
      (try simp only [List.getElem_toArray, List.getElem_cons_succ, List.getElem_cons_zero, Act.put, List.setIfInBounds_toArray, List.set_cons_zero, List.set_cons_succ])
      refine wpAnyH_take (i := 5) (v := ?_) rfl (by kernel_rfl) (by kernel_rfl) (by kernel_rfl) (fun _ _ _ h => h) (.inl ⟨by simp [Region.wanted], ?_⟩) HS0.out ?_
      rotate_left
      · intro w' hw
        obtain ⟨k0, k1⟩ := hw
        go_simp
        (try with_reducible rfl)
      (try simp only [List.getElem_toArray, List.getElem_cons_succ, List.getElem_cons_zero, Act.put, List.setIfInBounds_toArray, List.set_cons_zero, List.set_cons_succ])
      refine wpAnyH_take (i := 6) (v := ?_) rfl (by kernel_rfl) (by kernel_rfl) (by kernel_rfl) (fun _ _ _ h => h) (.inl ⟨by simp [Region.wanted], ?_⟩) HS0.out ?_
      rotate_left
      · intro w' hw
        obtain ⟨k0, k1⟩ := hw
        go_simp
        (try with_reducible rfl)
      (try simp only [List.getElem_toArray, List.getElem_cons_succ, List.getElem_cons_zero, Act.put, List.setIfInBounds_toArray, List.set_cons_zero, List.set_cons_succ])
      refine wpAnyH_ready (rs := [7]) (by kernel_rfl) (by simp) ?_
      refine AllReadyH.cons rfl (fun K hK => ?_) AllReadyH.nil
      refine wanted_only rfl ?_
      (refine wpList_alloc_hp (o := ⟨some 6, _, _, _, _, _⟩) rfl _ rfl HP.out (.agg #[.int .i64 0, .int .i64 0, .slice none 0 0, .int .i64 0, .int .i64 0, .int .i64 0, .int .i64 0, .int .i64 0, .int .i64 0, .int .i64 0, .int .i64 0, .int .i64 0, .int .i64 0, .int .i64 0, .int .i64 0, .int .i64 0, .int .i64 0, .int .i64 0, .int .i64 0, .int .i64 0, .slice none 0 0, .slice none 0 0]) (by kernel_rfl) [_, _, _, _, _, _, _, _, _, _, _, _, _, _, _, _, _, _, _, _, _, _] rfl ?_; clear HP; intro g6 w6 HP; replace HP := Lib.hid HP)
      refine wpList_nil ?_
      refine hK.out _ _ ⟨HP.out.blkAt0 (.tail _ (.tail _ (.tail _ (.head _)))), HP.out.blkAt0 (.tail _ (.head _))⟩ (fun hHeld => ?_)
      replace HS0 := Lib.hid hHeld
      clear hK K hHeld
      (try simp only [List.getElem_toArray, List.getElem_cons_succ, List.getElem_cons_zero, Act.put, List.setIfInBounds_toArray, List.set_cons_zero, List.set_cons_succ])
      refine wpAnyH_ready (rs := [8]) (by kernel_rfl) (by simp) ?_
      refine AllReadyH.cons rfl (fun K hK => ?_) AllReadyH.nil
      refine wanted_only rfl ?_
      (refine wpList_stR0 rfl 29 _ _ rfl HP.out rfl (cs' := staCells (nextAns p s).1 (.slice Af1 (nextAns p s).1.frames.length cf1) (.slice Ae1 (nextAns p s).1.events.length ce1) (.slice Aa1 (nextAns p s).1.answers.length ca1)) rfl rfl (by simp [staCells, Value.oneCell']) (by kernel_rfl) ?_; clear HP; intro wst HP; replace HP := Lib.hid HP)
      refine wpList_nil ?_
      refine hK.out _ _ ⟨HP.out.blkAt0 (.tail _ (.tail _ (.tail _ (.head _)))), HP.out.blkAt0 (.tail _ (.head _))⟩ (fun hHeld => ?_)
      replace HS0 := Lib.hid hHeld
      clear hK K hHeld
      (try simp only [List.getElem_toArray, List.getElem_cons_succ, List.getElem_cons_zero, Act.put, List.setIfInBounds_toArray, List.set_cons_zero, List.set_cons_succ])
      refine wpAnyH_ready (rs := [9]) (by kernel_rfl) (by simp) ?_
      refine AllReadyH.cons rfl (fun K hK => ?_) AllReadyH.nil
      go_simp
      refine hK.out _ _ ⟨HP.out.blkAt0 (.tail _ (.tail _ (.tail _ (.head _)))), HP.out.blkAt0 (.tail _ (.head _))⟩ (fun hHeld => ?_)
      replace HS0 := Lib.hid hHeld
      clear hK K hHeld
      (try simp only [List.getElem_toArray, List.getElem_cons_succ, List.getElem_cons_zero, Act.put, List.setIfInBounds_toArray, List.set_cons_zero, List.set_cons_succ])
      refine wpAnyH_done (by kernel_rfl) ?_ _
      (try simp only [List.getElem_toArray, List.getElem_cons_succ, List.getElem_cons_zero, Act.put, List.setIfInBounds_toArray, List.set_cons_zero, List.set_cons_succ])
      go_upto_region 4 with (first | (refine wpList_ldR0 rfl 24 _ rfl HP.out rfl Tryd.underlying24 rfl (by kernel_rfl) ?_) | (refine wpList_ldR1 rfl 24 _ rfl HP.out rfl Tryd.underlying24 rfl (by kernel_rfl) ?_) | (refine wpList_ldR2 rfl 24 _ rfl HP.out rfl Tryd.underlying24 rfl (by kernel_rfl) ?_) | (refine wpList_ldR3 rfl 24 _ rfl HP.out rfl Tryd.underlying24 rfl (by kernel_rfl) ?_) | (refine wpList_ldR0 rfl 29 _ rfl HP.out rfl Tryd.underlying29 rfl (by kernel_rfl) ?_) | (refine wpList_ldR1 rfl 29 _ rfl HP.out rfl Tryd.underlying29 rfl (by kernel_rfl) ?_) | (refine wpList_ldR2 rfl 29 _ rfl HP.out rfl Tryd.underlying29 rfl (by kernel_rfl) ?_) | (refine wpList_ldR3 rfl 29 _ rfl HP.out rfl Tryd.underlying29 rfl (by kernel_rfl) ?_) | (go_at_call 36; refine (Nexted_any p _ s _ _ _ _ (HP.out.rep (F := ⟨w, Lt w.heap.size⟩) (by simp) HR.out) (HP.out.rep (F := ⟨w, Lt w.heap.size⟩) (by simp) HF.out) (HP.out.rep (F := ⟨w, Lt w.heap.size⟩) (by simp) HE.out) (HP.out.rep (F := ⟨w, Lt w.heap.size⟩) (by simp) HAN.out) hlf hle0 hla0 HRG.out).mono ?_; rintro r6 w6 ⟨ub, eb, ab, rfl, hf, he, ha, hb⟩; replace HP := Lib.hid (HP.out.call hb); have HF2 := Lib.hid hf; have HE2 := Lib.hid he; have HA2 := Lib.hid ha; obtain ⟨Af2, cf2, rfl, -, -, -⟩ := rep_frames_at hf; obtain ⟨Ae2, ce2, rfl, -, -, -⟩ := rep_ints_at he; obtain ⟨Aa2, ca2, rfl, -, -, -⟩ := rep_ints_at ha; clear hb hf he ha) | (refine wpList_alloc_hp (o := ⟨some 8, _, _, _, _, _⟩) rfl _ rfl HP.out (.agg #[.int .i64 0, .int .i64 0, .slice none 0 0, .int .i64 0, .int .i64 0, .int .i64 0, .int .i64 0, .int .i64 0, .int .i64 0, .int .i64 0, .int .i64 0, .int .i64 0, .int .i64 0, .int .i64 0, .int .i64 0, .int .i64 0, .int .i64 0, .int .i64 0, .int .i64 0, .int .i64 0, .slice none 0 0, .slice none 0 0]) (by kernel_rfl) [_, _, _, _, _, _, _, _, _, _, _, _, _, _, _, _, _, _, _, _, _, _] rfl ?_; clear HP; intro g8 w8 HP; replace HP := Lib.hid HP) | (refine wpList_stR0 rfl 29 _ _ rfl HP.out rfl (cs' := staCells (nextAns p s).1 (.slice Af2 (nextAns p s).1.frames.length cf2) (.slice Ae2 (nextAns p s).1.events.length ce2) (.slice Aa2 (nextAns p s).1.answers.length ca2)) rfl rfl (by simp [staCells, Value.oneCell']) (by kernel_rfl) ?_; clear HP; intro wst HP; replace HP := Lib.hid HP))
      (try simp only [List.getElem_toArray, List.getElem_cons_succ, List.getElem_cons_zero, Act.put, List.setIfInBounds_toArray, List.set_cons_zero, List.set_cons_succ])
      have tok1 : True := trivial
      have tok2 : True := trivial
      go_wp2_with (first | (refine wpList_load_w rfl 29 _ rfl _ rfl _ _ (HP.out.blkAt0 (.head _)) Tryd.underlying29 rfl (by kernel_rfl) ?_) | (refine wpList_load_w rfl 29 _ rfl _ rfl _ _ (HP.out.blkAt0 (.tail _ (.head _))) Tryd.underlying29 rfl (by kernel_rfl) ?_) | (refine wpList_load_w rfl 29 _ rfl _ rfl _ _ (HP.out.blkAt0 (.tail _ (.tail _ (.head _)))) Tryd.underlying29 rfl (by kernel_rfl) ?_) | (refine wpList_load_w rfl 29 _ rfl _ rfl _ _ (HP.out.blkAt0 (.tail _ (.tail _ (.tail _ (.head _))))) Tryd.underlying29 rfl (by kernel_rfl) ?_) | (go_at_call 18; have _t := tok1; refine (sameState_any (nextAns p s).1 _ _ _ _ _ _ _ (HP.out.rep (.tail _ (.head _)) HF1.out) (HP.out.rep (.tail _ (.head _)) HE1.out) (HP.out.rep (.tail _ (.head _)) HA1.out) (HP.out.rep (.head _) HF2.out) (HP.out.rep (.head _) HE2.out) (HP.out.rep (.head _) HA2.out)).mono ?_; rintro r7 w7 ⟨rfl, hb⟩; replace HP := Lib.hid (HP.out.call0 hb); clear hb tok1 _t) | (go_at_call 18; have _t := tok2; refine (sameState_any s _ _ _ _ _ _ _ (HP.out.rep (.tail _ (.tail _ (.tail _ (.head _)))) H1.out) (HP.out.rep (.tail _ (.tail _ (.tail _ (.head _)))) H2.out) (HP.out.rep (.tail _ (.tail _ (.tail _ (.head _)))) H3.out) (HP.out.rep (F := ⟨w, Lt w.heap.size⟩) (by simp) HF.out) (HP.out.rep (F := ⟨w, Lt w.heap.size⟩) (by simp) HE.out) (HP.out.rep (F := ⟨w, Lt w.heap.size⟩) (by simp) HAN.out)).mono ?_; rintro r8 w8 ⟨rfl, hb⟩; replace HP := Lib.hid (HP.out.call0 hb); clear hb tok2 _t))
      go_ret
      exact ⟨ret_bool (by simp), HP.out.below⟩
    · skip
      refine wanted_only rfl ?_
      (refine wpList_alloc_hp (o := ⟨some 6, _, _, _, _, _⟩) rfl _ rfl HP.out (.agg #[.int .i64 0, .int .i64 0, .slice none 0 0, .int .i64 0, .int .i64 0, .int .i64 0, .int .i64 0, .int .i64 0, .int .i64 0, .int .i64 0, .int .i64 0, .int .i64 0, .int .i64 0, .int .i64 0, .int .i64 0, .int .i64 0, .int .i64 0, .int .i64 0, .int .i64 0, .int .i64 0, .slice none 0 0, .slice none 0 0]) (by kernel_rfl) [_, _, _, _, _, _, _, _, _, _, _, _, _, _, _, _, _, _, _, _, _, _] rfl ?_; clear HP; intro g6 w6 HP; replace HP := Lib.hid HP)
      refine wpList_nil ?_
      refine hK.out _ _ ⟨HP.out.blkAt0 (.tail _ (.tail _ (.tail _ (.head _)))), HP.out.blkAt0 (.tail _ (.head _))⟩ (fun hHeld => ?_)
      replace HS0 := Lib.hid hHeld
      clear hK K hHeld
      (try simp only [List.getElem_toArray, List.getElem_cons_succ, List.getElem_cons_zero, Act.put, List.setIfInBounds_toArray, List.set_cons_zero, List.set_cons_succ])
      refine wpAnyH_ready (rs := [3]) (by kernel_rfl) (by simp) ?_
      refine AllReadyH.cons rfl (fun K hK => ?_) AllReadyH.nil
      go_simp
      refine (Next_any p _ s _ _ _ _ (HP.out.rep (.head _) HV1.out) (HP.out.rep (.tail _ (.head _)) H1.out) (HP.out.rep (.tail _ (.head _)) H2.out) (HP.out.rep (.tail _ (.head _)) H3.out) hlf hle0 hla0 (HH.out.keep HP.out.below rfl)).mono ?_
      rintro r3 w5 ⟨ua, ea, aa, rfl, hf, he, ha, hb⟩
      replace HP := Lib.hid (HP.out.call hb)
      have HF1 := Lib.hid hf
      have HE1 := Lib.hid he
      have HA1 := Lib.hid ha
      obtain ⟨Af1, cf1, rfl, -, -, -⟩ := rep_frames_at hf
      obtain ⟨Ae1, ce1, rfl, -, -, -⟩ := rep_ints_at he
      obtain ⟨Aa1, ca1, rfl, -, -, -⟩ := rep_ints_at ha
      clear hb hf he ha
      dsimp only
      refine hK.out _ _ ⟨HP.out.blkAt0 (.tail _ (.tail _ (.tail _ (.head _)))), HP.out.blkAt0 (.tail _ (.head _))⟩ (fun hHeld => ?_)
      replace HS0 := Lib.hid hHeld
      clear hK K hHeld
      (try simp only [List.getElem_toArray, List.getElem_cons_succ, List.getElem_cons_zero, Act.put, List.setIfInBounds_toArray, List.set_cons_zero, List.set_cons_succ])
      refine wpAnyH_take (i := 4) (v := ?_) rfl (by kernel_rfl) (by kernel_rfl) (by kernel_rfl) (fun _ _ _ h => h) (.inl ⟨by simp [Region.wanted], ?_⟩) HS0.out ?_
      rotate_left
      · intro w' hw
        obtain ⟨k0, k1⟩ := hw
        go_simp
        (try with_reducible rfl)
      (try simp only [List.getElem_toArray, List.getElem_cons_succ, List.getElem_cons_zero, Act.put, List.setIfInBounds_toArray, List.set_cons_zero, List.set_cons_succ])
      refine wpAnyH_take (i := 5) (v := ?_) rfl (by kernel_rfl) (by kernel_rfl) (by kernel_rfl) (fun _ _ _ h => h) (.inl ⟨by simp [Region.wanted], ?_⟩) HS0.out ?_
      rotate_left
      · intro w' hw
        obtain ⟨k0, k1⟩ := hw
        go_simp
        (try with_reducible rfl)
      (try simp only [List.getElem_toArray, List.getElem_cons_succ, List.getElem_cons_zero, Act.put, List.setIfInBounds_toArray, List.set_cons_zero, List.set_cons_succ])
      refine wpAnyH_take (i := 6) (v := ?_) rfl (by kernel_rfl) (by kernel_rfl) (by kernel_rfl) (fun _ _ _ h => h) (.inl ⟨by simp [Region.wanted], ?_⟩) HS0.out ?_
      rotate_left
      · intro w' hw
        obtain ⟨k0, k1⟩ := hw
        go_simp
        (try with_reducible rfl)
      (try simp only [List.getElem_toArray, List.getElem_cons_succ, List.getElem_cons_zero, Act.put, List.setIfInBounds_toArray, List.set_cons_zero, List.set_cons_succ])
      refine wpAnyH_ready (rs := [8]) (by kernel_rfl) (by simp) ?_
      refine AllReadyH.cons rfl (fun K hK => ?_) AllReadyH.nil
      refine wanted_only rfl ?_
      (refine wpList_stR0 rfl 29 _ _ rfl HP.out rfl (cs' := staCells (nextAns p s).1 (.slice Af1 (nextAns p s).1.frames.length cf1) (.slice Ae1 (nextAns p s).1.events.length ce1) (.slice Aa1 (nextAns p s).1.answers.length ca1)) rfl rfl (by simp [staCells, Value.oneCell']) (by kernel_rfl) ?_; clear HP; intro wst HP; replace HP := Lib.hid HP)
      refine wpList_nil ?_
      refine hK.out _ _ ⟨HP.out.blkAt0 (.tail _ (.tail _ (.tail _ (.head _)))), HP.out.blkAt0 (.tail _ (.head _))⟩ (fun hHeld => ?_)
      replace HS0 := Lib.hid hHeld
      clear hK K hHeld
      (try simp only [List.getElem_toArray, List.getElem_cons_succ, List.getElem_cons_zero, Act.put, List.setIfInBounds_toArray, List.set_cons_zero, List.set_cons_succ])
      refine wpAnyH_ready (rs := [9]) (by kernel_rfl) (by simp) ?_
      refine AllReadyH.cons rfl (fun K hK => ?_) AllReadyH.nil
      go_simp
      refine hK.out _ _ ⟨HP.out.blkAt0 (.tail _ (.tail _ (.tail _ (.head _)))), HP.out.blkAt0 (.tail _ (.head _))⟩ (fun hHeld => ?_)
      replace HS0 := Lib.hid hHeld
      clear hK K hHeld
      (try simp only [List.getElem_toArray, List.getElem_cons_succ, List.getElem_cons_zero, Act.put, List.setIfInBounds_toArray, List.set_cons_zero, List.set_cons_succ])
      refine wpAnyH_done (by kernel_rfl) ?_ _
      (try simp only [List.getElem_toArray, List.getElem_cons_succ, List.getElem_cons_zero, Act.put, List.setIfInBounds_toArray, List.set_cons_zero, List.set_cons_succ])
      go_upto_region 4 with (first | (refine wpList_ldR0 rfl 24 _ rfl HP.out rfl Tryd.underlying24 rfl (by kernel_rfl) ?_) | (refine wpList_ldR1 rfl 24 _ rfl HP.out rfl Tryd.underlying24 rfl (by kernel_rfl) ?_) | (refine wpList_ldR2 rfl 24 _ rfl HP.out rfl Tryd.underlying24 rfl (by kernel_rfl) ?_) | (refine wpList_ldR3 rfl 24 _ rfl HP.out rfl Tryd.underlying24 rfl (by kernel_rfl) ?_) | (refine wpList_ldR0 rfl 29 _ rfl HP.out rfl Tryd.underlying29 rfl (by kernel_rfl) ?_) | (refine wpList_ldR1 rfl 29 _ rfl HP.out rfl Tryd.underlying29 rfl (by kernel_rfl) ?_) | (refine wpList_ldR2 rfl 29 _ rfl HP.out rfl Tryd.underlying29 rfl (by kernel_rfl) ?_) | (refine wpList_ldR3 rfl 29 _ rfl HP.out rfl Tryd.underlying29 rfl (by kernel_rfl) ?_) | (go_at_call 36; refine (Nexted_any p _ s _ _ _ _ (HP.out.rep (F := ⟨w, Lt w.heap.size⟩) (by simp) HR.out) (HP.out.rep (F := ⟨w, Lt w.heap.size⟩) (by simp) HF.out) (HP.out.rep (F := ⟨w, Lt w.heap.size⟩) (by simp) HE.out) (HP.out.rep (F := ⟨w, Lt w.heap.size⟩) (by simp) HAN.out) hlf hle0 hla0 HRG.out).mono ?_; rintro r6 w6 ⟨ub, eb, ab, rfl, hf, he, ha, hb⟩; replace HP := Lib.hid (HP.out.call hb); have HF2 := Lib.hid hf; have HE2 := Lib.hid he; have HA2 := Lib.hid ha; obtain ⟨Af2, cf2, rfl, -, -, -⟩ := rep_frames_at hf; obtain ⟨Ae2, ce2, rfl, -, -, -⟩ := rep_ints_at he; obtain ⟨Aa2, ca2, rfl, -, -, -⟩ := rep_ints_at ha; clear hb hf he ha) | (refine wpList_alloc_hp (o := ⟨some 8, _, _, _, _, _⟩) rfl _ rfl HP.out (.agg #[.int .i64 0, .int .i64 0, .slice none 0 0, .int .i64 0, .int .i64 0, .int .i64 0, .int .i64 0, .int .i64 0, .int .i64 0, .int .i64 0, .int .i64 0, .int .i64 0, .int .i64 0, .int .i64 0, .int .i64 0, .int .i64 0, .int .i64 0, .int .i64 0, .int .i64 0, .int .i64 0, .slice none 0 0, .slice none 0 0]) (by kernel_rfl) [_, _, _, _, _, _, _, _, _, _, _, _, _, _, _, _, _, _, _, _, _, _] rfl ?_; clear HP; intro g8 w8 HP; replace HP := Lib.hid HP) | (refine wpList_stR0 rfl 29 _ _ rfl HP.out rfl (cs' := staCells (nextAns p s).1 (.slice Af2 (nextAns p s).1.frames.length cf2) (.slice Ae2 (nextAns p s).1.events.length ce2) (.slice Aa2 (nextAns p s).1.answers.length ca2)) rfl rfl (by simp [staCells, Value.oneCell']) (by kernel_rfl) ?_; clear HP; intro wst HP; replace HP := Lib.hid HP))
      (try simp only [List.getElem_toArray, List.getElem_cons_succ, List.getElem_cons_zero, Act.put, List.setIfInBounds_toArray, List.set_cons_zero, List.set_cons_succ])
      have tok1 : True := trivial
      have tok2 : True := trivial
      go_wp2_with (first | (refine wpList_load_w rfl 29 _ rfl _ rfl _ _ (HP.out.blkAt0 (.head _)) Tryd.underlying29 rfl (by kernel_rfl) ?_) | (refine wpList_load_w rfl 29 _ rfl _ rfl _ _ (HP.out.blkAt0 (.tail _ (.head _))) Tryd.underlying29 rfl (by kernel_rfl) ?_) | (refine wpList_load_w rfl 29 _ rfl _ rfl _ _ (HP.out.blkAt0 (.tail _ (.tail _ (.head _)))) Tryd.underlying29 rfl (by kernel_rfl) ?_) | (refine wpList_load_w rfl 29 _ rfl _ rfl _ _ (HP.out.blkAt0 (.tail _ (.tail _ (.tail _ (.head _))))) Tryd.underlying29 rfl (by kernel_rfl) ?_) | (go_at_call 18; have _t := tok1; refine (sameState_any (nextAns p s).1 _ _ _ _ _ _ _ (HP.out.rep (.tail _ (.head _)) HF1.out) (HP.out.rep (.tail _ (.head _)) HE1.out) (HP.out.rep (.tail _ (.head _)) HA1.out) (HP.out.rep (.head _) HF2.out) (HP.out.rep (.head _) HE2.out) (HP.out.rep (.head _) HA2.out)).mono ?_; rintro r7 w7 ⟨rfl, hb⟩; replace HP := Lib.hid (HP.out.call0 hb); clear hb tok1 _t) | (go_at_call 18; have _t := tok2; refine (sameState_any s _ _ _ _ _ _ _ (HP.out.rep (.tail _ (.tail _ (.tail _ (.head _)))) H1.out) (HP.out.rep (.tail _ (.tail _ (.tail _ (.head _)))) H2.out) (HP.out.rep (.tail _ (.tail _ (.tail _ (.head _)))) H3.out) (HP.out.rep (F := ⟨w, Lt w.heap.size⟩) (by simp) HF.out) (HP.out.rep (F := ⟨w, Lt w.heap.size⟩) (by simp) HE.out) (HP.out.rep (F := ⟨w, Lt w.heap.size⟩) (by simp) HAN.out)).mono ?_; rintro r8 w8 ⟨rfl, hb⟩; replace HP := Lib.hid (HP.out.call0 hb); clear hb tok2 _t))
      go_ret
      exact ⟨ret_bool (by simp), HP.out.below⟩
  · skip
    refine wanted_only rfl ?_
    (refine wpList_alloc_hp (o := ⟨some 6, _, _, _, _, _⟩) rfl _ rfl HP.out (.agg #[.int .i64 0, .int .i64 0, .slice none 0 0, .int .i64 0, .int .i64 0, .int .i64 0, .int .i64 0, .int .i64 0, .int .i64 0, .int .i64 0, .int .i64 0, .int .i64 0, .int .i64 0, .int .i64 0, .int .i64 0, .int .i64 0, .int .i64 0, .int .i64 0, .int .i64 0, .int .i64 0, .slice none 0 0, .slice none 0 0]) (by kernel_rfl) [_, _, _, _, _, _, _, _, _, _, _, _, _, _, _, _, _, _, _, _, _, _] rfl ?_; clear HP; intro g6 w6 HP; replace HP := Lib.hid HP)
    refine wpList_nil ?_
    refine hK.out _ _ ⟨HP.out.blkAt0 (.tail _ (.tail _ (.tail _ (.head _)))), HP.out.blkAt0 (.tail _ (.head _))⟩ (fun hHeld => ?_)
    replace HS0 := Lib.hid hHeld
    clear hK K hHeld
    (try simp only [List.getElem_toArray, List.getElem_cons_succ, List.getElem_cons_zero, Act.put, List.setIfInBounds_toArray, List.set_cons_zero, List.set_cons_succ])
    refine wpAnyH_ready (rs := [1]) (by kernel_rfl) (by simp) ?_
    refine AllReadyH.cons rfl (fun K hK => ?_) AllReadyH.nil
    go_simp
    refine (programs_any p _ _ (HP.out.rep (F := ⟨w, Lt w.heap.size⟩) (by simp) HR.out) HOK.out).mono ?_
    rintro r1 w1 ⟨v1, rfl, hv1, hb1⟩
    replace HP := Lib.hid (HP.out.call hb1)
    have HV1 := Lib.hid hv1
    clear hb1 hv1
    dsimp only
    refine hK.out _ _ ⟨HP.out.blkAt0 (.tail _ (.tail _ (.tail _ (.head _)))), HP.out.blkAt0 (.tail _ (.head _))⟩ (fun hHeld => ?_)
    replace HS0 := Lib.hid hHeld
    clear hK K hHeld
    (try simp only [List.getElem_toArray, List.getElem_cons_succ, List.getElem_cons_zero, Act.put, List.setIfInBounds_toArray, List.set_cons_zero, List.set_cons_succ])
    refine wpAnyH_ready (rs := [3]) (by kernel_rfl) (by simp) ?_
    refine AllReadyH.cons rfl (fun K hK => ?_) AllReadyH.nil
    go_simp
    refine (Next_any p _ s _ _ _ _ (HP.out.rep (.head _) HV1.out) (HP.out.rep (.tail _ (.head _)) H1.out) (HP.out.rep (.tail _ (.head _)) H2.out) (HP.out.rep (.tail _ (.head _)) H3.out) hlf hle0 hla0 (HH.out.keep HP.out.below rfl)).mono ?_
    rintro r3 w5 ⟨ua, ea, aa, rfl, hf, he, ha, hb⟩
    replace HP := Lib.hid (HP.out.call hb)
    have HF1 := Lib.hid hf
    have HE1 := Lib.hid he
    have HA1 := Lib.hid ha
    obtain ⟨Af1, cf1, rfl, -, -, -⟩ := rep_frames_at hf
    obtain ⟨Ae1, ce1, rfl, -, -, -⟩ := rep_ints_at he
    obtain ⟨Aa1, ca1, rfl, -, -, -⟩ := rep_ints_at ha
    clear hb hf he ha
    dsimp only
    refine hK.out _ _ ⟨HP.out.blkAt0 (.tail _ (.tail _ (.tail _ (.head _)))), HP.out.blkAt0 (.tail _ (.head _))⟩ (fun hHeld => ?_)
    replace HS0 := Lib.hid hHeld
    clear hK K hHeld
    (try simp only [List.getElem_toArray, List.getElem_cons_succ, List.getElem_cons_zero, Act.put, List.setIfInBounds_toArray, List.set_cons_zero, List.set_cons_succ])
    refine wpAnyH_take (i := 4) (v := ?_) rfl (by kernel_rfl) (by kernel_rfl) (by kernel_rfl) (fun _ _ _ h => h) (.inl ⟨by simp [Region.wanted], ?_⟩) HS0.out ?_
    rotate_left
    · intro w' hw
      obtain ⟨k0, k1⟩ := hw
      go_simp
      (try with_reducible rfl)
    (try simp only [List.getElem_toArray, List.getElem_cons_succ, List.getElem_cons_zero, Act.put, List.setIfInBounds_toArray, List.set_cons_zero, List.set_cons_succ])
    refine wpAnyH_take (i := 5) (v := ?_) rfl (by kernel_rfl) (by kernel_rfl) (by kernel_rfl) (fun _ _ _ h => h) (.inl ⟨by simp [Region.wanted], ?_⟩) HS0.out ?_
    rotate_left
    · intro w' hw
      obtain ⟨k0, k1⟩ := hw
      go_simp
      (try with_reducible rfl)
    (try simp only [List.getElem_toArray, List.getElem_cons_succ, List.getElem_cons_zero, Act.put, List.setIfInBounds_toArray, List.set_cons_zero, List.set_cons_succ])
    refine wpAnyH_take (i := 6) (v := ?_) rfl (by kernel_rfl) (by kernel_rfl) (by kernel_rfl) (fun _ _ _ h => h) (.inl ⟨by simp [Region.wanted], ?_⟩) HS0.out ?_
    rotate_left
    · intro w' hw
      obtain ⟨k0, k1⟩ := hw
      go_simp
      (try with_reducible rfl)
    (try simp only [List.getElem_toArray, List.getElem_cons_succ, List.getElem_cons_zero, Act.put, List.setIfInBounds_toArray, List.set_cons_zero, List.set_cons_succ])
    refine wpAnyH_ready (rs := [8]) (by kernel_rfl) (by simp) ?_
    refine AllReadyH.cons rfl (fun K hK => ?_) AllReadyH.nil
    refine wanted_only rfl ?_
    (refine wpList_stR0 rfl 29 _ _ rfl HP.out rfl (cs' := staCells (nextAns p s).1 (.slice Af1 (nextAns p s).1.frames.length cf1) (.slice Ae1 (nextAns p s).1.events.length ce1) (.slice Aa1 (nextAns p s).1.answers.length ca1)) rfl rfl (by simp [staCells, Value.oneCell']) (by kernel_rfl) ?_; clear HP; intro wst HP; replace HP := Lib.hid HP)
    refine wpList_nil ?_
    refine hK.out _ _ ⟨HP.out.blkAt0 (.tail _ (.tail _ (.tail _ (.head _)))), HP.out.blkAt0 (.tail _ (.head _))⟩ (fun hHeld => ?_)
    replace HS0 := Lib.hid hHeld
    clear hK K hHeld
    (try simp only [List.getElem_toArray, List.getElem_cons_succ, List.getElem_cons_zero, Act.put, List.setIfInBounds_toArray, List.set_cons_zero, List.set_cons_succ])
    refine wpAnyH_ready (rs := [9]) (by kernel_rfl) (by simp) ?_
    refine AllReadyH.cons rfl (fun K hK => ?_) AllReadyH.nil
    go_simp
    refine hK.out _ _ ⟨HP.out.blkAt0 (.tail _ (.tail _ (.tail _ (.head _)))), HP.out.blkAt0 (.tail _ (.head _))⟩ (fun hHeld => ?_)
    replace HS0 := Lib.hid hHeld
    clear hK K hHeld
    (try simp only [List.getElem_toArray, List.getElem_cons_succ, List.getElem_cons_zero, Act.put, List.setIfInBounds_toArray, List.set_cons_zero, List.set_cons_succ])
    refine wpAnyH_done (by kernel_rfl) ?_ _
    (try simp only [List.getElem_toArray, List.getElem_cons_succ, List.getElem_cons_zero, Act.put, List.setIfInBounds_toArray, List.set_cons_zero, List.set_cons_succ])
    go_upto_region 4 with (first | (refine wpList_ldR0 rfl 24 _ rfl HP.out rfl Tryd.underlying24 rfl (by kernel_rfl) ?_) | (refine wpList_ldR1 rfl 24 _ rfl HP.out rfl Tryd.underlying24 rfl (by kernel_rfl) ?_) | (refine wpList_ldR2 rfl 24 _ rfl HP.out rfl Tryd.underlying24 rfl (by kernel_rfl) ?_) | (refine wpList_ldR3 rfl 24 _ rfl HP.out rfl Tryd.underlying24 rfl (by kernel_rfl) ?_) | (refine wpList_ldR0 rfl 29 _ rfl HP.out rfl Tryd.underlying29 rfl (by kernel_rfl) ?_) | (refine wpList_ldR1 rfl 29 _ rfl HP.out rfl Tryd.underlying29 rfl (by kernel_rfl) ?_) | (refine wpList_ldR2 rfl 29 _ rfl HP.out rfl Tryd.underlying29 rfl (by kernel_rfl) ?_) | (refine wpList_ldR3 rfl 29 _ rfl HP.out rfl Tryd.underlying29 rfl (by kernel_rfl) ?_) | (go_at_call 36; refine (Nexted_any p _ s _ _ _ _ (HP.out.rep (F := ⟨w, Lt w.heap.size⟩) (by simp) HR.out) (HP.out.rep (F := ⟨w, Lt w.heap.size⟩) (by simp) HF.out) (HP.out.rep (F := ⟨w, Lt w.heap.size⟩) (by simp) HE.out) (HP.out.rep (F := ⟨w, Lt w.heap.size⟩) (by simp) HAN.out) hlf hle0 hla0 HRG.out).mono ?_; rintro r6 w6 ⟨ub, eb, ab, rfl, hf, he, ha, hb⟩; replace HP := Lib.hid (HP.out.call hb); have HF2 := Lib.hid hf; have HE2 := Lib.hid he; have HA2 := Lib.hid ha; obtain ⟨Af2, cf2, rfl, -, -, -⟩ := rep_frames_at hf; obtain ⟨Ae2, ce2, rfl, -, -, -⟩ := rep_ints_at he; obtain ⟨Aa2, ca2, rfl, -, -, -⟩ := rep_ints_at ha; clear hb hf he ha) | (refine wpList_alloc_hp (o := ⟨some 8, _, _, _, _, _⟩) rfl _ rfl HP.out (.agg #[.int .i64 0, .int .i64 0, .slice none 0 0, .int .i64 0, .int .i64 0, .int .i64 0, .int .i64 0, .int .i64 0, .int .i64 0, .int .i64 0, .int .i64 0, .int .i64 0, .int .i64 0, .int .i64 0, .int .i64 0, .int .i64 0, .int .i64 0, .int .i64 0, .int .i64 0, .int .i64 0, .slice none 0 0, .slice none 0 0]) (by kernel_rfl) [_, _, _, _, _, _, _, _, _, _, _, _, _, _, _, _, _, _, _, _, _, _] rfl ?_; clear HP; intro g8 w8 HP; replace HP := Lib.hid HP) | (refine wpList_stR0 rfl 29 _ _ rfl HP.out rfl (cs' := staCells (nextAns p s).1 (.slice Af2 (nextAns p s).1.frames.length cf2) (.slice Ae2 (nextAns p s).1.events.length ce2) (.slice Aa2 (nextAns p s).1.answers.length ca2)) rfl rfl (by simp [staCells, Value.oneCell']) (by kernel_rfl) ?_; clear HP; intro wst HP; replace HP := Lib.hid HP))
    (try simp only [List.getElem_toArray, List.getElem_cons_succ, List.getElem_cons_zero, Act.put, List.setIfInBounds_toArray, List.set_cons_zero, List.set_cons_succ])
    have tok1 : True := trivial
    have tok2 : True := trivial
    go_wp2_with (first | (refine wpList_load_w rfl 29 _ rfl _ rfl _ _ (HP.out.blkAt0 (.head _)) Tryd.underlying29 rfl (by kernel_rfl) ?_) | (refine wpList_load_w rfl 29 _ rfl _ rfl _ _ (HP.out.blkAt0 (.tail _ (.head _))) Tryd.underlying29 rfl (by kernel_rfl) ?_) | (refine wpList_load_w rfl 29 _ rfl _ rfl _ _ (HP.out.blkAt0 (.tail _ (.tail _ (.head _)))) Tryd.underlying29 rfl (by kernel_rfl) ?_) | (refine wpList_load_w rfl 29 _ rfl _ rfl _ _ (HP.out.blkAt0 (.tail _ (.tail _ (.tail _ (.head _))))) Tryd.underlying29 rfl (by kernel_rfl) ?_) | (go_at_call 18; have _t := tok1; refine (sameState_any (nextAns p s).1 _ _ _ _ _ _ _ (HP.out.rep (.tail _ (.head _)) HF1.out) (HP.out.rep (.tail _ (.head _)) HE1.out) (HP.out.rep (.tail _ (.head _)) HA1.out) (HP.out.rep (.head _) HF2.out) (HP.out.rep (.head _) HE2.out) (HP.out.rep (.head _) HA2.out)).mono ?_; rintro r7 w7 ⟨rfl, hb⟩; replace HP := Lib.hid (HP.out.call0 hb); clear hb tok1 _t) | (go_at_call 18; have _t := tok2; refine (sameState_any s _ _ _ _ _ _ _ (HP.out.rep (.tail _ (.tail _ (.tail _ (.head _)))) H1.out) (HP.out.rep (.tail _ (.tail _ (.tail _ (.head _)))) H2.out) (HP.out.rep (.tail _ (.tail _ (.tail _ (.head _)))) H3.out) (HP.out.rep (F := ⟨w, Lt w.heap.size⟩) (by simp) HF.out) (HP.out.rep (F := ⟨w, Lt w.heap.size⟩) (by simp) HE.out) (HP.out.rep (F := ⟨w, Lt w.heap.size⟩) (by simp) HAN.out)).mono ?_; rintro r8 w8 ⟨rfl, hb⟩; replace HP := Lib.hid (HP.out.call0 hb); clear hb tok2 _t))
    go_ret
    exact ⟨ret_bool (by simp), HP.out.below⟩
end Go.Proofs.YtfhoffpdodjfeaaDoor
