/- The law StepChecks, walked. -/
import Derived.Test.YtpgakmopkgbahaaDoorStepCheck
import Derived.Test.YtpgakmopkgbahaaDoorStateFault
import Derived.Test.YtpgakmopkgbahaaDoorStates
import Derived.Test.YtpgakmopkgbahaaDoorCodeChecks
import Derived.Test.YtpgakmopkgbahaaDoorHeld
set_option linter.unusedSimpArgs false
set_option linter.unusedVariables false
namespace Go.Proofs.YtpgakmopkgbahaaDoor
open Go.RowKit Plain64
attribute [local irreducible] wpList Code.wp Oper.wp
set_option maxRecDepth 10000 in
set_option maxHeartbeats 4000000 in
theorem stepChecks_any (p : Prg) (v : Value) (s : Sta) (u e a : Value) (w : World) (hp : Lay.rep w (Lt w.heap.size) p [v]) (hok : Lay.ok p) (hf : Lay.rep w (Lt w.heap.size) s.frames [u]) (he : Lay.rep w (Lt w.heap.size) s.events [e]) (ha : Lay.rep w (Lt w.heap.size) s.answers [a])
    (hlf : s.frames.length ≤ 1256584717421) (hle : s.events.length ≤ 17592186044000) (hla : s.answers.length ≤ 17592186044000) (hh : Has w) :
    Calls Tryd.prog 12 #[.agg #[v], .agg (staCells s u e a).toArray] w fun r w' => r = .returned (.bool true) ∧ Below w.heap.size w w' := by
  have HR := Lib.hid hp
  have HOK := Lib.hid hok
  have HF := Lib.hid hf
  have HE := Lib.hid he
  have HAN := Lib.hid ha
  have HH := Lib.hid hh
  clear hp hok hf he ha hh
  unfold staCells
  have HP := Lib.hid (Hp.start w)
  go_enter Tryd.func12, Tryd.ntmps12
  go_wp2_with (first | (refine wpList_box_hp (o := ⟨some 2, _, _, _, _, _⟩) rfl _ _ rfl HP.out [_] rfl ?_; clear HP; intro g2 w2 HP; replace HP := Lib.hid HP) | (refine wpList_box_hp (o := ⟨some 3, _, _, _, _, _⟩) rfl _ _ rfl HP.out [_, _, _, _, _, _, _, _, _, _, _, _, _, _, _, _, _, _, _, _, _, _] rfl ?_; clear HP; intro g3 w3 HP; replace HP := Lib.hid HP) | (refine wpList_ldR0 rfl 29 _ rfl HP.out rfl Tryd.underlying29 rfl (by kernel_rfl) ?_) | (refine wpList_ldR1 rfl 29 _ rfl HP.out rfl Tryd.underlying29 rfl (by kernel_rfl) ?_) | (refine wpList_ldR0 rfl 58 _ rfl HP.out rfl Tryd.underlying58 rfl (by kernel_rfl) ?_) | (refine wpList_ldR1 rfl 58 _ rfl HP.out rfl Tryd.underlying58 rfl (by kernel_rfl) ?_))
  have HP0 := Lib.hid HP.out.drew
  refine wp_region_held_drew (S := fun w' => At w' ⟨g3, 0, none⟩ (staCells s u e a) ∧ At w' ⟨g2, 0, none⟩ [v]) (by kernel_rfl) ⟨HP0.out.blkAt (.head _) 0, HP0.out.blkAt (.tail _ (.head _)) 0⟩ (fun hHeld => ?_)
  have HS0 := Lib.hid hHeld
  clear hHeld
  refine wpAnyH_row (i := 2) rfl (by kernel_rfl) (by kernel_rfl) (by kernel_rfl) (fun _ _ _ _ h => h) rfl 58 _ rfl _ rfl _ _ (fun _ h => h.1) Tryd.underlying58 rfl (by kernel_rfl) HS0.out ?_
  (try simp only [Act.put, List.setIfInBounds_toArray, List.set_cons_zero, List.set_cons_succ])
  refine wpAnyH_row (i := 0) rfl (by kernel_rfl) (by kernel_rfl) (by kernel_rfl) (fun _ _ _ _ h => h) rfl 29 _ rfl _ rfl _ _ (fun _ h => h.2) Tryd.underlying29 rfl (by kernel_rfl) HS0.out ?_
  (try simp only [Act.put, List.setIfInBounds_toArray, List.set_cons_zero, List.set_cons_succ])
  refine wpAnyH_ready (rs := [1]) (by kernel_rfl) (by simp) ?_
  refine AllReadyH.cons rfl (fun K hK => ?_) AllReadyH.nil
  go_simp
  go_wp2_with (go_at_call 15; refine (programs_any p _ _ (HP0.out.rep (F := ⟨w, Lt w.heap.size⟩) (by simp) HR.out) HOK.out).mono ?_; rintro r1 w1 ⟨v1, rfl, hv1, hb1⟩; have HP1 := Lib.hid (HP0.out.call hb1); have HV1 := Lib.hid hv1; clear hb1 hv1)
  refine hK.out _ _ ⟨HP1.out.blkAt (.head _) 0, HP1.out.blkAt (.tail _ (.head _)) 0⟩ (fun hHeld => ?_)
  clear hK K hHeld HP0
  refine wpAnyH_ready (rs := [3]) (by kernel_rfl) (by simp) ?_
  refine AllReadyH.cons rfl (fun K hK => ?_) AllReadyH.nil
  go_simp
  go_wp2_with (go_at_call 37; refine (states_any s _ _ _ _ (HP1.out.rep (F := ⟨w, Lt w.heap.size⟩) (by simp) HF.out) (HP1.out.rep (F := ⟨w, Lt w.heap.size⟩) (by simp) HE.out) (HP1.out.rep (F := ⟨w, Lt w.heap.size⟩) (by simp) HAN.out) hlf hle hla).mono ?_; rintro r2 w4 ⟨u4, e4, a4, rfl, h1, h2, h3, hb2⟩; have HP2 := Lib.hid (HP1.out.call hb2); have H1 := Lib.hid h1; have H2 := Lib.hid h2; have H3 := Lib.hid h3; clear hb2 h1 h2 h3)
  refine hK.out _ _ ⟨HP2.out.blkAt (.head _) 0, HP2.out.blkAt (.tail _ (.head _)) 0⟩ (fun hHeld => ?_)
  clear hK K hHeld HP1
  refine wpAnyH_ready (rs := [4]) (by kernel_rfl) (by simp) ?_
  refine AllReadyH.cons rfl (fun K hK => ?_) AllReadyH.nil
  go_simp
  go_wp2_with (go_at_call 36; refine (stepCheck_any p _ s _ _ _ _ (HP2.out.rep (.tail _ (.head _)) HV1.out) (HP2.out.rep (.head _) H1.out) (HP2.out.rep (.head _) H2.out) (HP2.out.rep (.head _) H3.out) (HH.out.keep HP2.out.below rfl)).mono ?_; rintro r3 w5 ⟨rfl, hb3⟩; have HP3 := Lib.hid (HP2.out.call0 hb3); clear hb3)
  refine hK.out _ _ ⟨HP3.out.blkAt (.head _) 0, HP3.out.blkAt (.tail _ (.head _)) 0⟩ (fun hHeld => ?_)
  clear hK K hHeld HP2
  refine wpAnyH_ready (rs := [5]) (by kernel_rfl) (by simp) ?_
  refine AllReadyH.cons rfl (fun K hK => ?_) AllReadyH.nil
  go_simp
  refine hK.out _ _ ⟨HP3.out.blkAt (.head _) 0, HP3.out.blkAt (.tail _ (.head _)) 0⟩ (fun hHeld => ?_)
  clear hK K hHeld
  refine wpAnyH_done (by kernel_rfl) ?_ _
  have HP := HP3
  clear HP3 HS0
  go_wp2_with (first | (refine wpList_ldR0 rfl 29 _ rfl HP.out rfl Tryd.underlying29 rfl (by kernel_rfl) ?_) | (refine wpList_ldR1 rfl 29 _ rfl HP.out rfl Tryd.underlying29 rfl (by kernel_rfl) ?_) | (refine wpList_ldR0 rfl 58 _ rfl HP.out rfl Tryd.underlying58 rfl (by kernel_rfl) ?_) | (refine wpList_ldR1 rfl 58 _ rfl HP.out rfl Tryd.underlying58 rfl (by kernel_rfl) ?_) | (go_at_call 38; refine (stateFault_any p _ s _ _ _ _ (HP.out.rep (F := ⟨w, Lt w.heap.size⟩) (by simp) HR.out) (HP.out.rep (F := ⟨w, Lt w.heap.size⟩) (by simp) HF.out) (HP.out.rep (F := ⟨w, Lt w.heap.size⟩) (by simp) HE.out) (HP.out.rep (F := ⟨w, Lt w.heap.size⟩) (by simp) HAN.out)).mono ?_; rintro r6 w6 ⟨rfl, hb6⟩; replace HP := Lib.hid (HP.out.call0 hb6); clear hb6))
  go_ret
  exact ⟨ret_bool (by simp), HP.out.below⟩
end Go.Proofs.YtpgakmopkgbahaaDoor
