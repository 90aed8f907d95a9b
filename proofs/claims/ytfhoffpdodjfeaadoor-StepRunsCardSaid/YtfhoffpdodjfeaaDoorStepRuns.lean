/- The law StepRuns, walked. -/
import Derived.Test.YtfhoffpdodjfeaaDoorRun
import Derived.Test.YtfhoffpdodjfeaaDoorRunOf
import Derived.Test.YtfhoffpdodjfeaaDoorSameSta
import Derived.Test.YtfhoffpdodjfeaaDoorMgCloneCloneFOwnInts4
import Derived.Test.YtfhoffpdodjfeaaDoorCodeF
set_option linter.unusedSimpArgs false
set_option linter.unusedVariables false
namespace Go.Proofs.YtfhoffpdodjfeaaDoor
open Go.RowKit Plain64
attribute [local irreducible] wpList Code.wp Oper.wp
set_option maxRecDepth 10000 in
set_option maxHeartbeats 4000000 in
theorem stepRuns_any (p : Prg) (v : Value) (xs : List Int) (u1 : Value) (ys : List Int) (u2 : Value) (fuel : Int) (w : World) (hp : Lay.rep w (Lt w.heap.size) p [v]) (hok : Lay.ok p) (hx : Lay.rep w (Lt w.heap.size) xs [u1]) (hxo : Lay.ok xs) (hy : Lay.rep w (Lt w.heap.size) ys [u2]) (hyo : Lay.ok ys) (hh : Has w) :
    Calls Tryd.prog 11 #[.agg #[v], u1, u2, .int .i64 fuel] w fun r w' => r = .returned (.bool true) ∧ Below w.heap.size w w' := by
  have hxb : xs.length ≤ 17592186044000 := by have h : xs.length * 8 ≤ 140737488351232 := hxo.1; omega
  have hyb : ys.length ≤ 17592186044000 := by have h : ys.length * 8 ≤ 140737488351232 := hyo.1; omega
  have HIM := Lib.hid (ok_prg_imm hok)
  have HXI := Lib.hid (ok_ints hxo)
  have HYI := Lib.hid (ok_ints hyo)
  have HR := Lib.hid hp
  have HOK := Lib.hid hok
  have HX := Lib.hid hx
  have HY := Lib.hid hy
  have HH := Lib.hid hh
  clear hp hok hx hy hh hxo hyo
  have HP := Lib.hid (Hp.start w)
  go_enter Tryd.func11, Tryd.ntmps11
  go_upto_region 2 with (first | (refine wpList_box_hp (o := ⟨some 4, _, _, _, _, _⟩) rfl _ _ rfl HP.out [_] rfl ?_; clear HP; intro g4 w4 HP; replace HP := Lib.hid HP) | (refine wpList_ldR0 rfl 24 _ rfl HP.out rfl Tryd.underlying24 rfl (by kernel_rfl) ?_) | (refine wpList_ldR1 rfl 24 _ rfl HP.out rfl Tryd.underlying24 rfl (by kernel_rfl) ?_) | (refine wpList_ldR2 rfl 24 _ rfl HP.out rfl Tryd.underlying24 rfl (by kernel_rfl) ?_) | (go_at_call 15; refine (programs_any p _ _ (HP.out.rep (F := ⟨w, Lt w.heap.size⟩) (by simp) HR.out) HOK.out).mono ?_; rintro e w1 ⟨v1, rfl, hv, hb1⟩; replace HP := Lib.hid (HP.out.call hb1); have HV := Lib.hid hv; clear hb1 hv) | (go_at_call_of 16 u1; refine (ints_any xs _ _ (HP.out.rep (F := ⟨w, Lt w.heap.size⟩) (by simp) HX.out) hxb).mono ?_; rintro e w2 ⟨v2, rfl, hv, hb1⟩; replace HP := Lib.hid (HP.out.call hb1); have HV2 := Lib.hid hv; clear hb1 hv) | (go_at_call_of 16 u2; refine (ints_any ys _ _ (HP.out.rep (F := ⟨w, Lt w.heap.size⟩) (by simp) HY.out) hyb).mono ?_; rintro e w3 ⟨v3, rfl, hv, hb1⟩; replace HP := Lib.hid (HP.out.call hb1); have HV3 := Lib.hid hv; clear hb1 hv) | (go_at_call 37; refine (Run_any p _ xs ys _ _ fuel _ (HP.out.rep (.tail _ (.tail _ (.head _))) HV.out) (HP.out.rep (.tail _ (.head _)) HV2.out) (HP.out.rep (.head _) HV3.out) HIM.out HXI.out HYI.out (HH.out.keep HP.out.below rfl)).mono ?_; rintro r1 w5 ⟨ua, ea, aa, rfl, hf, he, ha, hb⟩; replace HP := Lib.hid (HP.out.call hb); have HF1 := Lib.hid hf; have HE1 := Lib.hid he; have HA1 := Lib.hid ha; obtain ⟨Af1, cf1, rfl, -, -, -⟩ := rep_frames_at hf; obtain ⟨Ae1, ce1, rfl, -, -, -⟩ := rep_ints_at he; obtain ⟨Aa1, ca1, rfl, -, -, -⟩ := rep_ints_at ha; clear hb hf he ha) | (refine wpList_alloc_hp (o := ⟨some 9, _, _, _, _, _⟩) rfl _ rfl HP.out (.agg #[.int .i64 0, .int .i64 0, .slice none 0 0, .int .i64 0, .int .i64 0, .int .i64 0, .int .i64 0, .int .i64 0, .int .i64 0, .int .i64 0, .int .i64 0, .int .i64 0, .int .i64 0, .int .i64 0, .int .i64 0, .int .i64 0, .int .i64 0, .int .i64 0, .int .i64 0, .int .i64 0, .slice none 0 0, .slice none 0 0]) (by kernel_rfl) [_, _, _, _, _, _, _, _, _, _, _, _, _, _, _, _, _, _, _, _, _, _] rfl ?_; clear HP; intro g9 w9 HP; replace HP := Lib.hid HP) | (refine wpList_stR0 rfl 29 _ _ rfl HP.out rfl (cs' := staCells (runAns p xs ys fuel).1 (.slice Af1 (runAns p xs ys fuel).1.frames.length cf1) (.slice Ae1 (runAns p xs ys fuel).1.events.length ce1) (.slice Aa1 (runAns p xs ys fuel).1.answers.length ca1)) rfl rfl (by simp [staCells, Value.oneCell']) (by kernel_rfl) ?_; clear HP; intro wst HP; replace HP := Lib.hid HP))
  go_upto_region 3 with (first | (refine wpList_ldR0 rfl 24 _ rfl HP.out rfl Tryd.underlying24 rfl (by kernel_rfl) ?_) | (refine wpList_ldR1 rfl 24 _ rfl HP.out rfl Tryd.underlying24 rfl (by kernel_rfl) ?_) | (refine wpList_ldR2 rfl 24 _ rfl HP.out rfl Tryd.underlying24 rfl (by kernel_rfl) ?_) | (go_at_call 38; refine (RunOf_any p _ xs ys _ _ fuel _ (HP.out.rep (F := ⟨w, Lt w.heap.size⟩) (by simp) HR.out) (HP.out.rep (F := ⟨w, Lt w.heap.size⟩) (by simp) HX.out) (HP.out.rep (F := ⟨w, Lt w.heap.size⟩) (by simp) HY.out) HIM.out HXI.out HYI.out).mono ?_; rintro r2 w6 ⟨ua, ea, aa, rfl, hf, he, ha, hb⟩; replace HP := Lib.hid (HP.out.call hb); have HF2 := Lib.hid hf; have HE2 := Lib.hid he; have HA2 := Lib.hid ha; obtain ⟨Af2, cf2, rfl, -, -, -⟩ := rep_frames_at hf; obtain ⟨Ae2, ce2, rfl, -, -, -⟩ := rep_ints_at he; obtain ⟨Aa2, ca2, rfl, -, -, -⟩ := rep_ints_at ha; clear hb hf he ha) | (refine wpList_alloc_hp (o := ⟨some 11, _, _, _, _, _⟩) rfl _ rfl HP.out (.agg #[.int .i64 0, .int .i64 0, .slice none 0 0, .int .i64 0, .int .i64 0, .int .i64 0, .int .i64 0, .int .i64 0, .int .i64 0, .int .i64 0, .int .i64 0, .int .i64 0, .int .i64 0, .int .i64 0, .int .i64 0, .int .i64 0, .int .i64 0, .int .i64 0, .int .i64 0, .int .i64 0, .slice none 0 0, .slice none 0 0]) (by kernel_rfl) [_, _, _, _, _, _, _, _, _, _, _, _, _, _, _, _, _, _, _, _, _, _] rfl ?_; clear HP; intro g11 w11 HP; replace HP := Lib.hid HP) | (refine wpList_stR0 rfl 29 _ _ rfl HP.out rfl (cs' := staCells (runAns p xs ys fuel).1 (.slice Af2 (runAns p xs ys fuel).1.frames.length cf2) (.slice Ae2 (runAns p xs ys fuel).1.events.length ce2) (.slice Aa2 (runAns p xs ys fuel).1.answers.length ca2)) rfl rfl (by simp [staCells, Value.oneCell']) (by kernel_rfl) ?_; clear HP; intro wst2 HP; replace HP := Lib.hid HP))
  (try simp only [Act.put, List.setIfInBounds_toArray, List.set_cons_zero, List.set_cons_succ])
  have HM1 := Lib.hid (HP.out.blkAt (.tail _ (.head _)) 0)
  have HM2 := Lib.hid (HP.out.blkAt (.head _) 0)
  rw [List.drop_zero] at HM1 HM2
  go_wp2_with (first | (refine wpList_load_w rfl 29 _ rfl _ rfl _ _ HM1.out Tryd.underlying29 rfl (by kernel_rfl) ?_) | (refine wpList_load_w rfl 29 _ rfl _ rfl _ _ HM2.out Tryd.underlying29 rfl (by kernel_rfl) ?_) | (go_at_call 18; refine (sameState_any (runAns p xs ys fuel).1 _ _ _ _ _ _ _ (HP.out.rep (.tail _ (.head _)) HF1.out) (HP.out.rep (.tail _ (.head _)) HE1.out) (HP.out.rep (.tail _ (.head _)) HA1.out) (HP.out.rep (.head _) HF2.out) (HP.out.rep (.head _) HE2.out) (HP.out.rep (.head _) HA2.out)).mono ?_; rintro r7 w7 ⟨rfl, hb⟩; replace HP := Lib.hid (HP.out.call0 hb); clear hb))
  go_ret
  exact ⟨ret_bool (by simp), HP.out.below⟩
end Go.Proofs.YtfhoffpdodjfeaaDoor
