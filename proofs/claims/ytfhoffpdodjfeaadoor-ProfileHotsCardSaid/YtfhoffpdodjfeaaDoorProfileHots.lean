/- The law ProfileHots, walked. -/
import Derived.Test.YtfhoffpdodjfeaaDoorMgHotBeginB2
import Derived.Test.YtfhoffpdodjfeaaDoorHotOf
import Derived.Test.YtfhoffpdodjfeaaDoorMgCloneCloneFOwnInts4
import Derived.Test.YtfhoffpdodjfeaaDoorMgFrameOpenIntsHas3
import Derived.Test.YtfhoffpdodjfeaaDoorCodeF
set_option linter.unusedSimpArgs false
set_option linter.unusedVariables false
namespace Go.Proofs.YtfhoffpdodjfeaaDoor
open Go.RowKit Plain64
attribute [local irreducible] wpList Code.wp Oper.wp
set_option maxRecDepth 10000 in
set_option maxHeartbeats 4000000 in
theorem profileHots_any (p : Prg) (v : Value) (xs : List Int) (u1 : Value) (ys : List Int) (u2 : Value) (fuel : Int) (w : World) (hp : Lay.rep w (Lt w.heap.size) p [v]) (hok : Lay.ok p) (hx : Lay.rep w (Lt w.heap.size) xs [u1]) (hxo : Lay.ok xs) (hy : Lay.rep w (Lt w.heap.size) ys [u2]) (hyo : Lay.ok ys) (hh : Has w) :
    Calls Tryd.prog 13 #[.agg #[v], u1, u2, .int .i64 fuel] w fun r w' => r = .returned (.bool true) ∧ Below w.heap.size w w' := by
  have hxb : xs.length ≤ 17592186044000 := by have h : xs.length * 8 ≤ 140737488351232 := hxo.1; omega
  have hyb : ys.length ≤ 17592186044000 := by have h : ys.length * 8 ≤ 140737488351232 := hyo.1; omega
  have HIM := Lib.hid (ok_prg_imm hok)
  have HXI := Lib.hid (ok_ints hxo)
  have HYI := Lib.hid (ok_ints hyo)
  have HR := Lib.hid hp
  have HOK := Lib.hid hok
  have HX := Lib.hid hx
  have HY := Lib.hid hy
  have HH := Lib.hid hh
  clear hp hok hx hy hh hxo hyo
  have HP := Lib.hid (Hp.start w)
  go_enter Tryd.func13, Tryd.ntmps13
  go_upto_region 2 with (first | (refine wpList_box_hp (o := ⟨some 4, _, _, _, _, _⟩) rfl _ _ rfl HP.out [_] rfl ?_; clear HP; intro g4 w4 HP; replace HP := Lib.hid HP) | (refine wpList_ldR0 rfl 24 _ rfl HP.out rfl Tryd.underlying24 rfl (by kernel_rfl) ?_) | (refine wpList_ldR1 rfl 24 _ rfl HP.out rfl Tryd.underlying24 rfl (by kernel_rfl) ?_) | (refine wpList_ldR2 rfl 24 _ rfl HP.out rfl Tryd.underlying24 rfl (by kernel_rfl) ?_) | (go_at_call 15; refine (programs_any p _ _ (HP.out.rep (F := ⟨w, Lt w.heap.size⟩) (by simp) HR.out) HOK.out).mono ?_; rintro e w1 ⟨v1, rfl, hv, hb1⟩; replace HP := Lib.hid (HP.out.call hb1); have HV := Lib.hid hv; clear hb1 hv) | (go_at_call_of 16 u1; refine (ints_any xs _ _ (HP.out.rep (F := ⟨w, Lt w.heap.size⟩) (by simp) HX.out) hxb).mono ?_; rintro e w2 ⟨v2, rfl, hv, hb1⟩; replace HP := Lib.hid (HP.out.call hb1); have HV2 := Lib.hid hv; clear hb1 hv) | (go_at_call_of 16 u2; refine (ints_any ys _ _ (HP.out.rep (F := ⟨w, Lt w.heap.size⟩) (by simp) HY.out) hyb).mono ?_; rintro e w3 ⟨v3, rfl, hv, hb1⟩; replace HP := Lib.hid (HP.out.call hb1); have HV3 := Lib.hid hv; clear hb1 hv) | (go_at_call 42; refine (Hot_any p _ xs ys _ _ fuel _ (HP.out.rep (.tail _ (.tail _ (.head _))) HV.out) (HP.out.rep (.tail _ (.head _)) HV2.out) (HP.out.rep (.head _) HV3.out) HIM.out HXI.out HYI.out (HH.out.keep HP.out.below rfl)).mono ?_; rintro r1 w5 ⟨b1, m1, rfl, hv, hb⟩; replace HP := Lib.hid (HP.out.call hb); have HV4 := Lib.hid hv; clear hb hv))
  go_upto_region 3 with (first | (refine wpList_ldR0 rfl 24 _ rfl HP.out rfl Tryd.underlying24 rfl (by kernel_rfl) ?_) | (refine wpList_ldR1 rfl 24 _ rfl HP.out rfl Tryd.underlying24 rfl (by kernel_rfl) ?_) | (refine wpList_ldR2 rfl 24 _ rfl HP.out rfl Tryd.underlying24 rfl (by kernel_rfl) ?_) | (go_at_call 43; refine (HotOf_any p _ xs ys _ _ fuel _ (HP.out.rep (F := ⟨w, Lt w.heap.size⟩) (by simp) HR.out) (HP.out.rep (F := ⟨w, Lt w.heap.size⟩) (by simp) HX.out) (HP.out.rep (F := ⟨w, Lt w.heap.size⟩) (by simp) HY.out) HIM.out HXI.out HYI.out).mono ?_; rintro r2 w6 ⟨b2, m2, rfl, hv, hb⟩; replace HP := Lib.hid (HP.out.call hb); obtain ⟨rfl, rfl⟩ := HV4.out.unique hv; clear hb hv))
  go_wp2
  (try simp only [Exit.inBlock, Exit.then])
  refine bodyPost_ret (results_tmp (by rfl) _ _ _) (by rfl) ?_
  exact ⟨ret_bool (by simp), HP.out.below⟩
end Go.Proofs.YtfhoffpdodjfeaaDoor
