/- The law FlowLoops, walked. -/
import Derived.Test.YtnabeibnaoahmaaDoorLoopsOf
import Derived.Test.YtnabeibnaoahmaaDoorLoops
import Derived.Test.YtnabeibnaoahmaaDoorMgSameIntsSameLists2
import Derived.Test.YtnabeibnaoahmaaDoorCodeF
set_option linter.unusedSimpArgs false
set_option linter.unusedVariables false
namespace Go.Proofs.YtnabeibnaoahmaaDoor
open Go.RowKit Plain64
attribute [local irreducible] wpList Code.wp Oper.wp
set_option maxRecDepth 10000 in
set_option maxHeartbeats 1000000 in
theorem flowLoops_any (p : Prg) (u : Value) (fn : Int) (w : World) (hp : Lay.rep w (Lt w.heap.size) p [u]) (hok : Lay.ok p) (hh : Has w) :
    Calls Tryd.prog 7 #[.agg #[u], .int .i64 fn] w fun e w' => e = .returned (.bool true) ∧ Below w.heap.size w w' := by
  have HR := Lib.hid hp
  have HOK := Lib.hid hok
  have HH := Lib.hid hh
  clear hp hok hh
  have HP := Lib.hid (Hp.start w)
  go_enter Tryd.func7, Tryd.ntmps7
  go_wp2_with (first | (refine wpList_box_hp (o := ⟨some 2, _, _, _, _, _⟩) rfl _ _ rfl HP.out [_] rfl ?_; clear HP; intro g2 w2 HP; replace HP := Lib.hid HP) | (refine wpList_ldR0 rfl 24 _ rfl HP.out rfl Tryd.underlying24 rfl (by kernel_rfl) ?_) | (go_at_call 9; refine (programs_any p _ _ (HP.out.rep (F := ⟨w, Lt w.heap.size⟩) (by simp) HR.out) HOK.out).mono ?_; rintro e w1 ⟨v, rfl, hv, hb1⟩; replace HP := Lib.hid (HP.out.call hb1); have HV := Lib.hid hv; clear hb1 hv) | (go_at_call 22; refine (Loops_any p _ fn _ (HP.out.rep (.head _) HV.out) (HH.out.keep HP.out.below rfl)).mono ?_; rintro e w2 ⟨v2, rfl, hv2, hb⟩; replace HP := Lib.hid (HP.out.call hb); have HV2 := Lib.hid hv2; clear hb hv2) | (go_at_call 23; refine (LoopsOf_any p _ fn _ (HP.out.rep (F := ⟨w, Lt w.heap.size⟩) (by simp) HR.out)).mono ?_; rintro e w3 ⟨v3, rfl, hv3, hb⟩; replace HP := Lib.hid (HP.out.call hb); have HV3 := Lib.hid hv3; clear hb hv3) | (go_at_call 24; refine (sameLists_any (loopsAns p fn).1 _ _ _ (HP.out.rep (.tail _ (.head _)) HV2.out) (HP.out.rep (.head _) HV3.out)).mono ?_; rintro e w4 ⟨rfl, hb⟩; replace HP := Lib.hid (HP.out.call0 hb); clear hb))
  (try simp only [Exit.inBlock, Exit.then])
  refine bodyPost_ret (results_tmp (by rfl) _ _ _) (by rfl) ?_
  exact ⟨ret_bool (by simp), HP.out.below⟩
end Go.Proofs.YtnabeibnaoahmaaDoor
