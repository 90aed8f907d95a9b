/- The law RvChecks, walked. -/
import Derived.Test.YtpgakmopkgbahaaDoorRvB
import Derived.Test.YtpgakmopkgbahaaDoorRvFault
set_option linter.unusedSimpArgs false
set_option linter.unusedVariables false
namespace Go.Proofs.YtpgakmopkgbahaaDoor
open Go.RowKit
attribute [local irreducible] wpList Code.wp Oper.wp
set_option maxRecDepth 10000 in
set_option maxHeartbeats 1000000 in
theorem rvChecks_any (x : Rvi) (w : World) (_hok : Lay.ok x) (ht : RvTabs w) :
    Calls Tryd.prog 3 #[.agg #[.int .i64 x.op, .int .i64 x.rd, .int .i64 x.rs1, .int .i64 x.rs2, .int .i64 x.imm]] w fun e w' => e = .returned (.bool true) ∧ Below w.heap.size w w' := by
  have HT := Lib.hid ht
  clear ht
  have HP := Lib.hid (Hp.start w)
  go_enter Tryd.func3, Tryd.ntmps3
  go_wp2_with (first | (refine wpList_box_hp (o := ⟨some 1, _, _, _, _, _⟩) rfl _ _ rfl HP.out [_, _, _, _, _] rfl ?_; clear HP; intro g1 w1 HP; replace HP := Lib.hid HP) | (refine wpList_ldR0 rfl 23 _ rfl HP.out rfl Tryd.underlying23 rfl (by kernel_rfl) ?_) | (go_at_call 13; refine (rvCheck_any x _ (HT.out.keep HP.out.below rfl)).mono ?_; rintro e w2 ⟨rfl, hb⟩; replace HP := Lib.hid (HP.out.call0 hb); clear hb) | (go_at_call 14; refine (RvFault_any x _).mono ?_; rintro e w3 ⟨rfl, hb⟩; replace HP := Lib.hid (HP.out.call0 hb); clear hb))
  go_ret
  exact ⟨ret_bool (by simp), HP.out.below⟩
end Go.Proofs.YtpgakmopkgbahaaDoor
