/- P11.2: rv.Encode answers as the document says. -/
import Derived.Test.YtpgakmopkgbahaaDoorRvEnc
import Derived.Test.YtpgakmopkgbahaaDoorWordOf
set_option linter.unusedSimpArgs false
set_option linter.unusedVariables false
namespace Go.Proofs.YtpgakmopkgbahaaDoor
open Go.RowKit
attribute [local irreducible] wpList Code.wp Oper.wp
set_option maxRecDepth 10000 in
set_option maxHeartbeats 1000000 in
theorem rvEncodes_any (x : Rvi) (w : World) (hok : Lay.ok x) (ht : RvTabs w) :
    Calls Tryd.prog 5 #[.agg #[.int .i64 x.op, .int .i64 x.rd, .int .i64 x.rs1, .int .i64 x.rs2, .int .i64 x.imm]] w fun e w' => e = .returned (.bool true) ∧ Below w.heap.size w w' := by
  have HT := Lib.hid ht
  clear ht hok
  have HP := Lib.hid (Hp.start w)
  go_enter Tryd.func5, Tryd.ntmps5
  go_wp2_with (first | (refine wpList_box_hp (o := ⟨some 1, _, _, _, _, _⟩) rfl _ _ rfl HP.out [_, _, _, _, _] rfl ?_; clear HP; intro g1 w1 HP; replace HP := Lib.hid HP) | (refine wpList_box_hp (o := ⟨some 2, _, _, _, _, _⟩) rfl _ _ rfl HP.out [_, _, _, _, _] rfl ?_; clear HP; intro g2 w2 HP; replace HP := Lib.hid HP) | (refine wpList_box_hp (o := ⟨some 3, _, _, _, _, _⟩) rfl _ _ rfl HP.out [_, _, _, _, _] rfl ?_; clear HP; intro g3 w3 HP; replace HP := Lib.hid HP) | (refine wpList_ldR0 rfl 23 _ rfl HP.out rfl Tryd.underlying23 rfl (by kernel_rfl) ?_) | (go_at_call 19; refine (rvEncode_any x _ (HT.out.keep HP.out.below rfl)).mono ?_; rintro e w2 ⟨rfl, hb⟩; replace HP := Lib.hid (HP.out.call0 hb); clear hb) | (go_at_call 20; refine (WordOf_any x _).mono ?_; rintro e w3 ⟨rfl, hb⟩; replace HP := Lib.hid (HP.out.call0 hb); clear hb))
  go_ret
  exact ⟨ret_bool (by simp), HP.out.below⟩
end Go.Proofs.YtpgakmopkgbahaaDoor
