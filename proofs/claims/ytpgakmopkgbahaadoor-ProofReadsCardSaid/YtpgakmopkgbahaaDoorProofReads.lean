/- The law ProofReads, walked. -/
import Derived.Test.YtpgakmopkgbahaaDoorReads3
import Derived.Test.YtpgakmopkgbahaaDoorCodeChecks
namespace Go.Proofs.YtpgakmopkgbahaaDoor
open Go.RowKit Plain64
attribute [local irreducible] wpList Code.wp Oper.wp
set_option maxRecDepth 10000 in
set_option maxHeartbeats 1000000 in
theorem proofReads_any (p : Prg) (u : Value) (fn pc : Int) (w : World) (hp : Lay.rep w (Lt w.heap.size) p [u]) (hok : Lay.ok p) (hh : Has w) :
    Calls Tryd.prog 7 #[.agg #[u], .int .i64 fn, .int .i64 pc] w fun e w' => e = .returned (.bool true) ∧ Below w.heap.size w w' := by
  have HR := Lib.hid hp
  have HOK := Lib.hid hok
  have HH := Lib.hid hh
  clear hp hok hh
  have HP := Lib.hid (Hp.start w)
  go_enter Tryd.func7, Tryd.ntmps7
  go_wp2_with (first | (refine wpList_box_hp (o := ⟨some 3, _, _, _, _, _⟩) rfl _ _ rfl HP.out [_] rfl ?_; clear HP; intro g3 w3 HP; replace HP := Lib.hid HP) | (refine wpList_ldR0 rfl 29 _ rfl HP.out rfl Tryd.underlying29 rfl (by kernel_rfl) ?_) | (go_at_call 15; refine (programs_any p _ _ (HP.out.rep (F := ⟨w, Lt w.heap.size⟩) (by simp) HR.out) HOK.out).mono ?_; rintro e w1 ⟨v, rfl, hv, hb1⟩; replace HP := Lib.hid (HP.out.call hb1); have HV := Lib.hid hv; clear hb1 hv) | (go_at_call 24; refine (Reads_any p _ fn pc _ (HP.out.rep (.head _) HV.out) (HH.out.keep HP.out.below rfl)).mono ?_; rintro e w2 ⟨rfl, hb⟩; replace HP := Lib.hid (HP.out.call0 hb); clear hb) | (go_at_call 25; refine (ReadsAndSets_any p _ fn pc _ (HP.out.rep (F := ⟨w, Lt w.heap.size⟩) (by simp) HR.out)).mono ?_; rintro e w3 ⟨rfl, hb⟩; replace HP := Lib.hid (HP.out.call0 hb); clear hb))
  go_ret
  exact ⟨rfl, HP.out.below⟩
end Go.Proofs.YtpgakmopkgbahaaDoor
