/- The law TrimCalleds, walked. -/
import Derived.Test.YtfhoffpdodjfeaaDoorCallA
import Derived.Test.YtfhoffpdodjfeaaDoorCallB
import Derived.Test.YtfhoffpdodjfeaaDoorSameTruths
import Derived.Test.YtfhoffpdodjfeaaDoorCodeF
set_option linter.unusedSimpArgs false
set_option linter.unusedVariables false
namespace Go.Proofs.YtfhoffpdodjfeaaDoor
open Go.RowKit Plain64
attribute [local irreducible] wpList Code.wp Oper.wp
/-- P5.2, at every argument. -/
noncomputable def calledAns (p : Prg) : List Bool × Int := if proven p ≠ 0 then ([], proven p) else (calledL p, 0)
theorem calledAns_bad {p : Prg} (h : proven p ≠ 0) : calledAns p = ([], proven p) := by unfold calledAns; rw [if_pos h]
theorem calledAns_ok {p : Prg} (h : proven p = 0) : calledAns p = (calledL p, 0) := by unfold calledAns; rw [if_neg (by simpa using h)]
theorem rep_bools_nil {w : World} {S : Nat → Prop} : Lay.rep w S ([] : List Bool) [.slice none 0 0] :=
  ⟨none, 0, rfl, Nat.le_refl _, by unfold maxLen; omega, fun k x h => by simp at h⟩
set_option maxRecDepth 10000 in
set_option maxHeartbeats 1000000 in
theorem Called_any (p : Prg) (u : Value) (w : World) (hp : Lay.rep w (Lt w.heap.size) p [u]) (hh : Has w) :
    Calls Tryd.prog 25 #[.agg #[u]] w fun e w' => ∃ v, e = .returned (.tuple #[v, .int .i64 (calledAns p).2]) ∧ Lay.rep w' (Fresh w w') (calledAns p).1 [v] ∧ Below w.heap.size w w' := by
  have HR := Lib.hid hp
  have HH := Lib.hid hh
  clear hp hh
  have HP := Lib.hid (Hp.start w)
  by_cases hz : proven p = 0
  · have HZ := Lib.hid hz
    have HZ1 := Lib.hid (proven_prg' hz)
    have HANS := Lib.hid (calledAns_ok hz)
    clear hz
    go_enter Tryd.func25, Tryd.ntmps25
    go_wp2_with (first | (refine wpList_box_hp (o := ⟨some 1, _, _, _, _, _⟩) rfl _ _ rfl HP.out [_] rfl ?_; clear HP; intro g1 w1 HP; replace HP := Lib.hid HP) | (refine wpList_ldR0 rfl 24 _ rfl HP.out rfl Tryd.underlying24 rfl (by kernel_rfl) ?_) | (go_at_call 44; refine (proofCheck_any p _ _ (HP.out.rep (F := ⟨w, Lt w.heap.size⟩) (by simp) HR.out) (HH.out.keep HP.out.below rfl)).mono ?_; rintro e w4 ⟨rfl, hb⟩; replace HP := Lib.hid (HP.out.call0 hb); clear hb; rw [HZ.out]) | (go_at_call 55; refine (calls_any p _ _ (HP.out.rep (F := ⟨w, Lt w.heap.size⟩) (by simp) HR.out) HZ1.out (HH.out.keep HP.out.below rfl)).mono ?_; rintro e w5 ⟨v5, rfl, hv5, hb5⟩; have HB5 := Lib.hid hb5; have HV5 := Lib.hid hv5; clear hb5 hv5))
    go_ret2
    refine ⟨_, by rw [HANS.out]; rfl, ?_, (HP.out.call0 HB5.out).below⟩
    rw [HANS.out]
    exact Lay.more (fun b hb => ⟨Nat.le_trans HP.out.size hb.1, hb.2⟩) HV5.out
  · have HANS := Lib.hid (calledAns_bad hz)
    obtain ⟨e0, he0⟩ : ∃ e0, proven p = e0 := ⟨_, rfl⟩
    rw [he0] at hz HANS
    have HE0 := Lib.hid he0
    have hzb : (e0 != 0) = true := by simpa using hz
    clear he0 hz
    go_enter Tryd.func25, Tryd.ntmps25
    go_wp2_with (first | (refine wpList_box_hp (o := ⟨some 1, _, _, _, _, _⟩) rfl _ _ rfl HP.out [_] rfl ?_; clear HP; intro g1 w1 HP; replace HP := Lib.hid HP) | (refine wpList_ldR0 rfl 24 _ rfl HP.out rfl Tryd.underlying24 rfl (by kernel_rfl) ?_) | (go_at_call 44; refine (proofCheck_any p _ _ (HP.out.rep (F := ⟨w, Lt w.heap.size⟩) (by simp) HR.out) (HH.out.keep HP.out.below rfl)).mono ?_; rintro e w4 ⟨rfl, hb⟩; replace HP := Lib.hid (HP.out.call0 hb); clear hb; rw [HE0.out]))
    go_ret2
    exact ⟨_, by rw [HANS.out]; rfl, by rw [HANS.out]; exact rep_bools_nil, HP.out.below⟩
set_option maxRecDepth 10000 in
set_option maxHeartbeats 1000000 in
theorem CalledOf2_any (p : Prg) (u : Value) (w : World) (hp : Lay.rep w (Lt w.heap.size) p [u]) :
    Calls Tryd.prog 26 #[.agg #[u]] w fun e w' => ∃ v, e = .returned (.tuple #[v, .int .i64 (calledAns p).2]) ∧ Lay.rep w' (Fresh w w') (calledAns p).1 [v] ∧ Below w.heap.size w w' := by
  by_cases hz : proven p = 0
  · rw [calledAns_ok hz]
    exact CalledOf_any p u w hp hz
  · have HR := Lib.hid hp
    have HANS := Lib.hid (calledAns_bad hz)
    obtain ⟨e0, he0⟩ : ∃ e0, proven p = e0 := ⟨_, rfl⟩
    rw [he0] at hz HANS
    have HE0 := Lib.hid he0
    have hzb : (e0 != 0) = true := by simpa using hz
    clear he0 hz hp
    have HP := Lib.hid (Hp.start w)
    go_enter Tryd.func26, Tryd.ntmps26
    go_wp2_with (first | (refine wpList_box_hp (o := ⟨some 1, _, _, _, _, _⟩) rfl _ _ rfl HP.out [_] rfl ?_; clear HP; intro g1 w1 HP; replace HP := Lib.hid HP) | (refine wpList_ldR0 rfl 24 _ rfl HP.out rfl Tryd.underlying24 rfl (by kernel_rfl) ?_) | (go_at_call 46; refine (Proven_any p _ _ (HP.out.rep (F := ⟨w, Lt w.heap.size⟩) (by simp) HR.out)).mono ?_; rintro e w4 ⟨rfl, hb⟩; replace HP := Lib.hid (HP.out.call0 hb); clear hb; rw [HE0.out]))
    go_ret2
    exact ⟨_, by rw [HANS.out]; rfl, by rw [HANS.out]; exact rep_bools_nil, HP.out.below⟩
set_option maxRecDepth 10000 in
set_option maxHeartbeats 1000000 in
theorem trimCalleds_any (p : Prg) (u : Value) (w : World) (hp : Lay.rep w (Lt w.heap.size) p [u]) (hok : Lay.ok p) (hh : Has w) :
    Calls Tryd.prog 6 #[.agg #[u]] w fun e w' => e = .returned (.bool true) ∧ Below w.heap.size w w' := by
  have HR := Lib.hid hp
  have HOK := Lib.hid hok
  have HH := Lib.hid hh
  clear hp hok hh
  have HP := Lib.hid (Hp.start w)
  go_enter Tryd.func6, Tryd.ntmps6
  go_wp2_with (first | (refine wpList_box_hp (o := ⟨some 1, _, _, _, _, _⟩) rfl _ _ rfl HP.out [_] rfl ?_; clear HP; intro g1 w1 HP; replace HP := Lib.hid HP) | (refine wpList_ldR0 rfl 24 _ rfl HP.out rfl Tryd.underlying24 rfl (by kernel_rfl) ?_) | (go_at_call 15; refine (programs_any p _ _ (HP.out.rep (F := ⟨w, Lt w.heap.size⟩) (by simp) HR.out) HOK.out).mono ?_; rintro e w1 ⟨v, rfl, hv, hb1⟩; replace HP := Lib.hid (HP.out.call hb1); have HV := Lib.hid hv; clear hb1 hv) | (go_at_call 25; refine (Called_any p _ _ (HP.out.rep (.head _) HV.out) (HH.out.keep HP.out.below rfl)).mono ?_; rintro e w2 ⟨v2, rfl, hv2, hb⟩; replace HP := Lib.hid (HP.out.call hb); have HV2 := Lib.hid hv2; clear hb hv2) | (go_at_call 26; refine (CalledOf2_any p _ _ (HP.out.rep (F := ⟨w, Lt w.heap.size⟩) (by simp) HR.out)).mono ?_; rintro e w3 ⟨v3, rfl, hv3, hb⟩; replace HP := Lib.hid (HP.out.call hb); have HV3 := Lib.hid hv3; clear hb hv3) | (go_at_call 27; refine (sameTruths_any (calledAns p).1 (calledAns p).1 _ _ _ (HP.out.rep (.tail _ (.head _)) HV2.out) (HP.out.rep (.head _) HV3.out)).mono ?_; rintro e w4 ⟨rfl, hb⟩; replace HP := Lib.hid (HP.out.call0 hb); clear hb))
  go_ret
  exact ⟨ret_bool (by simp), HP.out.below⟩
end Go.Proofs.YtfhoffpdodjfeaaDoor
