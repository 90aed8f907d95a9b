/- The row CpuRuns. -/
import Derived.Test.YtfhoffpdodjfeaaDoorCpuRuns
import Derived.Test.YtfhoffpdodjfeaaDoorMgRvTabRvLawRvVecOpenInts4
import Derived.Test.YtfhoffpdodjfeaaDoorMgCpuLawCpuFixOpenCpv3
set_option linter.unusedSimpArgs false
set_option linter.unusedVariables false
namespace Go.Proofs.YtfhoffpdodjfeaaDoor.cpuRuns
open Go.RowKit Go.WideShapes Go.ChangeShapes

theorem laid_met (os : Os) : laidMet Tryd.prog Rows.cpuRunsRow.laid ((rvWorld os).forCall (fun _ _ => 0) ⟨#[], #[.slice none 0 0, .agg (List.replicate 97 (Value.int .i64 0) ++ [Value.bool false]).toArray, .int .i64 0], []⟩).memory :=
  laidMet_of_run' 8 (by kernel_rfl) (by kernel_rfl)
theorem reads (os : Os) {H : Type} (enc : TypeId × Value → H) : ∃ places, DataW.whole enc Tryd.prog ((rvWorld os).forCall (fun _ _ => 0) ⟨#[], #[.slice none 0 0, .agg (List.replicate 97 (Value.int .i64 0) ++ [Value.bool false]).toArray, .int .i64 0], []⟩).memory Tryd.f9.params.toList Rows.cpuRunsSpec.vars false (#[.slice none 0 0, .agg (List.replicate 97 (Value.int .i64 0) ++ [Value.bool false]).toArray, .int .i64 0] : Array Value).toList 8 = some ([.nil, .agg [.agg (List.replicate 32 (.lit (.int .i64 0))), .lit (.int .i64 0), .agg (List.replicate 64 (.lit (.int .i64 0))), .lit (.bool false)], .lit (.int .i64 0)], [], places) :=
  ⟨[], by kernel_rfl⟩
theorem readable (t : TypeId) (ht : t = 25 ∨ t = 44 ∨ t = 3) : Tryd.prog.readableRec t = true ∧ t < Tryd.prog.types.size := by
  rcases ht with rfl | rfl | rfl <;> exact ⟨by kernel_rfl, of_decide_eq_true (by kernel_rfl)⟩
set_option maxRecDepth 100000 in
theorem lifted (os : Os) (started : os.Started) (H : Type) (enc : TypeId × Value → H) (F : Stop.Interp) :
    ReturnsInHanded {} Tryd.checked os 9 .any ((OpenSpec.ofChange Rows.cpuRunsSpec).preRow enc Tryd.prog Tryd.f9 Rows.cpuRunsRow.domain false Rows.cpuRunsRow.laid) (((OpenSpec.ofChange Rows.cpuRunsSpec).at F).post enc Tryd.prog Tryd.f9 false true false false) := by
  obtain ⟨places, hx⟩ := reads os enc
  refine returnsInHanded_of_row (C := Tryd.checked) (s := OpenSpec.ofChange Rows.cpuRunsSpec) own started (by kernel_rfl) Tryd.func9
    (witness_row_at (enc := enc) (C := Tryd.checked) false (rvWorld os) #[.slice none 0 0, .agg (List.replicate 97 (Value.int .i64 0) ++ [Value.bool false]).toArray, .int .i64 0] rfl (by kernel_rfl) (by kernel_rfl) (by kernel_rfl)
      (OpenSpec.preRow_of_cond 8 hx (by kernel_rfl) (fun k hk => by cases hk) (by kernel_rfl) (laid_met os))) ?_
  intro W base args ds gs before hval hW hA1 hA2 hA3 hL hA4 hA5
  have hW' := hW
  obtain ⟨q1, q2, hA0, hV, rfl, hfz, hnd⟩ := hW
  have hA : DataW.TrodAll enc Tryd.prog W 0 (fun _ => true) true Tryd.f9.params.toList args.toList ds q1 := hA0
  have hwt : (DataW.weightsEach Tryd.prog (Tryd.f9.params.toList ++ _) (ds ++ gs)).all (fun x => decide (x ≤ reachBytes)) = true := hA3
  rw [Tryd.params9] at hA hval hwt
  obtain ⟨v0, vs0, d0, ds0, p0, q0, hargs, rfl, rfl, h0, r0⟩ := trodAll_cons hA
  obtain ⟨v1, vs1, d1, ds1, p1, q1, rfl, rfl, rfl, h1, r1⟩ := trodAll_cons r0
  obtain ⟨v2, vs2, d2, ds2, p2, q2, rfl, rfl, rfl, h2, r2⟩ := trodAll_cons r1
  obtain ⟨rfl, rfl, rfl⟩ := trodAll_nil r2
  obtain rfl : args = #[v0, v1, v2] := by cases args; simp_all
  obtain ⟨rfl, rfl⟩ := trodVars_none hV
  obtain ⟨x0, hrep0, hok0⟩ := open_slice0 Tryd.underlying25 opensInts (hval 0 25 v0 rfl rfl) h0 (weights_of hwt (j := 0) rfl rfl)
  obtain ⟨x1, rfl, hok1⟩ := open_cpv0 Tryd.underlying44 opensCpv (hval 1 44 v1 rfl rfl) h1 (weights_of hwt (j := 1) rfl rfl)
  obtain ⟨a2, rfl, rfl, rfl, hi2⟩ := open_int Tryd.underlying3 (hval 2 3 v2 rfl rfl) h2
  have hh : RvTabs W := rvVecs hL
  refine (cpuRuns_any x0 _ x1 a2 W hrep0 hok0 hok1 hh).mono fun e W' ⟨he, hb⟩ => ?_
  subst he
  exact ⟨_, rfl, law_post (tb := 4) laidOut hW' hb rfl rfl rfl Tryd.underlying4 (by rw [Tryd.params9]; intro t ht; exact readable t (by simpa using ht))⟩
theorem said : Rows.CpuRunsSaid :=
  OpenClaim.holds_of_cond 9 Tryd.f9 rfl rfl rfl rfl rfl rfl rfl ⟨rfl, rfl, rfl, rfl, rfl⟩ rfl rfl rfl rfl rfl (by kernel_rfl) Tryd.func9 (by kernel_rfl)
    (of_decide_eq_true (by kernel_rfl)) (by unfold Func.isWrapper; first | (rw [if_pos (by decide +kernel)]; kernel_rfl) | (rw [if_neg (by decide +kernel)]; exact ⟨rfl, rfl⟩))
    (fun os started H enc _ F => by rw [OpenClaim.pre_eq_preRow]; exact lifted os started H enc F)
theorem plain (f : FuncId) (fn : Func) (hf : Tryd.pinned.checked.prog.funcNamed "tierline/tierlinelaw.CpuRuns" = some f) (hfn : Tryd.pinned.checked.prog.funcs[f]? = some fn) :
    false = Tryd.pinned.checked.prog.looks [] ∧ ∀ (j : Nat) t, fn.params[j]? = some t → Tryd.pinned.checked.prog.wantsStandIn t = false := by
  obtain rfl : f = 9 := Option.some.inj ((show Tryd.prog.funcNamed "tierline/tierlinelaw.CpuRuns" = some 9 by kernel_rfl).symm.trans hf) |>.symm
  obtain rfl : fn = Tryd.f9 := (Option.some.inj (Tryd.func9.symm.trans hfn)).symm
  refine ⟨by kernel_rfl, fun j t ht => ?_⟩
  rw [Tryd.params9] at ht
  have hm : t = 25 ∨ t = 44 ∨ t = 3 := by simpa using Array.mem_of_getElem? ht
  rcases hm with rfl | rfl | rfl <;> (show Tryd.prog.wantsStandIn _ = false; kernel_rfl)
theorem proved : Rows.CpuRunsCardSaid :=
  Claim7.holds_tied_plain_at .later [] _ _ _ _ said (fun _ h => by cases h) (by kernel_rfl) (fun _ h => by cases h) cpuRuns_row_tie rfl ⟨rfl, rfl⟩ (by kernel_rfl) rfl plain (by kernel_rfl)
end Go.Proofs.YtfhoffpdodjfeaaDoor.cpuRuns
