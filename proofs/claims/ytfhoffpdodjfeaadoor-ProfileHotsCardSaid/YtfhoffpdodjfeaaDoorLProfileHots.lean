/- The row ProfileHots. -/
import Derived.Test.YtfhoffpdodjfeaaDoorProfileHots
import Derived.Test.YtfhoffpdodjfeaaDoorMgFrameOpenIntsHas3
set_option linter.unusedSimpArgs false
set_option linter.unusedVariables false
namespace Go.Proofs.YtfhoffpdodjfeaaDoor.profileHots
open Go.RowKit Go.WideShapes Go.ChangeShapes

theorem laid_met (os : Os) : laidMet Tryd.prog Rows.profileHotsRow.laid ((hasWorld os).forCall (fun _ _ => 0) ⟨#[], #[.agg #[.slice none 0 0], .slice none 0 0, .slice none 0 0, .int .i64 0], []⟩).memory :=
  laidMet_of_run' 8 (by kernel_rfl) (by kernel_rfl)
theorem reads (os : Os) {H : Type} (enc : TypeId × Value → H) : ∃ places, DataW.whole enc Tryd.prog ((hasWorld os).forCall (fun _ _ => 0) ⟨#[], #[.agg #[.slice none 0 0], .slice none 0 0, .slice none 0 0, .int .i64 0], []⟩).memory Tryd.f13.params.toList Rows.profileHotsSpec.vars false (#[.agg #[.slice none 0 0], .slice none 0 0, .slice none 0 0, .int .i64 0] : Array Value).toList 8 = some ([.agg [.nil], .nil, .nil, .lit (.int .i64 0)], [], places) :=
  ⟨[], by kernel_rfl⟩
theorem readable (t : TypeId) (ht : t = 24 ∨ t = 25 ∨ t = 3) : Tryd.prog.readableRec t = true ∧ t < Tryd.prog.types.size := by
  rcases ht with rfl | rfl | rfl <;> exact ⟨by kernel_rfl, of_decide_eq_true (by kernel_rfl)⟩
set_option maxRecDepth 100000 in
theorem lifted (os : Os) (started : os.Started) (H : Type) (enc : TypeId × Value → H) (F : Stop.Interp) :
    ReturnsInHanded {} Tryd.checked os 13 .any ((OpenSpec.ofChange Rows.profileHotsSpec).preRow enc Tryd.prog Tryd.f13 Rows.profileHotsRow.domain false Rows.profileHotsRow.laid) (((OpenSpec.ofChange Rows.profileHotsSpec).at F).post enc Tryd.prog Tryd.f13 false true false false) := by
  obtain ⟨places, hx⟩ := reads os enc
  refine returnsInHanded_of_row (C := Tryd.checked) (s := OpenSpec.ofChange Rows.profileHotsSpec) own started (by kernel_rfl) Tryd.func13
    (witness_row_at (enc := enc) (C := Tryd.checked) false (hasWorld os) #[.agg #[.slice none 0 0], .slice none 0 0, .slice none 0 0, .int .i64 0] rfl (by kernel_rfl) (by kernel_rfl) (by kernel_rfl)
      (OpenSpec.preRow_of_cond 8 hx (by kernel_rfl) (fun k hk => by cases hk) (by kernel_rfl) (laid_met os))) ?_
  intro W base args ds gs before hval hW hA1 hA2 hA3 hL hA4 hA5
  have hW' := hW
  obtain ⟨q1, q2, hA0, hV, rfl, hfz, hnd⟩ := hW
  have hA : DataW.TrodAll enc Tryd.prog W 0 (fun _ => true) true Tryd.f13.params.toList args.toList ds q1 := hA0
  have hwt : (DataW.weightsEach Tryd.prog (Tryd.f13.params.toList ++ _) (ds ++ gs)).all (fun x => decide (x ≤ reachBytes)) = true := hA3
  rw [Tryd.params13] at hA hval hwt
  obtain ⟨v0, vs0, d0, ds0, p0, q0, hargs, rfl, rfl, h0, r0⟩ := trodAll_cons hA
  obtain ⟨v1, vs1, d1, ds1, p1, q1, rfl, rfl, rfl, h1, r1⟩ := trodAll_cons r0
  obtain ⟨v2, vs2, d2, ds2, p2, q2, rfl, rfl, rfl, h2, r2⟩ := trodAll_cons r1
  obtain ⟨v3, vs3, d3, ds3, p3, q3, rfl, rfl, rfl, h3, r3⟩ := trodAll_cons r2
  obtain ⟨rfl, rfl, rfl⟩ := trodAll_nil r3
  obtain rfl : args = #[v0, v1, v2, v3] := by cases args; simp_all
  obtain ⟨rfl, rfl⟩ := trodVars_none hV
  obtain ⟨x0, u0, rfl, hrep0, hok0⟩ := open_prg0 Tryd.underlying24 (by kernel_rfl) rfl (by kernel_rfl) opensFuns (hval 0 24 v0 rfl rfl) h0 (weights_of hwt (j := 0) rfl rfl)
  obtain ⟨x1, hrep1, hok1⟩ := open_slice0 Tryd.underlying25 opensInts (hval 1 25 v1 rfl rfl) h1 (weights_of hwt (j := 1) rfl rfl)
  obtain ⟨x2, hrep2, hok2⟩ := open_slice0 Tryd.underlying25 opensInts (hval 2 25 v2 rfl rfl) h2 (weights_of hwt (j := 2) rfl rfl)
  obtain ⟨a3, rfl, rfl, rfl, hi3⟩ := open_int Tryd.underlying3 (hval 3 3 v3 rfl rfl) h3
  have hh : Has W := hasVec hL
  refine (profileHots_any x0 u0 x1 _ x2 _ a3 W hrep0 hok0 hrep1 hok1 hrep2 hok2 hh).mono fun e W' ⟨he, hb⟩ => ?_
  subst he
  exact ⟨_, rfl, law_post (tb := 4) laidOut hW' hb rfl rfl rfl Tryd.underlying4 (by rw [Tryd.params13]; intro t ht; exact readable t (by simpa using ht))⟩
theorem said : Rows.ProfileHotsSaid :=
  OpenClaim.holds_of_cond 13 Tryd.f13 rfl rfl rfl rfl rfl rfl rfl ⟨rfl, rfl, rfl, rfl, rfl⟩ rfl rfl rfl rfl rfl (by kernel_rfl) Tryd.func13 (by kernel_rfl)
    (of_decide_eq_true (by kernel_rfl)) (by unfold Func.isWrapper; first | (rw [if_pos (by decide +kernel)]; kernel_rfl) | (rw [if_neg (by decide +kernel)]; exact ⟨rfl, rfl⟩))
    (fun os started H enc _ F => by rw [OpenClaim.pre_eq_preRow]; exact lifted os started H enc F)
theorem plain (f : FuncId) (fn : Func) (hf : Tryd.pinned.checked.prog.funcNamed "tierline/tierlinelaw.ProfileHots" = some f) (hfn : Tryd.pinned.checked.prog.funcs[f]? = some fn) :
    false = Tryd.pinned.checked.prog.looks [] ∧ ∀ (j : Nat) t, fn.params[j]? = some t → Tryd.pinned.checked.prog.wantsStandIn t = false := by
  obtain rfl : f = 13 := Option.some.inj ((show Tryd.prog.funcNamed "tierline/tierlinelaw.ProfileHots" = some 13 by kernel_rfl).symm.trans hf) |>.symm
  obtain rfl : fn = Tryd.f13 := (Option.some.inj (Tryd.func13.symm.trans hfn)).symm
  refine ⟨by kernel_rfl, fun j t ht => ?_⟩
  rw [Tryd.params13] at ht
  have hm : t = 24 ∨ t = 25 ∨ t = 3 := by simpa using Array.mem_of_getElem? ht
  rcases hm with rfl | rfl | rfl <;> (show Tryd.prog.wantsStandIn _ = false; kernel_rfl)
theorem proved : Rows.ProfileHotsCardSaid :=
  Claim7.holds_tied_plain_at .later [] _ _ _ _ said (fun _ h => by cases h) (by kernel_rfl) (fun _ h => by cases h) profileHots_row_tie rfl ⟨rfl, rfl⟩ (by kernel_rfl) rfl plain (by kernel_rfl)
end Go.Proofs.YtfhoffpdodjfeaaDoor.profileHots
