/- ref.functionFault, ref.WhereOf. -/
import Derived.Test.YtfhoffpdodjfeaaDoorTrimLaw
import Derived.Test.YtfhoffpdodjfeaaDoorProvenC
import Derived.Test.YtfhoffpdodjfeaaDoorSureT
set_option linter.unusedSimpArgs false
set_option linter.unusedVariables false
namespace Go.Proofs.YtfhoffpdodjfeaaDoor
open Go.RowKit Plain64
attribute [local irreducible] wpList Code.wp Oper.wp
noncomputable def fnFault (p : Prg) (fn : Int) : Int := if proven p ≠ 0 then proven p else if fn < 0 ∨ (p.funcs.length : Int) ≤ fn then 2 else 0
theorem fnFault_ans (p : Prg) (fn : Int) : fnFault p fn = (whereAns p fn).2 := by
  unfold fnFault
  by_cases hz : proven p = 0
  · rw [if_neg (by simpa using hz)]
    by_cases hf : fn < 0 ∨ (p.funcs.length : Int) ≤ fn
    · rw [if_pos hf, whereAns_out hz hf]
    · rw [if_neg hf]
      obtain ⟨k, rfl⟩ := Int.eq_ofNat_of_zero_le (show 0 ≤ fn by omega)
      have hk : k < p.funcs.length := by omega
      rw [whereAns_in hz (List.getElem?_eq_getElem hk)]
  · rw [if_pos hz, whereAns_bad hz]
set_option maxRecDepth 10000 in
set_option maxHeartbeats 1000000 in
theorem functionFault_any (p : Prg) (u : Value) (fn : Int) (w : World) (hp : Lay.rep w (Lt w.heap.size) p [u]) :
    Calls Tryd.prog 50 #[.agg #[u], .int .i64 fn] w fun e w' => e = .returned (.int .i64 (fnFault p fn)) ∧ Below w.heap.size w w' := by
  obtain ⟨A, c, rfl, hc, hm, hx⟩ := rep_prg_at hp
  unfold maxLen at hm
  have HR := Lib.hid hp
  clear hp hx
  have HP := Lib.hid (Hp.start w)
  by_cases hz : proven p = 0
  · have HZ := Lib.hid hz
    have HF := Lib.hid (show fnFault p fn = if fn < 0 ∨ (p.funcs.length : Int) ≤ fn then 2 else 0 by unfold fnFault; rw [if_neg (by simpa using hz)])
    clear hz
    obtain ⟨b, hb⟩ : ∃ b, (decide (0 ≤ fn) && decide (fn ≤ (p.funcs.length : Int) - 1)) = b := ⟨_, rfl⟩
    have HB := Lib.hid hb
    clear hb
    cases b
    all_goals
      go_enter Tryd.func50, Tryd.ntmps50
      go_upto_region 2 with (first | (refine wpList_box_hp (o := ⟨some 2, _, _, _, _, _⟩) rfl _ _ rfl HP.out [_] rfl ?_; clear HP; intro g2 w2 HP; replace HP := Lib.hid HP) | (refine wpList_box_hp (o := ⟨some 3, _, _, _, _, _⟩) rfl _ _ rfl HP.out [_] rfl ?_; clear HP; intro g3 w3 HP; replace HP := Lib.hid HP) | (refine wpList_ldR0 rfl 24 _ rfl HP.out rfl Tryd.underlying24 rfl (by kernel_rfl) ?_) | (go_at_call 46; refine (Proven_any p _ _ (HP.out.rep (F := ⟨w, Lt w.heap.size⟩) (by simp) HR.out)).mono ?_; rintro e w4 ⟨rfl, hb⟩; replace HP := Lib.hid (HP.out.call0 hb); clear hb; rw [HZ.out]))
      have hfs := HP.out.cell (.head _) 0 _ rfl
      go_wp2_with (first | (go_at_call 47; refine (calls_value (In_any _ _ _ _) (congrArg Value.bool HB.out)).mono ?_; rintro e w' ⟨rfl, rfl⟩))
      go_ret
      refine ⟨ret_int ?_, HP.out.below⟩
      rw [HF.out]
      have := HB.out
      simp at this
      first | rw [if_pos (by omega)] | rw [if_neg (by omega)]
  · have HF := Lib.hid (show fnFault p fn = proven p by unfold fnFault; rw [if_pos hz])
    obtain ⟨e0, he0⟩ : ∃ e0, proven p = e0 := ⟨_, rfl⟩
    rw [he0] at hz HF
    have HE0 := Lib.hid he0
    have hzb : (e0 == 0) = false := by simpa using hz
    have hzb2 : (e0 != 0) = true := by simpa using hz
    clear he0 hz
    go_enter Tryd.func50, Tryd.ntmps50
    go_wp2_with (first | (refine wpList_box_hp (o := ⟨some 2, _, _, _, _, _⟩) rfl _ _ rfl HP.out [_] rfl ?_; clear HP; intro g2 w2 HP; replace HP := Lib.hid HP) | (refine wpList_box_hp (o := ⟨some 3, _, _, _, _, _⟩) rfl _ _ rfl HP.out [_] rfl ?_; clear HP; intro g3 w3 HP; replace HP := Lib.hid HP) | (refine wpList_ldR0 rfl 24 _ rfl HP.out rfl Tryd.underlying24 rfl (by kernel_rfl) ?_) | (refine wpList_ld0 rfl 22 _ rfl HP.out rfl rfl Tryd.underlying22 rfl ?_) | (go_at_call 46; refine (Proven_any p _ _ (HP.out.rep (F := ⟨w, Lt w.heap.size⟩) (by simp) HR.out)).mono ?_; rintro e w4 ⟨rfl, hb⟩; replace HP := Lib.hid (HP.out.call0 hb); clear hb; rw [HE0.out]))
    go_ret
    exact ⟨ret_int HF.out.symm, HP.out.below⟩
end Go.Proofs.YtfhoffpdodjfeaaDoor
