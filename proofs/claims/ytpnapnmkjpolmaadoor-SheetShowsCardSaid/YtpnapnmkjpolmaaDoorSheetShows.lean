/- The law SheetShows, walked. -/
import Derived.Test.YtpnapnmkjpolmaaDoorSheetTab
import Derived.Test.YtpnapnmkjpolmaaDoorSheetE
import Derived.Test.YtpnapnmkjpolmaaDoorCodeF
set_option linter.unusedSimpArgs false
set_option linter.unusedVariables false
namespace Go.Proofs.YtpnapnmkjpolmaaDoor
open Go.RowKit
attribute [local irreducible] wpList Code.wp Oper.wp
theorem wpList_load_ws {P : Program} {w : World} {ops : Array Oper} {rest : List Oper} {o : Oper} {a : Act} {Q : Exit → Act → World → Prop} (hw : Region.wanted o (yielded ops a.tmps) = true) (ty : TypeId) (x : Operand) (ho : o.op = .load ty x)
    (ad : Addr) (hx : a.eval x = .pointer (some ad)) (cs : List Value) (d : TypeDesc) (hc : At w ad cs)
    (hu : P.underlying ty = some d) (hd : d.isRow = true) (hi : (P.info? ty).map (·.size) = some cs.length)
    (h : wpList P ops Q rest (a.put o.dst (.agg cs.toArray)) w) : wpList P ops Q (o :: rest) a w :=
  wpList_step fun K hK => by
    rw [if_pos hw]
    unfold Oper.wp execOp
    simp only [ho, hx, Instr.loadAt, Instr.sureAddr, Sem.run_bind, Sem.run_pure, Result.andThen_ok, run_loadVar_at w ad ty cs d hc hu hd hi]
    exact hK _ _ h
set_option maxRecDepth 10000 in
set_option maxHeartbeats 4000000 in
theorem sheetShows_any (p : Prg) (u : Value) (w : World) (hp : Lay.rep w (Lt w.heap.size) p [u]) (hok : Lay.ok p) (hh : SheetTabs w) :
    Calls Tryd.prog 3 #[.agg #[u]] w fun e w' => e = .returned (.bool true) ∧ Below w.heap.size w w' := by
  obtain ⟨A, c, rfl, -, -, -⟩ := rep_funs_at hp
  have HR := Lib.hid hp
  have HOK := Lib.hid hok
  have HH := Lib.hid hh.has
  have HT := Lib.hid hh.pow
  have HW := Lib.hid hh.wds
  obtain ⟨sl, sc, hla⟩ : ∃ sl sc, showAns p = (sl, sc) := ⟨_, _, rfl⟩
  have HLA := Lib.hid hla
  clear hp hok hh hla
  have HP := Lib.hid (Hp.start w)
  go_enter Tryd.func3, Tryd.ntmps3
  go_upto_region 4 with (first | (refine wpList_box_hp (o := ⟨some 1, _, _, _, _, _⟩) rfl _ _ rfl HP.out [_] rfl ?_; clear HP; intro g1 w1 HP; replace HP := Lib.hid HP) | (refine wpList_alloc_hp (o := ⟨some 3, _, _, _, _, _⟩) rfl _ rfl HP.out (.agg #[.slice none 0 0]) (by kernel_rfl) [_] rfl ?_; clear HP; intro g3 w3 HP; replace HP := Lib.hid HP) | (refine wpList_ldR0 rfl 24 _ rfl HP.out rfl Tryd.underlying24 rfl (by kernel_rfl) ?_) | (refine wpList_ldR1 rfl 24 _ rfl HP.out rfl Tryd.underlying24 rfl (by kernel_rfl) ?_) | (refine wpList_stR0 rfl 24 _ _ rfl HP.out rfl (cs' := [_]) rfl rfl (by simp [Value.oneCell']) (by kernel_rfl) ?_; clear HP; intro wst HP; replace HP := Lib.hid HP) | (go_at_call 5; refine (programs_any p _ _ (HP.out.rep (F := ⟨w, Lt w.heap.size⟩) (by simp) HR.out) HOK.out).mono ?_; rintro e w1 ⟨v, rfl, hv, hb1⟩; obtain ⟨A1, c1, e1, -, -, -⟩ := rep_list (rep_prg.1 hv); cases e1; replace HP := Lib.hid (HP.out.call hb1); have HV := Lib.hid hv; clear hb1 hv) | (go_at_call 6; refine (Show_any p _ _ (HP.out.rep (.head _) HV.out) HOK.out (HH.out.keep HP.out.below rfl) (HT.out.keep HP.out.below rfl) (HW.out.keep HP.out.below rfl)).mono ?_; rintro e w2 ⟨rfl, hb⟩; replace HP := Lib.hid (HP.out.call0 hb); clear hb; rw [HLA.out]) | (go_at_call 7; refine (ProgramShown_any p _ _ (HP.out.rep (F := ⟨w, Lt w.heap.size⟩) (by simp) HR.out) HOK.out).mono ?_; rintro e w3 ⟨rfl, hb⟩; replace HP := Lib.hid (HP.out.call0 hb); clear hb; rw [HLA.out]))
  (try simp only [Act.put, List.setIfInBounds_toArray, List.set_cons_zero, List.set_cons_succ])
  have HM3 := Lib.hid (HP.out.blkAt (.head _) 0); have HM1 := Lib.hid (HP.out.blkAt (.tail _ (.head _)) 0)
  go_wp2_with (first | (refine wpList_load_ws rfl 24 _ rfl _ rfl _ _ HM3.out Tryd.underlying24 rfl (by kernel_rfl) ?_) | (refine wpList_load_ws rfl 24 _ rfl _ rfl _ _ HM1.out Tryd.underlying24 rfl (by kernel_rfl) ?_) | (go_at_call 8; refine (sameProgram_any p p _ _ _ (HP.out.rep (.head _) HV.out) (HP.out.rep (F := ⟨w, Lt w.heap.size⟩) (by simp) HR.out)).mono ?_; rintro e w4 ⟨rfl, hb⟩; replace HP := Lib.hid (HP.out.call0 hb); clear hb; rw [decide_eq_true rfl]))
  go_ret
  exact ⟨ret_bool (by simp), HP.out.below⟩
end Go.Proofs.YtpnapnmkjpolmaaDoor
