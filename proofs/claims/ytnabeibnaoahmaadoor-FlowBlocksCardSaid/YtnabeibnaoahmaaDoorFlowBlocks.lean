/- The law FlowBlocks, walked. -/
import Derived.Test.YtnabeibnaoahmaaDoorBlocks
import Derived.Test.YtnabeibnaoahmaaDoorBlocksOf
import Derived.Test.YtnabeibnaoahmaaDoorSameBlocks
import Derived.Test.YtnabeibnaoahmaaDoorCodeD
import Derived.Test.YtnabeibnaoahmaaDoorCodeF
set_option linter.unusedSimpArgs false
set_option linter.unusedVariables false
namespace Go.Proofs.YtnabeibnaoahmaaDoor
open Go.RowKit Plain64
attribute [local irreducible] wpList Code.wp Oper.wp
theorem wpList_load_wB {P : Program} {w : World} {ops : Array Oper} {rest : List Oper} {o : Oper} {a : Act} {Q : Exit → Act → World → Prop} (hw : Region.wanted o (yielded ops a.tmps) = true) (ty : TypeId) (x : Operand) (ho : o.op = .load ty x)
    (ad : Addr) (hx : a.eval x = .pointer (some ad)) (cs : List Value) (d : TypeDesc) (hc : At w ad cs)
    (hu : P.underlying ty = some d) (hd : d.isRow = true) (hi : (P.info? ty).map (·.size) = some cs.length)
    (h : wpList P ops Q rest (a.put o.dst (.agg cs.toArray)) w) : wpList P ops Q (o :: rest) a w :=
  wpList_step fun K hK => by
    rw [if_pos hw]
    unfold Oper.wp execOp
    simp only [ho, hx, Instr.loadAt, Instr.sureAddr, Sem.run_bind, Sem.run_pure, Result.andThen_ok, run_loadVar_at w ad ty cs d hc hu hd hi]
    exact hK _ _ h
set_option maxRecDepth 10000 in
set_option maxHeartbeats 2000000 in
theorem flowBlocks_any (p : Prg) (u : Value) (fn : Int) (w : World) (hp : Lay.rep w (Lt w.heap.size) p [u]) (hok : Lay.ok p) (hh : Has w) :
    Calls Tryd.prog 4 #[.agg #[u], .int .i64 fn] w fun e w' => e = .returned (.bool true) ∧ Below w.heap.size w w' := by
  have HR := Lib.hid hp
  have HOK := Lib.hid hok
  have HH := Lib.hid hh
  clear hp hok hh
  have HP := Lib.hid (Hp.start w)
  go_enter Tryd.func4, Tryd.ntmps4
  go_upto_region 4 with (first | (refine wpList_box_hp (o := ⟨some 2, _, _, _, _, _⟩) rfl _ _ rfl HP.out [_] rfl ?_; clear HP; intro g2 w2 HP; replace HP := Lib.hid HP) | (refine wpList_alloc_hp (o := ⟨some 5, _, _, _, _, _⟩) rfl _ rfl HP.out (.agg #[.slice none 0 0]) (by kernel_rfl) [_] rfl ?_; clear HP; intro g5 w5 HP; replace HP := Lib.hid HP) | (refine wpList_ldR0 rfl 24 _ rfl HP.out rfl Tryd.underlying24 rfl (by kernel_rfl) ?_) | (refine wpList_ldR1 rfl 24 _ rfl HP.out rfl Tryd.underlying24 rfl (by kernel_rfl) ?_) | (refine wpList_stR0 rfl 24 _ _ rfl HP.out rfl (cs' := [_]) rfl rfl (by simp [Value.oneCell']) (by kernel_rfl) ?_; clear HP; intro wst HP; replace HP := Lib.hid HP) | (go_at_call 9; refine (programs_any p _ _ (HP.out.rep (F := ⟨w, Lt w.heap.size⟩) (by simp) HR.out) HOK.out).mono ?_; rintro e w1 ⟨v1, rfl, hv, hb1⟩; replace HP := Lib.hid (HP.out.call hb1); have HV1 := Lib.hid hv; obtain ⟨A1, c1, rfl, -, -, -⟩ := rep_prg_at hv; clear hb1 hv) | (go_at_call 12; refine (Blocks_any p _ fn _ (HP.out.rep (.head _) HV1.out) (HH.out.keep HP.out.below rfl)).mono ?_; rintro e w2 ⟨v2, rfl, hv2, hb⟩; replace HP := Lib.hid (HP.out.call hb); have HV2 := Lib.hid hv2; clear hb hv2) | (go_at_call 13; refine (BlocksOf_any p _ fn _ (HP.out.rep (F := ⟨w, Lt w.heap.size⟩) (by simp) HR.out)).mono ?_; rintro e w3 ⟨v3, rfl, hv3, hb⟩; replace HP := Lib.hid (HP.out.call hb); have HV3 := Lib.hid hv3; clear hb hv3))
  go_wp2_with (first | (refine wpList_load_wB rfl 24 _ rfl _ rfl _ _ (HP.out.blkAt0B (.head _)) Tryd.underlying24 rfl (by kernel_rfl) ?_) | (refine wpList_load_wB rfl 24 _ rfl _ rfl _ _ (HP.out.blkAt0B (.tail _ (.head _))) Tryd.underlying24 rfl (by kernel_rfl) ?_) | (go_at_call 15; refine (sameProgram_any p p _ _ _ (HP.out.rep (.tail _ (.tail _ (.head _))) HV1.out) (HP.out.rep (F := ⟨w, Lt w.heap.size⟩) (by simp) HR.out)).mono ?_; rintro e w5 ⟨rfl, hb⟩; replace HP := Lib.hid (HP.out.call0 hb); clear hb; rw [decide_eq_true rfl]) | (go_at_call 14; refine (sameBlocks_any (blocksAns p fn).1 _ _ _ (HP.out.rep (.tail _ (.head _)) HV2.out) (HP.out.rep (.head _) HV3.out)).mono ?_; rintro e w4 ⟨rfl, hb⟩; replace HP := Lib.hid (HP.out.call0 hb); clear hb; have c5 := HP.out.cell (.head _) 0 _ rfl; have c2 := HP.out.cell (.tail _ (.head _)) 0 _ rfl))
  (try simp only [Exit.inBlock, Exit.then])
  refine bodyPost_ret (results_tmp (by rfl) _ _ _) (by rfl) ?_
  exact ⟨ret_bool (by simp), HP.out.below⟩
end Go.Proofs.YtnabeibnaoahmaaDoor
