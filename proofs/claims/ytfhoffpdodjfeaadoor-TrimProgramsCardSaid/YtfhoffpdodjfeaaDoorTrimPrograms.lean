/- The law TrimPrograms, walked. -/
import Derived.Test.YtfhoffpdodjfeaaDoorTrimPB
import Derived.Test.YtfhoffpdodjfeaaDoorCodeE
set_option linter.unusedSimpArgs false
set_option linter.unusedVariables false
namespace Go.Proofs.YtfhoffpdodjfeaaDoor
open Go.RowKit Plain64
attribute [local irreducible] wpList Code.wp Oper.wp
theorem wpList_load_wp {P : Program} {w : World} {ops : Array Oper} {rest : List Oper} {o : Oper} {a : Act} {Q : Exit → Act → World → Prop} (hw : Region.wanted o (yielded ops a.tmps) = true) (ty : TypeId) (x : Operand) (ho : o.op = .load ty x)
    (ad : Addr) (hx : a.eval x = .pointer (some ad)) (cs : List Value) (d : TypeDesc) (hc : At w ad cs)
    (hu : P.underlying ty = some d) (hd : d.isRow = true) (hi : (P.info? ty).map (·.size) = some cs.length)
    (h : wpList P ops Q rest (a.put o.dst (.agg cs.toArray)) w) : wpList P ops Q (o :: rest) a w :=
  wpList_step fun K hK => by
    rw [if_pos hw]
    unfold Oper.wp execOp
    simp only [ho, hx, Instr.loadAt, Instr.sureAddr, Sem.run_bind, Sem.run_pure, Result.andThen_ok, run_loadVar_at w ad ty cs d hc hu hd hi]
    exact hK _ _ h
set_option maxRecDepth 10000 in
set_option maxHeartbeats 1000000 in
theorem trimPrograms_any (p : Prg) (u : Value) (w : World) (hp : Lay.rep w (Lt w.heap.size) p [u]) (hok : Lay.ok p) (hh : Has w) :
    Calls Tryd.prog 7 #[.agg #[u]] w fun e w' => e = .returned (.bool true) ∧ Below w.heap.size w w' := by
  obtain ⟨A, c, rfl, -, -, -⟩ := rep_prg_at hp
  have HR := Lib.hid hp
  have HOK := Lib.hid hok
  have HH := Lib.hid hh
  clear hp hok hh
  have HP := Lib.hid (Hp.start w)
  go_enter Tryd.func7, Tryd.ntmps7
  go_upto_region 4 with (first | (refine wpList_box_hp (o := ⟨some 1, _, _, _, _, _⟩) rfl _ _ rfl HP.out [_] rfl ?_; clear HP; intro g1 w1 HP; replace HP := Lib.hid HP) | (refine wpList_alloc_hp (o := ⟨some 3, _, _, _, _, _⟩) rfl _ rfl HP.out (.agg #[.slice none 0 0]) (by kernel_rfl) [_] rfl ?_; clear HP; intro g3 w3 HP; replace HP := Lib.hid HP) | (refine wpList_alloc_hp (o := ⟨some 4, _, _, _, _, _⟩) rfl _ rfl HP.out (.agg #[.slice none 0 0]) (by kernel_rfl) [_] rfl ?_; clear HP; intro g4 w4 HP; replace HP := Lib.hid HP) | (refine wpList_alloc_hp (o := ⟨some 6, _, _, _, _, _⟩) rfl _ rfl HP.out (.agg #[.slice none 0 0]) (by kernel_rfl) [_] rfl ?_; clear HP; intro g6 w6 HP; replace HP := Lib.hid HP) | (refine wpList_ldR0 rfl 24 _ rfl HP.out rfl Tryd.underlying24 rfl (by kernel_rfl) ?_) | (refine wpList_ldR1 rfl 24 _ rfl HP.out rfl Tryd.underlying24 rfl (by kernel_rfl) ?_) | (refine wpList_ldR2 rfl 24 _ rfl HP.out rfl Tryd.underlying24 rfl (by kernel_rfl) ?_) | (refine wpList_ldR3 rfl 24 _ rfl HP.out rfl Tryd.underlying24 rfl (by kernel_rfl) ?_) | (refine wpList_stR0 rfl 24 _ _ rfl HP.out rfl (cs' := [_]) rfl rfl (by simp [Value.oneCell']) (by kernel_rfl) ?_; clear HP; intro wst HP; replace HP := Lib.hid HP) | (go_at_call 15; refine (programs_any p _ _ (HP.out.rep (F := ⟨w, Lt w.heap.size⟩) (by simp) HR.out) HOK.out).mono ?_; rintro e w1 ⟨v, rfl, hv, hb1⟩; obtain ⟨A1, c1, rfl, -, -, -⟩ := rep_prg_at hv; replace HP := Lib.hid (HP.out.call hb1); have HV := Lib.hid hv; clear hb1 hv) | (go_at_call 28; refine (tProgram_any p _ _ (HP.out.rep (.head _) HV.out) (HH.out.keep HP.out.below rfl)).mono ?_; rintro e w2 ⟨v2, rfl, hv2, hb⟩; obtain ⟨A2, c2, rfl, -, -, -⟩ := rep_prg_at hv2; replace HP := Lib.hid (HP.out.call hb); have HV2 := Lib.hid hv2; clear hb hv2) | (go_at_call 29; refine (Trimmed_any p _ _ (HP.out.rep (F := ⟨w, Lt w.heap.size⟩) (by simp) HR.out)).mono ?_; rintro e w3 ⟨v3, rfl, hv3, hb⟩; obtain ⟨A3, c3, rfl, -, -, -⟩ := rep_prg_at hv3; replace HP := Lib.hid (HP.out.call hb); have HV3 := Lib.hid hv3; clear hb hv3))
  (try simp only [Act.put, List.setIfInBounds_toArray, List.set_cons_zero, List.set_cons_succ])
  have HM6 := Lib.hid (HP.out.blkAt (.head _) 0); have HM4 := Lib.hid (HP.out.blkAt (.tail _ (.head _)) 0); have HM3 := Lib.hid (HP.out.blkAt (.tail _ (.tail _ (.head _))) 0); have HM1 := Lib.hid (HP.out.blkAt (.tail _ (.tail _ (.tail _ (.head _)))) 0)
  go_wp2_with (first | (refine wpList_load_wp rfl 24 _ rfl _ rfl _ _ HM6.out Tryd.underlying24 rfl (by kernel_rfl) ?_) | (refine wpList_load_wp rfl 24 _ rfl _ rfl _ _ HM4.out Tryd.underlying24 rfl (by kernel_rfl) ?_) | (refine wpList_load_wp rfl 24 _ rfl _ rfl _ _ HM3.out Tryd.underlying24 rfl (by kernel_rfl) ?_) | (refine wpList_load_wp rfl 24 _ rfl _ rfl _ _ HM1.out Tryd.underlying24 rfl (by kernel_rfl) ?_) | (go_at_call_of 30 (Value.slice A2 (trimAns p).1.funcs.length c2); refine (sameProgram_any (trimAns p).1 (trimAns p).1 _ _ _ (HP.out.rep (.tail _ (.head _)) HV2.out) (HP.out.rep (.head _) HV3.out)).mono ?_; rintro e w4 ⟨rfl, hb⟩; replace HP := Lib.hid (HP.out.call0 hb); clear hb HM6 HM4 HM3 HM1; have HM6 := Lib.hid (HP.out.blkAt (.head _) 0); have HM4 := Lib.hid (HP.out.blkAt (.tail _ (.head _)) 0); have HM3 := Lib.hid (HP.out.blkAt (.tail _ (.tail _ (.head _))) 0); have HM1 := Lib.hid (HP.out.blkAt (.tail _ (.tail _ (.tail _ (.head _)))) 0); rw [decide_eq_true rfl]) | (go_at_call_of 30 (Value.slice A1 p.funcs.length c1); refine (sameProgram_any p p _ _ _ (HP.out.rep (.tail _ (.tail _ (.head _))) HV.out) (HP.out.rep (F := ⟨w, Lt w.heap.size⟩) (by simp) HR.out)).mono ?_; rintro e w4 ⟨rfl, hb⟩; replace HP := Lib.hid (HP.out.call0 hb); clear hb; rw [decide_eq_true rfl]))
  go_ret
  exact ⟨ret_bool (by simp), HP.out.below⟩
end Go.Proofs.YtfhoffpdodjfeaaDoor
