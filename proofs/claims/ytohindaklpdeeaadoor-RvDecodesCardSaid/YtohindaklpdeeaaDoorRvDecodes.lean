/- The law RvDecodes, walked. -/
import Derived.Test.YtohindaklpdeeaaDoorRvOf
import Derived.Test.YtohindaklpdeeaaDoorRvEnc
import Derived.Laws.StructEq
set_option linter.unusedSimpArgs false
set_option linter.unusedVariables false
namespace Go.Proofs.YtohindaklpdeeaaDoor
open Go.RowKit Plain64
attribute [local irreducible] wpList Code.wp Oper.wp
theorem eqf_nil {P : Program} {d : Nat} {xs : Array Value} {w : World} : (Op.eqFields d xs xs []).run P w = .ok true w := by simp [Op.eqFields]
theorem eqf_cons {P : Program} {d : Nat} {xs : Array Value} {w : World} {f : Field} {fs : List Field} {v : Value} (hn : f.name ≠ "_") (hp : (part f.type xs f.offset).run P w = .ok v w) (he : (Op.equalIn d f.type v v).run P w = .ok true w) (hr : (Op.eqFields d xs xs fs).run P w = .ok true w) :
    (Op.eqFields d xs xs (f :: fs)).run P w = .ok true w := by
  simp only [Op.eqFields, hn, ne_eq, not_false_eq_true, if_true, Sem.run_bind, hp, he, Result.andThen_ok, Bool.not_true, Bool.false_eq_true, if_false, hr]
theorem eq_int' (d : Nat) (n : Int) (w : World) : (Op.equalIn (d + 1) 3 (.int .i64 n) (.int .i64 n)).run Tryd.prog w = .ok true w := by
  simp [Op.equalIn, run_underlying Tryd.underlying3]
theorem eq_rv (x : Rvi) (w : World) : (Op.equalIn 10000 34 (.agg #[.int .i64 x.op, .int .i64 x.rd, .int .i64 x.rs1, .int .i64 x.rs2, .int .i64 x.imm]) (.agg #[.int .i64 x.op, .int .i64 x.rd, .int .i64 x.rs1, .int .i64 x.rs2, .int .i64 x.imm])).run Tryd.prog w = .ok true w := by
  rw [show (10000 : Nat) = 9998 + 1 + 1 from rfl, run_equalIn_struct w _ _ _ _ (by kernel_rfl) (by kernel_rfl)]
  unfold Program.fieldsOf
  rw [Tryd.underlying34]
  exact eqf_cons (by decide) (run_part_plain w (by kernel_rfl) rfl) (eq_int' _ _ _) (eqf_cons (by decide) (run_part_plain w (by kernel_rfl) rfl) (eq_int' _ _ _) (eqf_cons (by decide) (run_part_plain w (by kernel_rfl) rfl) (eq_int' _ _ _) (eqf_cons (by decide) (run_part_plain w (by kernel_rfl) rfl) (eq_int' _ _ _) (eqf_cons (by decide) (run_part_plain w (by kernel_rfl) rfl) (eq_int' _ _ _) eqf_nil))))
theorem run_eq_rv (x : Rvi) (w : World) : (binOp .eql 34 (.agg #[.int .i64 x.op, .int .i64 x.rd, .int .i64 x.rs1, .int .i64 x.rs2, .int .i64 x.imm]) (.agg #[.int .i64 x.op, .int .i64 x.rd, .int .i64 x.rs1, .int .i64 x.rs2, .int .i64 x.imm])).run Tryd.prog w = .ok (.bool true) w := by
  rw [run_eql_struct, eq_rv x w]; rfl
set_option maxRecDepth 10000 in
set_option maxHeartbeats 1000000 in
theorem rvDecodes_any (n : Int) (w : World) (hn : -9223372036854775808 ≤ n ∧ n ≤ 9223372036854775807) (ht : RvTabs w) :
    Calls Tryd.prog 4 #[.int .i64 n] w fun e w' => e = .returned (.bool true) ∧ Below w.heap.size w w' := by
  have HT := Lib.hid ht
  have HN := Lib.hid hn
  clear ht hn
  have HP := Lib.hid (Hp.start w)
  obtain ⟨x, hx⟩ : ∃ x, decAns n = x := ⟨_, rfl⟩
  obtain ⟨⟨op, rd, r1, r2, imm⟩, e⟩ := x
  have HD := Lib.hid hx
  clear hx
  have hq := run_eq_rv ⟨op, rd, r1, r2, imm⟩
  have hq2 := eq_rv ⟨op, rd, r1, r2, imm⟩
  dsimp only at hq hq2
  go_enter Tryd.func4, Tryd.ntmps4
  go_wp2_with (first | (refine wpList_alloc_hp (o := ⟨some 3, _, _, _, _, _⟩) rfl _ rfl HP.out (.agg #[.int .i64 0, .int .i64 0, .int .i64 0, .int .i64 0, .int .i64 0]) (by kernel_rfl) [_, _, _, _, _] rfl ?_; clear HP; intro g3 w3 HP; replace HP := Lib.hid HP) | (refine wpList_alloc_hp (o := ⟨some 5, _, _, _, _, _⟩) rfl _ rfl HP.out (.agg #[.int .i64 0, .int .i64 0, .int .i64 0, .int .i64 0, .int .i64 0]) (by kernel_rfl) [_, _, _, _, _] rfl ?_; clear HP; intro g5 w5 HP; replace HP := Lib.hid HP) | (refine wpList_stR0 rfl 34 _ _ rfl HP.out rfl (cs' := [_, _, _, _, _]) rfl rfl (by simp [Value.oneCell']) (by kernel_rfl) ?_; clear HP; intro wst HP; replace HP := Lib.hid HP) | (refine wpList_ldR0 rfl 34 _ rfl HP.out rfl Tryd.underlying34 rfl (by kernel_rfl) ?_) | (refine wpList_ldR1 rfl 34 _ rfl HP.out rfl Tryd.underlying34 rfl (by kernel_rfl) ?_) | (go_at_call 10; refine (rvDecode_any n _ (HT.out.keep HP.out.below rfl)).mono ?_; rintro e w2 ⟨rfl, hb⟩; replace HP := Lib.hid (HP.out.call0 hb); clear hb; rw [HD.out]) | (go_at_call 11; refine (RvOf_any n _ HN.out).mono ?_; rintro e w3 ⟨rfl, hb⟩; replace HP := Lib.hid (HP.out.call0 hb); clear hb; rw [HD.out]))
  (try simp only [Exit.inBlock, Exit.then])
  refine bodyPost_ret (results_tmp (by rfl) _ _ _) (by rfl) ?_
  exact ⟨ret_bool (by simp), HP.out.below⟩
end Go.Proofs.YtohindaklpdeeaaDoor
