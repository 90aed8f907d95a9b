/- A byte of a string; a part of a string. -/
import Derived.Test.YtpnapnmkjpolmaaDoorCat
import Derived.Laws.Strings
set_option linter.unusedSimpArgs false
set_option linter.unusedVariables false
namespace Go.Proofs.YtpnapnmkjpolmaaDoor
open Go.RowKit
attribute [local irreducible] wpList Code.wp Oper.wp
theorem bstr_extract (l : List UInt8) (a b : Nat) : (bstr l).extract a b = bstr ((l.drop a).take (b - a)) := by
  apply ByteArray.ext
  apply Array.ext'
  rw [Lib.extract_data, bstr_data, bstr_data]
theorem bstr_get (l : List UInt8) (i : Nat) (h : i < (bstr l).size) : (bstr l)[i] = l.getD i 0 := by
  have h1 : i < l.length := by rw [← bstr_size]; exact h
  rw [List.getD_eq_getElem?_getD, List.getElem?_eq_getElem h1]
  unfold bstr
  show (l.toArray)[i] = _
  simp
section
variable {ops : Array Oper} {rest : List Oper} {o oi : Oper} {a : Act} {Q : Exit → Act → World → Prop} {w : World} {md : Region.Mode} {S : World → Prop}
theorem exec_sidx (x y : Operand) (ho : o.op = .index 9 x y) (l : List UInt8) (hx : a.eval x = .string (bstr l)) (i : Int) (hy : a.eval y = .int .i64 i) (h0 : 0 ≤ i) (h1 : i < l.length) (w : World) :
    (execOp a.eval o).run Tryd.prog w = .ok (.value (.int .u8 ((l.getD i.toNat 0).toNat : Int))) w := by
  unfold execOp
  simp only [ho, hx, hy, Sem.run_bind, run_index_string w 9 (bstr l) .i64 i Tryd.underlying9]
  rw [dif_pos ⟨h0, by rw [bstr_size]; exact h1⟩, bstr_get]
  rfl
theorem wpList_sidx (hgd : o.guard = none) (x y : Operand) (ho : o.op = .index 9 x y) (l : List UInt8) (hx : a.eval x = .string (bstr l)) (i : Int) (hy : a.eval y = .int .i64 i) (h0 : 0 ≤ i) (h1 : i < l.length)
    (h : wpList Tryd.prog ops Q rest (a.put o.dst (.int .u8 ((l.getD i.toNat 0).toNat : Int))) w) : wpList Tryd.prog ops Q (o :: rest) a w := by
  refine wpList_plain hgd fun K hK => ?_
  unfold Oper.wp
  rw [exec_sidx x y ho l hx i hy h0 h1]
  exact hK _ _ h
theorem wpList_sidx_w (hw : Region.wanted o (yielded ops a.tmps) = true) (x y : Operand) (ho : o.op = .index 9 x y) (l : List UInt8) (hx : a.eval x = .string (bstr l)) (i : Int) (hy : a.eval y = .int .i64 i) (h0 : 0 ≤ i) (h1 : i < l.length)
    (h : wpList Tryd.prog ops Q rest (a.put o.dst (.int .u8 ((l.getD i.toNat 0).toNat : Int))) w) : wpList Tryd.prog ops Q (o :: rest) a w := by
  refine wpList_step fun K hK => ?_
  rw [if_pos hw]
  unfold Oper.wp
  rw [exec_sidx x y ho l hx i hy h0 h1]
  exact hK _ _ h
theorem exec_ssl (x : Operand) (lo hi : Option Operand) (ho : o.op = .slice 9 x lo hi none) (l : List UInt8) (hx : a.eval x = .string (bstr l)) (i j : Nat) (hlo : (lo = none ∧ i = 0) ∨ ∃ y, lo = some y ∧ a.eval y = .int .i64 i) (hhi : (hi = none ∧ j = l.length) ∨ ∃ y, hi = some y ∧ a.eval y = .int .i64 j) (h0 : i ≤ j) (h1 : j ≤ l.length) (w : World) :
    (execOp a.eval o).run Tryd.prog w = .ok (.value (.string (bstr ((l.drop i).take (j - i))))) w := by
  have hs := bstr_size l
  have hj : ∀ c, (Instr.sliceBound (.int .i64 (j : Int)) (bstr l).size c).run Tryd.prog w = .ok j w := fun c => by
    rw [run_sliceBound w .i64 (j : Int) _ c (by omega) (by omega), Int.toNat_natCast]
  have hi' : ∀ c, (Instr.sliceBound (.int .i64 (i : Int)) j c).run Tryd.prog w = .ok i w := fun c => by
    rw [run_sliceBound w .i64 (i : Int) _ c (by omega) (by omega), Int.toNat_natCast]
  have hb : (Instr.sliceBounds false (bstr l).size (bstr l).size (lo.map a.eval) (hi.map a.eval) none).run Tryd.prog w = .ok (i, j, (bstr l).size) w := by
    unfold Instr.sliceBounds
    rcases hlo with ⟨rfl, rfl⟩ | ⟨y, rfl, hy⟩ <;> rcases hhi with ⟨rfl, rfl⟩ | ⟨z, rfl, hz⟩
    · simp [Sem.run_bind, Result.andThen, hs]
    · simp [Sem.run_bind, Result.andThen, hz, hj]
    · simp [Sem.run_bind, Result.andThen, hy, hi', hs]
    · simp [Sem.run_bind, Result.andThen, hy, hz, hj, hi']
  unfold execOp
  simp only [ho, hx]
  unfold Instr.sliceAt Instr.slice
  simp [Sem.run_bind, run_underlying Tryd.underlying9, Result.andThen, hb, bstr_extract]
theorem wpList_ssl (hgd : o.guard = none) (x : Operand) (lo hi : Option Operand) (ho : o.op = .slice 9 x lo hi none) (l : List UInt8) (hx : a.eval x = .string (bstr l)) (i j : Nat) (hlo : (lo = none ∧ i = 0) ∨ ∃ y, lo = some y ∧ a.eval y = .int .i64 i) (hhi : (hi = none ∧ j = l.length) ∨ ∃ y, hi = some y ∧ a.eval y = .int .i64 j) (h0 : i ≤ j) (h1 : j ≤ l.length)
    (h : wpList Tryd.prog ops Q rest (a.put o.dst (.string (bstr ((l.drop i).take (j - i))))) w) : wpList Tryd.prog ops Q (o :: rest) a w := by
  refine wpList_plain hgd fun K hK => ?_
  unfold Oper.wp
  rw [exec_ssl x lo hi ho l hx i j hlo hhi h0 h1]
  exact hK _ _ h
end
end Go.Proofs.YtpnapnmkjpolmaaDoor
