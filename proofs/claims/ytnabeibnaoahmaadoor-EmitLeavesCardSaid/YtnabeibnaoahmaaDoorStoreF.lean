/- A struct stored over an element of a row that the call owns. No program is named here. -/
import Derived.Test.YtnabeibnaoahmaaDoorHpRow
import Derived.Lib.ReflectliteSwap
set_option linter.unusedSimpArgs false
set_option linter.unusedVariables false
namespace Go.Proofs.YtnabeibnaoahmaaDoor
open Go.RowKit Go.Lib
theorem Hp.rowSets {w0 : World} {Fs : List Fro} {A B : List Res} {g n c sz : Nat} {e : TypeId} : ∀ (vs : List Value) (j : Nat) (cs : List Value) (w : World), Hp w0 Fs (A ++ .row (.slice (some ⟨g, 0, none⟩) n c) e sz n cs :: B) w → j + vs.length ≤ cs.length →
    Hp w0 Fs (A ++ .row (.slice (some ⟨g, 0, none⟩) n c) e sz n (cs.take j ++ (vs ++ cs.drop (j + vs.length))) :: B) (w.setCells g j vs)
  | [], j, cs, w, h, _ => by simpa [World.setCells] using h
  | v :: vs, j, cs, w, h, hl => by
    rw [World.setCells]
    have hj : j < cs.length := by simp at hl; omega
    have k := Hp.rowSets vs (j + 1) (cs.set j v) (w.setCell ⟨g, j, none⟩ v) (h.rowSet j hj v) (by simp at hl ⊢; omega)
    have e : (cs.set j v).take (j + 1) ++ (vs ++ (cs.set j v).drop (j + 1 + vs.length)) = cs.take j ++ (v :: vs ++ cs.drop (j + (v :: vs).length)) := by
      rw [List.drop_set_of_lt (by omega), List.take_set, List.take_add_one, List.getElem?_eq_getElem hj, List.length_cons, show j + (vs.length + 1) = j + 1 + vs.length by omega]
      rw [List.set_append_right _ _ (by simp; omega)]
      simp [Nat.min_eq_left (Nat.le_of_lt hj)]
    rw [e] at k
    exact k
theorem wpList_stF {P : Program} {ops : Array Oper} {rest : List Oper} {o : Oper} {a : Act} {w w0 : World} {Q : Exit → Act → World → Prop} {Fs : List Fro} (A : List Res) {B : List Res} (hgd : o.guard = none) (ty : TypeId) (x y : Operand) (ho : o.op = .store ty x y)
    {g k n c sz : Nat} {t : TypeId} {cs : List Value} (H : Hp w0 Fs (A ++ .row (.slice (some ⟨g, 0, none⟩) n c) t sz n cs :: B) w) (hx : a.eval x = .pointer (some ⟨g, k, none⟩)) (vs : List Value) (hy : a.eval y = .agg vs.toArray)
    {i : TypeInfo} (hi : P.info? ty = some i) (hs : vs.length = i.size) (h1 : ∀ v ∈ vs, v.oneCell' = true) (hk : k + vs.length ≤ cs.length)
    (h : ∀ w', Hp w0 Fs (A ++ .row (.slice (some ⟨g, 0, none⟩) n c) t sz n (cs.take k ++ (vs ++ cs.drop (k + vs.length))) :: B) w' → wpList P ops Q rest (a.put o.dst undef) w') : wpList P ops Q (o :: rest) a w := by
  have hst := rl_storeVar_cells (P := P) ty i hi g k vs hs h1 w (fun j hj => by
      have := H.rowCell (g := g) (n := n) (c := c) (sz := sz) (e := t) (cs := cs) (by simp) (k + j) _ (List.getElem?_eq_getElem (by omega))
      rw [this]; rfl) (fun j _ => H.rowFree (g := g) (n := n) (c := c) (sz := sz) (e := t) (cs := cs) (by simp) (k + j))
  refine wpList_plain hgd fun _ hK => ?_
  unfold Oper.wp execOp
  simp only [ho, hx, hy, Instr.storeAt, Instr.sureAddr, Sem.run_bind, Sem.run_pure, Result.andThen_ok, hst]
  exact hK _ _ (h _ (Hp.rowSets vs k cs w H hk))
end Go.Proofs.YtnabeibnaoahmaaDoor
