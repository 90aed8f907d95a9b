/- proof.Sure, ref.SureOf. -/
import Derived.Test.YtnabeibnaoahmaaDoorSure
import Derived.Deep.RegionHeld
set_option linter.unusedSimpArgs false
set_option linter.unusedVariables false
namespace Go.Proofs.YtnabeibnaoahmaaDoor
open Go.RowKit Plain64
attribute [local irreducible] wpList Code.wp Oper.wp
/-- P3.2, at every argument. -/
noncomputable def sureAns (p : Prg) (fn : Int) : List Int × Int :=
  if prgFault p ≠ 0 then ([], prgFault p) else
  if fn < 0 then ([], 2) else
  match p.funcs[fn.toNat]? with
  | none => ([], 2)
  | some f => ((sureL f).take f.code.length, 0)
theorem rep_ints_take {w : World} {S : Nat → Prop} {xs : List Int} {A : Option Addr} {m c : Nat} (h : Lay.rep w S xs [.slice A m c]) (n c' : Nat) (hn : n ≤ xs.length) (hnc : n ≤ c') (hc' : c' ≤ maxLen) : Lay.rep w S (xs.take n) [.slice A n c'] := by
  obtain ⟨A', c1, e, h1, h2, h3⟩ := h
  simp only [List.cons.injEq, and_true] at e
  cases e
  refine ⟨A, c', by rw [List.length_take, Nat.min_eq_left hn], by rw [List.length_take, Nat.min_eq_left hn]; exact hnc, hc', fun k x hx => h3 k x ?_⟩
  rw [List.getElem?_take] at hx
  split at hx
  · exact hx
  · cases hx
theorem rep_ints_cap {w : World} {S : Nat → Prop} {xs : List Int} {A : Option Addr} {m c : Nat} (h : Lay.rep w S xs [.slice A m c]) : m = xs.length ∧ xs.length ≤ c ∧ c ≤ maxLen := by
  obtain ⟨A', c1, e, h1, h2, h3⟩ := h
  simp only [List.cons.injEq, and_true] at e
  cases e
  exact ⟨rfl, h1, h2⟩
theorem sureAns_bad {p : Prg} (h : prgFault p ≠ 0) (fn : Int) : sureAns p fn = ([], prgFault p) := by unfold sureAns; rw [if_pos h]
theorem sureAns_out {p : Prg} (h : prgFault p = 0) {fn : Int} (hf : fn < 0 ∨ (p.funcs.length : Int) ≤ fn) : sureAns p fn = ([], 2) := by
  unfold sureAns
  rw [if_neg (by simpa using h)]
  split
  · rfl
  · rw [List.getElem?_eq_none (by omega)]
theorem sureAns_in {p : Prg} (h : prgFault p = 0) {k : Nat} {f : Fun} (hf : p.funcs[k]? = some f) : sureAns p (k : Int) = ((sureL f).take f.code.length, 0) := by
  unfold sureAns
  rw [if_neg (by simpa using h), if_neg (by omega), Int.toNat_natCast, hf]
end Go.Proofs.YtnabeibnaoahmaaDoor
