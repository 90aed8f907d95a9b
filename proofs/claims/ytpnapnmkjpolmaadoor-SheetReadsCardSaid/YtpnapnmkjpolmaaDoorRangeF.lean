/- A range over a closure that holds one pointer: the statement, a round, the loop's end. No program is named here. -/
import Derived.Test.YtpnapnmkjpolmaaDoorRound
import Derived.Test.YtpnapnmkjpolmaaDoorObj
import Derived.RangeFuncNested
import Derived.RangeFuncLeaves
set_option linter.unusedSimpArgs false
set_option linter.unusedVariables false
namespace Go.Proofs.YtpnapnmkjpolmaaDoor
open Go.RowKit
/-- The record of a loop, by its state and the jump that is pending. -/
def recOf (fn : FuncId) (tmps : Array Value) (ps : Array Tmp) (assign body : Code) (bd : Nat) (st : LoopState) (pe : Option Code) : Loop := { state := st, pending := pe, fn := fn, tmps := tmps, params := ps, assign := assign, body := body, defers := bd }
section
variable {P : Program} {ps : Array Tmp} {assign body : Code} {Q : Exit → Act → World → Prop} {a : Act} {w : World} {fn : FuncId} {tmps : Array Value} {bd lp n : Nat}
theorem wp_range {g : Operand} {lf B : Nat} (hg : a.eval g = .func (.func lf) #[] #[.pointer (some ⟨B, 0, none⟩)]) (hc : ∀ args W, (callFunc lf args).run P W = .ok (.enter lf args) W)
    (h : ∀ fn (rec : LoopState → Option Code → Loop), Hid (rec = recOf fn a.tmps ps assign body w.heap.size) → CallsIn (Wf none) 4 P lf #[.func (.yield (w.heap.size + 1)) #[] #[], .pointer (some ⟨B, 0, none⟩)] ((w.alloc (.deferred (some []))).alloc (.loop (rec .ready none)))
      (rangePost (Wf none) 5 P (w.heap.size + 1) Q { a with defers := { target := .collected w.heap.size, args := #[] } :: a.defers })) :
    (Code.rangeFunc g ps assign body).wp P Q a w := by
  refine (wpIn_wide (n := 5)).1 (wpIn_rangeFunc (F := Wf none) fun fn hfn => ?_)
  obtain ⟨W1, hW1⟩ : ∃ W1, (w.alloc (.deferred (some []))).alloc (.loop (recOf fn a.tmps ps assign body w.heap.size .ready none)) = W1 := ⟨_, rfl⟩
  refine ⟨w.heap.size + 1, [{ target := .collected w.heap.size, args := #[] }], W1, { target := .fn (.func lf) #[.pointer (some ⟨B, 0, none⟩)], args := #[.func (.yield (w.heap.size + 1)) #[] #[]] }, W1, lf,
    #[.func (.yield (w.heap.size + 1)) #[] #[], .pointer (some ⟨B, 0, none⟩)], W1, by rw [← hW1]; exact run_enterLoop_outer _ _ _ _ _, ?_, ?_, ?_, fun _ => by decide, by rw [← hW1]; exact h fn _ (Lib.hid rfl)⟩
  · simp only [resolve, hg]
    simp [go_sem]
  · intro f' hf'; trivial
  · simp [invoke, go_sem, hc]
theorem yield_rec {rec : LoopState → Option Code → Loop} {p : Tmp} {x : Value} {W : World} {R : Ending → World → Prop} (hrec : Hid (rec = recOf fn tmps #[p] assign body bd)) (hl : W.heap[lp]? = some (.loop (rec .ready none)))
    (h : assign.wpIn (Wf (some lp)) n P (Exit.then (fun a₁ w₁ => ∃ w₂, (Instr.beginRound lp).run P w₁ = .ok () w₂ ∧ body.wpIn (Wf (some lp)) n P (roundPost P lp R) a₁ w₂) (fun _ _ _ => False)) { tmps := tmps.setIfInBounds p x, defers := [] } W) :
    YieldAt (Wf none) n P lp #[x] W R := by
  have hr := hrec.out
  subst hr
  exact ⟨fn, tmps.setIfInBounds p x, assign, body, by rw [run_yield hl rfl]; simp [recOf], roundIn_of_wpIn trivial h⟩
theorem begin_rec {rec : LoopState → Option Code → Loop} {W : World} (hrec : Hid (rec = recOf fn tmps ps assign body bd)) (hl : W.heap[lp]? = some (.loop (rec .ready none))) : (Instr.beginRound lp).run P W = .ok () (W.putObj lp (.loop (rec .busy none))) := by
  have hr := hrec.out
  subst hr
  exact run_beginRound hl rfl
theorem end_rec {rec : LoopState → Option Code → Loop} {W : World} (jump : Option Code) (hrec : Hid (rec = recOf fn tmps ps assign body bd)) (hl : W.heap[lp]? = some (.loop (rec .busy none))) :
    (Instr.endRound lp jump).run P W = .ok (.bool jump.isNone) (W.putObj lp (.loop (rec (if jump.isNone then .ready else .done) jump))) := by
  have hr := hrec.out
  subst hr
  exact run_endRound jump hl
theorem over_rec {rec : LoopState → Option Code → Loop} {W : World} {st : LoopState} {pe : Option Code} (hrec : Hid (rec = recOf fn tmps ps assign body bd)) (hl : W.heap[lp]? = some (.loop (rec st pe))) (hst : st ≠ .busy) :
    (Instr.endLoop lp).run P W = .ok pe (W.putObj lp (.loop (rec .exhausted pe))) := by
  have hr := hrec.out
  subst hr
  exact run_endLoop hl hst
end
end Go.Proofs.YtpnapnmkjpolmaaDoor
