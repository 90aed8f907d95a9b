/- ref.stepped. -/
import Derived.Test.YtfhoffpdodjfeaaDoorStepdA
import Derived.Test.YtfhoffpdodjfeaaDoorStepdB
import Derived.Test.YtfhoffpdodjfeaaDoorStepdC
set_option linter.unusedSimpArgs false
set_option linter.unusedVariables false
namespace Go.Proofs.YtfhoffpdodjfeaaDoor
open Go.RowKit Plain64
theorem stepped_own (p : Prg) (v : Value) (s : Sta) (fs : List Frm) (f : Frm) (hfr : s.frames = fs ++ [f]) (u e a : Value) (w : World) (hp : Lay.rep w (Lt w.heap.size) p [v]) (hf : Lay.rep w (Lt w.heap.size) s.frames [u]) (he : Lay.rep w (Lt w.heap.size) s.events [e]) (ha : Lay.rep w (Lt w.heap.size) s.answers [a])
    (hl : s.frames.length ≤ 8) (hla : s.answers.length ≤ 17592186043999) (hle : s.events.length ≤ 17592186043999) (hfu : 0 ≤ s.fuel ∧ s.fuel ≤ 10000) (ok : OkP p) (own : ∀ g ∈ s.frames, ownF p g) (hi : ∀ i, I64 (f.rg i)) :
    Calls Tryd.prog 63 #[.agg #[v], .agg (staCells s u e a).toArray] w fun r w' => ∃ u' e' a', r = .returned (.agg (staCells (nextOf p s fs f) u' e' a').toArray) ∧ Hp w [⟨w, Lt w.heap.size⟩] (ownS (nextOf p s fs f) u' e' a') w' := by
  by_cases h17 : (insAt p f).op = 17
  · exact stepped_C p v s fs f hfr u e a w hp hf he ha hl hla hle hfu ok own hi h17
  by_cases h18 : (insAt p f).op = 18 ∨ (insAt p f).op = 19
  · exact stepped_B p v s fs f hfr u e a w hp hf he ha hl hla hle hfu ok own hi h18
  · exact stepped_A p v s fs f hfr u e a w hp hf he ha hl hla hle hfu ok own hi ⟨h17, fun h => h18 (.inl h), fun h => h18 (.inr h)⟩
end Go.Proofs.YtfhoffpdodjfeaaDoor
