/- Numbers that came in. -/
import Derived.Test.YtpnapnmkjpolmaaDoorFrame
set_option linter.unusedSimpArgs false
set_option linter.unusedVariables false
namespace Go.Proofs.YtpnapnmkjpolmaaDoor
open Go.RowKit Go.WideShapes Go.ChangeShapes
theorem open_slice0 {H : Type} {enc : TypeId × Value → H} {P : Program} {α : Type} [Lay α] {t e : TypeId} (hu : P.underlying t = some (.slice e)) (hf : Opens P t (List α))
    {W : World} {v : Value} {d : DataW H} {p : List MemPlace} {r : Reach} {b : Nat} (hv : Value.okWide P W r b t v) (h : DataW.Trod enc P W 0 (fun _ => true) true t v d p) (hw : ∀ m, m ∈ d.weights P t → m ≤ reachBytes) :
    ∃ (xs : List α), Lay.rep W (Lt W.heap.size) xs [v] ∧ Lay.ok xs := by
  obtain ⟨a, n, c, rfl⟩ := okWide_slice hu hv
  obtain ⟨xs, h1, h2⟩ := open_arg hf h hw
  exact ⟨xs, h1, h2⟩
end Go.Proofs.YtpnapnmkjpolmaaDoor
