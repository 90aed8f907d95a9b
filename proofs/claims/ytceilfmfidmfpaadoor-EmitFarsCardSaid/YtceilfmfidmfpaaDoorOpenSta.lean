/- A state that came in. -/
import Derived.Test.YtceilfmfidmfpaaDoorMgFrameHas2
import Derived.Test.YtceilfmfidmfpaaDoorMgReadsOfStateNextLawBegLawNextAnsRunLawRunLawBBegRun8
set_option linter.unusedSimpArgs false
set_option linter.unusedVariables false
namespace Go.Proofs.YtceilfmfidmfpaaDoor
open Go.RowKit Go.WideShapes Go.ChangeShapes
theorem ok_sta {x : Sta} (h : Lay.ok x) : x.frames.length ≤ 1256584717421 ∧ x.events.length ≤ 17592186044000 ∧ x.answers.length ≤ 17592186044000 := by
  obtain ⟨_, _, h1, _, _, h2, h3⟩ := h
  have e1 := h1.1
  have e2 := h2.1
  have e3 := h3.1
  have b1 : Lay.bytes Frm = 112 := rfl
  have b2 : Lay.bytes Int = 8 := rfl
  simp only [b1, b2] at e1 e2 e3
  exact ⟨by omega, by omega, by omega⟩
section
variable {H : Type} {enc : TypeId × Value → H} {P : Program}
theorem open_sta0 {t : TypeId} {fs : Array Field} (hu : P.underlying t = some (.struct fs)) (hf : Opens P t Sta)
    {W : World} {v : Value} {d : DataW H} {p : List MemPlace} {r : Reach} {b : Nat} (hv : Value.okWide P W r b t v) (h : DataW.Trod enc P W 0 (fun _ => true) true t v d p) (hw : ∀ m, m ∈ d.weights P t → m ≤ reachBytes) :
    ∃ (s : Sta) (u e a : Value), v = .agg (staCells s u e a).toArray ∧ Lay.rep W (Lt W.heap.size) s.frames [u] ∧ Lay.rep W (Lt W.heap.size) s.events [e] ∧ Lay.rep W (Lt W.heap.size) s.answers [a] ∧ Lay.ok s := by
  obtain ⟨cs, rfl, hsz⟩ := okWide_struct hu hv
  obtain ⟨s, h1, h2⟩ := open_arg hf h hw
  obtain ⟨u, e, a, hcs, h3, h4, h5⟩ := rep_sta.1 h1
  obtain ⟨l⟩ := cs
  simp only [Value.cells] at hcs
  subst hcs
  exact ⟨s, u, e, a, rfl, h3, h4, h5, h2⟩
end
end Go.Proofs.YtceilfmfidmfpaaDoor
