/- Pieces of memory put in another order, some left out. No program is named here. -/
import Derived.Test.YtpnapnmkjpolmaaDoorHp
set_option linter.unusedSimpArgs false
set_option linter.unusedVariables false
namespace Go.Proofs.YtpnapnmkjpolmaaDoor
open Go.RowKit
theorem Hp.sub {w0 w : World} {Fs : List Fro} {L L' : List Res} (h : Hp w0 Fs L w) (hs : List.Sublist L' L) : Hp w0 Fs L' w := ⟨h.below, h.fro, fun r hr => h.own r (hs.subset hr), h.apart.sublist hs⟩
theorem Hp.pull {w0 w : World} {Fs : List Fro} {A B : List Res} {r : Res} (h : Hp w0 Fs (A ++ r :: B) w) : Hp w0 Fs (r :: (A ++ B)) w := h.perm List.perm_middle
theorem Hp.froSub {w0 w : World} {Fs Fs' : List Fro} {L : List Res} (h : Hp w0 Fs L w) (hs : ∀ F ∈ Fs', F ∈ Fs) : Hp w0 Fs' L w :=
  ⟨h.below, fun F hF => h.fro F (hs F hF), fun r hr => ⟨(h.own r hr).1, fun b hb => ⟨((h.own r hr).2 b hb).1, ((h.own r hr).2 b hb).2.1, fun F hF => ((h.own r hr).2 b hb).2.2 F (hs F hF)⟩⟩, h.apart⟩
end Go.Proofs.YtpnapnmkjpolmaaDoor
