/- One more, wrapped. -/
import Derived.Test.YtpgakmopkgbahaaDoorStateLaw
set_option linter.unusedSimpArgs false
set_option linter.unusedVariables false
namespace Go.Proofs.YtpgakmopkgbahaaDoor
open Go.RowKit
theorem wrap64_succ (k k1 : Nat) (h : k + 1 = k1) (hk : k ≤ 1000) : wrap64 ((k : Int) + 1) = (k1 : Int) := by
  subst h
  exact IntWalk.wrap64_in _ ⟨by omega, by omega⟩
theorem wrapI_succ (k k1 : Nat) (h : k + 1 = k1) (hk : k ≤ 1000) : IntKind.i64.wrap ((k : Int) + 1) = (k1 : Int) := by
  rw [IntWalk.i64_left]
  exact wrap64_succ k k1 h hk
end Go.Proofs.YtpgakmopkgbahaaDoor
