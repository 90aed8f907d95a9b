/- The program's types stand for our data. -/
import Derived.Test.YtpnapnmkjpolmaaDoorRows
import Derived.Test.YtpnapnmkjpolmaaDoorOpen
set_option linter.unusedSimpArgs false
set_option linter.unusedVariables false
namespace Go.Proofs.YtpnapnmkjpolmaaDoor
open Go.RowKit

theorem opensInt : Opens Tryd.prog 3 Int := opens_int Tryd.underlying3
theorem opensBool : Opens Tryd.prog 4 Bool := opens_bool Tryd.underlying4
theorem opensIns : Opens Tryd.prog 48 Ins :=
  opens_via _ (fun y => ⟨y.1, y.2.1, y.2.2.1, y.2.2.2.1, y.2.2.2.2⟩) (fun _ => rfl) (opens_struct Tryd.underlying48 (by kernel_rfl) (by decide)
    (fields_cons rfl (by kernel_rfl) opensInt (fields_cons rfl (by kernel_rfl) opensInt (fields_cons rfl (by kernel_rfl) opensInt (fields_cons rfl (by kernel_rfl) opensInt (fields_one rfl (by kernel_rfl) opensInt))))))
theorem opensFun : Opens Tryd.prog 36 Fun :=
  opens_via _ (fun y => ⟨y.1, y.2.1, y.2.2⟩) (fun _ => rfl) (opens_struct Tryd.underlying36 (by kernel_rfl) (by decide)
    (fields_cons rfl (by kernel_rfl) opensInt (fields_cons rfl (by kernel_rfl) opensInt (fields_one rfl (by kernel_rfl) (opens_slice (α := Ins) Tryd.underlying34 (by kernel_rfl) (by kernel_rfl) (by decide) opensIns)))))
theorem opensFuns : Opens Tryd.prog 22 (List Fun) := opens_slice (α := Fun) Tryd.underlying22 (by kernel_rfl) (by kernel_rfl) (by decide) opensFun
end Go.Proofs.YtpnapnmkjpolmaaDoor
