/- The program's types stand for our data. -/
import Derived.Test.YtohindaklpdeeaaDoorRows
import Derived.Test.YtohindaklpdeeaaDoorOpen
set_option linter.unusedSimpArgs false
set_option linter.unusedVariables false
namespace Go.Proofs.YtohindaklpdeeaaDoor
open Go.RowKit

theorem opensInt : Opens Tryd.prog 3 Int := opens_int Tryd.underlying3
theorem opensBool : Opens Tryd.prog 4 Bool := opens_bool Tryd.underlying4
theorem opensIns : Opens Tryd.prog 46 Ins :=
  opens_via _ (fun y => ⟨y.1, y.2.1, y.2.2.1, y.2.2.2.1, y.2.2.2.2⟩) (fun _ => rfl) (opens_struct Tryd.underlying46 (by kernel_rfl) (by decide)
    (fields_cons rfl (by kernel_rfl) opensInt (fields_cons rfl (by kernel_rfl) opensInt (fields_cons rfl (by kernel_rfl) opensInt (fields_cons rfl (by kernel_rfl) opensInt (fields_one rfl (by kernel_rfl) opensInt))))))
theorem opensFun : Opens Tryd.prog 44 Fun :=
  opens_via _ (fun y => ⟨y.1, y.2.1, y.2.2⟩) (fun _ => rfl) (opens_struct Tryd.underlying44 (by kernel_rfl) (by decide)
    (fields_cons rfl (by kernel_rfl) opensInt (fields_cons rfl (by kernel_rfl) opensInt (fields_one rfl (by kernel_rfl) (opens_slice (α := Ins) Tryd.underlying42 (by kernel_rfl) (by kernel_rfl) (by decide) opensIns)))))
theorem opensFuns : Opens Tryd.prog 24 (List Fun) := opens_slice (α := Fun) Tryd.underlying24 (by kernel_rfl) (by kernel_rfl) (by decide) opensFun
theorem opensInts : Opens Tryd.prog 63 (List Int) := opens_slice (α := Int) Tryd.underlying63 (by kernel_rfl) (by kernel_rfl) (by decide) opensInt
theorem opensRvi : Opens Tryd.prog 34 Rvi :=
  opens_via _ (fun y => ⟨y.1, y.2.1, y.2.2.1, y.2.2.2.1, y.2.2.2.2⟩) (fun _ => rfl) (opens_struct Tryd.underlying34 (by kernel_rfl) (by decide)
    (fields_cons rfl (by kernel_rfl) opensInt (fields_cons rfl (by kernel_rfl) opensInt (fields_cons rfl (by kernel_rfl) opensInt (fields_cons rfl (by kernel_rfl) opensInt (fields_one rfl (by kernel_rfl) opensInt))))))
end Go.Proofs.YtohindaklpdeeaaDoor
