/- The program's types stand for our data. -/
import Derived.Test.YtfhoffpdodjfeaaDoorRows
import Derived.Test.YtfhoffpdodjfeaaDoorOpen
set_option linter.unusedSimpArgs false
set_option linter.unusedVariables false
namespace Go.Proofs.YtfhoffpdodjfeaaDoor
open Go.RowKit

theorem opensInt : Opens Tryd.prog 3 Int := opens_int Tryd.underlying3
theorem opensBool : Opens Tryd.prog 4 Bool := opens_bool Tryd.underlying4
theorem opensIns : Opens Tryd.prog 85 Ins :=
  opens_via _ (fun y => ⟨y.1, y.2.1, y.2.2.1, y.2.2.2.1, y.2.2.2.2⟩) (fun _ => rfl) (opens_struct Tryd.underlying85 (by kernel_rfl) (by decide)
    (fields_cons rfl (by kernel_rfl) opensInt (fields_cons rfl (by kernel_rfl) opensInt (fields_cons rfl (by kernel_rfl) opensInt (fields_cons rfl (by kernel_rfl) opensInt (fields_one rfl (by kernel_rfl) opensInt))))))
theorem opensFun : Opens Tryd.prog 72 Fun :=
  opens_via _ (fun y => ⟨y.1, y.2.1, y.2.2⟩) (fun _ => rfl) (opens_struct Tryd.underlying72 (by kernel_rfl) (by decide)
    (fields_cons rfl (by kernel_rfl) opensInt (fields_cons rfl (by kernel_rfl) opensInt (fields_one rfl (by kernel_rfl) (opens_slice (α := Ins) Tryd.underlying70 (by kernel_rfl) (by kernel_rfl) (by decide) opensIns)))))
theorem opensFuns : Opens Tryd.prog 22 (List Fun) := opens_slice (α := Fun) Tryd.underlying22 (by kernel_rfl) (by kernel_rfl) (by decide) opensFun
theorem opensInts : Opens Tryd.prog 25 (List Int) := opens_slice (α := Int) Tryd.underlying25 (by kernel_rfl) (by kernel_rfl) (by decide) opensInt
theorem opensRvi : Opens Tryd.prog 102 Rvi :=
  opens_via _ (fun y => ⟨y.1, y.2.1, y.2.2.1, y.2.2.2.1, y.2.2.2.2⟩) (fun _ => rfl) (opens_struct Tryd.underlying102 (by kernel_rfl) (by decide)
    (fields_cons rfl (by kernel_rfl) opensInt (fields_cons rfl (by kernel_rfl) opensInt (fields_cons rfl (by kernel_rfl) opensInt (fields_cons rfl (by kernel_rfl) opensInt (fields_one rfl (by kernel_rfl) opensInt))))))
theorem opensFrm : Opens Tryd.prog 75 Frm :=
  opens_via _ (fun y => ⟨y.1, y.2.1, y.2.2⟩) (fun _ => rfl) (opens_struct Tryd.underlying75 (by kernel_rfl) (by decide)
    (fields_cons rfl (by kernel_rfl) opensInt (fields_cons rfl (by kernel_rfl) opensInt (fields_one rfl (by kernel_rfl) (opens_vec (α := Int) Tryd.underlying73 (by kernel_rfl) (by kernel_rfl) opensInt)))))
theorem opensSta : Opens Tryd.prog 29 Sta :=
  opens_via _ (fun y => ⟨y.1, y.2.1, y.2.2.1, y.2.2.2.1, y.2.2.2.2.1, y.2.2.2.2.2.1, y.2.2.2.2.2.2⟩) (fun _ => rfl) (opens_struct Tryd.underlying29 (by kernel_rfl) (by decide)
    (fields_cons rfl (by kernel_rfl) opensInt (fields_cons rfl (by kernel_rfl) opensInt (fields_cons rfl (by kernel_rfl) (opens_slice (α := Frm) Tryd.underlying26 (by kernel_rfl) (by kernel_rfl) (by decide) opensFrm)
    (fields_cons rfl (by kernel_rfl) (opens_vec (α := Int) Tryd.underlying27 (by kernel_rfl) (by kernel_rfl) opensInt) (fields_cons rfl (by kernel_rfl) opensInt (fields_cons rfl (by kernel_rfl) opensInts (fields_one rfl (by kernel_rfl) opensInts))))))))
end Go.Proofs.YtfhoffpdodjfeaaDoor
