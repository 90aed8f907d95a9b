/- The program's types stand for our data. -/
import Derived.Test.YtceilfmfidmfpaaDoorRows
import Derived.Test.YtceilfmfidmfpaaDoorOpen
set_option linter.unusedSimpArgs false
set_option linter.unusedVariables false
namespace Go.Proofs.YtceilfmfidmfpaaDoor
open Go.RowKit

theorem opensInt : Opens Tryd.prog 3 Int := opens_int Tryd.underlying3
theorem opensBool : Opens Tryd.prog 4 Bool := opens_bool Tryd.underlying4
theorem opensIns : Opens Tryd.prog 56 Ins :=
  opens_via _ (fun y => ⟨y.1, y.2.1, y.2.2.1, y.2.2.2.1, y.2.2.2.2⟩) (fun _ => rfl) (opens_struct Tryd.underlying56 (by kernel_rfl) (by decide)
    (fields_cons rfl (by kernel_rfl) opensInt (fields_cons rfl (by kernel_rfl) opensInt (fields_cons rfl (by kernel_rfl) opensInt (fields_cons rfl (by kernel_rfl) opensInt (fields_one rfl (by kernel_rfl) opensInt))))))
theorem opensFun : Opens Tryd.prog 47 Fun :=
  opens_via _ (fun y => ⟨y.1, y.2.1, y.2.2⟩) (fun _ => rfl) (opens_struct Tryd.underlying47 (by kernel_rfl) (by decide)
    (fields_cons rfl (by kernel_rfl) opensInt (fields_cons rfl (by kernel_rfl) opensInt (fields_one rfl (by kernel_rfl) (opens_slice (α := Ins) Tryd.underlying45 (by kernel_rfl) (by kernel_rfl) (by decide) opensIns)))))
theorem opensFuns : Opens Tryd.prog 22 (List Fun) := opens_slice (α := Fun) Tryd.underlying22 (by kernel_rfl) (by kernel_rfl) (by decide) opensFun
theorem opensInts : Opens Tryd.prog 27 (List Int) := opens_slice (α := Int) Tryd.underlying27 (by kernel_rfl) (by kernel_rfl) (by decide) opensInt
theorem opensFrm : Opens Tryd.prog 39 Frm :=
  opens_via _ (fun y => ⟨y.1, y.2.1, y.2.2⟩) (fun _ => rfl) (opens_struct Tryd.underlying39 (by kernel_rfl) (by decide)
    (fields_cons rfl (by kernel_rfl) opensInt (fields_cons rfl (by kernel_rfl) opensInt (fields_one rfl (by kernel_rfl) (opens_vec (α := Int) Tryd.underlying37 (by kernel_rfl) (by kernel_rfl) opensInt)))))
theorem opensSta : Opens Tryd.prog 29 Sta :=
  opens_via _ (fun y => ⟨y.1, y.2.1, y.2.2.1, y.2.2.2.1, y.2.2.2.2.1, y.2.2.2.2.2.1, y.2.2.2.2.2.2⟩) (fun _ => rfl) (opens_struct Tryd.underlying29 (by kernel_rfl) (by decide)
    (fields_cons rfl (by kernel_rfl) opensInt (fields_cons rfl (by kernel_rfl) opensInt (fields_cons rfl (by kernel_rfl) (opens_slice (α := Frm) Tryd.underlying25 (by kernel_rfl) (by kernel_rfl) (by decide) opensFrm)
    (fields_cons rfl (by kernel_rfl) (opens_vec (α := Int) Tryd.underlying26 (by kernel_rfl) (by kernel_rfl) opensInt) (fields_cons rfl (by kernel_rfl) opensInt (fields_cons rfl (by kernel_rfl) opensInts (fields_one rfl (by kernel_rfl) opensInts))))))))
end Go.Proofs.YtceilfmfidmfpaaDoor
