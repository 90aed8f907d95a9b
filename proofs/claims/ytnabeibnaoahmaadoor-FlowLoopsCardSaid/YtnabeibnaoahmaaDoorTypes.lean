/- The program's types stand for our data. -/
import Derived.Test.YtnabeibnaoahmaaDoorRows
import Derived.Test.YtnabeibnaoahmaaDoorOpen
set_option linter.unusedSimpArgs false
set_option linter.unusedVariables false
namespace Go.Proofs.YtnabeibnaoahmaaDoor
open Go.RowKit

theorem opensInt : Opens Tryd.prog 3 Int := opens_int Tryd.underlying3
theorem opensBool : Opens Tryd.prog 4 Bool := opens_bool Tryd.underlying4
theorem opensIns : Opens Tryd.prog 65 Ins :=
  opens_via _ (fun y => ⟨y.1, y.2.1, y.2.2.1, y.2.2.2.1, y.2.2.2.2⟩) (fun _ => rfl) (opens_struct Tryd.underlying65 (by kernel_rfl) (by decide)
    (fields_cons rfl (by kernel_rfl) opensInt (fields_cons rfl (by kernel_rfl) opensInt (fields_cons rfl (by kernel_rfl) opensInt (fields_cons rfl (by kernel_rfl) opensInt (fields_one rfl (by kernel_rfl) opensInt))))))
theorem opensFun : Opens Tryd.prog 57 Fun :=
  opens_via _ (fun y => ⟨y.1, y.2.1, y.2.2⟩) (fun _ => rfl) (opens_struct Tryd.underlying57 (by kernel_rfl) (by decide)
    (fields_cons rfl (by kernel_rfl) opensInt (fields_cons rfl (by kernel_rfl) opensInt (fields_one rfl (by kernel_rfl) (opens_slice (α := Ins) Tryd.underlying55 (by kernel_rfl) (by kernel_rfl) (by decide) opensIns)))))
theorem opensFuns : Opens Tryd.prog 22 (List Fun) := opens_slice (α := Fun) Tryd.underlying22 (by kernel_rfl) (by kernel_rfl) (by decide) opensFun
theorem opensInts : Opens Tryd.prog 25 (List Int) := opens_slice (α := Int) Tryd.underlying25 (by kernel_rfl) (by kernel_rfl) (by decide) opensInt
theorem opensFrm : Opens Tryd.prog 77 Frm :=
  opens_via _ (fun y => ⟨y.1, y.2.1, y.2.2⟩) (fun _ => rfl) (opens_struct Tryd.underlying77 (by kernel_rfl) (by decide)
    (fields_cons rfl (by kernel_rfl) opensInt (fields_cons rfl (by kernel_rfl) opensInt (fields_one rfl (by kernel_rfl) (opens_vec (α := Int) Tryd.underlying75 (by kernel_rfl) (by kernel_rfl) opensInt)))))
theorem opensSta : Opens Tryd.prog 40 Sta :=
  opens_via _ (fun y => ⟨y.1, y.2.1, y.2.2.1, y.2.2.2.1, y.2.2.2.2.1, y.2.2.2.2.2.1, y.2.2.2.2.2.2⟩) (fun _ => rfl) (opens_struct Tryd.underlying40 (by kernel_rfl) (by decide)
    (fields_cons rfl (by kernel_rfl) opensInt (fields_cons rfl (by kernel_rfl) opensInt (fields_cons rfl (by kernel_rfl) (opens_slice (α := Frm) Tryd.underlying37 (by kernel_rfl) (by kernel_rfl) (by decide) opensFrm)
    (fields_cons rfl (by kernel_rfl) (opens_vec (α := Int) Tryd.underlying38 (by kernel_rfl) (by kernel_rfl) opensInt) (fields_cons rfl (by kernel_rfl) opensInt (fields_cons rfl (by kernel_rfl) opensInts (fields_one rfl (by kernel_rfl) opensInts))))))))
end Go.Proofs.YtnabeibnaoahmaaDoor
