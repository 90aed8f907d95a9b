/- The tables rv.forms, rv.fields: from the row's listed variables to their cells. -/
import Derived.Test.YtohindaklpdeeaaDoorFrame
import Derived.Test.YtohindaklpdeeaaDoorCodeA
set_option linter.unusedSimpArgs false
set_option linter.unusedVariables false
namespace Go.Proofs.YtohindaklpdeeaaDoor
open Go.RowKit Go.WideShapes Go.ChangeShapes
structure FormZ where
  shape : Int
  code : Int
  f3 : Int
  f7 : Int
  deriving DecidableEq, Inhabited
instance layForm : Lay FormZ := Lay.via fun x => (x.shape, x.code, x.f3, x.f7)
theorem rep_form {w : World} {B : Nat → Prop} {cs : List Value} {x : FormZ} : Lay.rep w B x cs ↔ cs = [.int .i64 x.shape, .int .i64 x.code, .int .i64 x.f3, .int .i64 x.f7] := by
  constructor
  · rintro ⟨_, _, rfl, rfl, _, _, rfl, rfl, _, _, rfl, rfl, rfl⟩; rfl
  · rintro rfl; exact ⟨_, _, rfl, rfl, _, _, rfl, rfl, _, _, rfl, rfl, rfl⟩
theorem opensForm : Opens Tryd.prog 51 FormZ :=
  opens_via _ (fun y => ⟨y.1, y.2.1, y.2.2.1, y.2.2.2⟩) (fun _ => rfl) (opens_struct Tryd.underlying51 (by kernel_rfl) (by decide)
    (fields_cons rfl (by kernel_rfl) opensInt (fields_cons rfl (by kernel_rfl) opensInt (fields_cons rfl (by kernel_rfl) opensInt (fields_one rfl (by kernel_rfl) opensInt)))))
/-- rv.forms, as it is laid. -/
def formsL : List FormZ := [⟨0, 0, 0, 0⟩, ⟨0, 51, 0, 0⟩, ⟨0, 51, 0, 32⟩, ⟨0, 51, 0, 1⟩, ⟨0, 51, 4, 1⟩, ⟨0, 51, 7, 0⟩, ⟨0, 51, 6, 0⟩, ⟨0, 51, 4, 0⟩, ⟨0, 51, 1, 0⟩, ⟨0, 51, 5, 32⟩, ⟨0, 51, 2, 0⟩, ⟨0, 51, 3, 0⟩, ⟨1, 19, 0, 0⟩, ⟨1, 19, 7, 0⟩, ⟨1, 19, 6, 0⟩, ⟨1, 19, 4, 0⟩,
  ⟨1, 19, 2, 0⟩, ⟨1, 19, 3, 0⟩, ⟨2, 19, 1, 0⟩, ⟨2, 19, 5, 16⟩, ⟨1, 3, 3, 0⟩, ⟨3, 35, 3, 0⟩, ⟨4, 99, 0, 0⟩, ⟨4, 99, 1, 0⟩, ⟨4, 99, 4, 0⟩, ⟨4, 99, 5, 0⟩, ⟨5, 111, 0, 0⟩, ⟨1, 103, 0, 0⟩, ⟨6, 55, 0, 0⟩, ⟨7, 115, 0, 0⟩]
/-- rv.fields, as it is laid. -/
def fieldsL : List (List Bool) := [[true, true, true], [true, true, false], [true, true, false], [false, true, true], [false, true, true], [true, false, false], [true, false, false], [false, false, false]]
structure RvTabs (w : World) : Prop where
  forms : ∀ k, k < 30 → At w ⟨0, k * 4, none⟩ [.int .i64 (formsL.getD k default).shape, .int .i64 (formsL.getD k default).code, .int .i64 (formsL.getD k default).f3, .int .i64 (formsL.getD k default).f7]
  fields : ∀ k i, k < 8 → i < 3 → w.cell? ⟨1, k * 3 + i, none⟩ = some (.bool ((fieldsL.getD k []).getD i false))
theorem RvTabs.keep {w w' : World} {B : Nat} (h : RvTabs w) (hb : Below B w w') (hB : B = w.heap.size) : RvTabs w' := by
  have key : ∀ p v, w.cell? p = some v → w'.cell? p = some v := fun p v hp => by
    rw [hb.cell (by rw [hB]; exact World.block_lt_of_cell? w _ hp)]; exact hp
  exact ⟨fun k hk j v hv => key _ _ (h.forms k hk j v hv), fun k i hk hi => key _ _ (h.fields k i hk hi)⟩
end Go.Proofs.YtohindaklpdeeaaDoor
