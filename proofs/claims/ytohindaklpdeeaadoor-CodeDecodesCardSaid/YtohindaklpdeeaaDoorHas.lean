/- The table code.has: from the row's listed variable to its cells; a world that holds it. -/
import Derived.Test.YtohindaklpdeeaaDoorCodeA
import Derived.Test.YtohindaklpdeeaaDoorFrame
set_option linter.unusedSimpArgs false
set_option linter.unusedVariables false
namespace Go.Proofs.YtohindaklpdeeaaDoor
open Go.RowKit
theorem hasVec {l : List (String × DataW Unit)} {W : World} (h : laidMet Tryd.prog (("tierline/code.has", Rows.laid_tierline_code_has) :: l) W) : Has W := by
  obtain ⟨a, cs, h1, h2, h3⟩ := laid_at (α := Vector Int 20) rfl (g := 2) (t := 70) (by kernel_rfl) (by kernel_rfl) (opens_vec (α := Int) Tryd.underlying70 (by kernel_rfl) (by kernel_rfl) opensInt) (by kernel_rfl) h
  have hl : a.toList = hasL := dat_ints (l := hasL) h2
  rw [rep_vec_int, hl] at h1
  subst h1
  intro k hk
  have := h3 k (.int .i64 (hasL.getD k 0)) (by rw [List.getElem?_map, List.getD_eq_getElem?_getD, List.getElem?_eq_getElem (show k < hasL.length from hk)]; rfl)
  rwa [Addr.add_lit, Nat.zero_add] at this
/-- A world with the table laid. -/
noncomputable def hasWorld (os : Os) : World :=
  { World.holding Tryd.prog os ⟨#[], #[], []⟩ with heap := (World.holding Tryd.prog os ⟨#[], #[], []⟩).heap.modify 2 fun
      | .cells _ t frozen => .cells (hasL.map (Value.int .i64)).toArray t frozen
      | o => o }
end Go.Proofs.YtohindaklpdeeaaDoor
