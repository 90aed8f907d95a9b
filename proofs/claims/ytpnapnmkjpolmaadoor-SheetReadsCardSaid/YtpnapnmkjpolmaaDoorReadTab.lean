/- What the row SheetReads lists of the library's variables, and a world that holds it. -/
import Derived.Test.YtpnapnmkjpolmaaDoorSheetReads
import Derived.Stop.LaidErr
import Derived.Shelf.Vars
set_option linter.unusedSimpArgs false
set_option linter.unusedVariables false
namespace Go.Proofs.YtpnapnmkjpolmaaDoor
open Go.RowKit
theorem star_err : "*" ++ "errors.errorString" = "*errors.errorString" := by decide
theorem row_err (u : TypeId) (h : Tryd.prog.typeName? 3 u = some "*errors.errorString") : u = 109 :=
  typeName_ptr_named (nm := "errors.errorString") (by rw [star_err]; kernel_rfl) (by kernel_rfl) (by decide) u (by rw [star_err]; exact h)
theorem ato_of {W : World} {r : List (String × DataW Unit)} (h : laidMet Tryd.prog (("strconv.ErrRange", Rows.laid_strconv_ErrRange) :: ("strconv.ErrSyntax", Rows.laid_strconv_ErrSyntax) :: r) W) : AtoiW W := by
  obtain ⟨a0, s0, hv0, -, -, -⟩ := laid_sentinel h (g := 3) (by kernel_rfl) (by kernel_rfl) Tryd.underlying43 row_err Tryd.underlying109 Tryd.underlying111 rfl rfl Tryd.underlying9 (by kernel_rfl) (by kernel_rfl)
  obtain ⟨a1, s1, hv1, -, -, -⟩ := laid_sentinel h.tail (g := 2) (by kernel_rfl) (by kernel_rfl) Tryd.underlying43 row_err Tryd.underlying109 Tryd.underlying111 rfl rfl Tryd.underlying9 (by kernel_rfl) (by kernel_rfl)
  exact ⟨⟨_, _, hv1⟩, _, _, hv0⟩
theorem readTabs {W : World} (hsh : W.ShapedOpen Tryd.prog) (h : laidMet Tryd.prog Rows.sheetReadsRow.laid W) : ReadTabs W := by
  have h1 := h.tail.tail
  have h2 := h1.tail.tail
  have h3 := h2.tail.tail
  have h4 := h3.tail
  obtain ⟨p1, k1, _, _⟩ := h1
  obtain ⟨p3, k3, _, _⟩ := h3
  obtain ⟨p4, k4, _, _⟩ := h4
  exact ⟨has_of k3, pow_of k1, words_of k4, ato_of h2, cell_of_shapedOpen_int (t := 3) (zero := #[.int .i64 0]) hsh (of_decide_eq_true (by kernel_rfl)) (by kernel_rfl) rfl (by kernel_rfl) (by kernel_rfl) Tryd.underlying3⟩
def litsOf2 (d : DataW Unit) : List Value :=
  match d with
  | .agg l => l.flatMap litsOf
  | _ => []
/-- A world with the tables laid. -/
noncomputable def readWorld (os : Os) : World :=
  let N := (World.settled Tryd.prog os).heap.size
  let w0 := World.holding Tryd.prog os ⟨#[.cells #[.string ⟨#[118, 97, 108, 117, 101, 32, 111, 117, 116, 32, 111, 102, 32, 114, 97, 110, 103, 101]⟩] 111, .cells #[.string ⟨#[105, 110, 118, 97, 108, 105, 100, 32, 115, 121, 110, 116, 97, 120]⟩] 111], #[], []⟩
  let h1 := w0.heap.modify 8 (laidIn (litsOf Rows.laid_math_bits_deBruijn32tab))
  let h2 := h1.modify 9 (laidIn (litsOf Rows.laid_math_bits_deBruijn64tab))
  let h3 := h2.modify 5 (laidIn (litsOf Rows.laid_internal_strconv_uint64pow10))
  let h4 := h3.modify 7 (laidIn (litsOf2 Rows.laid_unicode_utf8_acceptRanges))
  let h5 := h4.modify 3 (laidIn [.iface 109 (.pointer (some ⟨N, 0, none⟩))])
  let h6 := h5.modify 2 (laidIn [.iface 109 (.pointer (some ⟨N + 1, 0, none⟩))])
  let h7 := h6.modify 1 (laidIn (litsOf Rows.laid_tierline_code_has))
  let h8 := h7.modify 0 (laidIn (litsOf Rows.laid_tierline_sheet_words))
  let h9 := h8.modify 6 (laidIn (litsOf Rows.laid_unicode_utf8_first))
  { w0 with heap := h9 }
end Go.Proofs.YtpnapnmkjpolmaaDoor
