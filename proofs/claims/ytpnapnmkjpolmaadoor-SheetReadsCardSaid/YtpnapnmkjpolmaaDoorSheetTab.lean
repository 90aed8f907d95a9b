/- The row's listed variables of the texts: their cells; a world that holds them. -/
import Derived.Test.YtpnapnmkjpolmaaDoorSheetA
import Derived.Test.YtpnapnmkjpolmaaDoorFrame
import Derived.Lib.LaidTab
set_option linter.unusedSimpArgs false
set_option linter.unusedVariables false
namespace Go.Proofs.YtpnapnmkjpolmaaDoor
open Go.RowKit Go.WideShapes Go.ChangeShapes
/-- A string. -/
instance layStr : Lay ByteArray where
  size := 1
  bytes := 16
  rep _ _ s cs := cs = [.string s]
  len h := by subst h; rfl
  keep _ h := h
  more _ h := h
  ok s := s.size ≤ maxLen
  dat s d := d = .lit (.string s.data.toList)
theorem opens_str {P : Program} {t : TypeId} (hu : P.underlying t = some .string) : Opens P t ByteArray := by
  constructor
  intro H enc w spare held n cs x h _
  obtain ⟨s, rfl, rfl, hs⟩ := DataW.trod_string hu h
  exact ⟨s, rfl, hs, rfl⟩
theorem laid_skip {P : Program} {W : World} {x : String × DataW Unit} {rest : List (String × DataW Unit)} {ps : List MemPlace} (h : DataW.LaidVars P W (x :: rest) ps) : ∃ qs, DataW.LaidVars P W rest qs := by
  obtain ⟨g', t', cs, fuel, p, q, hg', ht', hvar, hd, hr, _⟩ := h
  exact ⟨q, hr⟩
theorem laid_tab {P : Program} {W : World} {name : String} {k : IntKind} {zs : List Int} {rest : List (String × DataW Unit)} {ps : List MemPlace} {g : Nat} {t e : TypeId} {n : Nat}
    (hg : P.globalNamed name = some g) (hty : (P.globals[g]?).map (·.type) = some t) (ht : P.underlying t = some (.array n e)) (he : P.underlying e = some (.int k)) (hce : P.cellsOf e = 1) (hct : P.cellsOf t = n)
    (h : DataW.LaidVars P W ((name, Lib.tabData k zs) :: rest) ps) : Lib.TabIs P W name k zs := by
  obtain ⟨g', t', cs, fuel, p, q, hg', ht', hvar, hd, hr, _⟩ := h
  obtain rfl := Option.some.inj (hg.symm.trans hg')
  obtain rfl := Option.some.inj (hty.symm.trans ht')
  unfold Lib.TabIs
  rw [hvar, ← Lib.cells_of_tab ht he hce hct hd]
theorem laidVars_all {α : Type} [Lay α] {P : Program} {W : World} {name : String} {D : DataW Unit} {rest : List (String × DataW Unit)} {g : Nat} {t : TypeId} {ps : List MemPlace}
    (hg : P.globalNamed name = some g) (hty : (P.globals[g]?).map (·.type) = some t) (ho : Opens P t α) (hw : (D.weights P t).all (fun m => decide (m ≤ reachBytes)) = true) (h : DataW.LaidVars P W ((name, D) :: rest) ps) :
    ∃ (a : α) (cs : List Value), Lay.rep W (Lt W.heap.size) a cs ∧ Lay.dat a D ∧ At W ⟨g, 0, none⟩ cs := by
  obtain ⟨g', t', cs, fuel, p, q, hg', ht', hvar, hd, hr, _⟩ := h
  obtain rfl := Option.some.inj (hg.symm.trans hg')
  obtain rfl := Option.some.inj (hty.symm.trans ht')
  obtain ⟨a, h1, h2, h3⟩ := ho.out _ _ _ _ _ _ _ hd (fun m hm => by simpa using List.all_eq_true.1 hw m hm)
  exact ⟨a, cs.toList, h1, h3, fun j v hv => by rw [Addr.add_lit, Nat.zero_add, World.var?_cell hg hvar]; simpa using hv⟩
def wordsD : DataW Unit := .agg (wordsT.map fun l => .lit (.string l))
theorem words_of {W : World} {rest : List (String × DataW Unit)} {ps : List MemPlace} (h : DataW.LaidVars Tryd.prog W (("tierline/sheet.words", Rows.laid_tierline_sheet_words) :: rest) ps) : Wds W := by
  obtain ⟨a, cs, h1, h2, h3⟩ := laidVars_all (α := Vector ByteArray 20) (g := 0) (t := 67) (by kernel_rfl) (by kernel_rfl) (opens_vec (α := ByteArray) Tryd.underlying67 (by kernel_rfl) (by kernel_rfl) (opens_str Tryd.underlying9)) (by kernel_rfl) h
  intro k hk
  obtain ⟨es, he, hl, hd⟩ := h2
  have hes : es = wordsT.map fun l => .lit (.string l) := by
    have : (Rows.laid_tierline_sheet_words : DataW Unit) = .agg (wordsT.map fun l => .lit (.string l)) := rfl
    rw [this] at he
    injection he with he
    exact he.symm
  obtain ⟨l, hl0⟩ : ∃ l, wordsT[k]? = some l := ⟨_, List.getElem?_eq_getElem (show k < wordsT.length from hk)⟩
  have hx := hd k hk (.lit (.string l)) (by rw [hes, List.getElem?_map, hl0]; rfl)
  have hx2 : a[k] = bstr l := by
    injection hx with hx
    injection hx with hx
    apply ByteArray.ext
    apply Array.toList_inj.1
    rw [← hx, bstr_data]
  have hr := h1.2 k hk
  have hr2 : (cs.drop (k * 1)).take 1 = [.string (bstr l)] := by rw [← hx2]; exact hr
  have hc : cs[k]? = some (.string (bstr l)) := by
    have := congrArg (·[0]?) hr2
    simpa [List.getElem?_take, List.getElem?_drop] using this
  have := h3 k _ hc
  rw [Addr.add_lit, Nat.zero_add] at this
  rw [this, List.getD_eq_getElem?_getD, hl0]
  rfl
/-- What the texts' functions read. -/
structure SheetTabs (W : World) : Prop where
  has : Has W
  pow : Pow W
  wds : Wds W
theorem has_of {W : World} {rest : List (String × DataW Unit)} {ps : List MemPlace} (h : DataW.LaidVars Tryd.prog W (("tierline/code.has", Rows.laid_tierline_code_has) :: rest) ps) : Has W := by
  obtain ⟨⟨a, cs, h1, h2, h3⟩, _⟩ := laidVars_at (α := Vector Int 20) (g := 1) (t := 77) (by kernel_rfl) (by kernel_rfl) (opens_vec (α := Int) Tryd.underlying77 (by kernel_rfl) (by kernel_rfl) opensInt) (by kernel_rfl) h
  have hl : a.toList = hasL := dat_ints (l := hasL) h2
  rw [rep_vec_int, hl] at h1
  subst h1
  intro k hk
  have := h3 k (.int .i64 (hasL.getD k 0)) (by rw [List.getElem?_map, List.getD_eq_getElem?_getD, List.getElem?_eq_getElem (show k < hasL.length from hk)]; rfl)
  rwa [Addr.add_lit, Nat.zero_add] at this
theorem pow_of {W : World} {rest : List (String × DataW Unit)} {ps : List MemPlace} (h : DataW.LaidVars Tryd.prog W (("internal/strconv.uint64pow10", Rows.laid_internal_strconv_uint64pow10) :: rest) ps) : Pow W :=
  laid_tab (g := 5) (t := 113) (e := 94) (n := 20) (by kernel_rfl) (by kernel_rfl) Tryd.underlying113 Tryd.underlying94 (by kernel_rfl) (by kernel_rfl) (show DataW.LaidVars Tryd.prog W (("internal/strconv.uint64pow10", Lib.tabData .u64 Lib.pow10Tab) :: rest) ps from h)
theorem sheetTabs {W : World} (h : laidMet Tryd.prog [("math/bits.deBruijn32tab", Rows.laid_math_bits_deBruijn32tab), ("math/bits.deBruijn64tab", Rows.laid_math_bits_deBruijn64tab), ("internal/strconv.uint64pow10", Rows.laid_internal_strconv_uint64pow10), ("tierline/code.has", Rows.laid_tierline_code_has), ("tierline/sheet.words", Rows.laid_tierline_sheet_words)] W) : SheetTabs W := by
  obtain ⟨ps, h, _, _⟩ := h
  obtain ⟨_, h⟩ := laid_skip h
  obtain ⟨_, h⟩ := laid_skip h
  have h1 := pow_of h
  obtain ⟨_, h⟩ := laid_skip h
  have h2 := has_of h
  obtain ⟨_, h⟩ := laid_skip h
  exact ⟨h2, h1, words_of h⟩
def laidIn (l : List Value) (o : Obj) : Obj :=
  match o with
  | .cells _ t frozen => .cells l.toArray t frozen
  | o => o
def litsOf (d : DataW Unit) : List Value :=
  match d with
  | .agg l => l.filterMap fun
    | .lit (.int k n) => some (.int k n)
    | .lit (.string b) => some (.string ⟨b.toArray⟩)
    | _ => none
  | _ => []
/-- A world with the tables laid. -/
noncomputable def sheetWorld (os : Os) : World :=
  { World.holding Tryd.prog os ⟨#[], #[], []⟩ with heap := (((((World.holding Tryd.prog os ⟨#[], #[], []⟩).heap.modify 8 (laidIn (litsOf Rows.laid_math_bits_deBruijn32tab))).modify 9 (laidIn (litsOf Rows.laid_math_bits_deBruijn64tab))).modify 5 (laidIn (litsOf Rows.laid_internal_strconv_uint64pow10))).modify 1 (laidIn (litsOf Rows.laid_tierline_code_has))).modify 0 (laidIn (litsOf Rows.laid_tierline_sheet_words)) }
end Go.Proofs.YtpnapnmkjpolmaaDoor
