/- The tables rv.forms, rv.fields: from the row's listed variables to their cells. P11.1: an instruction of the machine. No program is named here. The row's listed variables rv.forms, rv.fields: their cells; a world that holds them. Numbers that came in. -/
import Derived.Test.YtfhoffpdodjfeaaDoorFrame
import Derived.Test.YtfhoffpdodjfeaaDoorCodeA
set_option linter.unusedSimpArgs false
set_option linter.unusedVariables false
namespace Go.Proofs.YtfhoffpdodjfeaaDoor
open Go.RowKit Go.WideShapes Go.ChangeShapes
structure FormZ where
  shape : Int
  code : Int
  f3 : Int
  f7 : Int
  deriving DecidableEq, Inhabited
instance layForm : Lay FormZ := Lay.via fun x => (x.shape, x.code, x.f3, x.f7)
theorem rep_form {w : World} {B : Nat → Prop} {cs : List Value} {x : FormZ} : Lay.rep w B x cs ↔ cs = [.int .i64 x.shape, .int .i64 x.code, .int .i64 x.f3, .int .i64 x.f7] := by
  constructor
  · rintro ⟨_, _, rfl, rfl, _, _, rfl, rfl, _, _, rfl, rfl, rfl⟩; rfl
  · rintro rfl; exact ⟨_, _, rfl, rfl, _, _, rfl, rfl, _, _, rfl, rfl, rfl⟩
theorem opensForm : Opens Tryd.prog 119 FormZ :=
  opens_via _ (fun y => ⟨y.1, y.2.1, y.2.2.1, y.2.2.2⟩) (fun _ => rfl) (opens_struct Tryd.underlying119 (by kernel_rfl) (by decide)
    (fields_cons rfl (by kernel_rfl) opensInt (fields_cons rfl (by kernel_rfl) opensInt (fields_cons rfl (by kernel_rfl) opensInt (fields_one rfl (by kernel_rfl) opensInt)))))
/-- rv.forms, as it is laid. -/
def formsL : List FormZ := [⟨0, 0, 0, 0⟩, ⟨0, 51, 0, 0⟩, ⟨0, 51, 0, 32⟩, ⟨0, 51, 0, 1⟩, ⟨0, 51, 4, 1⟩, ⟨0, 51, 7, 0⟩, ⟨0, 51, 6, 0⟩, ⟨0, 51, 4, 0⟩, ⟨0, 51, 1, 0⟩, ⟨0, 51, 5, 32⟩, ⟨0, 51, 2, 0⟩, ⟨0, 51, 3, 0⟩, ⟨1, 19, 0, 0⟩, ⟨1, 19, 7, 0⟩, ⟨1, 19, 6, 0⟩, ⟨1, 19, 4, 0⟩,
  ⟨1, 19, 2, 0⟩, ⟨1, 19, 3, 0⟩, ⟨2, 19, 1, 0⟩, ⟨2, 19, 5, 16⟩, ⟨1, 3, 3, 0⟩, ⟨3, 35, 3, 0⟩, ⟨4, 99, 0, 0⟩, ⟨4, 99, 1, 0⟩, ⟨4, 99, 4, 0⟩, ⟨4, 99, 5, 0⟩, ⟨5, 111, 0, 0⟩, ⟨1, 103, 0, 0⟩, ⟨6, 55, 0, 0⟩, ⟨7, 115, 0, 0⟩]
/-- rv.fields, as it is laid. -/
def fieldsL : List (List Bool) := [[true, true, true], [true, true, false], [true, true, false], [false, true, true], [false, true, true], [true, false, false], [true, false, false], [false, false, false]]
structure RvTabs (w : World) : Prop where
  forms : ∀ k, k < 30 → At w ⟨0, k * 4, none⟩ [.int .i64 (formsL.getD k default).shape, .int .i64 (formsL.getD k default).code, .int .i64 (formsL.getD k default).f3, .int .i64 (formsL.getD k default).f7]
  fields : ∀ k i, k < 8 → i < 3 → w.cell? ⟨1, k * 3 + i, none⟩ = some (.bool ((fieldsL.getD k []).getD i false))
theorem RvTabs.keep {w w' : World} {B : Nat} (h : RvTabs w) (hb : Below B w w') (hB : B = w.heap.size) : RvTabs w' := by
  have key : ∀ p v, w.cell? p = some v → w'.cell? p = some v := fun p v hp => by
    rw [hb.cell (by rw [hB]; exact World.block_lt_of_cell? w _ hp)]; exact hp
  exact ⟨fun k hk j v hv => key _ _ (h.forms k hk j v hv), fun k i hk hi => key _ _ (h.fields k i hk hi)⟩
end Go.Proofs.YtfhoffpdodjfeaaDoor
namespace Go.Proofs.YtfhoffpdodjfeaaDoor
open Go.RowKit
/-- The shape of an op. -/
def shapeZ (op : Int) : Nat := (formsL.getD op.toNat default).shape.toNat
def regZ (n : Int) (has : Bool) : Bool := decide (0 ≤ n) && decide (n ≤ if has then 31 else 0)
def fieldB (s i : Nat) : Bool := (fieldsL.getD s []).getD i false
def lowZ (s : Nat) : Int := match s with | 1 => -2048 | 3 => -2048 | 2 => 0 | 4 => -4096 | 5 => -1048576 | 6 => -524288 | _ => 0
def highZ (s : Nat) : Int := match s with | 1 => 2047 | 3 => 2047 | 2 => 63 | 4 => 4092 | 5 => 1048572 | 6 => 524287 | _ => 0
def stepZ (s : Nat) : Int := match s with | 4 => 4 | 5 => 4 | _ => 1
def immZ (s : Nat) (n : Int) : Bool := decide (lowZ s ≤ n) && decide (n ≤ highZ s) && decide (n % stepZ s = 0)
def rvFault (x : Rvi) : Int :=
  if ¬ (1 ≤ x.op ∧ x.op ≤ 29) then 3 else
  if regZ x.rd (fieldB (shapeZ x.op) 0) && regZ x.rs1 (fieldB (shapeZ x.op) 1) && regZ x.rs2 (fieldB (shapeZ x.op) 2) && immZ (shapeZ x.op) x.imm then 0 else 2
theorem shapeZ_lt (op : Int) : shapeZ op < 8 := by
  unfold shapeZ
  by_cases h : op.toNat < 30
  · generalize op.toNat = k at h
    have : ∀ k : Fin 30, (formsL.getD k.1 default).shape.toNat < 8 := by decide +kernel
    exact this ⟨k, h⟩
  · rw [List.getD_eq_getElem?_getD, List.getElem?_eq_none (by show 30 ≤ _; omega)]
    decide
theorem shape_at (k : Nat) (h : k < 30) : (formsL.getD k default).shape = ((shapeZ (k : Int) : Nat) : Int) := by
  have : ∀ k : Fin 30, (formsL.getD k.1 default).shape = (((formsL.getD k.1 default).shape.toNat : Nat) : Int) := by decide +kernel
  have h2 := this ⟨k, h⟩
  unfold shapeZ
  rw [Int.toNat_natCast]
  exact h2
theorem tmod4 (x : Int) : x.tmod 4 = 0 ↔ x % 4 = 0 := ⟨fun h => Int.emod_eq_zero_of_dvd (Int.dvd_of_tmod_eq_zero h), fun h => Int.tmod_eq_zero_of_dvd (Int.dvd_of_emod_eq_zero h)⟩
end Go.Proofs.YtfhoffpdodjfeaaDoor
namespace Go.Proofs.YtfhoffpdodjfeaaDoor
open Go.RowKit Go.WideShapes Go.ChangeShapes
def datForm (f : FormZ) : DataW Unit := .agg [.lit (.int .i64 f.shape), .lit (.int .i64 f.code), .lit (.int .i64 f.f3), .lit (.int .i64 f.f7)]
theorem dat_form {x y : FormZ} (h : Lay.dat x (datForm y)) : x = y := by
  obtain ⟨_, _, he, h1, h2⟩ := h
  unfold datForm at he
  injection he with he
  injection he with e1 e2
  subst e1 e2
  rcases h2 with ⟨_, _, he, h3, h4⟩ | ⟨c, he, _⟩
  · injection he with he
    injection he with e1 e2
    subst e1 e2
    rcases h4 with ⟨_, _, he, h5, h6⟩ | ⟨c, he, _⟩
    · injection he with he
      injection he with e1 e2
      subst e1 e2
      rcases h6 with h6 | ⟨c, he, h6⟩
      · cases h6
      · injection he with e1 _
        subst e1
        obtain ⟨a, b, c, d⟩ := x
        obtain ⟨a', b', c', d'⟩ := y
        cases h1; cases h3; cases h5; cases h6
        rfl
    · cases he
  · cases he
def datBools (l : List Bool) : DataW Unit := .agg (l.map fun b => .lit (.bool b))
theorem dat_bools {n : Nat} {v : Vector Bool n} {l : List Bool} (h : Lay.dat v (datBools l)) : v.toList = l := by
  obtain ⟨es, he, hl, hd⟩ := h
  injection he with he
  subst he
  apply List.ext_getElem
  · simpa using hl.symm
  · intro i hi hi'
    have := hd i (by simpa using hi) (.lit (.bool l[i])) (by rw [List.getElem?_map, List.getElem?_eq_getElem hi']; rfl)
    injection this with this
    injection this with this
    simp [this]
theorem at_part {w : World} {g : Nat} {cs ds : List Value} {k n : Nat} (h : At w ⟨g, 0, none⟩ cs) (hd : (cs.drop k).take n = ds) : At w ⟨g, k, none⟩ ds := by
  subst hd
  intro j v hv
  rw [List.getElem?_take] at hv
  split at hv
  · rw [List.getElem?_drop] at hv
    have := h (k + j) v hv
    rw [Addr.add_lit, Nat.zero_add] at this
    rw [Addr.add_lit]; exact this
  · cases hv
theorem rvVecs {W : World} (h : laidMet Tryd.prog [("tierline/rv.forms", Rows.laid_tierline_rv_forms), ("tierline/rv.fields", Rows.laid_tierline_rv_fields)] W) : RvTabs W := by
  obtain ⟨a, cs, h1, h2, h3⟩ := laid_at (α := Vector FormZ 30) rfl (g := 0) (t := 120) (by kernel_rfl) (by kernel_rfl) (opens_vec (α := FormZ) Tryd.underlying120 (by kernel_rfl) (by kernel_rfl) opensForm) (by kernel_rfl) h
  obtain ⟨ps, ht⟩ := laid_tail rfl h
  obtain ⟨⟨b, ds, k1, k2, k3⟩, _⟩ := laidVars_at (α := Vector (Vector Bool 3) 8) (g := 1) (t := 125) (by kernel_rfl) (by kernel_rfl) (opens_vec (α := Vector Bool 3) Tryd.underlying125 (by kernel_rfl) (by kernel_rfl) (opens_vec (α := Bool) Tryd.underlying124 (by kernel_rfl) (by kernel_rfl) opensBool)) (by kernel_rfl) ht
  refine ⟨fun k hk => ?_, fun k i hk hi => ?_⟩
  · obtain ⟨es, he, hl, hd⟩ := h2
    have hes : es = formsL.map datForm := by
      have : (Rows.laid_tierline_rv_forms : DataW Unit) = .agg (formsL.map datForm) := rfl
      rw [this] at he
      injection he with he
      exact he.symm
    have hk' : k < formsL.length := hk
    have hx := dat_form (hd k hk (datForm formsL[k]) (by rw [hes, List.getElem?_map, List.getElem?_eq_getElem hk']; rfl))
    have hr := h1.2 k hk
    rw [rep_form, hx] at hr
    have hg : formsL.getD k default = formsL[k] := by rw [List.getD_eq_getElem?_getD, List.getElem?_eq_getElem hk']; rfl
    rw [hg]
    refine at_part h3 (n := 4) ?_
    exact hr
  · obtain ⟨es, he, hl, hd⟩ := k2
    have hes : es = fieldsL.map datBools := by
      have : (Rows.laid_tierline_rv_fields : DataW Unit) = .agg (fieldsL.map datBools) := rfl
      rw [this] at he
      injection he with he
      exact he.symm
    have hk' : k < fieldsL.length := hk
    have hx := dat_bools (hd k hk (datBools fieldsL[k]) (by rw [hes, List.getElem?_map, List.getElem?_eq_getElem hk']; rfl))
    have hr := k1.2 k hk
    rw [rep_vec_bool, hx] at hr
    have hg : fieldsL.getD k [] = fieldsL[k] := by rw [List.getD_eq_getElem?_getD, List.getElem?_eq_getElem hk']; rfl
    rw [hg]
    have hl3 : fieldsL[k].length = 3 := by rw [← hx]; simp
    have hat : At W ⟨1, k * 3, none⟩ (List.map Value.bool fieldsL[k]) := at_part k3 (k := k * 3) (n := 3) hr
    have := hat i (.bool (fieldsL[k].getD i false)) (by rw [List.getElem?_map, List.getD_eq_getElem?_getD, List.getElem?_eq_getElem (by omega)]; rfl)
    rwa [Addr.add_lit] at this

def laidIn (l : List Value) (o : Obj) : Obj :=
  match o with
  | .cells _ t frozen => .cells l.toArray t frozen
  | o => o
noncomputable def rvWorld (os : Os) : World :=
  { World.holding Tryd.prog os ⟨#[], #[], []⟩ with heap := ((World.holding Tryd.prog os ⟨#[], #[], []⟩).heap.modify 0 (laidIn (formsL.flatMap fun f => [.int .i64 f.shape, .int .i64 f.code, .int .i64 f.f3, .int .i64 f.f7]))).modify 1 (laidIn (fieldsL.flatMap fun l => l.map Value.bool)) }
end Go.Proofs.YtfhoffpdodjfeaaDoor
namespace Go.Proofs.YtfhoffpdodjfeaaDoor
open Go.RowKit Go.WideShapes Go.ChangeShapes
theorem open_slice0 {H : Type} {enc : TypeId × Value → H} {P : Program} {α : Type} [Lay α] {t e : TypeId} (hu : P.underlying t = some (.slice e)) (hf : Opens P t (List α))
    {W : World} {v : Value} {d : DataW H} {p : List MemPlace} {r : Reach} {b : Nat} (hv : Value.okWide P W r b t v) (h : DataW.Trod enc P W 0 (fun _ => true) true t v d p) (hw : ∀ m, m ∈ d.weights P t → m ≤ reachBytes) :
    ∃ (xs : List α), Lay.rep W (Lt W.heap.size) xs [v] ∧ Lay.ok xs := by
  obtain ⟨a, n, c, rfl⟩ := okWide_slice hu hv
  obtain ⟨xs, h1, h2⟩ := open_arg hf h hw
  exact ⟨xs, h1, h2⟩
end Go.Proofs.YtfhoffpdodjfeaaDoor
