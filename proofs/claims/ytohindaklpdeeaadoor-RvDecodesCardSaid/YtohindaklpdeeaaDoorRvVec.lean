/- The row's listed variables rv.forms, rv.fields: their cells; a world that holds them. -/
import Derived.Test.YtohindaklpdeeaaDoorRvTab
set_option linter.unusedSimpArgs false
set_option linter.unusedVariables false
namespace Go.Proofs.YtohindaklpdeeaaDoor
open Go.RowKit Go.WideShapes Go.ChangeShapes
def datForm (f : FormZ) : DataW Unit := .agg [.lit (.int .i64 f.shape), .lit (.int .i64 f.code), .lit (.int .i64 f.f3), .lit (.int .i64 f.f7)]
theorem dat_form {x y : FormZ} (h : Lay.dat x (datForm y)) : x = y := by
  obtain ⟨_, _, he, h1, h2⟩ := h
  unfold datForm at he
  injection he with he
  injection he with e1 e2
  subst e1 e2
  rcases h2 with ⟨_, _, he, h3, h4⟩ | ⟨c, he, _⟩
  · injection he with he
    injection he with e1 e2
    subst e1 e2
    rcases h4 with ⟨_, _, he, h5, h6⟩ | ⟨c, he, _⟩
    · injection he with he
      injection he with e1 e2
      subst e1 e2
      rcases h6 with h6 | ⟨c, he, h6⟩
      · cases h6
      · injection he with e1 _
        subst e1
        obtain ⟨a, b, c, d⟩ := x
        obtain ⟨a', b', c', d'⟩ := y
        cases h1; cases h3; cases h5; cases h6
        rfl
    · cases he
  · cases he
def datBools (l : List Bool) : DataW Unit := .agg (l.map fun b => .lit (.bool b))
theorem dat_bools {n : Nat} {v : Vector Bool n} {l : List Bool} (h : Lay.dat v (datBools l)) : v.toList = l := by
  obtain ⟨es, he, hl, hd⟩ := h
  injection he with he
  subst he
  apply List.ext_getElem
  · simpa using hl.symm
  · intro i hi hi'
    have := hd i (by simpa using hi) (.lit (.bool l[i])) (by rw [List.getElem?_map, List.getElem?_eq_getElem hi']; rfl)
    injection this with this
    injection this with this
    simp [this]
theorem at_part {w : World} {g : Nat} {cs ds : List Value} {k n : Nat} (h : At w ⟨g, 0, none⟩ cs) (hd : (cs.drop k).take n = ds) : At w ⟨g, k, none⟩ ds := by
  subst hd
  intro j v hv
  rw [List.getElem?_take] at hv
  split at hv
  · rw [List.getElem?_drop] at hv
    have := h (k + j) v hv
    rw [Addr.add_lit, Nat.zero_add] at this
    rw [Addr.add_lit]; exact this
  · cases hv
theorem rvVecs {W : World} (h : laidMet Tryd.prog [("tierline/rv.forms", Rows.laid_tierline_rv_forms), ("tierline/rv.fields", Rows.laid_tierline_rv_fields)] W) : RvTabs W := by
  obtain ⟨a, cs, h1, h2, h3⟩ := laid_at (α := Vector FormZ 30) rfl (g := 0) (t := 52) (by kernel_rfl) (by kernel_rfl) (opens_vec (α := FormZ) Tryd.underlying52 (by kernel_rfl) (by kernel_rfl) opensForm) (by kernel_rfl) h
  obtain ⟨ps, ht⟩ := laid_tail rfl h
  obtain ⟨⟨b, ds, k1, k2, k3⟩, _⟩ := laidVars_at (α := Vector (Vector Bool 3) 8) (g := 1) (t := 57) (by kernel_rfl) (by kernel_rfl) (opens_vec (α := Vector Bool 3) Tryd.underlying57 (by kernel_rfl) (by kernel_rfl) (opens_vec (α := Bool) Tryd.underlying56 (by kernel_rfl) (by kernel_rfl) opensBool)) (by kernel_rfl) ht
  refine ⟨fun k hk => ?_, fun k i hk hi => ?_⟩
  · obtain ⟨es, he, hl, hd⟩ := h2
    have hes : es = formsL.map datForm := by
      have : (Rows.laid_tierline_rv_forms : DataW Unit) = .agg (formsL.map datForm) := rfl
      rw [this] at he
      injection he with he
      exact he.symm
    have hk' : k < formsL.length := hk
    have hx := dat_form (hd k hk (datForm formsL[k]) (by rw [hes, List.getElem?_map, List.getElem?_eq_getElem hk']; rfl))
    have hr := h1.2 k hk
    rw [rep_form, hx] at hr
    have hg : formsL.getD k default = formsL[k] := by rw [List.getD_eq_getElem?_getD, List.getElem?_eq_getElem hk']; rfl
    rw [hg]
    refine at_part h3 (n := 4) ?_
    exact hr
  · obtain ⟨es, he, hl, hd⟩ := k2
    have hes : es = fieldsL.map datBools := by
      have : (Rows.laid_tierline_rv_fields : DataW Unit) = .agg (fieldsL.map datBools) := rfl
      rw [this] at he
      injection he with he
      exact he.symm
    have hk' : k < fieldsL.length := hk
    have hx := dat_bools (hd k hk (datBools fieldsL[k]) (by rw [hes, List.getElem?_map, List.getElem?_eq_getElem hk']; rfl))
    have hr := k1.2 k hk
    rw [rep_vec_bool, hx] at hr
    have hg : fieldsL.getD k [] = fieldsL[k] := by rw [List.getD_eq_getElem?_getD, List.getElem?_eq_getElem hk']; rfl
    rw [hg]
    have hl3 : fieldsL[k].length = 3 := by rw [← hx]; simp
    have hat : At W ⟨1, k * 3, none⟩ (List.map Value.bool fieldsL[k]) := at_part k3 (k := k * 3) (n := 3) hr
    have := hat i (.bool (fieldsL[k].getD i false)) (by rw [List.getElem?_map, List.getD_eq_getElem?_getD, List.getElem?_eq_getElem (by omega)]; rfl)
    rwa [Addr.add_lit] at this

def laidIn (l : List Value) (o : Obj) : Obj :=
  match o with
  | .cells _ t frozen => .cells l.toArray t frozen
  | o => o
noncomputable def rvWorld (os : Os) : World :=
  { World.holding Tryd.prog os ⟨#[], #[], []⟩ with heap := ((World.holding Tryd.prog os ⟨#[], #[], []⟩).heap.modify 0 (laidIn (formsL.flatMap fun f => [.int .i64 f.shape, .int .i64 f.code, .int .i64 f.f3, .int .i64 f.f7]))).modify 1 (laidIn (fieldsL.flatMap fun l => l.map Value.bool)) }
end Go.Proofs.YtohindaklpdeeaaDoor
