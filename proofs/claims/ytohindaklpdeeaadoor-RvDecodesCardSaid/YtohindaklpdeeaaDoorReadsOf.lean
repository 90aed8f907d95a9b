/- ref.readsOf, ref.ReadsAndSets. -/
import Derived.Test.YtohindaklpdeeaaDoorReads
import Derived.Test.YtohindaklpdeeaaDoorCodeD
set_option linter.unusedSimpArgs false
set_option linter.unusedVariables false
namespace Go.Proofs.YtohindaklpdeeaaDoor
open Go.RowKit Plain64
attribute [local irreducible] wpList Code.wp Oper.wp
theorem info_int : (Tryd.prog.info? 3).map (fun i => (i.zero, i.size, i.bytes)) = some (some (.int .i64 0), 1, 8) := by kernel_rfl
/-- A row of numbers reads as these numbers. -/
theorem Hp.rowInts {w0 w : World} {Fs : List Fro} {L : List Res} {v : Value} {e : TypeId} {n : Nat} {cs : List Value} {xs : List Int} (h : Hp w0 Fs L w) (hm : Res.row v e 1 n cs ∈ L) (hx : cs = xs.map (Value.int .i64)) : Lay.rep w (Fresh w0 w) xs [v] := by
  subst hx
  have ho := h.row hm
  have hf := (h.own _ hm).2
  rcases ho.2 with ⟨rfl, hn⟩ | ⟨g, cap, cur, rfl, hb, hg, hle, hmx, hs, ht⟩
  · have hl := ho.1
    subst hn
    have : xs = [] := by cases xs; rfl; simp at hl
    subst this
    exact rep_ints_nil
  · have hl : xs.length = n := by have := ho.1; simpa using this
    subst hl
    refine ⟨_, _, rfl, hle, hmx, fun k x hx => ⟨_, [.int .i64 x], rfl, ⟨(hf g rfl).1, (hf g rfl).2.1⟩, fun j u hu => ?_, rfl⟩⟩
    have hj : j = 0 := by have := (List.getElem?_eq_some_iff.1 hu).1; simpa using this
    subst hj
    simp at hu
    subst hu
    have := ho.cells (g := g) rfl k (.int .i64 x) (by simp [hx])
    rw [add_of_add]
    show w.cell? ((⟨g, 0, none⟩ : Addr).add (k * 1 + 0)) = _
    rwa [Nat.mul_one, Nat.add_zero]
end Go.Proofs.YtohindaklpdeeaaDoor
