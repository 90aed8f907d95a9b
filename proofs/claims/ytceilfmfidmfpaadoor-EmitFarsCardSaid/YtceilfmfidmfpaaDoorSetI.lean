/- A set of numbers: a map[int]struct{} that the call has made and keeps to itself. -/
import Derived.Test.YtceilfmfidmfpaaDoorMgHpOpsHpRowHpB3
import Derived.Test.YtceilfmfidmfpaaDoorMgPrNestNestBFind4
import Derived.Maps.OwnSet
set_option linter.unusedSimpArgs false
set_option linter.unusedVariables false
namespace Go.Proofs.YtceilfmfidmfpaaDoor
open Go.RowKit Go.Maps
theorem law_int : Keyed Tryd.prog 3 := int_keyed Tryd.underlying3
theorem zero_unit (w : World) : (zeroValue 84).run Tryd.prog w = .ok (.agg #[]) w := by kernel_rfl
/-- Block b is a map that holds just these numbers. -/
def SetIn (w : World) (b : Nat) (acc : List Int) : Prop :=
  (∀ x ∈ acc, (Lit.int .i64 x).wf = true) ∧ w.ownsMap (H := Unit) Tryd.prog 3 unitElem b acc.length (setOf (.agg []) (acc.map (Lit.int .i64)))
theorem setIn_made (w : World) : SetIn (w.alloc (.map #[] 0)) w.heap.size [] := ⟨fun x hx => (by cases hx), World.ownsMap_made _ _ _ _⟩
theorem SetIn.keep {w w' : World} {b : Nat} {acc : List Int} (h : SetIn w b acc) (he : w'.heap[b]? = w.heap[b]?) : SetIn w' b acc := by
  obtain ⟨h1, es, clock, hb, r⟩ := h
  exact ⟨h1, es, clock, he.trans hb, r⟩
theorem set_has {acc : List Int} (x : Int) : Maps.has (setOf (H := Unit) (.agg []) (acc.map (Lit.int .i64))) (.int .i64 x) = acc.contains x := by
  rw [has_setOf]
  · rw [List.any_map]
    induction acc with
    | nil => rfl
    | cons y l ih =>
      rw [List.any_cons, ih, List.contains_cons]
      congr 1
      show decide (IntKind.i64 = IntKind.i64 ∧ y = x) = (x == y)
      by_cases h : y = x
      · subst h; simp
      · have h2 : ¬ x = y := fun e => h e.symm
        simp [h, h2]
  · intro y hy
    obtain ⟨z, _, rfl⟩ := List.mem_map.1 hy
    trivial
section
variable {w0 w w' : World} {Fs : List Fro} {L : List Res} {wm : World} {B : Nat}
/-- The map's block stays as it is, but for the map's own writes. -/
abbrev onlyB (B : Nat) : Nat → Prop := fun b => b = B
theorem Hp.mapMade (h : Hp w0 Fs L w) (hF : ∀ F ∈ Fs, ∀ b, F.S b → b < w.heap.size) : Hp w0 (⟨w.alloc (.map #[] 0), onlyB w.heap.size⟩ :: Fs) L (w.alloc (.map #[] 0)) := by
  have hg : w.grownBy (w.alloc (.map #[] 0)) none := World.grownBy_alloc w _ none
  refine ⟨h.below.trans ⟨hg.os, hg.tape, hg.output, hg.size, fun k hk => hg.block k (Nat.lt_of_lt_of_le hk h.size) (by simp)⟩, fun F hFm b hb => ?_, fun r hr => ⟨(h.own r hr).1.moved fun b hb => hg.block b ((h.own r hr).2 b hb).2.1 (by simp), fun b hb => ?_⟩, h.apart⟩
  · rcases List.mem_cons.1 hFm with rfl | hFm
    · have hb : b = w.heap.size := hb
      subst hb
      exact ⟨by simp, rfl⟩
    · obtain ⟨h1, h2⟩ := h.fro F hFm b hb
      exact ⟨Nat.lt_of_lt_of_le h1 hg.size, (hg.block b h1 (by simp)).trans h2⟩
  · obtain ⟨g1, g2, g3⟩ := (h.own r hr).2 b hb
    refine ⟨g1, Nat.lt_of_lt_of_le g2 hg.size, fun F hFm hS => ?_⟩
    rcases List.mem_cons.1 hFm with rfl | hFm
    · have hS : b = w.heap.size := hS
      omega
    · exact g3 F hFm hS
theorem Hp.mapTurn (h : Hp w0 (⟨wm, onlyB B⟩ :: Fs) L w) (hg : w.grownBy w' (some B)) (hB : w0.heap.size ≤ B) (hF : ∀ F ∈ Fs, ¬ F.S B) : Hp w0 (⟨w', onlyB B⟩ :: Fs) L w' := by
  have hlt := (h.fro ⟨wm, onlyB B⟩ (by simp) B rfl).1
  refine ⟨h.below.trans ⟨hg.os, hg.tape, hg.output, hg.size, fun k hk => hg.block k (Nat.lt_of_lt_of_le hk h.size) (fun e => by cases e; omega)⟩, fun F hFm b hb => ?_, fun r hr => ?_, h.apart⟩
  · rcases List.mem_cons.1 hFm with rfl | hFm
    · have hb : b = B := hb
      subst hb
      exact ⟨Nat.lt_of_lt_of_le hlt hg.size, rfl⟩
    · obtain ⟨h1, h2⟩ := h.fro F (by simp [hFm]) b hb
      exact ⟨Nat.lt_of_lt_of_le h1 hg.size, (hg.block b h1 (fun e => by cases e; exact hF F hFm hb)).trans h2⟩
  · have hne : ∀ b, r.foot = some b → b ≠ B := fun b hb e => ((h.own r hr).2 b hb).2.2 ⟨wm, onlyB B⟩ (by simp) e
    refine ⟨(h.own r hr).1.moved fun b hb => hg.block b ((h.own r hr).2 b hb).2.1 (fun e => by cases e; exact hne _ hb rfl), fun b hb => ?_⟩
    obtain ⟨g1, g2, g3⟩ := (h.own r hr).2 b hb
    refine ⟨g1, Nat.lt_of_lt_of_le g2 hg.size, fun F hFm hS => ?_⟩
    rcases List.mem_cons.1 hFm with rfl | hFm
    · exact hne b hb hS
    · exact g3 F (by simp [hFm]) hS
theorem Hp.setAt {acc : List Int} (h : Hp w0 Fs L w) (hF : ⟨wm, onlyB B⟩ ∈ Fs) (hs : SetIn wm B acc) : SetIn w B acc := hs.keep (h.fro _ hF B rfl).2
end
section
variable {w0 w wm : World} {Fs : List Fro} {L : List Res} {B : Nat} {ops : Array Oper} {rest : List Oper} {o : Oper} {a : Act} {Q : Exit → Act → World → Prop}
/-- set[x] = struct{}{} -/
theorem wpList_setPut (hg : o.guard = none) (m x v : Operand) (hop : o.op = Op.mapUpdate 83 m x v) (H : Hp w0 (⟨wm, onlyB B⟩ :: Fs) L w) {acc : List Int} (hs : SetIn wm B acc) (hB : w0.heap.size ≤ B) (hF : ∀ F ∈ Fs, ¬ F.S B) (hl : acc.length < maxLen)
    (hm : a.eval m = .map (some B)) (n : Int) (hx : a.eval x = .int .i64 n) (hw : (Lit.int .i64 n).wf = true) (hv : a.eval v = .agg #[])
    (h : ∀ w', SetIn w' B (acc ++ [n]) → Hp w0 (⟨w', onlyB B⟩ :: Fs) L w' → wpList Tryd.prog ops Q rest (a.put o.dst undef) w') : wpList Tryd.prog ops Q (o :: rest) a w := by
  have h2 := H.setAt (by simp) hs
  refine wpList_mapUpdate_own w hg m x v _ hop 3 84 law_int Tryd.underlying83 (unitElem (H := Unit)) B acc.length _ hm h2.2 hl _ _ _ hx hv (keyOf_int_mk Tryd.underlying3 hw) (.agg []) [] unitElem_mk ?_
  intro w1 hown hgrow
  refine h w1 ⟨fun y hy => ?_, ?_⟩ (H.mapTurn hgrow hB hF)
  · rcases List.mem_append.1 hy with hy | hy
    · exact hs.1 y hy
    · rw [List.mem_singleton.1 hy]; exact hw
  · rw [List.map_append, List.map_singleton, setOf_snoc, List.length_append]
    exact hown
/-- _, ok := set[x] -/
theorem wpList_setHas (hg : o.guard = none) (m x : Operand) (hop : o.op = Op.lookup 83 m x true) (H : Hp w0 Fs L w) (hFm : ⟨wm, onlyB B⟩ ∈ Fs) {acc : List Int} (hs : SetIn wm B acc)
    (hm : a.eval m = .map (some B)) (n : Int) (hx : a.eval x = .int .i64 n) (hw : (Lit.int .i64 n).wf = true)
    (h : wpList Tryd.prog ops Q rest (a.put o.dst (.tuple #[.agg #[], .bool (acc.contains n)])) w) : wpList Tryd.prog ops Q (o :: rest) a w := by
  have h2 := H.setAt hFm hs
  refine wpList_lookup_own_unit w hg m x _ hop 3 84 law_int Tryd.underlying83 (zero_unit _) B acc.length _ hm h2.2 _ _ hx (keyOf_int_mk Tryd.underlying3 hw) ?_
  rw [set_has]; exact h
end
end Go.Proofs.YtceilfmfidmfpaaDoor
