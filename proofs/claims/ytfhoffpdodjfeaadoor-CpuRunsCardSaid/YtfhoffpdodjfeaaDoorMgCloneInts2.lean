/- slices.Clone of numbers. The law's ints: a copy of numbers. -/
import Derived.Test.YtfhoffpdodjfeaaDoorHpB
import Derived.Test.YtfhoffpdodjfeaaDoorPr
import Derived.Test.YtfhoffpdodjfeaaDoorRows
import Derived.Test.YtfhoffpdodjfeaaDoorReadsOf
import Derived.Laws.Cover3
set_option linter.unusedSimpArgs false
set_option linter.unusedVariables false
namespace Go.Proofs.YtfhoffpdodjfeaaDoor
open Go.RowKit
attribute [local irreducible] wpList Code.wp Oper.wp
theorem eql_nil {P : Program} (w : World) (t e : TypeId) (a : Option Addr) (l c : Nat) (h : P.underlying t = some (.slice e)) : (binOp .eql t (.slice a l c) (.slice none 0 0)).run P w = .ok (.bool a.isNone) w := by
  simp only [binOp]
  simp [run_equal_slice_nil w t e a l c h]
set_option maxRecDepth 10000 in
set_option maxHeartbeats 1000000 in
theorem Clone_own (xs : List Int) (u : Value) (w : World) (hx : Lay.rep w (Lt w.heap.size) xs [u]) (hb : xs.length ≤ 17592186044000) :
    Calls Tryd.prog 45 #[u] w fun e w' => ∃ v, e = .returned v ∧ Hp w [⟨w, Lt w.heap.size⟩] [.row v 3 1 xs.length (xs.map (Value.int .i64))] w' := by
  obtain ⟨A, c, rfl, hc, hm, hx⟩ := rep_ints_at hx
  unfold maxLen at hm
  have HX := Lib.hid hx
  clear hx
  obtain ⟨i_int, hi_int, hz_int, hs_int, hy_int⟩ := info_parts info_int
  have HP := Lib.hid (Hp.start w)
  cases A with
  | none =>
    have hx0 : xs = [] := by
      cases xs with
      | nil => rfl
      | cons x l => obtain ⟨a, e, _⟩ := HX.out 0 (by simp); cases e
    subst hx0
    have hnil : (binOp .eql 25 (.slice none 0 c) (.slice none 0 0)).run Tryd.prog w = .ok (.bool true) w := eql_nil w _ _ none _ _ Tryd.underlying25
    simp only [List.length_nil]
    go_enter Tryd.func45, Tryd.ntmps45
    go_wp2
    go_ret
    exact ⟨_, rfl, HP.out.nil _ _⟩
  | some ad =>
    go_enter Tryd.func45, Tryd.ntmps45
    have hnil : (binOp .eql 25 (.slice (some ad) xs.length c) (.slice none 0 0)).run Tryd.prog w = .ok (.bool false) w := eql_nil w _ _ (some ad) _ _ Tryd.underlying25
    have hat : ∀ j u, (List.map (Value.int IntKind.i64) xs)[j]? = some u → w.cell? (ad.add j) = some u ∧ ad.block < w.heap.size := fun j u hu => by
      rw [List.getElem?_map] at hu
      cases h : xs[j]? with
      | none => rw [h] at hu; cases hu
      | some x =>
        rw [h] at hu; cases hu
        obtain ⟨hj, rfl⟩ := List.getElem?_eq_some_iff.1 h
        obtain ⟨a, ha, hl, hcell⟩ := HX.out j hj
        cases ha
        exact ⟨hcell, hl⟩
    have HAT := Lib.hid hat
    clear hat
    go_wp2_with (first | (at_builtin; have HPa := Lib.hid ((HP.out.alloc #[] 3).rowOf (A := []) (n := 0) (sz := 1) rfl (by unfold maxLen; omega)); refine wpList_append_src (A := []) rfl _ _ 25 rfl i_int (.int .i64 0) Tryd.underlying25 hi_int hz_int hs_int rfl (by decide) hy_int xs.length (by omega) HPa.out rfl rfl (news := List.map (Value.int .i64) xs) (by simp) (by simp [Value.oneCell']) (fun j u hu => (HPa.out.alike (F := ⟨w, Lt w.heap.size⟩) (by simp) (ad.add j) (by rw [block_of_add]; exact (HAT.out j u hu).2)).trans (HAT.out j u hu).1) (by unfold maxLen; omega) (by omega) ?_; clear HP HPa; intro A' c' wap HP; replace HP := Lib.hid HP))
    go_ret
    exact ⟨_, rfl, by simpa using HP.out⟩
theorem Clone_any (xs : List Int) (u : Value) (w : World) (hx : Lay.rep w (Lt w.heap.size) xs [u]) (hb : xs.length ≤ 17592186044000) :
    Calls Tryd.prog 45 #[u] w fun e w' => ∃ v, e = .returned v ∧ Lay.rep w' (Fresh w w') xs [v] ∧ Below w.heap.size w w' :=
  (Clone_own xs u w hx hb).mono fun _ _ ⟨v, he, H⟩ => ⟨v, he, H.rowInts (.head _) rfl, H.below⟩
end Go.Proofs.YtfhoffpdodjfeaaDoor
namespace Go.Proofs.YtfhoffpdodjfeaaDoor
open Go.RowKit
attribute [local irreducible] wpList Code.wp Oper.wp
set_option maxRecDepth 10000 in
set_option maxHeartbeats 1000000 in
theorem ints_any (xs : List Int) (u : Value) (w : World) (hx : Lay.rep w (Lt w.heap.size) xs [u]) (hb : xs.length ≤ 17592186044000) :
    Calls Tryd.prog 16 #[u] w fun e w' => ∃ v, e = .returned v ∧ Lay.rep w' (Fresh w w') xs [v] ∧ Below w.heap.size w w' := by
  obtain ⟨A, c, rfl, hc, hm, hx⟩ := rep_ints_at hx
  unfold maxLen at hm
  have HX := Lib.hid hx
  clear hx
  obtain ⟨i_int, hi_int, hz_int, hs_int, hy_int⟩ := info_parts info_int
  have HP := Lib.hid (Hp.start w)
  cases A with
  | none =>
    have hx0 : xs = [] := by
      cases xs with
      | nil => rfl
      | cons x l => obtain ⟨a, e, _⟩ := HX.out 0 (by simp); cases e
    subst hx0
    simp only [List.length_nil]
    go_enter Tryd.func16, Tryd.ntmps16
    go_wp2
    go_ret
    exact ⟨_, rfl, rep_ints_nil, HP.out.below⟩
  | some ad =>
    have hat : ∀ j u, (List.map (Value.int IntKind.i64) xs)[j]? = some u → w.cell? (ad.add j) = some u ∧ ad.block < w.heap.size := fun j u hu => by
      rw [List.getElem?_map] at hu
      cases h : xs[j]? with
      | none => rw [h] at hu; cases hu
      | some x =>
        rw [h] at hu; cases hu
        obtain ⟨hj, rfl⟩ := List.getElem?_eq_some_iff.1 h
        obtain ⟨a, ha, hl, hcell⟩ := HX.out j hj
        cases ha
        exact ⟨hcell, hl⟩
    have HAT := Lib.hid hat
    clear hat
    go_enter Tryd.func16, Tryd.ntmps16
    go_wp2_with (first | (at_builtin; have HPa := Lib.hid (HP.out.nil 3 1); refine wpList_append_src (A := []) rfl _ _ 25 rfl i_int (.int .i64 0) Tryd.underlying25 hi_int hz_int hs_int rfl (by decide) hy_int xs.length (by omega) HPa.out rfl rfl (news := List.map (Value.int .i64) xs) (by simp) (by simp [Value.oneCell']) (fun j u hu => (HPa.out.alike (F := ⟨w, Lt w.heap.size⟩) (by simp) (ad.add j) (by rw [block_of_add]; exact (HAT.out j u hu).2)).trans (HAT.out j u hu).1) (by unfold maxLen; omega) (by omega) ?_; clear HP HPa; intro A' c' wap HP; replace HP := Lib.hid HP))
    go_ret
    exact ⟨_, rfl, HP.out.rowInts (.head _) (by simp), HP.out.below⟩
end Go.Proofs.YtfhoffpdodjfeaaDoor
