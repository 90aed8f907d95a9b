/- ref.byteAt; the law's octets. -/
import Derived.Test.YtohindaklpdeeaaDoorFunsIn
import Derived.Test.YtohindaklpdeeaaDoorHpB
import Derived.Test.YtohindaklpdeeaaDoorCodeA
set_option linter.unusedSimpArgs false
set_option linter.unusedVariables false
namespace Go.Proofs.YtohindaklpdeeaaDoor
open Go.RowKit
attribute [local irreducible] wpList Code.wp Oper.wp
/-- The byte at a place; -1: there is none. -/
def byteZ (l : List Int) (k : Nat) : Int := match l[k]? with | none => -1 | some x => x
set_option maxRecDepth 10000 in
set_option maxHeartbeats 1000000 in
theorem byteAt_any (l : List Int) (v : Value) (k : Nat) (w : World) (hl : RepB w (Lt w.heap.size) l v) (hb : ∀ x ∈ l, 0 ≤ x ∧ x < 256) (hk : k ≤ 1000000) :
    Calls Tryd.prog 15 #[v, .int .i64 k] w fun e w' => e = .returned (.int .i64 (byteZ l k)) ∧ Below w.heap.size w w' := by
  obtain ⟨A, c, rfl, hn, hcm, hx⟩ := hl
  unfold maxLen at hcm
  by_cases hlt : k < l.length
  · obtain ⟨x, hxk⟩ : ∃ x, l[k]? = some x := ⟨_, List.getElem?_eq_getElem hlt⟩
    obtain ⟨a, rfl, -, hc⟩ := hx k x hxk
    have HE := Lib.hid (show byteZ l k = x by unfold byteZ; rw [hxk])
    obtain ⟨h0, h1⟩ := hb x (List.mem_of_getElem? hxk)
    have hk2 : (k : Int) < (l.length : Int) := by omega
    clear hx hb hxk
    go_enter Tryd.func15, Tryd.ntmps15
    go_wp2
    (try simp only [Exit.inBlock, Exit.then])
    refine bodyPost_ret (results_tmp (by rfl) _ _ _) (by rfl) ?_
    exact ⟨by rw [HE.out]; rfl, Below.refl _ _⟩
  · have HE := Lib.hid (show byteZ l k = -1 by unfold byteZ; rw [List.getElem?_eq_none (by omega)])
    have hk2 : ¬ (k : Int) < (l.length : Int) := by omega
    have hk3 : (l.length : Int) ≤ (k : Int) := by omega
    clear hx hb
    go_enter Tryd.func15, Tryd.ntmps15
    go_wp2
    (try simp only [Exit.inBlock, Exit.then])
    refine bodyPost_ret (results_tmp (by rfl) _ _ _) (by rfl) ?_
    exact ⟨by rw [HE.out]; rfl, Below.refl _ _⟩
theorem info_byte2 : (Tryd.prog.info? 5).map (fun i => (i.zero, i.size, i.bytes)) = some (some (.int .u8 0), 1, 1) := by kernel_rfl
set_option maxRecDepth 10000 in
set_option maxHeartbeats 1000000 in
theorem octets_any (l : List Int) (v : Value) (w : World) (hl : RepB w (Lt w.heap.size) l v) (hb : l.length ≤ 140737488355328) :
    Calls Tryd.prog 5 #[v] w fun e w' => ∃ u, e = .returned u ∧ RepB w' (FreshD w w') l u ∧ Below w.heap.size w w' := by
  obtain ⟨A, c, rfl, hc, hm, hx⟩ := hl
  unfold maxLen at hm
  have HX := Lib.hid hx
  clear hx
  obtain ⟨i_byte, hi_byte, hz_byte, hs_byte, hy_byte⟩ := info_parts info_byte2
  have HP := Lib.hid (Hp.start w)
  cases A with
  | none =>
    have hx0 : l = [] := by
      cases l with
      | nil => rfl
      | cons x l => obtain ⟨a, e, _⟩ := HX.out 0 x rfl; cases e
    subst hx0
    simp only [List.length_nil]
    go_enter Tryd.func5, Tryd.ntmps5
    go_wp2
    go_ret
    exact ⟨_, rfl, ⟨none, 0, rfl, Nat.le_refl _, by unfold maxLen; omega, fun k x h => by simp at h⟩, HP.out.below⟩
  | some ad =>
    have hat : ∀ j u, (List.map (Value.int IntKind.u8) l)[j]? = some u → w.cell? (ad.add j) = some u ∧ ad.block < w.heap.size := fun j u hu => by
      rw [List.getElem?_map] at hu
      cases h : l[j]? with
      | none => rw [h] at hu; cases hu
      | some x =>
        rw [h] at hu; cases hu
        obtain ⟨a, ha, hl, hcell⟩ := HX.out j x h
        cases ha
        exact ⟨hcell, hl⟩
    have HAT := Lib.hid hat
    clear hat
    go_enter Tryd.func5, Tryd.ntmps5
    go_wp2_with (first | (at_builtin; have HPa := Lib.hid (HP.out.nil 5 1); refine wpList_append_src (A := []) rfl _ _ 22 rfl i_byte (.int .u8 0) Tryd.underlying22 hi_byte hz_byte hs_byte rfl (by decide) hy_byte l.length (by omega) HPa.out rfl rfl (news := List.map (Value.int .u8) l) (by simp) (by simp [Value.oneCell']) (fun j u hu => (HPa.out.alike (F := ⟨w, Lt w.heap.size⟩) (by simp) (ad.add j) (by rw [block_of_add]; exact (HAT.out j u hu).2)).trans (HAT.out j u hu).1) (by unfold maxLen; omega) (by omega) ?_; clear HP HPa; intro A' c' wap HP; replace HP := Lib.hid HP))
    go_ret
    exact ⟨_, rfl, HP.out.rowB (.head _) (by simp), HP.out.below⟩
end Go.Proofs.YtohindaklpdeeaaDoor
