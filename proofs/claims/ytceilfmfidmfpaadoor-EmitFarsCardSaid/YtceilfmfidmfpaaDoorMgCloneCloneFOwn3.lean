/- slices.Clone of numbers. slices.Clone of frames. step.own: a state in new memory. -/
import Derived.Test.YtceilfmfidmfpaaDoorMgHpOpsHpRowHpB3
import Derived.Test.YtceilfmfidmfpaaDoorMgPrNestNestBFind4
import Derived.Test.YtceilfmfidmfpaaDoorRows
import Derived.Test.YtceilfmfidmfpaaDoorMgReadsOfStateNextLawBegLawNextAnsRunLawRunLawBBegRun8
import Derived.Laws.Cover3
import Derived.Test.YtceilfmfidmfpaaDoorMgCopyReads2MdAMdBMdCMdDMdEStates8
set_option linter.unusedSimpArgs false
set_option linter.unusedVariables false
namespace Go.Proofs.YtceilfmfidmfpaaDoor
open Go.RowKit
attribute [local irreducible] wpList Code.wp Oper.wp
theorem eql_nil {P : Program} (w : World) (t e : TypeId) (a : Option Addr) (l c : Nat) (h : P.underlying t = some (.slice e)) : (binOp .eql t (.slice a l c) (.slice none 0 0)).run P w = .ok (.bool a.isNone) w := by
  simp only [binOp]
  simp [run_equal_slice_nil w t e a l c h]
set_option maxRecDepth 10000 in
set_option maxHeartbeats 1000000 in
theorem Clone_own (xs : List Int) (u : Value) (w : World) (hx : Lay.rep w (Lt w.heap.size) xs [u]) (hb : xs.length ≤ 17592186044000) :
    Calls Tryd.prog 50 #[u] w fun e w' => ∃ v, e = .returned v ∧ Hp w [⟨w, Lt w.heap.size⟩] [.row v 3 1 xs.length (xs.map (Value.int .i64))] w' := by
  obtain ⟨A, c, rfl, hc, hm, hx⟩ := rep_ints_at hx
  unfold maxLen at hm
  have HX := Lib.hid hx
  clear hx
  obtain ⟨i_int, hi_int, hz_int, hs_int, hy_int⟩ := info_parts info_int
  have HP := Lib.hid (Hp.start w)
  cases A with
  | none =>
    have hx0 : xs = [] := by
      cases xs with
      | nil => rfl
      | cons x l => obtain ⟨a, e, _⟩ := HX.out 0 (by simp); cases e
    subst hx0
    have hnil : (binOp .eql 27 (.slice none 0 c) (.slice none 0 0)).run Tryd.prog w = .ok (.bool true) w := eql_nil w _ _ none _ _ Tryd.underlying27
    simp only [List.length_nil]
    go_enter Tryd.func50, Tryd.ntmps50
    go_wp2
    go_ret
    exact ⟨_, rfl, HP.out.nil _ _⟩
  | some ad =>
    go_enter Tryd.func50, Tryd.ntmps50
    have hnil : (binOp .eql 27 (.slice (some ad) xs.length c) (.slice none 0 0)).run Tryd.prog w = .ok (.bool false) w := eql_nil w _ _ (some ad) _ _ Tryd.underlying27
    have hat : ∀ j u, (List.map (Value.int IntKind.i64) xs)[j]? = some u → w.cell? (ad.add j) = some u ∧ ad.block < w.heap.size := fun j u hu => by
      rw [List.getElem?_map] at hu
      cases h : xs[j]? with
      | none => rw [h] at hu; cases hu
      | some x =>
        rw [h] at hu; cases hu
        obtain ⟨hj, rfl⟩ := List.getElem?_eq_some_iff.1 h
        obtain ⟨a, ha, hl, hcell⟩ := HX.out j hj
        cases ha
        exact ⟨hcell, hl⟩
    have HAT := Lib.hid hat
    clear hat
    go_wp2_with (first | (at_builtin; have HPa := Lib.hid ((HP.out.alloc #[] 3).rowOf (A := []) (n := 0) (sz := 1) rfl (by unfold maxLen; omega)); refine wpList_append_src (A := []) rfl _ _ 27 rfl i_int (.int .i64 0) Tryd.underlying27 hi_int hz_int hs_int rfl (by decide) hy_int xs.length (by omega) HPa.out rfl rfl (news := List.map (Value.int .i64) xs) (by simp) (by simp [Value.oneCell']) (fun j u hu => (HPa.out.alike (F := ⟨w, Lt w.heap.size⟩) (by simp) (ad.add j) (by rw [block_of_add]; exact (HAT.out j u hu).2)).trans (HAT.out j u hu).1) (by unfold maxLen; omega) (by omega) ?_; clear HP HPa; intro A' c' wap HP; replace HP := Lib.hid HP))
    go_ret
    exact ⟨_, rfl, by simpa using HP.out⟩
theorem Clone_any (xs : List Int) (u : Value) (w : World) (hx : Lay.rep w (Lt w.heap.size) xs [u]) (hb : xs.length ≤ 17592186044000) :
    Calls Tryd.prog 50 #[u] w fun e w' => ∃ v, e = .returned v ∧ Lay.rep w' (Fresh w w') xs [v] ∧ Below w.heap.size w w' :=
  (Clone_own xs u w hx hb).mono fun _ _ ⟨v, he, H⟩ => ⟨v, he, H.rowInts (.head _) rfl, H.below⟩
end Go.Proofs.YtceilfmfidmfpaaDoor
namespace Go.Proofs.YtceilfmfidmfpaaDoor
open Go.RowKit
attribute [local irreducible] wpList Code.wp Oper.wp
theorem flat_inv {α : Type} (enc : α → List Value) (sz : Nat) (henc : ∀ x, (enc x).length = sz) (xs : List α) (j : Nat) (u : Value) (hu : (xs.flatMap enc)[j]? = some u) : ∃ (k r : Nat) (hk : k < xs.length), j = k * sz + r ∧ (enc xs[k])[r]? = some u := by
  induction xs generalizing j with
  | nil => simp at hu
  | cons y ys ih =>
    rw [List.flatMap_cons] at hu
    by_cases h : j < sz
    · rw [List.getElem?_append_left (by rw [henc]; exact h)] at hu
      exact ⟨0, j, by simp, by simp, hu⟩
    · rw [List.getElem?_append_right (by rw [henc]; omega), henc] at hu
      obtain ⟨k, r, hk, e, hr⟩ := ih _ hu
      exact ⟨k + 1, r, by simpa using hk, by rw [Nat.succ_mul]; omega, by simpa using hr⟩
theorem one_frms (xs : List Frm) : ∀ v ∈ xs.flatMap frmCells, v.oneCell' = true := fun v hv => by
  obtain ⟨x, -, hx⟩ := List.mem_flatMap.1 hv
  simp only [frmCells, List.mem_cons, List.not_mem_nil, or_false] at hx
  rcases hx with rfl | rfl | rfl | rfl | rfl | rfl | rfl | rfl | rfl | rfl | rfl | rfl | rfl | rfl <;> rfl
set_option maxRecDepth 10000 in
set_option maxHeartbeats 1000000 in
theorem CloneF_own (xs : List Frm) (u : Value) (w : World) (hx : Lay.rep w (Lt w.heap.size) xs [u]) (hb : xs.length ≤ 1256584717421) :
    Calls Tryd.prog 49 #[u] w fun e w' => ∃ v, e = .returned v ∧ Hp w [⟨w, Lt w.heap.size⟩] [.row v 39 14 xs.length (xs.flatMap frmCells)] w' := by
  obtain ⟨A, c, rfl, hc, hm, hx⟩ := rep_frames_at hx
  unfold maxLen at hm
  have HX := Lib.hid hx
  clear hx
  obtain ⟨i_Frm, hi_Frm, hz_Frm, hs_Frm, hy_Frm⟩ := info_parts info_Frm
  have HP := Lib.hid (Hp.start w)
  cases A with
  | none =>
    have hx0 : xs = [] := by
      cases xs with
      | nil => rfl
      | cons x l => obtain ⟨a, e, _⟩ := HX.out 0 (by simp); cases e
    subst hx0
    have hnil : (binOp .eql 25 (.slice none 0 c) (.slice none 0 0)).run Tryd.prog w = .ok (.bool true) w := eql_nil w _ _ none _ _ Tryd.underlying25
    simp only [List.length_nil]
    go_enter Tryd.func49, Tryd.ntmps49
    go_wp2
    go_ret
    exact ⟨_, rfl, HP.out.nil _ _⟩
  | some ad =>
    go_enter Tryd.func49, Tryd.ntmps49
    have hnil : (binOp .eql 25 (.slice (some ad) xs.length c) (.slice none 0 0)).run Tryd.prog w = .ok (.bool false) w := eql_nil w _ _ (some ad) _ _ Tryd.underlying25
    have hat : ∀ j u, (xs.flatMap frmCells)[j]? = some u → w.cell? (ad.add j) = some u ∧ ad.block < w.heap.size := fun j u hu => by
      obtain ⟨k, r, hk, rfl, hr⟩ := flat_inv frmCells 14 (fun _ => rfl) xs j u hu
      obtain ⟨a, ha, hl, hcell⟩ := HX.out k hk
      cases ha
      have := hcell r u hr
      rw [add_of_add] at this
      exact ⟨this, hl⟩
    have HAT := Lib.hid hat
    clear hat
    go_wp2_with (first | (at_builtin; have HPa := Lib.hid ((HP.out.alloc #[] 39).rowOf (A := []) (n := 0) (sz := 14) rfl (by unfold maxLen; omega)); refine wpList_append_src (A := []) rfl _ _ 25 rfl i_Frm (.agg #[.int .i64 0, .int .i64 0, .int .i64 0, .int .i64 0, .int .i64 0, .int .i64 0, .int .i64 0, .int .i64 0, .int .i64 0, .int .i64 0, .int .i64 0, .int .i64 0, .int .i64 0, .int .i64 0]) Tryd.underlying25 hi_Frm hz_Frm hs_Frm rfl (by decide) hy_Frm xs.length (by omega) HPa.out rfl rfl (news := xs.flatMap frmCells) (frms_len xs) (one_frms xs) (fun j u hu => (HPa.out.alike (F := ⟨w, Lt w.heap.size⟩) (by simp) (ad.add j) (by rw [block_of_add]; exact (HAT.out j u hu).2)).trans (HAT.out j u hu).1) (by unfold maxLen; omega) (by omega) ?_; clear HP HPa; intro A' c' wap HP; replace HP := Lib.hid HP))
    go_ret
    exact ⟨_, rfl, by simpa using HP.out⟩
end Go.Proofs.YtceilfmfidmfpaaDoor
namespace Go.Proofs.YtceilfmfidmfpaaDoor
open Go.RowKit
attribute [local irreducible] wpList Code.wp Oper.wp
set_option maxRecDepth 10000 in
set_option maxHeartbeats 2000000 in
theorem own_own (s : Sta) (u e a : Value) (w : World) (hf : Lay.rep w (Lt w.heap.size) s.frames [u]) (he : Lay.rep w (Lt w.heap.size) s.events [e]) (ha : Lay.rep w (Lt w.heap.size) s.answers [a]) (hlf : s.frames.length ≤ 1256584717421) (hle : s.events.length ≤ 17592186044000) (hla : s.answers.length ≤ 17592186044000) :
    Calls Tryd.prog 31 #[.agg (staCells s u e a).toArray] w fun r w' => ∃ u' e' a', r = .returned (.agg (staCells s u' e' a').toArray) ∧ Hp w [⟨w, Lt w.heap.size⟩] (ownS s u' e' a') w' := by
  obtain ⟨A, c, rfl, hc, hm, -⟩ := rep_frames_at hf
  unfold maxLen at hm
  obtain ⟨AE, ce, rfl, hce, hme, -⟩ := rep_ints_at he
  obtain ⟨AA, ca, rfl, hca, hma, -⟩ := rep_ints_at ha
  have HX := Lib.hid hf
  have HE := Lib.hid he
  have HAN := Lib.hid ha
  clear hf he ha
  unfold staCells
  have HP := Lib.hid (Hp.start w)
  go_enter Tryd.func31, Tryd.ntmps31
  go_wp2_with (first | (refine wpList_alloc_hp (o := ⟨some 2, _, _, _, _, _⟩) rfl _ rfl HP.out (.agg #[.int .i64 0, .int .i64 0, .slice none 0 0, .int .i64 0, .int .i64 0, .int .i64 0, .int .i64 0, .int .i64 0, .int .i64 0, .int .i64 0, .int .i64 0, .int .i64 0, .int .i64 0, .int .i64 0, .int .i64 0, .int .i64 0, .int .i64 0, .int .i64 0, .int .i64 0, .int .i64 0, .slice none 0 0, .slice none 0 0]) (by kernel_rfl) [_, _, _, _, _, _, _, _, _, _, _, _, _, _, _, _, _, _, _, _, _, _] rfl ?_; clear HP; intro g2 w2 HP; replace HP := Lib.hid HP) | (refine wpList_box_hp (o := ⟨some 1, _, _, _, _, _⟩) rfl _ _ rfl HP.out [_, _, _, _, _, _, _, _, _, _, _, _, _, _, _, _, _, _, _, _, _, _] rfl ?_; clear HP; intro g1 w1 HP; replace HP := Lib.hid HP) | (refine wpList_ld0 rfl 25 _ rfl HP.out rfl rfl Tryd.underlying25 rfl ?_) | (refine wpList_ld1 rfl 25 _ rfl HP.out rfl rfl Tryd.underlying25 rfl ?_) | (refine wpList_st0 rfl 25 _ _ rfl HP.out rfl rfl (by simp) rfl rfl (by kernel_rfl) ?_; clear HP; intro wst HP; replace HP := Lib.hid HP) | (refine wpList_st1 rfl 25 _ _ rfl HP.out rfl rfl (by simp) rfl rfl (by kernel_rfl) ?_; clear HP; intro wst HP; replace HP := Lib.hid HP) | (refine wpList_st0 rfl 27 _ _ rfl HP.out rfl rfl (by simp) rfl rfl (by kernel_rfl) ?_; clear HP; intro wst HP; replace HP := Lib.hid HP) | (refine wpList_st1 rfl 27 _ _ rfl HP.out rfl rfl (by simp) rfl rfl (by kernel_rfl) ?_; clear HP; intro wst HP; replace HP := Lib.hid HP) | (refine wpList_ld0 rfl 27 _ rfl HP.out rfl rfl Tryd.underlying27 rfl ?_) | (refine wpList_ld1 rfl 27 _ rfl HP.out rfl rfl Tryd.underlying27 rfl ?_) | (refine wpList_ldR0 rfl 29 _ rfl HP.out rfl Tryd.underlying29 rfl (by kernel_rfl) ?_) | (refine wpList_ldR1 rfl 29 _ rfl HP.out rfl Tryd.underlying29 rfl (by kernel_rfl) ?_) | (refine wpList_stR0 rfl 29 _ _ rfl HP.out rfl (cs' := staCells s (.slice A4 s.frames.length c4) (.slice A5 s.events.length c5) (.slice A6 s.answers.length c6)) rfl rfl (by simp [staCells, Value.oneCell']) (by kernel_rfl) ?_; clear HP; intro wst HP; replace HP := Lib.hid HP) | (go_at_call 49; refine (CloneF_own s.frames _ _ (HP.out.rep (F := ⟨w, Lt w.heap.size⟩) (by simp) HX.out) hlf).mono ?_; rintro e4 w4 ⟨v4, rfl, hb4⟩; obtain ⟨A4, c4, rfl, -, -, -⟩ := rep_frames_at (hb4.rowFrames (.head _) rfl); replace HP := Lib.hid (by simpa only [List.cons_append, List.nil_append] using HP.out.takeEnd hb4); clear hb4) | (go_at_call_of 50 (Value.slice AE s.events.length ce); refine (Clone_own s.events _ _ (HP.out.rep (F := ⟨w, Lt w.heap.size⟩) (by simp) HE.out) hle).mono ?_; rintro e5 w5 ⟨v5, rfl, hb5⟩; obtain ⟨A5, c5, rfl, -, -, -⟩ := rep_ints_at (hb5.rowInts (.head _) rfl); replace HP := Lib.hid (by simpa only [List.cons_append, List.nil_append] using HP.out.takeEnd hb5); clear hb5) | (go_at_call_of 50 (Value.slice AA s.answers.length ca); refine (Clone_own s.answers _ _ (HP.out.rep (F := ⟨w, Lt w.heap.size⟩) (by simp) HAN.out) hla).mono ?_; rintro e6 w6 ⟨v6, rfl, hb6⟩; obtain ⟨A6, c6, rfl, -, -, -⟩ := rep_ints_at (hb6.rowInts (.head _) rfl); replace HP := Lib.hid (by simpa only [List.cons_append, List.nil_append] using HP.out.takeEnd hb6); clear hb6))
  refine bodyPost_ret (results_cell_row rfl _ _ g2 29 (staCells s (.slice A4 s.frames.length c4) (.slice A5 s.events.length c5) (.slice A6 s.answers.length c6)).toArray (0, 0) _ rfl (HP.out.blk (.head _)) Tryd.underlying29 rfl (by kernel_rfl)) rfl ⟨_, _, _, rfl, ?_⟩
  exact (HP.out.drop (A := [])).drop (A := [])
end Go.Proofs.YtceilfmfidmfpaaDoor
