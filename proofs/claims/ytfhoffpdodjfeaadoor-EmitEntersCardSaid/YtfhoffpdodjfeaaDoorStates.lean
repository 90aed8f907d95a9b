/- The law's states. -/
import Derived.Test.YtfhoffpdodjfeaaDoorCopy
set_option linter.unusedSimpArgs false
set_option linter.unusedVariables false
namespace Go.Proofs.YtfhoffpdodjfeaaDoor
open Go.RowKit
attribute [local irreducible] wpList Code.wp Oper.wp
set_option maxRecDepth 10000 in
set_option maxHeartbeats 1000000 in
theorem states_any (s : Sta) (u e a : Value) (w : World) (hf : Lay.rep w (Lt w.heap.size) s.frames [u]) (he : Lay.rep w (Lt w.heap.size) s.events [e]) (ha : Lay.rep w (Lt w.heap.size) s.answers [a]) (hlf : s.frames.length ≤ 1256584717421) (hle : s.events.length ≤ 17592186044000) (hla : s.answers.length ≤ 17592186044000) :
    Calls Tryd.prog 23 #[.agg (staCells s u e a).toArray] w fun r w' => ∃ u' e' a', r = .returned (.agg (staCells s u' e' a').toArray) ∧ Lay.rep w' (Fresh w w') s.frames [u'] ∧ Lay.rep w' (Fresh w w') s.events [e'] ∧ Lay.rep w' (Fresh w w') s.answers [a'] ∧ Below w.heap.size w w' := by
  have HF := Lib.hid hf
  have HE := Lib.hid he
  have HAN := Lib.hid ha
  clear hf he ha
  unfold staCells
  have HP := Lib.hid (Hp.start w)
  go_enter Tryd.func23, Tryd.ntmps23
  go_wp2_with (first | (refine wpList_alloc_hp (o := ⟨some 2, _, _, _, _, _⟩) rfl _ rfl HP.out (.agg #[.int .i64 0, .int .i64 0, .slice none 0 0, .int .i64 0, .int .i64 0, .int .i64 0, .int .i64 0, .int .i64 0, .int .i64 0, .int .i64 0, .int .i64 0, .int .i64 0, .int .i64 0, .int .i64 0, .int .i64 0, .int .i64 0, .int .i64 0, .int .i64 0, .int .i64 0, .int .i64 0, .slice none 0 0, .slice none 0 0]) (by kernel_rfl) [_, _, _, _, _, _, _, _, _, _, _, _, _, _, _, _, _, _, _, _, _, _] rfl ?_; clear HP; intro g2 w2 HP; replace HP := Lib.hid HP) | (refine wpList_box_hp (o := ⟨some 1, _, _, _, _, _⟩) rfl _ _ rfl HP.out [_, _, _, _, _, _, _, _, _, _, _, _, _, _, _, _, _, _, _, _, _, _] rfl ?_; clear HP; intro g1 w1 HP; replace HP := Lib.hid HP) | (refine wpList_ldR0 rfl 29 _ rfl HP.out rfl Tryd.underlying29 rfl (by kernel_rfl) ?_) | (refine wpList_ldR1 rfl 29 _ rfl HP.out rfl Tryd.underlying29 rfl (by kernel_rfl) ?_) | (refine wpList_stR0 rfl 29 _ _ rfl HP.out rfl (cs' := staCells s (.slice A1 s.frames.length c1) (.slice A2 s.events.length c2) (.slice A3 s.answers.length c3)) rfl rfl (by simp [staCells, Value.oneCell']) (by kernel_rfl) ?_; clear HP; intro wst HP; replace HP := Lib.hid HP) | (go_at_call 53; go_loud (refine (StateCopy_any s _ _ _ _ (HP.out.rep (F := ⟨w, Lt w.heap.size⟩) (.head _) HF.out) (HP.out.rep (F := ⟨w, Lt w.heap.size⟩) (.head _) HE.out) (HP.out.rep (F := ⟨w, Lt w.heap.size⟩) (.head _) HAN.out) hlf hle hla).mono ?_); rintro r w2 ⟨u', e', a', rfl, h1, h2, h3, hb⟩; obtain ⟨A1, c1, rfl, -, -, -⟩ := rep_frames_at h1; obtain ⟨A2, c2, rfl, -, -, -⟩ := rep_ints_at h2; obtain ⟨A3, c3, rfl, -, -, -⟩ := rep_ints_at h3; have hz := HP.out.size; replace HP := Lib.hid (HP.out.call hb); have H1 := Lib.hid h1; have H2 := Lib.hid h2; have H3 := Lib.hid h3; clear hb h1 h2 h3; unfold staCells))
  refine bodyPost_ret (results_cell_row rfl _ _ g2 29 (staCells s (.slice A1 s.frames.length c1) (.slice A2 s.events.length c2) (.slice A3 s.answers.length c3)).toArray (0, 0) _ rfl (HP.out.blk (.head _)) Tryd.underlying29 rfl (by kernel_rfl)) rfl ⟨_, _, _, rfl, ?_, ?_, ?_, HP.out.below⟩
  · exact HP.out.repMore (.head _) H1.out (fun b hb => ⟨Nat.le_trans hz hb.1, (HP.out.fro _ (.head _) b hb).1⟩)
  · exact HP.out.repMore (.head _) H2.out (fun b hb => ⟨Nat.le_trans hz hb.1, (HP.out.fro _ (.head _) b hb).1⟩)
  · exact HP.out.repMore (.head _) H3.out (fun b hb => ⟨Nat.le_trans hz hb.1, (HP.out.fro _ (.head _) b hb).1⟩)
end Go.Proofs.YtfhoffpdodjfeaaDoor
