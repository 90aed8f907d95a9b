/- The law's states. The law's sameInts. Arrays and frames that are the same are equal. -/
import Derived.Test.YtfhoffpdodjfeaaDoorCopy
import Derived.Test.YtfhoffpdodjfeaaDoorMgPr2
import Derived.Test.YtfhoffpdodjfeaaDoorCodeA
import Derived.Test.YtfhoffpdodjfeaaDoorMgState3
import Derived.ChangeKeysEq
set_option linter.unusedSimpArgs false
set_option linter.unusedVariables false
namespace Go.Proofs.YtfhoffpdodjfeaaDoor
open Go.RowKit
attribute [local irreducible] wpList Code.wp Oper.wp
set_option maxRecDepth 10000 in
set_option maxHeartbeats 1000000 in
theorem states_any (s : Sta) (u e a : Value) (w : World) (hf : Lay.rep w (Lt w.heap.size) s.frames [u]) (he : Lay.rep w (Lt w.heap.size) s.events [e]) (ha : Lay.rep w (Lt w.heap.size) s.answers [a]) (hlf : s.frames.length ≤ 1256584717421) (hle : s.events.length ≤ 17592186044000) (hla : s.answers.length ≤ 17592186044000) :
    Calls Tryd.prog 23 #[.agg (staCells s u e a).toArray] w fun r w' => ∃ u' e' a', r = .returned (.agg (staCells s u' e' a').toArray) ∧ Lay.rep w' (Fresh w w') s.frames [u'] ∧ Lay.rep w' (Fresh w w') s.events [e'] ∧ Lay.rep w' (Fresh w w') s.answers [a'] ∧ Below w.heap.size w w' := by
  have HF := Lib.hid hf
  have HE := Lib.hid he
  have HAN := Lib.hid ha
  clear hf he ha
  unfold staCells
  have HP := Lib.hid (Hp.start w)
  go_enter Tryd.func23, Tryd.ntmps23
  go_wp2_with (first | (refine wpList_alloc_hp (o := ⟨some 2, _, _, _, _, _⟩) rfl _ rfl HP.out (.agg #[.int .i64 0, .int .i64 0, .slice none 0 0, .int .i64 0, .int .i64 0, .int .i64 0, .int .i64 0, .int .i64 0, .int .i64 0, .int .i64 0, .int .i64 0, .int .i64 0, .int .i64 0, .int .i64 0, .int .i64 0, .int .i64 0, .int .i64 0, .int .i64 0, .int .i64 0, .int .i64 0, .slice none 0 0, .slice none 0 0]) (by kernel_rfl) [_, _, _, _, _, _, _, _, _, _, _, _, _, _, _, _, _, _, _, _, _, _] rfl ?_; clear HP; intro g2 w2 HP; replace HP := Lib.hid HP) | (refine wpList_box_hp (o := ⟨some 1, _, _, _, _, _⟩) rfl _ _ rfl HP.out [_, _, _, _, _, _, _, _, _, _, _, _, _, _, _, _, _, _, _, _, _, _] rfl ?_; clear HP; intro g1 w1 HP; replace HP := Lib.hid HP) | (refine wpList_ldR0 rfl 29 _ rfl HP.out rfl Tryd.underlying29 rfl (by kernel_rfl) ?_) | (refine wpList_ldR1 rfl 29 _ rfl HP.out rfl Tryd.underlying29 rfl (by kernel_rfl) ?_) | (refine wpList_stR0 rfl 29 _ _ rfl HP.out rfl (cs' := staCells s (.slice A1 s.frames.length c1) (.slice A2 s.events.length c2) (.slice A3 s.answers.length c3)) rfl rfl (by simp [staCells, Value.oneCell']) (by kernel_rfl) ?_; clear HP; intro wst HP; replace HP := Lib.hid HP) | (go_at_call 53; go_loud (refine (StateCopy_any s _ _ _ _ (HP.out.rep (F := ⟨w, Lt w.heap.size⟩) (.head _) HF.out) (HP.out.rep (F := ⟨w, Lt w.heap.size⟩) (.head _) HE.out) (HP.out.rep (F := ⟨w, Lt w.heap.size⟩) (.head _) HAN.out) hlf hle hla).mono ?_); rintro r w2 ⟨u', e', a', rfl, h1, h2, h3, hb⟩; obtain ⟨A1, c1, rfl, -, -, -⟩ := rep_frames_at h1; obtain ⟨A2, c2, rfl, -, -, -⟩ := rep_ints_at h2; obtain ⟨A3, c3, rfl, -, -, -⟩ := rep_ints_at h3; have hz := HP.out.size; replace HP := Lib.hid (HP.out.call hb); have H1 := Lib.hid h1; have H2 := Lib.hid h2; have H3 := Lib.hid h3; clear hb h1 h2 h3; unfold staCells))
  refine bodyPost_ret (results_cell_row rfl _ _ g2 29 (staCells s (.slice A1 s.frames.length c1) (.slice A2 s.events.length c2) (.slice A3 s.answers.length c3)).toArray (0, 0) _ rfl (HP.out.blk (.head _)) Tryd.underlying29 rfl (by kernel_rfl)) rfl ⟨_, _, _, rfl, ?_, ?_, ?_, HP.out.below⟩
  · exact HP.out.repMore (.head _) H1.out (fun b hb => ⟨Nat.le_trans hz hb.1, (HP.out.fro _ (.head _) b hb).1⟩)
  · exact HP.out.repMore (.head _) H2.out (fun b hb => ⟨Nat.le_trans hz hb.1, (HP.out.fro _ (.head _) b hb).1⟩)
  · exact HP.out.repMore (.head _) H3.out (fun b hb => ⟨Nat.le_trans hz hb.1, (HP.out.fro _ (.head _) b hb).1⟩)
end Go.Proofs.YtfhoffpdodjfeaaDoor
namespace Go.Proofs.YtfhoffpdodjfeaaDoor
open Go.RowKit
attribute [local irreducible] wpList Code.wp Oper.wp
set_option maxRecDepth 10000 in
set_option maxHeartbeats 1000000 in
theorem sameInts_any (xs ys : List Int) (u v : Value) (w : World) (hx : Lay.rep w (Lt w.heap.size) xs [u]) (hy : Lay.rep w (Lt w.heap.size) ys [v]) :
    Calls Tryd.prog 21 #[u, v] w fun e w' => e = .returned (.bool (decide (xs = ys))) ∧ Below w.heap.size w w' := by
  obtain ⟨A, c, rfl, hc, hm, hx⟩ := rep_ints_at hx
  obtain ⟨B, d, rfl, hd, hn, hy⟩ := rep_ints_at hy
  unfold maxLen at hm hn
  have HX := Lib.hid hx
  have HY := Lib.hid hy
  clear hx hy
  by_cases hl : xs.length = ys.length
  · have HL := Lib.hid hl
    have hlb : ((xs.length : Int) != (ys.length : Int)) = false := by simp; omega
    clear hl
    go_enter Tryd.func21, Tryd.ntmps21
    go_wp2
    go_loopw [5] (fun i wr => ∃ (k n : Nat), k ≤ xs.length ∧ i = .int .i64 k ∧ Hid (xs.take k = ys.take k) ∧ wr = w.drewN n) (fun i _ => xs.length - (intOf i).toNat)
    case atStart => exact ⟨0, 0, by omega, rfl, Lib.hid (by simp), rfl⟩
    case round =>
      obtain ⟨k, n, hk, rfl, HT, rfl⟩ := hrel
      by_cases hlt : k < xs.length
      · have hlt2 : (k : Int) < (xs.length : Int) := by omega
        have hly : k < ys.length := by rw [← HL.out]; exact hlt
        have hly2 : (k : Int) < (ys.length : Int) := by omega
        obtain ⟨a, rfl, hab, hca⟩ := HX.out k hlt
        obtain ⟨b, rfl, hbb, hcb⟩ := HY.out k hly
        obtain ⟨x, hx⟩ : ∃ x, xs[k] = x := ⟨_, rfl⟩
        obtain ⟨y, hy⟩ : ∃ y, ys[k] = y := ⟨_, rfl⟩
        rw [hx] at hca
        rw [hy] at hcb
        have HXK := Lib.hid (show xs[k]? = some x by rw [← hx, List.getElem?_eq_getElem hlt])
        have HYK := Lib.hid (show ys[k]? = some y by rw [← hy, List.getElem?_eq_getElem hly])
        clear hx hy
        go_upto_region 6 with fail
        go_quiet (fail)
        by_cases hxy : x = y
        · have HXY := Lib.hid hxy
          have hb : (x != y) = false := by simpa using hxy
          clear hxy
          go_wp2
          go_roundw
          case rel => exact ⟨k + 1, n + nq, by omega, by go_num, Lib.hid (by rw [List.take_add_one, List.take_add_one, HT.out, HXK.out, HYK.out, HXY.out]), rfl⟩
          case measure => simp [intOf]; omega
        · have HXY := Lib.hid hxy
          have hb : (x != y) = true := by simpa using hxy
          clear hxy
          go_wp2
          go_ret
          exact ⟨ret_bool (by simp; exact fun e => HXY.out (by have := HXK.out; rw [e, HYK.out] at this; exact (Option.some.inj this).symm)), below_drewN (below_drewN (Below.refl _ _) _) _⟩
      · obtain rfl : k = xs.length := by omega
        go_wp2
        go_ret
        exact ⟨ret_bool (by have h := HT.out; rw [List.take_of_length_le (Nat.le_refl _), HL.out, List.take_of_length_le (Nat.le_refl _)] at h; simp [h]), below_drewN (Below.refl _ _) _⟩
  · have hlb : ((xs.length : Int) != (ys.length : Int)) = true := by simp; omega
    have HL := Lib.hid hl
    clear hl
    go_enter Tryd.func21, Tryd.ntmps21
    go_wp2
    go_ret
    exact ⟨ret_bool (by simp; exact fun e => HL.out (congrArg List.length e)), Below.refl _ _⟩
end Go.Proofs.YtfhoffpdodjfeaaDoor
namespace Go.Proofs.YtfhoffpdodjfeaaDoor
open Go.RowKit
theorem eq_int (d : Nat) (n : Int) (w : World) : (Op.equalIn (d + 1) 3 (.int .i64 n) (.int .i64 n)).run Tryd.prog w = .ok true w := by
  simp [Op.equalIn, run_underlying Tryd.underlying3]
theorem eq_items (d : Nat) (vs : List Int) (w : World) : ∀ (is : List Nat), (∀ i ∈ is, i < vs.length) → (Op.eqItems (d + 1) 3 1 (vs.map (Value.int .i64)).toArray (vs.map (Value.int .i64)).toArray is).run Tryd.prog w = .ok true w
  | [], _ => by simp [Op.eqItems]
  | i :: is, h => by
    have hi := h i (by simp)
    have hp : (part 3 (vs.map (Value.int .i64)).toArray (i * 1)).run Tryd.prog w = .ok (.int .i64 vs[i]) w := by
      rw [Nat.mul_one]
      exact run_part_plain w (by kernel_rfl) (by simp [hi])
    simp only [Op.eqItems, Sem.run_bind, hp, Result.andThen_ok, eq_int]
    simpa using eq_items d vs w is (fun j hj => h j (by simp [hj]))
theorem eq_arr16 (vs : List Int) (hl : vs.length = 16) (w : World) (d : Nat) : (Op.equalIn (d + 1 + 1) 27 (.agg (vs.map (Value.int .i64)).toArray) (.agg (vs.map (Value.int .i64)).toArray)).run Tryd.prog w = .ok true w := by
  obtain ⟨i, hi, -⟩ := info_parts info_int
  rw [run_equalIn_array w (d + 1) _ _ Tryd.underlying27 hi]
  rw [show Tryd.prog.cellsOf 3 = 1 by kernel_rfl]
  exact eq_items d vs w (List.range 16) (fun i hi => by rw [hl]; simpa using hi)
theorem eq_arr12 (vs : List Int) (hl : vs.length = 12) (w : World) (d : Nat) : (Op.equalIn (d + 1 + 1) 73 (.agg (vs.map (Value.int .i64)).toArray) (.agg (vs.map (Value.int .i64)).toArray)).run Tryd.prog w = .ok true w := by
  obtain ⟨i, hi, -⟩ := info_parts info_int
  rw [run_equalIn_array w (d + 1) _ _ Tryd.underlying73 hi]
  rw [show Tryd.prog.cellsOf 3 = 1 by kernel_rfl]
  exact eq_items d vs w (List.range 12) (fun i hi => by rw [hl]; simpa using hi)
theorem eq_mem' (d : Nat) (a0 a1 a2 a3 a4 a5 a6 a7 a8 a9 a10 a11 a12 a13 a14 a15 : Int) (w : World) : (Op.equalIn (d + 1 + 1) 27 (.agg #[iV a0, iV a1, iV a2, iV a3, iV a4, iV a5, iV a6, iV a7, iV a8, iV a9, iV a10, iV a11, iV a12, iV a13, iV a14, iV a15]) (.agg #[iV a0, iV a1, iV a2, iV a3, iV a4, iV a5, iV a6, iV a7, iV a8, iV a9, iV a10, iV a11, iV a12, iV a13, iV a14, iV a15])).run Tryd.prog w = .ok true w :=
  eq_arr16 [a0, a1, a2, a3, a4, a5, a6, a7, a8, a9, a10, a11, a12, a13, a14, a15] rfl w d
theorem eq_frm' (d : Nat) (x : Frm) (w : World) : (Op.equalIn (d + 1 + 1 + 1) 75 (.agg (frmCells x).toArray) (.agg (frmCells x).toArray)).run Tryd.prog w = .ok true w := by
  have h12 : (Op.equalIn (d + 1 + 1) 73 (.agg #[iV (x.rg 0), iV (x.rg 1), iV (x.rg 2), iV (x.rg 3), iV (x.rg 4), iV (x.rg 5), iV (x.rg 6), iV (x.rg 7), iV (x.rg 8), iV (x.rg 9), iV (x.rg 10), iV (x.rg 11)]) (.agg #[iV (x.rg 0), iV (x.rg 1), iV (x.rg 2), iV (x.rg 3), iV (x.rg 4), iV (x.rg 5), iV (x.rg 6), iV (x.rg 7), iV (x.rg 8), iV (x.rg 9), iV (x.rg 10), iV (x.rg 11)])).run Tryd.prog w = .ok true w := eq_arr12 [x.rg 0, x.rg 1, x.rg 2, x.rg 3, x.rg 4, x.rg 5, x.rg 6, x.rg 7, x.rg 8, x.rg 9, x.rg 10, x.rg 11] rfl w d
  have hi := fun n => eq_int (d + 1) n w
  have hp0 : (part 3 (frmCells x).toArray 0).run Tryd.prog w = .ok (iV x.fn) w := run_part_plain w (by kernel_rfl) rfl
  have hp1 : (part 3 (frmCells x).toArray 1).run Tryd.prog w = .ok (iV x.pc) w := run_part_plain w (by kernel_rfl) rfl
  have hp2 : (part 73 (frmCells x).toArray 2).run Tryd.prog w = .ok (.agg #[iV (x.rg 0), iV (x.rg 1), iV (x.rg 2), iV (x.rg 3), iV (x.rg 4), iV (x.rg 5), iV (x.rg 6), iV (x.rg 7), iV (x.rg 8), iV (x.rg 9), iV (x.rg 10), iV (x.rg 11)]) w := by kernel_rfl
  generalize (frmCells x).toArray = cs at *
  generalize (Value.agg #[iV (x.rg 0), iV (x.rg 1), iV (x.rg 2), iV (x.rg 3), iV (x.rg 4), iV (x.rg 5), iV (x.rg 6), iV (x.rg 7), iV (x.rg 8), iV (x.rg 9), iV (x.rg 10), iV (x.rg 11)]) = V at *
  unfold Op.equalIn
  simp only [Sem.run_bind, run_underlying Tryd.underlying75, Result.andThen_ok]
  simp [Op.eqFields, hp0, hp1, hp2, hi, h12]
theorem eq_mem (a0 a1 a2 a3 a4 a5 a6 a7 a8 a9 a10 a11 a12 a13 a14 a15 : Int) (w : World) : (Op.equal 27 (.agg #[iV a0, iV a1, iV a2, iV a3, iV a4, iV a5, iV a6, iV a7, iV a8, iV a9, iV a10, iV a11, iV a12, iV a13, iV a14, iV a15]) (.agg #[iV a0, iV a1, iV a2, iV a3, iV a4, iV a5, iV a6, iV a7, iV a8, iV a9, iV a10, iV a11, iV a12, iV a13, iV a14, iV a15])).run Tryd.prog w = .ok true w := eq_mem' 9998 ..
theorem eq_frm (x : Frm) (w : World) : (Op.equal 75 (.agg (frmCells x).toArray) (.agg (frmCells x).toArray)).run Tryd.prog w = .ok true w := eq_frm' 9997 x w
end Go.Proofs.YtfhoffpdodjfeaaDoor
