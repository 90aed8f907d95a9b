/- ref.Numbers, ref.StateCopy; the law's states. proof.Reads. tierlineref.ofBits. tierlineref.Made: the ways that need no bits; words for the others. tierlineref.Made: And, Or, Xor. tierlineref.Made: Shl, Sar. tierlineref.Made answers what step.Make answers. The law's states. -/
import Derived.Test.YtceilfmfidmfpaaDoorMgReadsOfStateNextLawBegLawNextAnsRunLawRunLawBBegRun8
import Derived.Test.YtceilfmfidmfpaaDoorMgProfLawBlkMemReadsHReadsKTidyLaw5
import Derived.Test.YtceilfmfidmfpaaDoorMgValidPureLaw2
import Derived.Test.YtceilfmfidmfpaaDoorMgBitsBitsZ2
import Derived.Test.YtceilfmfidmfpaaDoorMgCodeACodeBCodeC3
set_option linter.unusedSimpArgs false
set_option linter.unusedVariables false
namespace Go.Proofs.YtceilfmfidmfpaaDoor
open Go.RowKit
attribute [local irreducible] wpList Code.wp Oper.wp
set_option maxRecDepth 10000 in
set_option maxHeartbeats 1000000 in
theorem Numbers_own (xs : List Int) (u : Value) (w : World) (hx : Lay.rep w (Lt w.heap.size) xs [u]) (hb : xs.length ≤ 17592186044000) :
    Calls Tryd.prog 22 #[u] w fun e w' => ∃ v, e = .returned v ∧ Hp w [⟨w, Lt w.heap.size⟩] [.row v 3 1 xs.length (xs.map (Value.int .i64))] w' := by
  obtain ⟨A, c, rfl, hc, hm, hx⟩ := rep_ints_at hx
  unfold maxLen at hm
  have HX := Lib.hid hx
  clear hx
  obtain ⟨i_int, hi_int, hz_int, hs_int, hy_int⟩ := info_parts info_int
  have HP := Lib.hid ((Hp.start w).nil 3 1)
  go_enter Tryd.func22, Tryd.ntmps22
  go_wp2
  go_loopw [3, 4] (fun v i wr => ∃ (k : Nat) (A' : Option Addr) (c' : Nat), k ≤ xs.length ∧ v = .slice A' k c' ∧ i = .int .i64 k ∧ Hid (Hp w [{ w := w, S := Lt w.heap.size }] [Res.row (.slice A' k c') 3 1 (k) (List.map (Value.int IntKind.i64) (xs.take k))] wr)) (fun _ i _ => xs.length - (intOf i).toNat)
  case atStart => exact ⟨0, none, 0, by omega, rfl, rfl, HP⟩
  case round =>
    clear HP
    obtain ⟨k, A', c', hk, rfl, rfl, HP⟩ := hrel
    obtain ⟨wo, rfl⟩ : ∃ wo : World, wo = wr := ⟨_, rfl⟩
    by_cases hlt : k < xs.length
    · obtain ⟨a, rfl, hab, hca⟩ := HX.out k hlt
      have hcw := (HP.out.alike (F := ⟨w, Lt w.heap.size⟩) (.head _) (a.add k) (by rw [block_of_add]; exact hab)).trans hca
      have hlt2 : (k : Int) < (xs.length : Int) := by omega
      have HTK := Lib.hid (show xs.take (k + 1) = xs.take k ++ [xs[k]] by rw [List.take_add_one, List.getElem?_eq_getElem hlt]; rfl)
      obtain ⟨x, hx⟩ : ∃ x, xs[k] = x := ⟨_, rfl⟩
      rw [hx] at hcw HTK
      clear hx hca
      go_wp2_with (first | (refine wpList_ints_hp rfl 27 3 1 _ rfl HP.out Tryd.underlying27 [_] rfl (by kernel_rfl) ?_; clear HP; intro gi wi HP; replace HP := Lib.hid HP) | (at_builtin; refine wpList_apg0 rfl _ _ 27 rfl i_int (.int .i64 0) Tryd.underlying27 hi_int hz_int hs_int rfl (by decide) hy_int (k + 1) rfl HP.out rfl rfl rfl (by simp [Value.oneCell']) (by unfold maxLen; omega) (by omega) (by omega) ?_; clear HP; intro gap cap wap HP; replace HP := Lib.hid HP))
      go_roundw
      case rel => exact ⟨k + 1, _, _, by omega, rfl, by go_num, Lib.hid (by rw [HTK.out, List.map_append]; exact HP.out)⟩
      case measure => simp [intOf]; omega
    · obtain rfl : k = xs.length := by omega
      go_wp2
      go_ret
      exact ⟨_, rfl, by have := HP.out; rwa [List.take_of_length_le (Nat.le_refl _)] at this⟩
theorem Numbers_any (xs : List Int) (u : Value) (w : World) (hx : Lay.rep w (Lt w.heap.size) xs [u]) (hb : xs.length ≤ 17592186044000) :
    Calls Tryd.prog 22 #[u] w fun e w' => ∃ v, e = .returned v ∧ Lay.rep w' (Fresh w w') xs [v] ∧ Below w.heap.size w w' :=
  (Numbers_own xs u w hx hb).mono fun _ _ ⟨v, he, H⟩ => ⟨v, he, H.rowInts (.head _) rfl, H.below⟩
/-- What a state's rows are, owned. -/
abbrev ownS (s : Sta) (u e a : Value) : List Res := [.row u 39 14 s.frames.length (s.frames.flatMap frmCells), .row e 3 1 s.events.length (s.events.map (Value.int .i64)), .row a 3 1 s.answers.length (s.answers.map (Value.int .i64))]
theorem info_Frm : (Tryd.prog.info? 39).map (fun i => (i.zero, i.size, i.bytes)) = some (some (.agg #[.int .i64 0, .int .i64 0, .int .i64 0, .int .i64 0, .int .i64 0, .int .i64 0, .int .i64 0, .int .i64 0, .int .i64 0, .int .i64 0, .int .i64 0, .int .i64 0, .int .i64 0, .int .i64 0]), 14, 112) := by kernel_rfl
set_option maxRecDepth 10000 in
set_option maxHeartbeats 1000000 in
theorem StateCopy_own (s : Sta) (u e a : Value) (w : World) (hf : Lay.rep w (Lt w.heap.size) s.frames [u]) (he : Lay.rep w (Lt w.heap.size) s.events [e]) (ha : Lay.rep w (Lt w.heap.size) s.answers [a]) (hlf : s.frames.length ≤ 1256584717421) (hle : s.events.length ≤ 17592186044000) (hla : s.answers.length ≤ 17592186044000) :
    Calls Tryd.prog 9 #[.agg (staCells s u e a).toArray] w fun r w' => ∃ u' e' a', r = .returned (.agg (staCells s u' e' a').toArray) ∧ Hp w [⟨w, Lt w.heap.size⟩] (ownS s u' e' a') w' := by
  obtain ⟨A, c, rfl, hc, hm, hx⟩ := rep_frames_at hf
  unfold maxLen at hm
  have HX := Lib.hid hx
  have HE := Lib.hid he
  have HAN := Lib.hid ha
  clear hx hf he ha
  unfold staCells
  have HP := Lib.hid ((Hp.start w).nil 39 14)
  obtain ⟨i_Frm, hi_Frm, hz_Frm, hs_Frm, hy_Frm⟩ := info_parts info_Frm
  go_enter Tryd.func9, Tryd.ntmps9
  go_wp2_with (first | (refine wpList_alloc_hp (o := ⟨some 2, _, _, _, _, _⟩) rfl _ rfl HP.out (.agg #[.int .i64 0, .int .i64 0, .slice none 0 0, .int .i64 0, .int .i64 0, .int .i64 0, .int .i64 0, .int .i64 0, .int .i64 0, .int .i64 0, .int .i64 0, .int .i64 0, .int .i64 0, .int .i64 0, .int .i64 0, .int .i64 0, .int .i64 0, .int .i64 0, .int .i64 0, .int .i64 0, .slice none 0 0, .slice none 0 0]) (by kernel_rfl) [_, _, _, _, _, _, _, _, _, _, _, _, _, _, _, _, _, _, _, _, _, _] rfl ?_; clear HP; intro g2 w2 HP; replace HP := Lib.hid HP) | (refine wpList_box_hp (o := ⟨some 1, _, _, _, _, _⟩) rfl _ _ rfl HP.out [_, _, _, _, _, _, _, _, _, _, _, _, _, _, _, _, _, _, _, _, _, _] rfl ?_; clear HP; intro g1 w1 HP; replace HP := Lib.hid HP))
  go_loopw [3, 4] (fun v i wr => ∃ (k : Nat) (A' : Option Addr) (c' : Nat), k ≤ s.frames.length ∧ v = .slice A' k c' ∧ i = .int .i64 k ∧ Hid (Hp w [{ w := w, S := Lt w.heap.size }] [Res.blk g2 29 [iV 0, iV 0, .slice none 0 0, iV 0, iV 0, iV 0, iV 0, iV 0, iV 0, iV 0, iV 0, iV 0, iV 0, iV 0, iV 0, iV 0, iV 0, iV 0, iV 0, iV 0, .slice none 0 0, .slice none 0 0], Res.blk g1 29 (staCells s (.slice A s.frames.length c) e a), Res.row (.slice A' k c') 39 14 (k) ((s.frames.take k).flatMap frmCells)] wr)) (fun _ i _ => s.frames.length - (intOf i).toNat)
  case atStart => exact ⟨0, none, 0, by omega, rfl, rfl, HP⟩
  case round =>
    clear HP
    obtain ⟨k, A', c', hk, rfl, rfl, HP⟩ := hrel
    obtain ⟨wo, rfl⟩ : ∃ wo : World, wo = wr := ⟨_, rfl⟩
    unfold staCells at HP
    by_cases hlt : k < s.frames.length
    · obtain ⟨ad, rfl, hab, hat⟩ := HX.out k hlt
      have hlt2 : (k : Int) < (s.frames.length : Int) := by omega
      have HTK := Lib.hid (show s.frames.take (k + 1) = s.frames.take k ++ [s.frames[k]] by rw [List.take_add_one, List.getElem?_eq_getElem hlt]; rfl)
      obtain ⟨x, hx⟩ : ∃ x, s.frames[k] = x := ⟨_, rfl⟩
      rw [hx] at hat HTK
      have HAT := Lib.hid (HP.out.at_ (F := ⟨w, Lt w.heap.size⟩) (.head _) hat (by rw [block_of_add]; exact hab))
      clear hx hat
      unfold frmCells at HAT
      go_wp2_with (first | (refine wpList_ld0 rfl 25 _ rfl HP.out rfl rfl Tryd.underlying25 rfl ?_) | (refine wpList_ld1 rfl 25 _ rfl HP.out rfl rfl Tryd.underlying25 rfl ?_) | (refine wpList_load_at rfl 39 _ rfl _ rfl _ _ HAT.out Tryd.underlying39 rfl (by kernel_rfl) ?_) | (refine wpList_slice_hp rfl 25 39 1 _ rfl HP.out Tryd.underlying25 (frmCells x).toArray (by kernel_rfl) ?_; clear HP; intro gi wi HP; replace HP := Lib.hid HP) | (at_builtin; refine wpList_app2 rfl _ _ 25 rfl i_Frm (.agg #[.int .i64 0, .int .i64 0, .int .i64 0, .int .i64 0, .int .i64 0, .int .i64 0, .int .i64 0, .int .i64 0, .int .i64 0, .int .i64 0, .int .i64 0, .int .i64 0, .int .i64 0, .int .i64 0]) Tryd.underlying25 hi_Frm hz_Frm hs_Frm rfl (by decide) hy_Frm (k + 1) (by omega) HP.out rfl rfl rfl (by simp [Value.oneCell', frmCells]) (by unfold maxLen; omega) (by omega) ?_; clear HP; intro A' c' wap HP; replace HP := Lib.hid HP))
      go_roundw
      case rel => exact ⟨k + 1, _, _, by omega, rfl, by go_num, Lib.hid (by rw [HTK.out, List.flatMap_append, show [x].flatMap frmCells = frmCells x by simp]; exact HP.out)⟩
      case measure => simp [intOf]; omega
    · obtain rfl : k = s.frames.length := by omega
      obtain ⟨AE, ce, rfl, hce, hme, -⟩ := rep_ints_at HE.out
      obtain ⟨AA, ca, rfl, hca, hma, -⟩ := rep_ints_at HAN.out
      go_wp2_with (first | (refine wpList_ld0 rfl 25 _ rfl HP.out rfl rfl Tryd.underlying25 rfl ?_) | (refine wpList_ld1 rfl 25 _ rfl HP.out rfl rfl Tryd.underlying25 rfl ?_) | (refine wpList_st0 rfl 25 _ _ rfl HP.out rfl rfl (by simp) rfl rfl (by kernel_rfl) ?_; clear HP; intro wst HP; replace HP := Lib.hid HP) | (refine wpList_st1 rfl 25 _ _ rfl HP.out rfl rfl (by simp) rfl rfl (by kernel_rfl) ?_; clear HP; intro wst HP; replace HP := Lib.hid HP) | (refine wpList_st0 rfl 27 _ _ rfl HP.out rfl rfl (by simp) rfl rfl (by kernel_rfl) ?_; clear HP; intro wst HP; replace HP := Lib.hid HP) | (refine wpList_st1 rfl 27 _ _ rfl HP.out rfl rfl (by simp) rfl rfl (by kernel_rfl) ?_; clear HP; intro wst HP; replace HP := Lib.hid HP) | (refine wpList_ld0 rfl 27 _ rfl HP.out rfl rfl Tryd.underlying27 rfl ?_) | (refine wpList_ld1 rfl 27 _ rfl HP.out rfl rfl Tryd.underlying27 rfl ?_) | (refine wpList_ldR0 rfl 29 _ rfl HP.out rfl Tryd.underlying29 rfl (by kernel_rfl) ?_) | (refine wpList_ldR1 rfl 29 _ rfl HP.out rfl Tryd.underlying29 rfl (by kernel_rfl) ?_) | (refine wpList_stR0 rfl 29 _ _ rfl HP.out rfl (cs' := staCells s (.slice A' s.frames.length c') (.slice A5 s.events.length c5) (.slice A6 s.answers.length c6)) rfl rfl (by simp [staCells, Value.oneCell']) (by kernel_rfl) ?_; clear HP; intro wst HP; replace HP := Lib.hid HP) | (go_at_call_of 22 (Value.slice AE s.events.length ce); refine (Numbers_own s.events _ _ (HP.out.rep (F := ⟨w, Lt w.heap.size⟩) (by simp) HE.out) hle).mono ?_; rintro e5 w5 ⟨v5, rfl, hb5⟩; obtain ⟨A5, c5, rfl, -, -, -⟩ := rep_ints_at (hb5.rowInts (.head _) rfl); replace HP := Lib.hid (by simpa only [List.cons_append, List.nil_append] using HP.out.takeEnd hb5); clear hb5) | (go_at_call_of 22 (Value.slice AA s.answers.length ca); refine (Numbers_own s.answers _ _ (HP.out.rep (F := ⟨w, Lt w.heap.size⟩) (by simp) HAN.out) hla).mono ?_; rintro e6 w6 ⟨v6, rfl, hb6⟩; obtain ⟨A6, c6, rfl, -, -, -⟩ := rep_ints_at (hb6.rowInts (.head _) rfl); replace HP := Lib.hid (by simpa only [List.cons_append, List.nil_append] using HP.out.takeEnd hb6); clear hb6))
      refine bodyPost_ret (results_cell_row rfl _ _ g2 29 (staCells s (.slice A' s.frames.length c') (.slice A5 s.events.length c5) (.slice A6 s.answers.length c6)).toArray (0, 0) _ rfl (HP.out.blk (.head _)) Tryd.underlying29 rfl (by kernel_rfl)) rfl ⟨_, _, _, rfl, ?_⟩
      have := (HP.out.drop (A := [])).drop (A := [])
      rw [List.take_of_length_le (Nat.le_refl _)] at this
      exact this
theorem StateCopy_any (s : Sta) (u e a : Value) (w : World) (hf : Lay.rep w (Lt w.heap.size) s.frames [u]) (he : Lay.rep w (Lt w.heap.size) s.events [e]) (ha : Lay.rep w (Lt w.heap.size) s.answers [a]) (hlf : s.frames.length ≤ 1256584717421) (hle : s.events.length ≤ 17592186044000) (hla : s.answers.length ≤ 17592186044000) :
    Calls Tryd.prog 9 #[.agg (staCells s u e a).toArray] w fun r w' => ∃ u' e' a', r = .returned (.agg (staCells s u' e' a').toArray) ∧ Lay.rep w' (Fresh w w') s.frames [u'] ∧ Lay.rep w' (Fresh w w') s.events [e'] ∧ Lay.rep w' (Fresh w w') s.answers [a'] ∧ Below w.heap.size w w' :=
  (StateCopy_own s u e a w hf he ha hlf hle hla).mono fun _ _ ⟨u', e', a', hr, H⟩ => ⟨u', e', a', hr, H.rowFrames (.head _) rfl, H.rowInts (.tail _ (.head _)) rfl, H.rowInts (.tail _ (.tail _ (.head _))) rfl, H.below⟩
end Go.Proofs.YtceilfmfidmfpaaDoor
namespace Go.Proofs.YtceilfmfidmfpaaDoor
open Go.RowKit Plain64
attribute [local irreducible] wpList Code.wp Oper.wp
end Go.Proofs.YtceilfmfidmfpaaDoor
namespace Go.Proofs.YtceilfmfidmfpaaDoor
open Go.RowKit Plain64
theorem vTop_step0 (f : Nat → Bool) (m : Nat) (h : f (63 - m) = false) : wrap64 (wrap64 (vTop f m : Nat) + wrap64 (vTop f m : Nat)) = wrap64 (vTop f (m + 1) : Nat) := by
  rw [vTop, h]; unfold wrap64; simp; omega
theorem vTop_step1 (f : Nat → Bool) (m : Nat) (h : f (63 - m) = true) : wrap64 (wrap64 (wrap64 (vTop f m : Nat) + wrap64 (vTop f m : Nat)) + 1) = wrap64 (vTop f (m + 1) : Nat) := by
  rw [vTop, h]; unfold wrap64; simp; omega
set_option maxRecDepth 100000 in
set_option maxHeartbeats 800000 in
theorem ofBits_any (f : Nat → Bool) (w : World) :
    Calls Tryd.prog 59 #[.agg (boolArr f)] w fun e w' => e = .returned (.int .i64 (wrap64 (vTop f 64 : Nat))) ∧ Below w.heap.size w w' := by
  go_enter Tryd.func59, Tryd.ntmps59
  go_wp2
  go_loopw [3, 4] (fun v i wr => ∃ m : Nat, m ≤ 64 ∧ i = .int .i64 (63 - m) ∧ v = .int .i64 (wrap64 (vTop f m : Nat)) ∧ Blk wr w.heap.size 96 (boolArr f) ∧ Below w.heap.size w wr) (fun _ i _ => (1 + intOf i).toNat)
  case atStart =>
    exact ⟨0, by omega, rfl, by simp [vTop, wrap64], heap_alloc_new w _, (Below.refl _ _).alloc (Nat.le_refl _) _⟩
  case round =>
    obtain ⟨m, hm, rfl, rfl, hb, hbel⟩ := hrel
    have hr := wrap64_range (vTop f m : Nat)
    have h0 := vTop_step0 f m
    have h1 := vTop_step1 f m
    generalize hx : wrap64 (vTop f m : Nat) = x at *
    have H1 := Lib.hid (And.intro hb (And.intro h0 h1))
    have H2 := Lib.hid hx
    clear hb h0 h1 hx
    by_cases hlt : m < 64
    · have hc : wr.cell? ⟨w.heap.size, 63 - m, none⟩ = some (.bool (f (63 - m))) := by
        rw [cell_of_row _ _ _ _ _ _ H1.out.1, boolArr_at _ _ (by omega)]
      cases hb : f (63 - m)
      all_goals
        rw [hb] at hc
        have HB := Lib.hid hb
        clear hb
        go_wp2
        go_roundw
        case rel =>
          obtain ⟨hb, h0, h1⟩ := H1.out
          refine ⟨m + 1, by omega, by go_num, ?_, hb, hbel⟩
          first | rw [h0 HB.out] | rw [h1 HB.out]
        case measure => simp [intOf]; omega
    · obtain rfl : m = 64 := by omega
      go_wp2
      go_ret
      exact ⟨by rw [H2.out]; rfl, hbel⟩

/-- What a shift is behind m of its bits. -/
def shTop (b : Int) (m : Nat) : Int := b % 64 / 2 ^ (6 - m)
theorem shTop_step (b : Int) (m : Nat) (h : m < 6) : shTop b (m + 1) = 2 * shTop b m + (if bitZ b (5 - m) then 1 else 0) := by
  unfold shTop bitZ
  have : m = 0 ∨ m = 1 ∨ m = 2 ∨ m = 3 ∨ m = 4 ∨ m = 5 := by omega
  rcases this with rfl | rfl | rfl | rfl | rfl | rfl <;> simp <;> split <;> omega
theorem shTop_range (b : Int) (m : Nat) : 0 ≤ shTop b m ∧ shTop b m ≤ 63 := by
  unfold shTop
  have h0 : 0 ≤ b % 64 := by omega
  have hp : (0 : Int) < 2 ^ (6 - m) := Int.pow_pos (by decide)
  exact ⟨Int.ediv_nonneg h0 (by omega), by have := Int.ediv_le_self (2 ^ (6 - m)) h0; omega⟩
theorem shTop_all (b : Int) : shTop b 6 = b % 64 := by simp [shTop]
theorem shTop_zero (b : Int) : shTop b 0 = 0 := by unfold shTop; simp; omega
end Go.Proofs.YtceilfmfidmfpaaDoor
namespace Go.Proofs.YtceilfmfidmfpaaDoor
open Go.RowKit Plain64
set_option maxHeartbeats 400000 in
theorem made_else (op a b imm : Int) (w : World) (h : op < 6 ∨ 10 < op) :
    Calls Tryd.prog 41 #[.int .i64 op, .int .i64 a, .int .i64 b, .int .i64 imm] w fun e w' => e = .returned (.tuple #[.int .i64 (pureV op a b imm), .int .i64 (makeE op b)]) ∧ w = w' := by
  by_cases hb : b = 0
  · have hb0 : (b == 0) = true := by simpa using hb
    have HB := Lib.hid hb
    clear hb
    go_enter Tryd.func41, Tryd.ntmps41
    go_wp2_with (go_at_call 40; refine (In_any _ _ _ _).mono ?_; rintro e w' ⟨rfl, rfl⟩)
    all_goals first
      | (go_ret2; refine ⟨?_, rfl⟩; have hb := HB.out; simp only [Bool.not_eq_true', Bool.not_eq_false', decide_eq_true_eq, decide_eq_false_iff_not, beq_iff_eq, beq_eq_false_iff_ne, ne_eq] at *; congr 3; simp [pureV, makeE, *]; try omega)
      | (exfalso; simp only [Bool.not_eq_true', Bool.not_eq_false', decide_eq_true_eq, decide_eq_false_iff_not, beq_iff_eq, beq_eq_false_iff_ne, ne_eq] at *; omega)
  · have HB := Lib.hid hb
    go_enter Tryd.func41, Tryd.ntmps41
    go_wp2_with (go_at_call 40; refine (In_any _ _ _ _).mono ?_; rintro e w' ⟨rfl, rfl⟩)
    all_goals first
      | (go_ret2; refine ⟨?_, rfl⟩; have hb := HB.out; simp only [Bool.not_eq_true', Bool.not_eq_false', decide_eq_true_eq, decide_eq_false_iff_not, beq_iff_eq, beq_eq_false_iff_ne, ne_eq] at *; congr 3; simp [pureV, makeE, *]; try omega)
      | (exfalso; simp only [Bool.not_eq_true', Bool.not_eq_false', decide_eq_true_eq, decide_eq_false_iff_not, beq_iff_eq, beq_eq_false_iff_ne, ne_eq] at *; omega)

/-- The first k of 64 truths are told. -/
def upTo (g : Nat → Bool) (k : Nat) : Array Value := boolArr fun j => decide (j < k) && g j
theorem upTo_size (g : Nat → Bool) (k : Nat) : (upTo g k).size = 64 := boolArr_size _
theorem upTo_all (g : Nat → Bool) : upTo g 64 = boolArr g := boolArr_congr fun j hj => by simp [hj]
theorem upTo_at (g : Nat → Bool) (k : Nat) (h : k < 64) : (upTo g k)[k]? = some (.bool false) := by rw [upTo, boolArr_at _ _ h]; simp
theorem upTo_succ (g : Nat → Bool) (k : Nat) (h : k < 64) : (upTo g k).setIfInBounds k (.bool (g k)) = upTo g (k + 1) := by
  unfold upTo
  rw [boolArr_set _ _ _ h]
  apply boolArr_congr
  intro j _
  by_cases e : j = k
  · subst e; simp
  · rw [if_neg e]; congr 1; rw [decide_eq_decide]; omega
theorem upTo_skip (g : Nat → Bool) (k : Nat) (h : k < 64) (hg : g k = false) : upTo g k = upTo g (k + 1) := by
  rw [← upTo_succ g k h, hg]
  unfold upTo
  rw [boolArr_set _ _ _ h]
  apply boolArr_congr
  intro j _
  by_cases e : j = k
  · subst e; simp
  · rw [if_neg e]


theorem vTop_congr {f g : Nat → Bool} (h : ∀ j, j < 64 → f j = g j) (m : Nat) (hm : m ≤ 64) : vTop f m = vTop g m := by
  induction m with
  | zero => rfl
  | succ m ih => rw [vTop, vTop, ih (by omega), h _ (by omega)]
theorem upTo_store {w : World} {b : Nat} {g : Nat → Bool} {k : Nat} {x : Bool} (h : Blk w b 96 (upTo g k)) (hk : k < 64) (hx : x = g k) : Blk (w.setCell ⟨b, k, none⟩ (.bool x)) b 96 (upTo g (k + 1)) := by
  subst hx
  have := heap_setCell_same _ _ k _ _ (Value.bool (g k)) h
  rwa [upTo_succ g k hk] at this
theorem upTo_done (g : Nat → Bool) : wrap64 (vTop (fun j => decide (j < 64) && g j) 64 : Nat) = wrap64 (vTop g 64 : Nat) := by
  rw [vTop_congr (f := fun j => decide (j < 64) && g j) (g := g) (fun j hj => by simp [hj]) 64 (Nat.le_refl _)]
end Go.Proofs.YtceilfmfidmfpaaDoor
namespace Go.Proofs.YtceilfmfidmfpaaDoor
open Go.RowKit Plain64
set_option maxRecDepth 100000 in
set_option maxHeartbeats 2000000 in
theorem made_6 (a b imm : Int) (w : World) (ha : -9223372036854775808 ≤ a ∧ a ≤ 9223372036854775807) (hb : -9223372036854775808 ≤ b ∧ b ≤ 9223372036854775807) :
    Calls Tryd.prog 41 #[.int .i64 6, .int .i64 a, .int .i64 b, .int .i64 imm] w fun e w' => e = .returned (.tuple #[.int .i64 (wrap64 (vTop (fun j => bitZ a j && bitZ b j) 64 : Nat)), .int .i64 0]) ∧ Below w.heap.size w w' := by
  go_enter Tryd.func41, Tryd.ntmps41
  go_wp2_with (go_at_call 40; refine (In_any _ _ _ _).mono ?_; rintro e w' ⟨rfl, rfl⟩)
  refine (bits_any a _ ha).mono ?_
  rintro e w1 ⟨rfl, hw1⟩
  go_wp2_with (refine wpList_store_row rfl 96 _ _ rfl _ (boolArr (bitZ a)) rfl rfl 96 _ (heap_alloc_new _ _) (boolArr_size33 _) (boolArr_size _).symm (boolArr_one _) ?_)
  rw [World.setRow_alloc_new]
  refine (bits_any b _ hb).mono ?_
  rintro e w2 ⟨rfl, hw2⟩
  go_wp2_with (refine wpList_store_row rfl 96 _ _ rfl _ (boolArr (bitZ b)) rfl rfl 96 _ (heap_alloc_new _ _) (boolArr_size33 _) (boolArr_size _).symm (boolArr_one _) ?_)
  rw [World.setRow_alloc_new]
  obtain ⟨g, hg⟩ : ∃ g : Nat → Bool, g = fun j => bitZ a j && bitZ b j := ⟨_, rfl⟩
  obtain ⟨W3, hW⟩ : ∃ W3, W3 = (w2.alloc (.cells (boolArr (bitZ b)) 96)).alloc (.cells (upTo g 0) 96) := ⟨_, rfl⟩
  refine wp_world (W' := W3) (by rw [hW]; rfl) ?_
  have hle : w.heap.size ≤ w1.heap.size := hw1.size
  have hlt : w1.heap.size < w2.heap.size := by have := hw2.size; simp at this; omega
  have hA : Blk W3 w1.heap.size 96 (boolArr (bitZ a)) := by
    unfold Blk
    rw [hW, Below.heap_alloc _ _ _ (by simp; omega), Below.heap_alloc _ _ _ hlt, hw2.block _ (by simp), heap_alloc_new]
  have hB : Blk W3 w2.heap.size 96 (boolArr (bitZ b)) := by unfold Blk; rw [hW]; exact heap_alloc2_old w2 _ _
  have hO : Blk W3 (w2.heap.size + 1) 96 (upTo g 0) := by unfold Blk; rw [hW]; exact heap_alloc2_new w2 _ _
  have hbel : Below w.heap.size w W3 := by
    have h0 := hw1.size
    have h1 : Below w.heap.size w w2 := (hw1.alloc h0 _).trans (hw2.mono (by simp; omega))
    rw [hW]; exact (h1.alloc (by omega) _).alloc (by simp; omega) _
  clear hW hw1 hw2
  have H := Lib.hid (And.intro hA (And.intro hB hO))
  have HG := Lib.hid hg
  clear hA hB hO hg
  go_loop [13, 14] (fun v i => ∃ m : Nat, m ≤ 6 ∧ i = .int .i64 (5 - m) ∧ v = .int .i64 (shTop b m)) (fun _ i => (1 + intOf i).toNat)
  case atStart => exact ⟨0, by omega, rfl, by rw [shTop_zero]⟩
  case round =>
    obtain ⟨m, hm, rfl, rfl⟩ := hrel
    have hr := shTop_range b m
    have hst := shTop_step b m
    generalize hx : shTop b m = x at *
    by_cases h6 : m < 6
    · have hc : W3.cell? ⟨w2.heap.size, 5 - m, none⟩ = some (.bool (bitZ b (5 - m))) := by
        rw [cell_of_row _ _ _ _ _ _ H.out.2.1, boolArr_at _ _ (by omega)]
      have HS := Lib.hid (hst h6)
      clear hst hx
      cases hbb : bitZ b (5 - m)
      all_goals
        rw [hbb] at hc
        have HB := Lib.hid hbb
        clear hbb
        go_wp2
        go_round
        case rel =>
          refine ⟨m + 1, by omega, by go_num, ?_⟩
          rw [HS.out, HB.out]
          simp
          omega
        case measure => simp [intOf]; omega
    · obtain rfl : m = 6 := by omega
      rw [shTop_all] at hx
      obtain ⟨s, rfl⟩ := Int.eq_ofNat_of_zero_le hr.1
      have HX := Lib.hid hx
      clear hx hst
      go_wp2
      go_loopw [15] (fun i wr => ∃ k : Nat, k ≤ 64 ∧ i = .int .i64 k ∧ Blk wr w1.heap.size 96 (boolArr (bitZ a)) ∧ Blk wr w2.heap.size 96 (boolArr (bitZ b)) ∧ Blk wr (w2.heap.size + 1) 96 (upTo g k) ∧ Below w.heap.size w wr) (fun i _ => 64 - (intOf i).toNat)
      case atStart => exact ⟨0, by omega, rfl, H.out.1, H.out.2.1, H.out.2.2, hbel⟩
      case round =>
        obtain ⟨k, hk, rfl, hA, hB, hO, hbr⟩ := hrel
        have H3 := Lib.hid (And.intro hA (And.intro hB hO))
        clear hA hB hO
        by_cases h64 : k < 64
        · have hca : wr.cell? ⟨w1.heap.size, k, none⟩ = some (.bool (bitZ a k)) := by rw [cell_of_row _ _ _ _ _ _ H3.out.1, boolArr_at _ _ h64]
          have hcb : wr.cell? ⟨w2.heap.size, k, none⟩ = some (.bool (bitZ b k)) := by rw [cell_of_row _ _ _ _ _ _ H3.out.2.1, boolArr_at _ _ h64]
          have hco : wr.cell? ⟨w2.heap.size + 1, k, none⟩ = some (.bool false) := by rw [cell_of_row _ _ _ _ _ _ H3.out.2.2, upTo_at _ _ h64]
          have hfo : wr.frozen? ⟨w2.heap.size + 1, k, none⟩ = false := frozen_of_row _ _ _ _ _ H3.out.2.2
          go_wp2
          all_goals
            go_roundw
            case rel =>
              refine ⟨k + 1, by omega, by go_num, ?_, ?_, ?_, ?_⟩
              · exact (heap_setCell_other _ _ _ _ (by simp; omega)).trans H3.out.1
              · exact (heap_setCell_other _ _ _ _ (by simp)).trans H3.out.2.1
              · exact upTo_store H3.out.2.2 h64 (by rw [HG.out]; simp [*])
              · exact hbr.setCell (by simp; omega) _
            case measure => simp [intOf]; omega
        · obtain rfl : k = 64 := by omega
          go_wp2_with (first | (refine wpList_load_row rfl 96 _ rfl _ rfl 96 (upTo g 64) (0, 0) _ H3.out.2.2 Tryd.underlying96 rfl (boolArr_size33 _) ?_) | (go_at_call 59; refine (ofBits_any _ _).mono ?_; rintro e w' ⟨rfl, hw'⟩))
          go_ret2
          exact ⟨ret_two (by rw [← HG.out]; exact upTo_done g) rfl, hbr.trans (hw'.mono hbr.size)⟩
set_option maxRecDepth 100000 in
set_option maxHeartbeats 2000000 in
theorem made_7 (a b imm : Int) (w : World) (ha : -9223372036854775808 ≤ a ∧ a ≤ 9223372036854775807) (hb : -9223372036854775808 ≤ b ∧ b ≤ 9223372036854775807) :
    Calls Tryd.prog 41 #[.int .i64 7, .int .i64 a, .int .i64 b, .int .i64 imm] w fun e w' => e = .returned (.tuple #[.int .i64 (wrap64 (vTop (fun j => bitZ a j || bitZ b j) 64 : Nat)), .int .i64 0]) ∧ Below w.heap.size w w' := by
  go_enter Tryd.func41, Tryd.ntmps41
  go_wp2_with (go_at_call 40; refine (In_any _ _ _ _).mono ?_; rintro e w' ⟨rfl, rfl⟩)
  refine (bits_any a _ ha).mono ?_
  rintro e w1 ⟨rfl, hw1⟩
  go_wp2_with (refine wpList_store_row rfl 96 _ _ rfl _ (boolArr (bitZ a)) rfl rfl 96 _ (heap_alloc_new _ _) (boolArr_size33 _) (boolArr_size _).symm (boolArr_one _) ?_)
  rw [World.setRow_alloc_new]
  refine (bits_any b _ hb).mono ?_
  rintro e w2 ⟨rfl, hw2⟩
  go_wp2_with (refine wpList_store_row rfl 96 _ _ rfl _ (boolArr (bitZ b)) rfl rfl 96 _ (heap_alloc_new _ _) (boolArr_size33 _) (boolArr_size _).symm (boolArr_one _) ?_)
  rw [World.setRow_alloc_new]
  obtain ⟨g, hg⟩ : ∃ g : Nat → Bool, g = fun j => bitZ a j || bitZ b j := ⟨_, rfl⟩
  obtain ⟨W3, hW⟩ : ∃ W3, W3 = (w2.alloc (.cells (boolArr (bitZ b)) 96)).alloc (.cells (upTo g 0) 96) := ⟨_, rfl⟩
  refine wp_world (W' := W3) (by rw [hW]; rfl) ?_
  have hle : w.heap.size ≤ w1.heap.size := hw1.size
  have hlt : w1.heap.size < w2.heap.size := by have := hw2.size; simp at this; omega
  have hA : Blk W3 w1.heap.size 96 (boolArr (bitZ a)) := by
    unfold Blk
    rw [hW, Below.heap_alloc _ _ _ (by simp; omega), Below.heap_alloc _ _ _ hlt, hw2.block _ (by simp), heap_alloc_new]
  have hB : Blk W3 w2.heap.size 96 (boolArr (bitZ b)) := by unfold Blk; rw [hW]; exact heap_alloc2_old w2 _ _
  have hO : Blk W3 (w2.heap.size + 1) 96 (upTo g 0) := by unfold Blk; rw [hW]; exact heap_alloc2_new w2 _ _
  have hbel : Below w.heap.size w W3 := by
    have h0 := hw1.size
    have h1 : Below w.heap.size w w2 := (hw1.alloc h0 _).trans (hw2.mono (by simp; omega))
    rw [hW]; exact (h1.alloc (by omega) _).alloc (by simp; omega) _
  clear hW hw1 hw2
  have H := Lib.hid (And.intro hA (And.intro hB hO))
  have HG := Lib.hid hg
  clear hA hB hO hg
  go_loop [13, 14] (fun v i => ∃ m : Nat, m ≤ 6 ∧ i = .int .i64 (5 - m) ∧ v = .int .i64 (shTop b m)) (fun _ i => (1 + intOf i).toNat)
  case atStart => exact ⟨0, by omega, rfl, by rw [shTop_zero]⟩
  case round =>
    obtain ⟨m, hm, rfl, rfl⟩ := hrel
    have hr := shTop_range b m
    have hst := shTop_step b m
    generalize hx : shTop b m = x at *
    by_cases h6 : m < 6
    · have hc : W3.cell? ⟨w2.heap.size, 5 - m, none⟩ = some (.bool (bitZ b (5 - m))) := by
        rw [cell_of_row _ _ _ _ _ _ H.out.2.1, boolArr_at _ _ (by omega)]
      have HS := Lib.hid (hst h6)
      clear hst hx
      cases hbb : bitZ b (5 - m)
      all_goals
        rw [hbb] at hc
        have HB := Lib.hid hbb
        clear hbb
        go_wp2
        go_round
        case rel =>
          refine ⟨m + 1, by omega, by go_num, ?_⟩
          rw [HS.out, HB.out]
          simp
          omega
        case measure => simp [intOf]; omega
    · obtain rfl : m = 6 := by omega
      rw [shTop_all] at hx
      obtain ⟨s, rfl⟩ := Int.eq_ofNat_of_zero_le hr.1
      have HX := Lib.hid hx
      clear hx hst
      go_wp2
      go_loopw [15] (fun i wr => ∃ k : Nat, k ≤ 64 ∧ i = .int .i64 k ∧ Blk wr w1.heap.size 96 (boolArr (bitZ a)) ∧ Blk wr w2.heap.size 96 (boolArr (bitZ b)) ∧ Blk wr (w2.heap.size + 1) 96 (upTo g k) ∧ Below w.heap.size w wr) (fun i _ => 64 - (intOf i).toNat)
      case atStart => exact ⟨0, by omega, rfl, H.out.1, H.out.2.1, H.out.2.2, hbel⟩
      case round =>
        obtain ⟨k, hk, rfl, hA, hB, hO, hbr⟩ := hrel
        have H3 := Lib.hid (And.intro hA (And.intro hB hO))
        clear hA hB hO
        by_cases h64 : k < 64
        · have hca : wr.cell? ⟨w1.heap.size, k, none⟩ = some (.bool (bitZ a k)) := by rw [cell_of_row _ _ _ _ _ _ H3.out.1, boolArr_at _ _ h64]
          have hcb : wr.cell? ⟨w2.heap.size, k, none⟩ = some (.bool (bitZ b k)) := by rw [cell_of_row _ _ _ _ _ _ H3.out.2.1, boolArr_at _ _ h64]
          have hco : wr.cell? ⟨w2.heap.size + 1, k, none⟩ = some (.bool false) := by rw [cell_of_row _ _ _ _ _ _ H3.out.2.2, upTo_at _ _ h64]
          have hfo : wr.frozen? ⟨w2.heap.size + 1, k, none⟩ = false := frozen_of_row _ _ _ _ _ H3.out.2.2
          go_wp2
          all_goals
            go_roundw
            case rel =>
              refine ⟨k + 1, by omega, by go_num, ?_, ?_, ?_, ?_⟩
              · exact (heap_setCell_other _ _ _ _ (by simp; omega)).trans H3.out.1
              · exact (heap_setCell_other _ _ _ _ (by simp)).trans H3.out.2.1
              · exact upTo_store H3.out.2.2 h64 (by rw [HG.out]; simp [*])
              · exact hbr.setCell (by simp; omega) _
            case measure => simp [intOf]; omega
        · obtain rfl : k = 64 := by omega
          go_wp2_with (first | (refine wpList_load_row rfl 96 _ rfl _ rfl 96 (upTo g 64) (0, 0) _ H3.out.2.2 Tryd.underlying96 rfl (boolArr_size33 _) ?_) | (go_at_call 59; refine (ofBits_any _ _).mono ?_; rintro e w' ⟨rfl, hw'⟩))
          go_ret2
          exact ⟨ret_two (by rw [← HG.out]; exact upTo_done g) rfl, hbr.trans (hw'.mono hbr.size)⟩
set_option maxRecDepth 100000 in
set_option maxHeartbeats 2000000 in
theorem made_8 (a b imm : Int) (w : World) (ha : -9223372036854775808 ≤ a ∧ a ≤ 9223372036854775807) (hb : -9223372036854775808 ≤ b ∧ b ≤ 9223372036854775807) :
    Calls Tryd.prog 41 #[.int .i64 8, .int .i64 a, .int .i64 b, .int .i64 imm] w fun e w' => e = .returned (.tuple #[.int .i64 (wrap64 (vTop (fun j => bitZ a j != bitZ b j) 64 : Nat)), .int .i64 0]) ∧ Below w.heap.size w w' := by
  go_enter Tryd.func41, Tryd.ntmps41
  go_wp2_with (go_at_call 40; refine (In_any _ _ _ _).mono ?_; rintro e w' ⟨rfl, rfl⟩)
  refine (bits_any a _ ha).mono ?_
  rintro e w1 ⟨rfl, hw1⟩
  go_wp2_with (refine wpList_store_row rfl 96 _ _ rfl _ (boolArr (bitZ a)) rfl rfl 96 _ (heap_alloc_new _ _) (boolArr_size33 _) (boolArr_size _).symm (boolArr_one _) ?_)
  rw [World.setRow_alloc_new]
  refine (bits_any b _ hb).mono ?_
  rintro e w2 ⟨rfl, hw2⟩
  go_wp2_with (refine wpList_store_row rfl 96 _ _ rfl _ (boolArr (bitZ b)) rfl rfl 96 _ (heap_alloc_new _ _) (boolArr_size33 _) (boolArr_size _).symm (boolArr_one _) ?_)
  rw [World.setRow_alloc_new]
  obtain ⟨g, hg⟩ : ∃ g : Nat → Bool, g = fun j => bitZ a j != bitZ b j := ⟨_, rfl⟩
  obtain ⟨W3, hW⟩ : ∃ W3, W3 = (w2.alloc (.cells (boolArr (bitZ b)) 96)).alloc (.cells (upTo g 0) 96) := ⟨_, rfl⟩
  refine wp_world (W' := W3) (by rw [hW]; rfl) ?_
  have hle : w.heap.size ≤ w1.heap.size := hw1.size
  have hlt : w1.heap.size < w2.heap.size := by have := hw2.size; simp at this; omega
  have hA : Blk W3 w1.heap.size 96 (boolArr (bitZ a)) := by
    unfold Blk
    rw [hW, Below.heap_alloc _ _ _ (by simp; omega), Below.heap_alloc _ _ _ hlt, hw2.block _ (by simp), heap_alloc_new]
  have hB : Blk W3 w2.heap.size 96 (boolArr (bitZ b)) := by unfold Blk; rw [hW]; exact heap_alloc2_old w2 _ _
  have hO : Blk W3 (w2.heap.size + 1) 96 (upTo g 0) := by unfold Blk; rw [hW]; exact heap_alloc2_new w2 _ _
  have hbel : Below w.heap.size w W3 := by
    have h0 := hw1.size
    have h1 : Below w.heap.size w w2 := (hw1.alloc h0 _).trans (hw2.mono (by simp; omega))
    rw [hW]; exact (h1.alloc (by omega) _).alloc (by simp; omega) _
  clear hW hw1 hw2
  have H := Lib.hid (And.intro hA (And.intro hB hO))
  have HG := Lib.hid hg
  clear hA hB hO hg
  go_loop [13, 14] (fun v i => ∃ m : Nat, m ≤ 6 ∧ i = .int .i64 (5 - m) ∧ v = .int .i64 (shTop b m)) (fun _ i => (1 + intOf i).toNat)
  case atStart => exact ⟨0, by omega, rfl, by rw [shTop_zero]⟩
  case round =>
    obtain ⟨m, hm, rfl, rfl⟩ := hrel
    have hr := shTop_range b m
    have hst := shTop_step b m
    generalize hx : shTop b m = x at *
    by_cases h6 : m < 6
    · have hc : W3.cell? ⟨w2.heap.size, 5 - m, none⟩ = some (.bool (bitZ b (5 - m))) := by
        rw [cell_of_row _ _ _ _ _ _ H.out.2.1, boolArr_at _ _ (by omega)]
      have HS := Lib.hid (hst h6)
      clear hst hx
      cases hbb : bitZ b (5 - m)
      all_goals
        rw [hbb] at hc
        have HB := Lib.hid hbb
        clear hbb
        go_wp2
        go_round
        case rel =>
          refine ⟨m + 1, by omega, by go_num, ?_⟩
          rw [HS.out, HB.out]
          simp
          omega
        case measure => simp [intOf]; omega
    · obtain rfl : m = 6 := by omega
      rw [shTop_all] at hx
      obtain ⟨s, rfl⟩ := Int.eq_ofNat_of_zero_le hr.1
      have HX := Lib.hid hx
      clear hx hst
      go_wp2
      go_loopw [15] (fun i wr => ∃ k : Nat, k ≤ 64 ∧ i = .int .i64 k ∧ Blk wr w1.heap.size 96 (boolArr (bitZ a)) ∧ Blk wr w2.heap.size 96 (boolArr (bitZ b)) ∧ Blk wr (w2.heap.size + 1) 96 (upTo g k) ∧ Below w.heap.size w wr) (fun i _ => 64 - (intOf i).toNat)
      case atStart => exact ⟨0, by omega, rfl, H.out.1, H.out.2.1, H.out.2.2, hbel⟩
      case round =>
        obtain ⟨k, hk, rfl, hA, hB, hO, hbr⟩ := hrel
        have H3 := Lib.hid (And.intro hA (And.intro hB hO))
        clear hA hB hO
        by_cases h64 : k < 64
        · have hca : wr.cell? ⟨w1.heap.size, k, none⟩ = some (.bool (bitZ a k)) := by rw [cell_of_row _ _ _ _ _ _ H3.out.1, boolArr_at _ _ h64]
          have hcb : wr.cell? ⟨w2.heap.size, k, none⟩ = some (.bool (bitZ b k)) := by rw [cell_of_row _ _ _ _ _ _ H3.out.2.1, boolArr_at _ _ h64]
          have hco : wr.cell? ⟨w2.heap.size + 1, k, none⟩ = some (.bool false) := by rw [cell_of_row _ _ _ _ _ _ H3.out.2.2, upTo_at _ _ h64]
          have hfo : wr.frozen? ⟨w2.heap.size + 1, k, none⟩ = false := frozen_of_row _ _ _ _ _ H3.out.2.2
          go_wp2
          go_region
          all_goals go_wp2
          all_goals
            go_roundw
            case rel =>
              refine ⟨k + 1, by omega, by go_num, ?_, ?_, ?_, ?_⟩
              · exact (heap_setCell_other _ _ _ _ (by simp; omega)).trans H3.out.1
              · exact (heap_setCell_other _ _ _ _ (by simp)).trans H3.out.2.1
              · exact upTo_store H3.out.2.2 h64 (by rw [HG.out]; show _ = (bitZ a k != bitZ b k); cases bitZ a k <;> cases bitZ b k <;> rfl)
              · exact (hbr.setCell (p := ⟨w2.heap.size + 1, k, none⟩) (by simp; omega) _).drew
            case measure => simp [intOf]; omega
        · obtain rfl : k = 64 := by omega
          go_wp2_with (first | (refine wpList_load_row rfl 96 _ rfl _ rfl 96 (upTo g 64) (0, 0) _ H3.out.2.2 Tryd.underlying96 rfl (boolArr_size33 _) ?_) | (go_at_call 59; refine (ofBits_any _ _).mono ?_; rintro e w' ⟨rfl, hw'⟩))
          go_ret2
          exact ⟨ret_two (by rw [← HG.out]; exact upTo_done g) rfl, hbr.trans (hw'.mono hbr.size)⟩
end Go.Proofs.YtceilfmfidmfpaaDoor
namespace Go.Proofs.YtceilfmfidmfpaaDoor
open Go.RowKit Plain64
set_option maxRecDepth 100000 in
set_option maxHeartbeats 2000000 in
theorem made_9 (a b imm : Int) (w : World) (ha : -9223372036854775808 ≤ a ∧ a ≤ 9223372036854775807) (hb : -9223372036854775808 ≤ b ∧ b ≤ 9223372036854775807) :
    Calls Tryd.prog 41 #[.int .i64 9, .int .i64 a, .int .i64 b, .int .i64 imm] w fun e w' => e = .returned (.tuple #[.int .i64 (wrap64 (vTop (fun j => decide ((b % 64).toNat ≤ j) && bitZ a (j - (b % 64).toNat)) 64 : Nat)), .int .i64 0]) ∧ Below w.heap.size w w' := by
  go_enter Tryd.func41, Tryd.ntmps41
  go_wp2_with (go_at_call 40; refine (In_any _ _ _ _).mono ?_; rintro e w' ⟨rfl, rfl⟩)
  refine (bits_any a _ ha).mono ?_
  rintro e w1 ⟨rfl, hw1⟩
  go_wp2_with (refine wpList_store_row rfl 96 _ _ rfl _ (boolArr (bitZ a)) rfl rfl 96 _ (heap_alloc_new _ _) (boolArr_size33 _) (boolArr_size _).symm (boolArr_one _) ?_)
  rw [World.setRow_alloc_new]
  refine (bits_any b _ hb).mono ?_
  rintro e w2 ⟨rfl, hw2⟩
  go_wp2_with (refine wpList_store_row rfl 96 _ _ rfl _ (boolArr (bitZ b)) rfl rfl 96 _ (heap_alloc_new _ _) (boolArr_size33 _) (boolArr_size _).symm (boolArr_one _) ?_)
  rw [World.setRow_alloc_new]
  obtain ⟨g, hg⟩ : ∃ g : Nat → Bool, g = fun j => decide ((b % 64).toNat ≤ j) && bitZ a (j - (b % 64).toNat) := ⟨_, rfl⟩
  obtain ⟨W3, hW⟩ : ∃ W3, W3 = (w2.alloc (.cells (boolArr (bitZ b)) 96)).alloc (.cells (upTo g 0) 96) := ⟨_, rfl⟩
  refine wp_world (W' := W3) (by rw [hW]; rfl) ?_
  have hle : w.heap.size ≤ w1.heap.size := hw1.size
  have hlt : w1.heap.size < w2.heap.size := by have := hw2.size; simp at this; omega
  have hA : Blk W3 w1.heap.size 96 (boolArr (bitZ a)) := by
    unfold Blk
    rw [hW, Below.heap_alloc _ _ _ (by simp; omega), Below.heap_alloc _ _ _ hlt, hw2.block _ (by simp), heap_alloc_new]
  have hB : Blk W3 w2.heap.size 96 (boolArr (bitZ b)) := by unfold Blk; rw [hW]; exact heap_alloc2_old w2 _ _
  have hO : Blk W3 (w2.heap.size + 1) 96 (upTo g 0) := by unfold Blk; rw [hW]; exact heap_alloc2_new w2 _ _
  have hbel : Below w.heap.size w W3 := by
    have h0 := hw1.size
    have h1 : Below w.heap.size w w2 := (hw1.alloc h0 _).trans (hw2.mono (by simp; omega))
    rw [hW]; exact (h1.alloc (by omega) _).alloc (by simp; omega) _
  clear hW hw1 hw2
  have H := Lib.hid (And.intro hA (And.intro hB hO))
  have HG := Lib.hid hg
  clear hA hB hO hg
  go_loop [13, 14] (fun v i => ∃ m : Nat, m ≤ 6 ∧ i = .int .i64 (5 - m) ∧ v = .int .i64 (shTop b m)) (fun _ i => (1 + intOf i).toNat)
  case atStart => exact ⟨0, by omega, rfl, by rw [shTop_zero]⟩
  case round =>
    obtain ⟨m, hm, rfl, rfl⟩ := hrel
    have hr := shTop_range b m
    have hst := shTop_step b m
    generalize hx : shTop b m = x at *
    by_cases h6 : m < 6
    · have hc : W3.cell? ⟨w2.heap.size, 5 - m, none⟩ = some (.bool (bitZ b (5 - m))) := by
        rw [cell_of_row _ _ _ _ _ _ H.out.2.1, boolArr_at _ _ (by omega)]
      have HS := Lib.hid (hst h6)
      clear hst hx
      cases hbb : bitZ b (5 - m)
      all_goals
        rw [hbb] at hc
        have HB := Lib.hid hbb
        clear hbb
        go_wp2
        go_round
        case rel =>
          refine ⟨m + 1, by omega, by go_num, ?_⟩
          rw [HS.out, HB.out]
          simp
          omega
        case measure => simp [intOf]; omega
    · obtain rfl : m = 6 := by omega
      rw [shTop_all] at hx
      obtain ⟨s, rfl⟩ := Int.eq_ofNat_of_zero_le hr.1
      have HX := Lib.hid hx
      clear hx hst
      go_wp2
      go_loopw [15] (fun i wr => ∃ k : Nat, k ≤ 64 ∧ i = .int .i64 k ∧ Blk wr w1.heap.size 96 (boolArr (bitZ a)) ∧ Blk wr w2.heap.size 96 (boolArr (bitZ b)) ∧ Blk wr (w2.heap.size + 1) 96 (upTo g k) ∧ Below w.heap.size w wr) (fun i _ => 64 - (intOf i).toNat)
      case atStart => exact ⟨0, by omega, rfl, H.out.1, H.out.2.1, H.out.2.2, hbel⟩
      case round =>
        obtain ⟨k, hk, rfl, hA, hB, hO, hbr⟩ := hrel
        have H3 := Lib.hid (And.intro hA (And.intro hB hO))
        clear hA hB hO
        by_cases h64 : k < 64
        · have hs : (b % 64).toNat = s := by rw [HX.out]; rfl
          have HS := Lib.hid hs
          clear hs
          by_cases hks : s ≤ k
          · have hca : wr.cell? ⟨w1.heap.size, k - s, none⟩ = some (.bool (bitZ a (k - s))) := by rw [cell_of_row _ _ _ _ _ _ H3.out.1, boolArr_at _ _ (by omega)]
            have hco : wr.cell? ⟨w2.heap.size + 1, k, none⟩ = some (.bool false) := by rw [cell_of_row _ _ _ _ _ _ H3.out.2.2, upTo_at _ _ h64]
            have hfo : wr.frozen? ⟨w2.heap.size + 1, k, none⟩ = false := frozen_of_row _ _ _ _ _ H3.out.2.2
            go_wp2
            go_roundw
            case rel =>
              refine ⟨k + 1, by omega, by go_num, ?_, ?_, ?_, ?_⟩
              · exact (heap_setCell_other _ _ _ _ (by simp; omega)).trans H3.out.1
              · exact (heap_setCell_other _ _ _ _ (by simp)).trans H3.out.2.1
              · exact upTo_store H3.out.2.2 h64 (by rw [HG.out, HS.out]; simp [hks])
              · exact hbr.setCell (by simp; omega) _
            case measure => simp [intOf]; omega
          · go_wp2
            go_roundw
            case rel =>
              refine ⟨k + 1, by omega, by go_num, H3.out.1, H3.out.2.1, ?_, hbr⟩
              have := upTo_skip g k h64 (by rw [HG.out, HS.out]; simp [hks])
              rw [← this]; exact H3.out.2.2
            case measure => simp [intOf]; omega
        · obtain rfl : k = 64 := by omega
          go_wp2_with (first | (refine wpList_load_row rfl 96 _ rfl _ rfl 96 (upTo g 64) (0, 0) _ H3.out.2.2 Tryd.underlying96 rfl (boolArr_size33 _) ?_) | (go_at_call 59; refine (ofBits_any _ _).mono ?_; rintro e w' ⟨rfl, hw'⟩))
          go_ret2
          exact ⟨ret_two (by rw [← HG.out]; exact upTo_done g) rfl, hbr.trans (hw'.mono hbr.size)⟩
set_option maxRecDepth 100000 in
set_option maxHeartbeats 2000000 in
theorem made_10 (a b imm : Int) (w : World) (ha : -9223372036854775808 ≤ a ∧ a ≤ 9223372036854775807) (hb : -9223372036854775808 ≤ b ∧ b ≤ 9223372036854775807) :
    Calls Tryd.prog 41 #[.int .i64 10, .int .i64 a, .int .i64 b, .int .i64 imm] w fun e w' => e = .returned (.tuple #[.int .i64 (wrap64 (vTop (fun j => if j + (b % 64).toNat < 64 then bitZ a (j + (b % 64).toNat) else bitZ a 63) 64 : Nat)), .int .i64 0]) ∧ Below w.heap.size w w' := by
  go_enter Tryd.func41, Tryd.ntmps41
  go_wp2_with (go_at_call 40; refine (In_any _ _ _ _).mono ?_; rintro e w' ⟨rfl, rfl⟩)
  refine (bits_any a _ ha).mono ?_
  rintro e w1 ⟨rfl, hw1⟩
  go_wp2_with (refine wpList_store_row rfl 96 _ _ rfl _ (boolArr (bitZ a)) rfl rfl 96 _ (heap_alloc_new _ _) (boolArr_size33 _) (boolArr_size _).symm (boolArr_one _) ?_)
  rw [World.setRow_alloc_new]
  refine (bits_any b _ hb).mono ?_
  rintro e w2 ⟨rfl, hw2⟩
  go_wp2_with (refine wpList_store_row rfl 96 _ _ rfl _ (boolArr (bitZ b)) rfl rfl 96 _ (heap_alloc_new _ _) (boolArr_size33 _) (boolArr_size _).symm (boolArr_one _) ?_)
  rw [World.setRow_alloc_new]
  obtain ⟨g, hg⟩ : ∃ g : Nat → Bool, g = fun j => if j + (b % 64).toNat < 64 then bitZ a (j + (b % 64).toNat) else bitZ a 63 := ⟨_, rfl⟩
  obtain ⟨W3, hW⟩ : ∃ W3, W3 = (w2.alloc (.cells (boolArr (bitZ b)) 96)).alloc (.cells (upTo g 0) 96) := ⟨_, rfl⟩
  refine wp_world (W' := W3) (by rw [hW]; rfl) ?_
  have hle : w.heap.size ≤ w1.heap.size := hw1.size
  have hlt : w1.heap.size < w2.heap.size := by have := hw2.size; simp at this; omega
  have hA : Blk W3 w1.heap.size 96 (boolArr (bitZ a)) := by
    unfold Blk
    rw [hW, Below.heap_alloc _ _ _ (by simp; omega), Below.heap_alloc _ _ _ hlt, hw2.block _ (by simp), heap_alloc_new]
  have hB : Blk W3 w2.heap.size 96 (boolArr (bitZ b)) := by unfold Blk; rw [hW]; exact heap_alloc2_old w2 _ _
  have hO : Blk W3 (w2.heap.size + 1) 96 (upTo g 0) := by unfold Blk; rw [hW]; exact heap_alloc2_new w2 _ _
  have hbel : Below w.heap.size w W3 := by
    have h0 := hw1.size
    have h1 : Below w.heap.size w w2 := (hw1.alloc h0 _).trans (hw2.mono (by simp; omega))
    rw [hW]; exact (h1.alloc (by omega) _).alloc (by simp; omega) _
  clear hW hw1 hw2
  have H := Lib.hid (And.intro hA (And.intro hB hO))
  have HG := Lib.hid hg
  clear hA hB hO hg
  go_loop [13, 14] (fun v i => ∃ m : Nat, m ≤ 6 ∧ i = .int .i64 (5 - m) ∧ v = .int .i64 (shTop b m)) (fun _ i => (1 + intOf i).toNat)
  case atStart => exact ⟨0, by omega, rfl, by rw [shTop_zero]⟩
  case round =>
    obtain ⟨m, hm, rfl, rfl⟩ := hrel
    have hr := shTop_range b m
    have hst := shTop_step b m
    generalize hx : shTop b m = x at *
    by_cases h6 : m < 6
    · have hc : W3.cell? ⟨w2.heap.size, 5 - m, none⟩ = some (.bool (bitZ b (5 - m))) := by
        rw [cell_of_row _ _ _ _ _ _ H.out.2.1, boolArr_at _ _ (by omega)]
      have HS := Lib.hid (hst h6)
      clear hst hx
      cases hbb : bitZ b (5 - m)
      all_goals
        rw [hbb] at hc
        have HB := Lib.hid hbb
        clear hbb
        go_wp2
        go_round
        case rel =>
          refine ⟨m + 1, by omega, by go_num, ?_⟩
          rw [HS.out, HB.out]
          simp
          omega
        case measure => simp [intOf]; omega
    · obtain rfl : m = 6 := by omega
      rw [shTop_all] at hx
      obtain ⟨s, rfl⟩ := Int.eq_ofNat_of_zero_le hr.1
      have HX := Lib.hid hx
      clear hx hst
      go_wp2
      go_loopw [15] (fun i wr => ∃ k : Nat, k ≤ 64 ∧ i = .int .i64 k ∧ Blk wr w1.heap.size 96 (boolArr (bitZ a)) ∧ Blk wr w2.heap.size 96 (boolArr (bitZ b)) ∧ Blk wr (w2.heap.size + 1) 96 (upTo g k) ∧ Below w.heap.size w wr) (fun i _ => 64 - (intOf i).toNat)
      case atStart => exact ⟨0, by omega, rfl, H.out.1, H.out.2.1, H.out.2.2, hbel⟩
      case round =>
        obtain ⟨k, hk, rfl, hA, hB, hO, hbr⟩ := hrel
        have H3 := Lib.hid (And.intro hA (And.intro hB hO))
        clear hA hB hO
        by_cases h64 : k < 64
        · have hs : (b % 64).toNat = s := by rw [HX.out]; rfl
          have HS := Lib.hid hs
          clear hs
          have hcm : wr.cell? ⟨w1.heap.size, 63, none⟩ = some (.bool (bitZ a 63)) := by rw [cell_of_row _ _ _ _ _ _ H3.out.1, boolArr_at _ _ (by omega)]
          have hco : wr.cell? ⟨w2.heap.size + 1, k, none⟩ = some (.bool false) := by rw [cell_of_row _ _ _ _ _ _ H3.out.2.2, upTo_at _ _ h64]
          have hfo : wr.frozen? ⟨w2.heap.size + 1, k, none⟩ = false := frozen_of_row _ _ _ _ _ H3.out.2.2
          by_cases hks : k + s < 64
          · have hca : wr.cell? ⟨w1.heap.size, k + s, none⟩ = some (.bool (bitZ a (k + s))) := by rw [cell_of_row _ _ _ _ _ _ H3.out.1, boolArr_at _ _ (by omega)]
            go_wp2
            go_roundw
            case rel =>
              refine ⟨k + 1, by omega, by go_num, ?_, ?_, ?_, ?_⟩
              · exact ((heap_setCell_other _ _ _ _ (by simp; omega)).trans (heap_setCell_other _ _ _ _ (by simp; omega))).trans H3.out.1
              · exact ((heap_setCell_other _ _ _ _ (by simp)).trans (heap_setCell_other _ _ _ _ (by simp))).trans H3.out.2.1
              · have h1 := heap_setCell_same _ _ k _ _ (Value.bool (bitZ a 63)) H3.out.2.2
                have h2 := heap_setCell_same _ _ k _ _ (Value.bool (bitZ a (k + s))) h1
                have hx : bitZ a (k + s) = g k := by rw [HG.out, HS.out]; simp [hks]
                rw [Array.setIfInBounds_setIfInBounds, hx, upTo_succ g k h64] at h2
                rw [← hx] at h2
                exact h2
              · exact (hbr.setCell (by simp; omega) _).setCell (by simp; omega) _
            case measure => simp [intOf]; omega
          · go_wp2
            go_roundw
            case rel =>
              refine ⟨k + 1, by omega, by go_num, ?_, ?_, ?_, ?_⟩
              · exact (heap_setCell_other _ _ _ _ (by simp; omega)).trans H3.out.1
              · exact (heap_setCell_other _ _ _ _ (by simp)).trans H3.out.2.1
              · exact upTo_store H3.out.2.2 h64 (by rw [HG.out, HS.out]; simp [hks])
              · exact hbr.setCell (by simp; omega) _
            case measure => simp [intOf]; omega
        · obtain rfl : k = 64 := by omega
          go_wp2_with (first | (refine wpList_load_row rfl 96 _ rfl _ rfl 96 (upTo g 64) (0, 0) _ H3.out.2.2 Tryd.underlying96 rfl (boolArr_size33 _) ?_) | (go_at_call 59; refine (ofBits_any _ _).mono ?_; rintro e w' ⟨rfl, hw'⟩))
          go_ret2
          exact ⟨ret_two (by rw [← HG.out]; exact upTo_done g) rfl, hbr.trans (hw'.mono hbr.size)⟩
end Go.Proofs.YtceilfmfidmfpaaDoor
namespace Go.Proofs.YtceilfmfidmfpaaDoor
open Go.RowKit Plain64

theorem made_and (a b : Int) : wrap64 (vTop (fun j => bitZ a j && bitZ b j) 64 : Nat) = bits .and .i64 a b := by
  rw [bits_and]
  exact vTop_all _ _ fun i hi => by rw [bitZ_eq a i hi, bitZ_eq b i hi, BitVec.getLsbD_and]
theorem made_or (a b : Int) : wrap64 (vTop (fun j => bitZ a j || bitZ b j) 64 : Nat) = bits .or .i64 a b := by
  rw [bits_or]
  exact vTop_all _ _ fun i hi => by rw [bitZ_eq a i hi, bitZ_eq b i hi, BitVec.getLsbD_or]
theorem made_xor (a b : Int) : wrap64 (vTop (fun j => bitZ a j != bitZ b j) 64 : Nat) = bits .xor .i64 a b := by
  rw [bits_xor]
  exact vTop_all _ _ fun i hi => by
    rw [bitZ_eq a i hi, bitZ_eq b i hi, BitVec.getLsbD_xor]
    try cases (BitVec.ofInt 64 a).getLsbD i <;> cases (BitVec.ofInt 64 b).getLsbD i <;> rfl
theorem made_shl (a : Int) (s : Nat) : wrap64 (vTop (fun j => decide (s ≤ j) && bitZ a (j - s)) 64 : Nat) = wrap64 (a * 2 ^ s) := by
  rw [shl_eq]
  exact vTop_all _ _ fun i hi => by
    rw [BitVec.getLsbD_shiftLeft]
    by_cases h : s ≤ i
    · rw [bitZ_eq a (i - s) (by omega)]; simp [h, hi, Nat.not_lt.2 h]
    · simp [h]; try omega
theorem made_sar (a : Int) (h : -9223372036854775808 ≤ a ∧ a ≤ 9223372036854775807) (s : Nat) : wrap64 (vTop (fun j => if j + s < 64 then bitZ a (j + s) else bitZ a 63) 64 : Nat) = a / 2 ^ s := by
  rw [sar_eq a h]
  exact vTop_all _ _ fun i hi => by
    rw [BitVec.getLsbD_sshiftRight]
    by_cases h : i + s < 64
    · rw [if_pos h, if_pos (by omega), bitZ_eq a _ h, Nat.add_comm s i]; simp; intro; omega
    · rw [if_neg h, if_neg (by omega), bitZ_eq a 63 (by omega), BitVec.msb_eq_getLsbD_last]; simp; intro; omega

theorem made_any (op a b imm : Int) (w : World) (ha : -9223372036854775808 ≤ a ∧ a ≤ 9223372036854775807) (hb : -9223372036854775808 ≤ b ∧ b ≤ 9223372036854775807) :
    Calls Tryd.prog 41 #[.int .i64 op, .int .i64 a, .int .i64 b, .int .i64 imm] w fun e w' => e = .returned (.tuple #[.int .i64 (pureV op a b imm), .int .i64 (makeE op b)]) ∧ Below w.heap.size w w' := by
  by_cases h : op < 6 ∨ 10 < op
  · exact (made_else op a b imm w h).mono fun e w' ⟨he, hw⟩ => ⟨he, hw ▸ Below.refl _ _⟩
  · have h5 : op = 6 ∨ op = 7 ∨ op = 8 ∨ op = 9 ∨ op = 10 := by omega
    rcases h5 with rfl | rfl | rfl | rfl | rfl
    · exact (made_6 a b imm w ha hb).mono fun e w' ⟨he, hw⟩ => ⟨by rw [he, made_and]; rfl, hw⟩
    · exact (made_7 a b imm w ha hb).mono fun e w' ⟨he, hw⟩ => ⟨by rw [he, made_or]; rfl, hw⟩
    · exact (made_8 a b imm w ha hb).mono fun e w' ⟨he, hw⟩ => ⟨by rw [he, made_xor]; rfl, hw⟩
    · exact (made_9 a b imm w ha hb).mono fun e w' ⟨he, hw⟩ => ⟨by rw [he, made_shl]; rfl, hw⟩
    · exact (made_10 a b imm w ha hb).mono fun e w' ⟨he, hw⟩ => ⟨by rw [he, made_sar a ha]; rfl, hw⟩
end Go.Proofs.YtceilfmfidmfpaaDoor
namespace Go.Proofs.YtceilfmfidmfpaaDoor
open Go.RowKit
attribute [local irreducible] wpList Code.wp Oper.wp
set_option maxRecDepth 10000 in
set_option maxHeartbeats 1000000 in
theorem states_any (s : Sta) (u e a : Value) (w : World) (hf : Lay.rep w (Lt w.heap.size) s.frames [u]) (he : Lay.rep w (Lt w.heap.size) s.events [e]) (ha : Lay.rep w (Lt w.heap.size) s.answers [a]) (hlf : s.frames.length ≤ 1256584717421) (hle : s.events.length ≤ 17592186044000) (hla : s.answers.length ≤ 17592186044000) :
    Calls Tryd.prog 4 #[.agg (staCells s u e a).toArray] w fun r w' => ∃ u' e' a', r = .returned (.agg (staCells s u' e' a').toArray) ∧ Lay.rep w' (Fresh w w') s.frames [u'] ∧ Lay.rep w' (Fresh w w') s.events [e'] ∧ Lay.rep w' (Fresh w w') s.answers [a'] ∧ Below w.heap.size w w' := by
  have HF := Lib.hid hf
  have HE := Lib.hid he
  have HAN := Lib.hid ha
  clear hf he ha
  unfold staCells
  have HP := Lib.hid (Hp.start w)
  go_enter Tryd.func4, Tryd.ntmps4
  go_wp2_with (first | (refine wpList_alloc_hp (o := ⟨some 2, _, _, _, _, _⟩) rfl _ rfl HP.out (.agg #[.int .i64 0, .int .i64 0, .slice none 0 0, .int .i64 0, .int .i64 0, .int .i64 0, .int .i64 0, .int .i64 0, .int .i64 0, .int .i64 0, .int .i64 0, .int .i64 0, .int .i64 0, .int .i64 0, .int .i64 0, .int .i64 0, .int .i64 0, .int .i64 0, .int .i64 0, .int .i64 0, .slice none 0 0, .slice none 0 0]) (by kernel_rfl) [_, _, _, _, _, _, _, _, _, _, _, _, _, _, _, _, _, _, _, _, _, _] rfl ?_; clear HP; intro g2 w2 HP; replace HP := Lib.hid HP) | (refine wpList_box_hp (o := ⟨some 1, _, _, _, _, _⟩) rfl _ _ rfl HP.out [_, _, _, _, _, _, _, _, _, _, _, _, _, _, _, _, _, _, _, _, _, _] rfl ?_; clear HP; intro g1 w1 HP; replace HP := Lib.hid HP) | (refine wpList_ldR0 rfl 29 _ rfl HP.out rfl Tryd.underlying29 rfl (by kernel_rfl) ?_) | (refine wpList_ldR1 rfl 29 _ rfl HP.out rfl Tryd.underlying29 rfl (by kernel_rfl) ?_) | (refine wpList_stR0 rfl 29 _ _ rfl HP.out rfl (cs' := staCells s (.slice A1 s.frames.length c1) (.slice A2 s.events.length c2) (.slice A3 s.answers.length c3)) rfl rfl (by simp [staCells, Value.oneCell']) (by kernel_rfl) ?_; clear HP; intro wst HP; replace HP := Lib.hid HP) | (go_at_call 9; go_loud (refine (StateCopy_any s _ _ _ _ (HP.out.rep (F := ⟨w, Lt w.heap.size⟩) (.head _) HF.out) (HP.out.rep (F := ⟨w, Lt w.heap.size⟩) (.head _) HE.out) (HP.out.rep (F := ⟨w, Lt w.heap.size⟩) (.head _) HAN.out) hlf hle hla).mono ?_); rintro r w2 ⟨u', e', a', rfl, h1, h2, h3, hb⟩; obtain ⟨A1, c1, rfl, -, -, -⟩ := rep_frames_at h1; obtain ⟨A2, c2, rfl, -, -, -⟩ := rep_ints_at h2; obtain ⟨A3, c3, rfl, -, -, -⟩ := rep_ints_at h3; have hz := HP.out.size; replace HP := Lib.hid (HP.out.call hb); have H1 := Lib.hid h1; have H2 := Lib.hid h2; have H3 := Lib.hid h3; clear hb h1 h2 h3; unfold staCells))
  refine bodyPost_ret (results_cell_row rfl _ _ g2 29 (staCells s (.slice A1 s.frames.length c1) (.slice A2 s.events.length c2) (.slice A3 s.answers.length c3)).toArray (0, 0) _ rfl (HP.out.blk (.head _)) Tryd.underlying29 rfl (by kernel_rfl)) rfl ⟨_, _, _, rfl, ?_, ?_, ?_, HP.out.below⟩
  · exact HP.out.repMore (.head _) H1.out (fun b hb => ⟨Nat.le_trans hz hb.1, (HP.out.fro _ (.head _) b hb).1⟩)
  · exact HP.out.repMore (.head _) H2.out (fun b hb => ⟨Nat.le_trans hz hb.1, (HP.out.fro _ (.head _) b hb).1⟩)
  · exact HP.out.repMore (.head _) H3.out (fun b hb => ⟨Nat.le_trans hz hb.1, (HP.out.fro _ (.head _) b hb).1⟩)
end Go.Proofs.YtceilfmfidmfpaaDoor
