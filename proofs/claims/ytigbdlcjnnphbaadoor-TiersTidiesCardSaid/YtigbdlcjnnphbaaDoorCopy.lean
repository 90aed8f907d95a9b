/- ref.Numbers, ref.StateCopy; the law's states. -/
import Derived.Test.YtigbdlcjnnphbaaDoorMgStateNextLaw2
set_option linter.unusedSimpArgs false
set_option linter.unusedVariables false
namespace Go.Proofs.YtigbdlcjnnphbaaDoor
open Go.RowKit
attribute [local irreducible] wpList Code.wp Oper.wp
set_option maxRecDepth 10000 in
set_option maxHeartbeats 1000000 in
theorem Numbers_own (xs : List Int) (u : Value) (w : World) (hx : Lay.rep w (Lt w.heap.size) xs [u]) (hb : xs.length ≤ 17592186044000) :
    Calls Tryd.prog 17 #[u] w fun e w' => ∃ v, e = .returned v ∧ Hp w [⟨w, Lt w.heap.size⟩] [.row v 3 1 xs.length (xs.map (Value.int .i64))] w' := by
  obtain ⟨A, c, rfl, hc, hm, hx⟩ := rep_ints_at hx
  unfold maxLen at hm
  have HX := Lib.hid hx
  clear hx
  obtain ⟨i_int, hi_int, hz_int, hs_int, hy_int⟩ := info_parts info_int
  have HP := Lib.hid ((Hp.start w).nil 3 1)
  go_enter Tryd.func17, Tryd.ntmps17
  go_wp2
  go_loopw [3, 4] (fun v i wr => ∃ (k : Nat) (A' : Option Addr) (c' : Nat), k ≤ xs.length ∧ v = .slice A' k c' ∧ i = .int .i64 k ∧ Hid (Hp w [{ w := w, S := Lt w.heap.size }] [Res.row (.slice A' k c') 3 1 (k) (List.map (Value.int IntKind.i64) (xs.take k))] wr)) (fun _ i _ => xs.length - (intOf i).toNat)
  case atStart => exact ⟨0, none, 0, by omega, rfl, rfl, HP⟩
  case round =>
    clear HP
    obtain ⟨k, A', c', hk, rfl, rfl, HP⟩ := hrel
    obtain ⟨wo, rfl⟩ : ∃ wo : World, wo = wr := ⟨_, rfl⟩
    by_cases hlt : k < xs.length
    · obtain ⟨a, rfl, hab, hca⟩ := HX.out k hlt
      have hcw := (HP.out.alike (F := ⟨w, Lt w.heap.size⟩) (.head _) (a.add k) (by rw [block_of_add]; exact hab)).trans hca
      have hlt2 : (k : Int) < (xs.length : Int) := by omega
      have HTK := Lib.hid (show xs.take (k + 1) = xs.take k ++ [xs[k]] by rw [List.take_add_one, List.getElem?_eq_getElem hlt]; rfl)
      obtain ⟨x, hx⟩ : ∃ x, xs[k] = x := ⟨_, rfl⟩
      rw [hx] at hcw HTK
      clear hx hca
      go_wp2_with (first | (refine wpList_ints_hp rfl 27 3 1 _ rfl HP.out Tryd.underlying27 [_] rfl (by kernel_rfl) ?_; clear HP; intro gi wi HP; replace HP := Lib.hid HP) | (at_builtin; refine wpList_apg0 rfl _ _ 27 rfl i_int (.int .i64 0) Tryd.underlying27 hi_int hz_int hs_int rfl (by decide) hy_int (k + 1) rfl HP.out rfl rfl rfl (by simp [Value.oneCell']) (by unfold maxLen; omega) (by omega) (by omega) ?_; clear HP; intro gap cap wap HP; replace HP := Lib.hid HP))
      go_roundw
      case rel => exact ⟨k + 1, _, _, by omega, rfl, by go_num, Lib.hid (by rw [HTK.out, List.map_append]; exact HP.out)⟩
      case measure => simp [intOf]; omega
    · obtain rfl : k = xs.length := by omega
      go_wp2
      go_ret
      exact ⟨_, rfl, by have := HP.out; rwa [List.take_of_length_le (Nat.le_refl _)] at this⟩
theorem Numbers_any (xs : List Int) (u : Value) (w : World) (hx : Lay.rep w (Lt w.heap.size) xs [u]) (hb : xs.length ≤ 17592186044000) :
    Calls Tryd.prog 17 #[u] w fun e w' => ∃ v, e = .returned v ∧ Lay.rep w' (Fresh w w') xs [v] ∧ Below w.heap.size w w' :=
  (Numbers_own xs u w hx hb).mono fun _ _ ⟨v, he, H⟩ => ⟨v, he, H.rowInts (.head _) rfl, H.below⟩
/-- What a state's rows are, owned. -/
abbrev ownS (s : Sta) (u e a : Value) : List Res := [.row u 42 14 s.frames.length (s.frames.flatMap frmCells), .row e 3 1 s.events.length (s.events.map (Value.int .i64)), .row a 3 1 s.answers.length (s.answers.map (Value.int .i64))]
theorem info_Frm : (Tryd.prog.info? 42).map (fun i => (i.zero, i.size, i.bytes)) = some (some (.agg #[.int .i64 0, .int .i64 0, .int .i64 0, .int .i64 0, .int .i64 0, .int .i64 0, .int .i64 0, .int .i64 0, .int .i64 0, .int .i64 0, .int .i64 0, .int .i64 0, .int .i64 0, .int .i64 0]), 14, 112) := by kernel_rfl
set_option maxRecDepth 10000 in
set_option maxHeartbeats 1000000 in
theorem StateCopy_own (s : Sta) (u e a : Value) (w : World) (hf : Lay.rep w (Lt w.heap.size) s.frames [u]) (he : Lay.rep w (Lt w.heap.size) s.events [e]) (ha : Lay.rep w (Lt w.heap.size) s.answers [a]) (hlf : s.frames.length ≤ 1256584717421) (hle : s.events.length ≤ 17592186044000) (hla : s.answers.length ≤ 17592186044000) :
    Calls Tryd.prog 9 #[.agg (staCells s u e a).toArray] w fun r w' => ∃ u' e' a', r = .returned (.agg (staCells s u' e' a').toArray) ∧ Hp w [⟨w, Lt w.heap.size⟩] (ownS s u' e' a') w' := by
  obtain ⟨A, c, rfl, hc, hm, hx⟩ := rep_frames_at hf
  unfold maxLen at hm
  have HX := Lib.hid hx
  have HE := Lib.hid he
  have HAN := Lib.hid ha
  clear hx hf he ha
  unfold staCells
  have HP := Lib.hid ((Hp.start w).nil 42 14)
  obtain ⟨i_Frm, hi_Frm, hz_Frm, hs_Frm, hy_Frm⟩ := info_parts info_Frm
  go_enter Tryd.func9, Tryd.ntmps9
  go_wp2_with (first | (refine wpList_alloc_hp (o := ⟨some 2, _, _, _, _, _⟩) rfl _ rfl HP.out (.agg #[.int .i64 0, .int .i64 0, .slice none 0 0, .int .i64 0, .int .i64 0, .int .i64 0, .int .i64 0, .int .i64 0, .int .i64 0, .int .i64 0, .int .i64 0, .int .i64 0, .int .i64 0, .int .i64 0, .int .i64 0, .int .i64 0, .int .i64 0, .int .i64 0, .int .i64 0, .int .i64 0, .slice none 0 0, .slice none 0 0]) (by kernel_rfl) [_, _, _, _, _, _, _, _, _, _, _, _, _, _, _, _, _, _, _, _, _, _] rfl ?_; clear HP; intro g2 w2 HP; replace HP := Lib.hid HP) | (refine wpList_box_hp (o := ⟨some 1, _, _, _, _, _⟩) rfl _ _ rfl HP.out [_, _, _, _, _, _, _, _, _, _, _, _, _, _, _, _, _, _, _, _, _, _] rfl ?_; clear HP; intro g1 w1 HP; replace HP := Lib.hid HP))
  go_loopw [3, 4] (fun v i wr => ∃ (k : Nat) (A' : Option Addr) (c' : Nat), k ≤ s.frames.length ∧ v = .slice A' k c' ∧ i = .int .i64 k ∧ Hid (Hp w [{ w := w, S := Lt w.heap.size }] [Res.blk g2 29 [iV 0, iV 0, .slice none 0 0, iV 0, iV 0, iV 0, iV 0, iV 0, iV 0, iV 0, iV 0, iV 0, iV 0, iV 0, iV 0, iV 0, iV 0, iV 0, iV 0, iV 0, .slice none 0 0, .slice none 0 0], Res.blk g1 29 (staCells s (.slice A s.frames.length c) e a), Res.row (.slice A' k c') 42 14 (k) ((s.frames.take k).flatMap frmCells)] wr)) (fun _ i _ => s.frames.length - (intOf i).toNat)
  case atStart => exact ⟨0, none, 0, by omega, rfl, rfl, HP⟩
  case round =>
    clear HP
    obtain ⟨k, A', c', hk, rfl, rfl, HP⟩ := hrel
    obtain ⟨wo, rfl⟩ : ∃ wo : World, wo = wr := ⟨_, rfl⟩
    unfold staCells at HP
    by_cases hlt : k < s.frames.length
    · obtain ⟨ad, rfl, hab, hat⟩ := HX.out k hlt
      have hlt2 : (k : Int) < (s.frames.length : Int) := by omega
      have HTK := Lib.hid (show s.frames.take (k + 1) = s.frames.take k ++ [s.frames[k]] by rw [List.take_add_one, List.getElem?_eq_getElem hlt]; rfl)
      obtain ⟨x, hx⟩ : ∃ x, s.frames[k] = x := ⟨_, rfl⟩
      rw [hx] at hat HTK
      have HAT := Lib.hid (HP.out.at_ (F := ⟨w, Lt w.heap.size⟩) (.head _) hat (by rw [block_of_add]; exact hab))
      clear hx hat
      unfold frmCells at HAT
      go_wp2_with (first | (refine wpList_ld0 rfl 25 _ rfl HP.out rfl rfl Tryd.underlying25 rfl ?_) | (refine wpList_ld1 rfl 25 _ rfl HP.out rfl rfl Tryd.underlying25 rfl ?_) | (refine wpList_load_at rfl 42 _ rfl _ rfl _ _ HAT.out Tryd.underlying42 rfl (by kernel_rfl) ?_) | (refine wpList_slice_hp rfl 25 42 1 _ rfl HP.out Tryd.underlying25 (frmCells x).toArray (by kernel_rfl) ?_; clear HP; intro gi wi HP; replace HP := Lib.hid HP) | (at_builtin; refine wpList_app2 rfl _ _ 25 rfl i_Frm (.agg #[.int .i64 0, .int .i64 0, .int .i64 0, .int .i64 0, .int .i64 0, .int .i64 0, .int .i64 0, .int .i64 0, .int .i64 0, .int .i64 0, .int .i64 0, .int .i64 0, .int .i64 0, .int .i64 0]) Tryd.underlying25 hi_Frm hz_Frm hs_Frm rfl (by decide) hy_Frm (k + 1) (by omega) HP.out rfl rfl rfl (by simp [Value.oneCell', frmCells]) (by unfold maxLen; omega) (by omega) ?_; clear HP; intro A' c' wap HP; replace HP := Lib.hid HP))
      go_roundw
      case rel => exact ⟨k + 1, _, _, by omega, rfl, by go_num, Lib.hid (by rw [HTK.out, List.flatMap_append, show [x].flatMap frmCells = frmCells x by simp]; exact HP.out)⟩
      case measure => simp [intOf]; omega
    · obtain rfl : k = s.frames.length := by omega
      obtain ⟨AE, ce, rfl, hce, hme, -⟩ := rep_ints_at HE.out
      obtain ⟨AA, ca, rfl, hca, hma, -⟩ := rep_ints_at HAN.out
      go_wp2_with (first | (refine wpList_ld0 rfl 25 _ rfl HP.out rfl rfl Tryd.underlying25 rfl ?_) | (refine wpList_ld1 rfl 25 _ rfl HP.out rfl rfl Tryd.underlying25 rfl ?_) | (refine wpList_st0 rfl 25 _ _ rfl HP.out rfl rfl (by simp) rfl rfl (by kernel_rfl) ?_; clear HP; intro wst HP; replace HP := Lib.hid HP) | (refine wpList_st1 rfl 25 _ _ rfl HP.out rfl rfl (by simp) rfl rfl (by kernel_rfl) ?_; clear HP; intro wst HP; replace HP := Lib.hid HP) | (refine wpList_st0 rfl 27 _ _ rfl HP.out rfl rfl (by simp) rfl rfl (by kernel_rfl) ?_; clear HP; intro wst HP; replace HP := Lib.hid HP) | (refine wpList_st1 rfl 27 _ _ rfl HP.out rfl rfl (by simp) rfl rfl (by kernel_rfl) ?_; clear HP; intro wst HP; replace HP := Lib.hid HP) | (refine wpList_ld0 rfl 27 _ rfl HP.out rfl rfl Tryd.underlying27 rfl ?_) | (refine wpList_ld1 rfl 27 _ rfl HP.out rfl rfl Tryd.underlying27 rfl ?_) | (refine wpList_ldR0 rfl 29 _ rfl HP.out rfl Tryd.underlying29 rfl (by kernel_rfl) ?_) | (refine wpList_ldR1 rfl 29 _ rfl HP.out rfl Tryd.underlying29 rfl (by kernel_rfl) ?_) | (refine wpList_stR0 rfl 29 _ _ rfl HP.out rfl (cs' := staCells s (.slice A' s.frames.length c') (.slice A5 s.events.length c5) (.slice A6 s.answers.length c6)) rfl rfl (by simp [staCells, Value.oneCell']) (by kernel_rfl) ?_; clear HP; intro wst HP; replace HP := Lib.hid HP) | (go_at_call_of 17 (Value.slice AE s.events.length ce); refine (Numbers_own s.events _ _ (HP.out.rep (F := ⟨w, Lt w.heap.size⟩) (by simp) HE.out) hle).mono ?_; rintro e5 w5 ⟨v5, rfl, hb5⟩; obtain ⟨A5, c5, rfl, -, -, -⟩ := rep_ints_at (hb5.rowInts (.head _) rfl); replace HP := Lib.hid (by simpa only [List.cons_append, List.nil_append] using HP.out.takeEnd hb5); clear hb5) | (go_at_call_of 17 (Value.slice AA s.answers.length ca); refine (Numbers_own s.answers _ _ (HP.out.rep (F := ⟨w, Lt w.heap.size⟩) (by simp) HAN.out) hla).mono ?_; rintro e6 w6 ⟨v6, rfl, hb6⟩; obtain ⟨A6, c6, rfl, -, -, -⟩ := rep_ints_at (hb6.rowInts (.head _) rfl); replace HP := Lib.hid (by simpa only [List.cons_append, List.nil_append] using HP.out.takeEnd hb6); clear hb6))
      refine bodyPost_ret (results_cell_row rfl _ _ g2 29 (staCells s (.slice A' s.frames.length c') (.slice A5 s.events.length c5) (.slice A6 s.answers.length c6)).toArray (0, 0) _ rfl (HP.out.blk (.head _)) Tryd.underlying29 rfl (by kernel_rfl)) rfl ⟨_, _, _, rfl, ?_⟩
      have := (HP.out.drop (A := [])).drop (A := [])
      rw [List.take_of_length_le (Nat.le_refl _)] at this
      exact this
theorem StateCopy_any (s : Sta) (u e a : Value) (w : World) (hf : Lay.rep w (Lt w.heap.size) s.frames [u]) (he : Lay.rep w (Lt w.heap.size) s.events [e]) (ha : Lay.rep w (Lt w.heap.size) s.answers [a]) (hlf : s.frames.length ≤ 1256584717421) (hle : s.events.length ≤ 17592186044000) (hla : s.answers.length ≤ 17592186044000) :
    Calls Tryd.prog 9 #[.agg (staCells s u e a).toArray] w fun r w' => ∃ u' e' a', r = .returned (.agg (staCells s u' e' a').toArray) ∧ Lay.rep w' (Fresh w w') s.frames [u'] ∧ Lay.rep w' (Fresh w w') s.events [e'] ∧ Lay.rep w' (Fresh w w') s.answers [a'] ∧ Below w.heap.size w w' :=
  (StateCopy_own s u e a w hf he ha hlf hle hla).mono fun _ _ ⟨u', e', a', hr, H⟩ => ⟨u', e', a', hr, H.rowFrames (.head _) rfl, H.rowInts (.tail _ (.head _)) rfl, H.rowInts (.tail _ (.tail _ (.head _))) rfl, H.below⟩
end Go.Proofs.YtigbdlcjnnphbaaDoor
