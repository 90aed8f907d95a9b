/- ref.WordOf. -/
import Derived.Test.YtfhoffpdodjfeaaDoorLayOut
import Derived.Test.YtfhoffpdodjfeaaDoorSeven
import Derived.Test.YtfhoffpdodjfeaaDoorMgBitsBitsZ2
import Derived.Test.YtfhoffpdodjfeaaDoorRvFault
set_option linter.unusedSimpArgs false
set_option linter.unusedVariables false
namespace Go.Proofs.YtfhoffpdodjfeaaDoor
open Go.RowKit Plain64
attribute [local irreducible] wpList Code.wp Oper.wp
/-- What may stand in the table. -/
def layV (v : Nat) : Bool := decide (v < 21) || (decide (100 ≤ v) && decide (v < 105)) || (decide (110 ≤ v) && decide (v < 115)) || (decide (120 ≤ v) && decide (v < 125)) || (decide (130 ≤ v) && decide (v < 137)) || (decide (140 ≤ v) && decide (v < 143)) || (decide (150 ≤ v) && decide (v < 157))
theorem layV_at (s i : Nat) (hs : s < 8) (hi : i < 32) : layV ((layL s).getD i 0) = true := by
  have : ∀ s : Fin 8, ∀ i : Fin 32, layV ((layL s.1).getD i.1 0) = true := by decide +kernel
  exact this ⟨s, hs⟩ ⟨i, hi⟩
theorem lay_cases {v : Nat} (h : layV v = true) : v < 21 ∨ (∃ j, j < 5 ∧ v = 100 + j) ∨ (∃ j, j < 5 ∧ v = 110 + j) ∨ (∃ j, j < 5 ∧ v = 120 + j) ∨ (∃ j, j < 7 ∧ v = 130 + j) ∨ (∃ j, j < 3 ∧ v = 140 + j) ∨ (∃ j, j < 7 ∧ v = 150 + j) := by
  unfold layV at h
  simp at h
  rcases h with ((((((h | h) | h) | h) | h) | h) | h)
  · exact .inl h
  · exact .inr (.inl ⟨v - 100, by omega, by omega⟩)
  · exact .inr (.inr (.inl ⟨v - 110, by omega, by omega⟩))
  · exact .inr (.inr (.inr (.inl ⟨v - 120, by omega, by omega⟩)))
  · exact .inr (.inr (.inr (.inr (.inl ⟨v - 130, by omega, by omega⟩))))
  · exact .inr (.inr (.inr (.inr (.inr (.inl ⟨v - 140, by omega, by omega⟩)))))
  · exact .inr (.inr (.inr (.inr (.inr (.inr ⟨v - 150, by omega, by omega⟩)))))
theorem layI_at (s i : Nat) (hi : i < 32) : (layI s)[i]? = some (((layL s).getD i 0 : Nat) : Int) := by
  unfold layI
  rw [List.getElem?_map, List.getD_eq_getElem?_getD, List.getElem?_eq_getElem (by rw [layL_len]; exact hi)]
  rfl
set_option maxRecDepth 10000 in
set_option maxHeartbeats 4000000 in
theorem WordOf_any (x : Rvi) (w : World) :
    Calls Tryd.prog 104 #[.agg #[.int .i64 x.op, .int .i64 x.rd, .int .i64 x.rs1, .int .i64 x.rs2, .int .i64 x.imm]] w fun e w' => e = .returned (.tuple #[.int .i64 (encZ x), .int .i64 (rvFault x)]) ∧ Below w.heap.size w w' := by
  have HP := Lib.hid (Hp.start w)
  by_cases hz : rvFault x = 0
  · have HZ := Lib.hid hz
    have ok := rv_ok hz
    have HOK := Lib.hid ok
    have HE := Lib.hid (show encZ x = (wordN (shapeZ x.op) (fldOf x) x.imm : Nat) by unfold encZ; rw [if_pos hz, enc_word _ (shapeZ_lt _) _ _ ok.fld])
    have hs8 := shapeZ_lt x.op
    rw [hz]
    obtain ⟨sh, hsh⟩ : ∃ sh, shapeZ x.op = sh := ⟨_, rfl⟩
    rw [hsh] at HE hs8
    have HSH := Lib.hid hsh
    have HS8 := Lib.hid hs8
    clear hz ok hsh hs8
    go_enter Tryd.func104, Tryd.ntmps104
    go_wp2_with (first | (refine wpList_box_hp (o := ⟨some 1, _, _, _, _, _⟩) rfl _ _ rfl HP.out [_, _, _, _, _] rfl ?_; clear HP; intro g1 w1 HP; replace HP := Lib.hid HP) | (refine wpList_box_hp (o := ⟨some 2, _, _, _, _, _⟩) rfl _ _ rfl HP.out [_, _, _, _, _] rfl ?_; clear HP; intro g2 w2 HP; replace HP := Lib.hid HP) | (refine wpList_ldR0 rfl 102 _ rfl HP.out rfl Tryd.underlying102 rfl (by kernel_rfl) ?_) | (refine wpList_ld0 rfl 3 _ rfl HP.out rfl rfl Tryd.underlying3 rfl ?_) | (go_at_call 116; refine (RvFault_any x _).mono ?_; rintro e w2 ⟨rfl, hb⟩; replace HP := Lib.hid (HP.out.call0 hb); clear hb; rw [HZ.out]) | (go_at_call 101; refine (shapeOf_any _ HOK.out.op _).mono ?_; rintro e w' ⟨rfl, rfl⟩; rw [HSH.out]) | (go_at_call 100; refine (layOut_any sh HS8.out _).mono ?_; rintro e wl ⟨gl, rfl, hl⟩; have HL := Lib.hid hl; clear hl))
    have HP1 := Lib.hid (Hp.take HP.out HL.out)
    clear HP
    simp only [List.cons_append, List.nil_append] at HP1
    obtain ⟨n, hn⟩ : ∃ n, x.imm = n := ⟨_, rfl⟩
    obtain ⟨F, hF⟩ : ∃ F, fldOf x = F := ⟨_, rfl⟩
    obtain ⟨bf, hbf⟩ : ∃ bf : Nat → Bool, bf = fun i => wordBit F n ((layL sh).getD i 0) := ⟨_, rfl⟩
    have HE2 : Hid (encZ x = (wTop bf 32 : Nat)) := Lib.hid (by rw [HE.out, hF, hn, hbf]; rfl)
    have HN := Lib.hid hn
    have HF := Lib.hid hF
    have HBF := Lib.hid hbf
    have HNR := Lib.hid (show -9223372036854775808 ≤ n ∧ n ≤ 9223372036854775807 by have h := HOK.out.imm; rw [hn] at h; omega)
    clear HE hn hF hbf
    go_loopw [6, 7] (fun v i wr => ∃ m q : Nat, q + m = 32 ∧ i = .int .i64 ((q : Int) - 1) ∧ v = .int .i64 (wTop bf m : Nat) ∧ Hid (Hp w [{ w := w, S := Lt w.heap.size }] [Res.blk gl 3 (List.map (Value.int .i64) (layI sh)), Res.blk g1 102 [.int .i64 x.op, .int .i64 x.rd, .int .i64 x.rs1, .int .i64 x.rs2, .int .i64 x.imm]] wr)) (fun _ i _ => (1 + intOf i).toNat)
    case atStart => exact ⟨0, 32, by omega, rfl, rfl, HP1⟩
    case round =>
      clear HP1
      obtain ⟨m, q, hm, rfl, rfl, HP⟩ := hrel
      have hwt := wTop_lt bf m
      have hpw : 2 ^ m ≤ 2 ^ 32 := Nat.pow_le_pow_right (by decide) (by omega)
      have HSTEP := Lib.hid (show wTop bf (m + 1) = 2 * wTop bf m + (bf (31 - m)).toNat from rfl)
      obtain ⟨W, hW⟩ : ∃ W, wTop bf m = W := ⟨_, rfl⟩
      rw [hW] at hwt HSTEP
      rw [hW]
      have hwl : W < 4294967296 := by omega
      have HW := Lib.hid hW
      clear hwt hpw hW
      rcases q with _ | i0
      case succ =>
        rw [show ((i0 + 1 : Nat) : Int) - 1 = (i0 : Int) by omega]
        have hi32 : (i0 : Int) < 32 := by omega
        rw [show 31 - m = i0 by omega] at HSTEP
        obtain ⟨v, hv⟩ : ∃ v, (layL sh).getD i0 0 = v := ⟨_, rfl⟩
        have hlv := layV_at sh i0 HS8.out (by omega)
        have hli := layI_at sh i0 (by omega)
        rw [hv] at hlv hli
        have HVB := Lib.hid (show bf i0 = wordBit F n v by rw [HBF.out, ← hv])
        have hcl := HP.out.cell (.head _) i0 (.int .i64 (v : Int)) (by rw [List.getElem?_map, hli]; rfl)
        have hci := HP.out.cell (.tail _ (.head _)) 4 _ rfl
        rw [HN.out] at hci
        have HLI := Lib.hid (show (List.map (Value.int IntKind.i64) (layI sh))[i0]? = some (.int .i64 (v : Int)) by rw [List.getElem?_map, hli]; rfl)
        clear hv hli
        rcases lay_cases hlv with hv | ⟨j, hj, hv⟩ | ⟨j, hj, hv⟩ | ⟨j, hj, hv⟩ | ⟨j, hj, hv⟩ | ⟨j, hj, hv⟩ | ⟨j, hj, hv⟩
        · have HBIT := Lib.hid (show bf i0 = bitZ n v by rw [HVB.out]; unfold wordBit; rw [if_pos (by omega)])
          have f2 : (v : Int).tmod 100 = (v : Int) := Int.tmod_eq_of_lt (by omega) (by omega)
          obtain ⟨d, hd⟩ : ∃ d : Int, (v : Int) / 10 = d := ⟨_, rfl⟩
          have hd3 : d < 3 := by omega
          have f4 : (v : Int).tdiv 10 = d := by rw [← hd]; exact Int.tdiv_eq_ediv_of_nonneg (by omega)
          have hb1 : (bitZ n v).toNat ≤ 1 := Bool.toNat_le _
          clear HVB hlv
          go_upto_region 10 with fail
          have HP0 := Lib.hid HP.out.drew
          refine wp_region_still_tail 7 (by kernel_rfl) (by kernel_rfl) ?_
          simp only [List.take_succ_cons, List.take_zero, List.drop_succ_cons, List.drop_zero]
          repeat still_step
          try refine wpStill_nil ?_
          clear hcl hci
          go_wp2_with (first | (refine wpList_ld0 rfl 3 _ rfl HP.out rfl HLI.out Tryd.underlying3 rfl ?_) | (go_at_call_of 102 (Value.int IntKind.i64 n); refine (bitOf_any n v (by omega) _ HNR.out).mono ?_; rintro e wb ⟨rfl, hb⟩; replace HP := Lib.hid (HP0.out.call0 hb); clear hb))
          go_roundw
          case rel => exact ⟨m + 1, i0, by omega, by go_num, by rw [HSTEP.out, HBIT.out]; congr 1; omega, HP⟩
          case measure => simp [intOf]; omega
        · have HY := Lib.hid (show 0 ≤ x.rd ∧ x.rd < 128 by have h := HOK.out; have h2 := h.fld.rd; have h3 := h.rd; unfold fldOf at h2; simp only at h2; omega)
          have HBIT := Lib.hid (show bf i0 = bitZ x.rd j by
            rw [HVB.out, ← toNat_bit HY.out.1, ← HF.out, hv]
            unfold wordBit
            rw [if_neg (by omega), if_pos (by omega)]
            rw [show 100 + j - 100 = j by omega]; rfl)
          obtain ⟨k, hk⟩ : ∃ k, k = j + 0 := ⟨_, rfl⟩
          have f2 : (v : Int).tmod 100 = (k : Int) := by rw [Int.tmod_eq_emod_of_nonneg (by omega)]; omega
          have f1 : (v : Int) % 10 = (j : Int) := by omega
          have f3 : (v : Int) / 10 = 10 := by omega
          have f4 : (v : Int).tdiv 10 = 10 := by rw [Int.tdiv_eq_ediv_of_nonneg (by omega)]; exact f3
          have hb1 : (bitZ x.rd j).toNat ≤ 1 := Bool.toNat_le _
          have hk64 : k < 64 := by omega
          have hj64 : j < 64 := by omega
          clear HVB hlv hv hk
          go_upto_region 10 with fail
          have HP0 := Lib.hid HP.out.drew
          refine wp_region_still_tail 7 (by kernel_rfl) (by kernel_rfl) ?_
          simp only [List.take_succ_cons, List.take_zero, List.drop_succ_cons, List.drop_zero]
          repeat still_step
          try refine wpStill_nil ?_
          clear hcl hci
          go_wp2_with (first | (refine wpList_ld0 rfl 3 _ rfl HP.out rfl HLI.out Tryd.underlying3 rfl ?_) | (go_at_call_of 102 (Value.int IntKind.i64 n); refine (bitOf_any n k (by omega) _ HNR.out).mono ?_; rintro e wb ⟨rfl, hb⟩; replace HP := Lib.hid (HP0.out.call0 hb); clear hb) | (go_at_call_of 102 (Value.int IntKind.i64 x.rd); refine (bitOf_any x.rd j (by omega) _ ⟨by have := HY.out; omega, by have := HY.out; omega⟩).mono ?_; rintro e wb ⟨rfl, hb⟩; replace HP := Lib.hid (HP.out.call0 hb); clear hb) | (refine wpList_ld0 rfl 3 _ rfl HP.out rfl rfl Tryd.underlying3 rfl ?_) | (refine wpList_ld1 rfl 3 _ rfl HP.out rfl rfl Tryd.underlying3 rfl ?_))
          go_roundw
          case rel => exact ⟨m + 1, i0, by omega, by go_num, by rw [HSTEP.out, HBIT.out]; congr 1; omega, HP⟩
          case measure => simp [intOf]; omega
        · have HY := Lib.hid (show 0 ≤ x.rs1 ∧ x.rs1 < 128 by have h := HOK.out; have h2 := h.fld.r1; have h3 := h.r1; unfold fldOf at h2; simp only at h2; omega)
          have HBIT := Lib.hid (show bf i0 = bitZ x.rs1 j by
            rw [HVB.out, ← toNat_bit HY.out.1, ← HF.out, hv]
            unfold wordBit
            rw [if_neg (by omega), if_neg (by omega), if_pos (by omega)]
            rw [show 110 + j - 110 = j by omega]; rfl)
          obtain ⟨k, hk⟩ : ∃ k, k = j + 10 := ⟨_, rfl⟩
          have f2 : (v : Int).tmod 100 = (k : Int) := by rw [Int.tmod_eq_emod_of_nonneg (by omega)]; omega
          have f1 : (v : Int) % 10 = (j : Int) := by omega
          have f3 : (v : Int) / 10 = 11 := by omega
          have f4 : (v : Int).tdiv 10 = 11 := by rw [Int.tdiv_eq_ediv_of_nonneg (by omega)]; exact f3
          have hb1 : (bitZ x.rs1 j).toNat ≤ 1 := Bool.toNat_le _
          have hk64 : k < 64 := by omega
          have hj64 : j < 64 := by omega
          clear HVB hlv hv hk
          go_upto_region 10 with fail
          have HP0 := Lib.hid HP.out.drew
          refine wp_region_still_tail 7 (by kernel_rfl) (by kernel_rfl) ?_
          simp only [List.take_succ_cons, List.take_zero, List.drop_succ_cons, List.drop_zero]
          repeat still_step
          try refine wpStill_nil ?_
          clear hcl hci
          go_wp2_with (first | (refine wpList_ld0 rfl 3 _ rfl HP.out rfl HLI.out Tryd.underlying3 rfl ?_) | (go_at_call_of 102 (Value.int IntKind.i64 n); refine (bitOf_any n k (by omega) _ HNR.out).mono ?_; rintro e wb ⟨rfl, hb⟩; replace HP := Lib.hid (HP0.out.call0 hb); clear hb) | (go_at_call_of 102 (Value.int IntKind.i64 x.rs1); refine (bitOf_any x.rs1 j (by omega) _ ⟨by have := HY.out; omega, by have := HY.out; omega⟩).mono ?_; rintro e wb ⟨rfl, hb⟩; replace HP := Lib.hid (HP.out.call0 hb); clear hb) | (refine wpList_ld0 rfl 3 _ rfl HP.out rfl rfl Tryd.underlying3 rfl ?_) | (refine wpList_ld1 rfl 3 _ rfl HP.out rfl rfl Tryd.underlying3 rfl ?_))
          go_roundw
          case rel => exact ⟨m + 1, i0, by omega, by go_num, by rw [HSTEP.out, HBIT.out]; congr 1; omega, HP⟩
          case measure => simp [intOf]; omega
        · have HY := Lib.hid (show 0 ≤ x.rs2 ∧ x.rs2 < 128 by have h := HOK.out; have h2 := h.fld.r2; have h3 := h.r2; unfold fldOf at h2; simp only at h2; omega)
          have HBIT := Lib.hid (show bf i0 = bitZ x.rs2 j by
            rw [HVB.out, ← toNat_bit HY.out.1, ← HF.out, hv]
            unfold wordBit
            rw [if_neg (by omega), if_neg (by omega), if_neg (by omega), if_pos (by omega)]
            rw [show 120 + j - 120 = j by omega]; rfl)
          obtain ⟨k, hk⟩ : ∃ k, k = j + 20 := ⟨_, rfl⟩
          have f2 : (v : Int).tmod 100 = (k : Int) := by rw [Int.tmod_eq_emod_of_nonneg (by omega)]; omega
          have f1 : (v : Int) % 10 = (j : Int) := by omega
          have f3 : (v : Int) / 10 = 12 := by omega
          have f4 : (v : Int).tdiv 10 = 12 := by rw [Int.tdiv_eq_ediv_of_nonneg (by omega)]; exact f3
          have hb1 : (bitZ x.rs2 j).toNat ≤ 1 := Bool.toNat_le _
          have hk64 : k < 64 := by omega
          have hj64 : j < 64 := by omega
          clear HVB hlv hv hk
          go_upto_region 10 with fail
          have HP0 := Lib.hid HP.out.drew
          refine wp_region_still_tail 7 (by kernel_rfl) (by kernel_rfl) ?_
          simp only [List.take_succ_cons, List.take_zero, List.drop_succ_cons, List.drop_zero]
          repeat still_step
          try refine wpStill_nil ?_
          clear hcl hci
          go_wp2_with (first | (refine wpList_ld0 rfl 3 _ rfl HP.out rfl HLI.out Tryd.underlying3 rfl ?_) | (go_at_call_of 102 (Value.int IntKind.i64 n); refine (bitOf_any n k (by omega) _ HNR.out).mono ?_; rintro e wb ⟨rfl, hb⟩; replace HP := Lib.hid (HP0.out.call0 hb); clear hb) | (go_at_call_of 102 (Value.int IntKind.i64 x.rs2); refine (bitOf_any x.rs2 j (by omega) _ ⟨by have := HY.out; omega, by have := HY.out; omega⟩).mono ?_; rintro e wb ⟨rfl, hb⟩; replace HP := Lib.hid (HP.out.call0 hb); clear hb) | (refine wpList_ld0 rfl 3 _ rfl HP.out rfl rfl Tryd.underlying3 rfl ?_) | (refine wpList_ld1 rfl 3 _ rfl HP.out rfl rfl Tryd.underlying3 rfl ?_))
          go_roundw
          case rel => exact ⟨m + 1, i0, by omega, by go_num, by rw [HSTEP.out, HBIT.out]; congr 1; omega, HP⟩
          case measure => simp [intOf]; omega
        · have HY := Lib.hid (show 0 ≤ (formZ x.op).code ∧ (formZ x.op).code < 128 by have h := HOK.out; have h2 := h.fld.c; have h3 := h.code; unfold fldOf at h2; simp only at h2; omega)
          have HBIT := Lib.hid (show bf i0 = bitZ (formZ x.op).code j by
            rw [HVB.out, ← toNat_bit HY.out.1, ← HF.out, hv]
            unfold wordBit
            rw [if_neg (by omega), if_neg (by omega), if_neg (by omega), if_neg (by omega), if_pos (by omega)]
            rw [show 130 + j - 130 = j by omega]; rfl)
          obtain ⟨k, hk⟩ : ∃ k, k = j + 30 := ⟨_, rfl⟩
          have f2 : (v : Int).tmod 100 = (k : Int) := by rw [Int.tmod_eq_emod_of_nonneg (by omega)]; omega
          have f1 : (v : Int) % 10 = (j : Int) := by omega
          have f3 : (v : Int) / 10 = 13 := by omega
          have f4 : (v : Int).tdiv 10 = 13 := by rw [Int.tdiv_eq_ediv_of_nonneg (by omega)]; exact f3
          have hb1 : (bitZ (formZ x.op).code j).toNat ≤ 1 := Bool.toNat_le _
          have hk64 : k < 64 := by omega
          have hj64 : j < 64 := by omega
          clear HVB hlv hv hk
          go_upto_region 10 with fail
          have HP0 := Lib.hid HP.out.drew
          refine wp_region_still_tail 7 (by kernel_rfl) (by kernel_rfl) ?_
          simp only [List.take_succ_cons, List.take_zero, List.drop_succ_cons, List.drop_zero]
          repeat still_step
          try refine wpStill_nil ?_
          clear hcl hci
          go_wp2_with (first | (refine wpList_ld0 rfl 3 _ rfl HP.out rfl HLI.out Tryd.underlying3 rfl ?_) | (go_at_call_of 102 (Value.int IntKind.i64 n); refine (bitOf_any n k (by omega) _ HNR.out).mono ?_; rintro e wb ⟨rfl, hb⟩; replace HP := Lib.hid (HP0.out.call0 hb); clear hb) | (go_at_call_of 102 (Value.int IntKind.i64 (formZ x.op).code); refine (bitOf_any (formZ x.op).code j (by omega) _ ⟨by have := HY.out; omega, by have := HY.out; omega⟩).mono ?_; rintro e wb ⟨rfl, hb⟩; replace HP := Lib.hid (HP.out.call0 hb); clear hb) | (go_at_call 117; refine (lowSeven_any x.op HOK.out.op _).mono ?_; rintro e wb ⟨rfl, hb⟩; replace HP := Lib.hid (HP.out.call0 hb); clear hb) | (refine wpList_ld0 rfl 3 _ rfl HP.out rfl rfl Tryd.underlying3 rfl ?_) | (refine wpList_ld1 rfl 3 _ rfl HP.out rfl rfl Tryd.underlying3 rfl ?_))
          go_roundw
          case rel => exact ⟨m + 1, i0, by omega, by go_num, by rw [HSTEP.out, HBIT.out]; congr 1; omega, HP⟩
          case measure => simp [intOf]; omega
        · have HY := Lib.hid (show 0 ≤ (formZ x.op).f3 ∧ (formZ x.op).f3 < 128 by have h := HOK.out; have h2 := h.fld.t; have h3 := h.f3; unfold fldOf at h2; simp only at h2; omega)
          have HBIT := Lib.hid (show bf i0 = bitZ (formZ x.op).f3 j by
            rw [HVB.out, ← toNat_bit HY.out.1, ← HF.out, hv]
            unfold wordBit
            rw [if_neg (by omega), if_neg (by omega), if_neg (by omega), if_neg (by omega), if_neg (by omega), if_pos (by omega)]
            rw [show 140 + j - 140 = j by omega]; rfl)
          obtain ⟨k, hk⟩ : ∃ k, k = j + 40 := ⟨_, rfl⟩
          have f2 : (v : Int).tmod 100 = (k : Int) := by rw [Int.tmod_eq_emod_of_nonneg (by omega)]; omega
          have f1 : (v : Int) % 10 = (j : Int) := by omega
          have f3 : (v : Int) / 10 = 14 := by omega
          have f4 : (v : Int).tdiv 10 = 14 := by rw [Int.tdiv_eq_ediv_of_nonneg (by omega)]; exact f3
          have hb1 : (bitZ (formZ x.op).f3 j).toNat ≤ 1 := Bool.toNat_le _
          have hk64 : k < 64 := by omega
          have hj64 : j < 64 := by omega
          clear HVB hlv hv hk
          go_upto_region 10 with fail
          have HP0 := Lib.hid HP.out.drew
          refine wp_region_still_tail 7 (by kernel_rfl) (by kernel_rfl) ?_
          simp only [List.take_succ_cons, List.take_zero, List.drop_succ_cons, List.drop_zero]
          repeat still_step
          try refine wpStill_nil ?_
          clear hcl hci
          go_wp2_with (first | (refine wpList_ld0 rfl 3 _ rfl HP.out rfl HLI.out Tryd.underlying3 rfl ?_) | (go_at_call_of 102 (Value.int IntKind.i64 n); refine (bitOf_any n k (by omega) _ HNR.out).mono ?_; rintro e wb ⟨rfl, hb⟩; replace HP := Lib.hid (HP0.out.call0 hb); clear hb) | (go_at_call_of 102 (Value.int IntKind.i64 (formZ x.op).f3); refine (bitOf_any (formZ x.op).f3 j (by omega) _ ⟨by have := HY.out; omega, by have := HY.out; omega⟩).mono ?_; rintro e wb ⟨rfl, hb⟩; replace HP := Lib.hid (HP.out.call0 hb); clear hb) | (go_at_call 118; refine (threeBits_any x.op HOK.out.op _).mono ?_; rintro e wb ⟨rfl, rfl⟩) | (refine wpList_ld0 rfl 3 _ rfl HP.out rfl rfl Tryd.underlying3 rfl ?_) | (refine wpList_ld1 rfl 3 _ rfl HP.out rfl rfl Tryd.underlying3 rfl ?_))
          go_roundw
          case rel => exact ⟨m + 1, i0, by omega, by go_num, by rw [HSTEP.out, HBIT.out]; congr 1; omega, HP⟩
          case measure => simp [intOf]; omega
        · have HY := Lib.hid (show 0 ≤ (formZ x.op).f7 ∧ (formZ x.op).f7 < 128 by have h := HOK.out; have h2 := h.fld.u; have h3 := h.f7; unfold fldOf at h2; simp only at h2; omega)
          have HBIT := Lib.hid (show bf i0 = bitZ (formZ x.op).f7 j by
            rw [HVB.out, ← toNat_bit HY.out.1, ← HF.out, hv]
            unfold wordBit
            rw [if_neg (by omega), if_neg (by omega), if_neg (by omega), if_neg (by omega), if_neg (by omega), if_neg (by omega)]
            rw [show 150 + j - 150 = j by omega]; rfl)
          obtain ⟨k, hk⟩ : ∃ k, k = j + 50 := ⟨_, rfl⟩
          have f2 : (v : Int).tmod 100 = (k : Int) := by rw [Int.tmod_eq_emod_of_nonneg (by omega)]; omega
          have f1 : (v : Int) % 10 = (j : Int) := by omega
          have f3 : (v : Int) / 10 = 15 := by omega
          have f4 : (v : Int).tdiv 10 = 15 := by rw [Int.tdiv_eq_ediv_of_nonneg (by omega)]; exact f3
          have hb1 : (bitZ (formZ x.op).f7 j).toNat ≤ 1 := Bool.toNat_le _
          have hk64 : k < 64 := by omega
          have hj64 : j < 64 := by omega
          clear HVB hlv hv hk
          go_upto_region 10 with fail
          have HP0 := Lib.hid HP.out.drew
          refine wp_region_still_tail 7 (by kernel_rfl) (by kernel_rfl) ?_
          simp only [List.take_succ_cons, List.take_zero, List.drop_succ_cons, List.drop_zero]
          repeat still_step
          try refine wpStill_nil ?_
          clear hcl hci
          go_wp2_with (first | (refine wpList_ld0 rfl 3 _ rfl HP.out rfl HLI.out Tryd.underlying3 rfl ?_) | (go_at_call_of 102 (Value.int IntKind.i64 n); refine (bitOf_any n k (by omega) _ HNR.out).mono ?_; rintro e wb ⟨rfl, hb⟩; replace HP := Lib.hid (HP0.out.call0 hb); clear hb) | (go_at_call_of 102 (Value.int IntKind.i64 (formZ x.op).f7); refine (bitOf_any (formZ x.op).f7 j (by omega) _ ⟨by have := HY.out; omega, by have := HY.out; omega⟩).mono ?_; rintro e wb ⟨rfl, hb⟩; replace HP := Lib.hid (HP.out.call0 hb); clear hb) | (go_at_call 119; refine (topBits_any x.op HOK.out.op _).mono ?_; rintro e wb ⟨rfl, rfl⟩) | (refine wpList_ld0 rfl 3 _ rfl HP.out rfl rfl Tryd.underlying3 rfl ?_) | (refine wpList_ld1 rfl 3 _ rfl HP.out rfl rfl Tryd.underlying3 rfl ?_))
          go_roundw
          case rel => exact ⟨m + 1, i0, by omega, by go_num, by rw [HSTEP.out, HBIT.out]; congr 1; omega, HP⟩
          case measure => simp [intOf]; omega
      case zero =>
        obtain rfl : m = 32 := by omega
        go_wp2_with fail
        go_ret2
        refine ⟨congrArg (fun v => Ending.returned (.tuple #[.int .i64 v, .int .i64 0])) ?_, HP.out.below⟩
        rw [HE2.out, HW.out]
  · have HE := Lib.hid (show encZ x = 0 by unfold encZ; rw [if_neg hz])
    obtain ⟨e0, he0⟩ : ∃ e0, rvFault x = e0 := ⟨_, rfl⟩
    have hzb : (e0 != 0) = true := by rw [bne_iff_ne, ← he0]; exact hz
    have HE0 := Lib.hid he0
    clear hz
    go_enter Tryd.func104, Tryd.ntmps104
    go_wp2_with (first | (refine wpList_box_hp (o := ⟨some 1, _, _, _, _, _⟩) rfl _ _ rfl HP.out [_, _, _, _, _] rfl ?_; clear HP; intro g1 w1 HP; replace HP := Lib.hid HP) | (refine wpList_ldR0 rfl 102 _ rfl HP.out rfl Tryd.underlying102 rfl (by kernel_rfl) ?_) | (go_at_call 116; refine (RvFault_any x _).mono ?_; rintro e w2 ⟨rfl, hb⟩; replace HP := Lib.hid (HP.out.call0 hb); clear hb; rw [HE0.out]))
    go_ret2
    exact ⟨by rw [HE.out, he0]; rfl, HP.out.below⟩
end Go.Proofs.YtfhoffpdodjfeaaDoor
