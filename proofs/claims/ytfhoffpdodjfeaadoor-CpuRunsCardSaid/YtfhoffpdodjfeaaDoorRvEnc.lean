/- rv.bits, rv.Encode. -/
import Derived.Test.YtfhoffpdodjfeaaDoorWordLaw
import Derived.Test.YtfhoffpdodjfeaaDoorMgRvARvB2
import Derived.Test.YtfhoffpdodjfeaaDoorMgBitsBitsZ2
set_option linter.unusedSimpArgs false
set_option linter.unusedVariables false
namespace Go.Proofs.YtfhoffpdodjfeaaDoor
open Go.RowKit Plain64
attribute [local irreducible] wpList Code.wp Oper.wp
theorem shl_n (a : Int) (m : Nat) (h : m ≤ 62) : Op.shift .shl .i64 a .i64 (m : Int) = pure (.int .i64 (wrap64 (a * 2 ^ m))) := by
  rw [shift_shl_any _ _ _ _ (by omega), IntWalk.i64_left, Nat.min_eq_left (by simp [IntKind.bits]; omega), Int.toNat_natCast]
theorem shr_n (a : Int) (m : Nat) (h : m ≤ 62) : Op.shift .shr .i64 a .i64 (m : Int) = pure (.int .i64 (a / 2 ^ m)) := by
  rw [shift_shr_any _ _ _ _ (by omega), Nat.min_eq_left (by simp [IntKind.bits]; omega), Int.toNat_natCast]
/-- Shifted left, and nothing is lost. -/
theorem shl_at' (a s k : Nat) (ha : a < 2 ^ k) (hk : k + s ≤ 62) : Op.shift .shl .i64 (a : Int) .i64 (s : Int) = pure (.int .i64 ((a <<< s : Nat) : Int)) := by
  rw [shl_n _ _ (by omega), shl_nat a s k ha hk]
set_option maxHeartbeats 400000 in
theorem rvbits_any (n : Int) (f m : Nat) (hf : f ≤ 20) (hm : m ≤ 20) (w : World) :
    Calls Tryd.prog 94 #[.int .i64 n, .int .i64 f, .int .i64 m] w fun e w' => e = .returned (.int .i64 (piece n f m : Nat)) ∧ ∃ k, w' = w.drewN k := by
  have hp1 := pow_pos' m
  have hp2 : (2 : Int) ^ m ≤ 1048576 := pow_le' hm
  have h3 : IntKind.i64.wrap (2 ^ m) = 2 ^ m := by rw [IntWalk.i64_left]; exact IntWalk.wrap64_in _ (by omega)
  have h4 := and_mask (n / 2 ^ f) m (by omega)
  have h5 : n / 2 ^ f % 2 ^ m = ((piece n f m : Nat) : Int) := (Int.toNat_of_nonneg (piece_nn n f m)).symm
  rw [h5] at h4
  obtain ⟨v, hv⟩ : ∃ v, ((piece n f m : Nat) : Int) = v := ⟨_, rfl⟩
  rw [hv] at h4
  rw [hv]
  obtain ⟨q, hq⟩ : ∃ q, (2 : Int) ^ m - 1 = q := ⟨_, rfl⟩
  have h6 : IntKind.i64.wrap (2 ^ m - 1) = q := by rw [IntWalk.i64_left, ← hq]; exact IntWalk.wrap64_in _ (by omega)
  have h7 : wrap64 (2 ^ m - 1) = q := by rw [← hq]; exact IntWalk.wrap64_in _ (show -9223372036854775808 ≤ (2 : Int) ^ m - 1 ∧ (2 : Int) ^ m - 1 ≤ 9223372036854775807 by omega)
  rw [hq] at h4
  clear h5 hv hq hp1 hp2
  go_enter Tryd.func94, Tryd.ntmps94
  go_wp2
  go_quiet (fail)
  go_wp2
  go_ret
  exact ⟨rfl, _, rfl⟩
theorem rv_at {w : World} (h : RvTabs w) (op : Int) (ho : 1 ≤ op ∧ op ≤ 29) : ∃ k : Nat, op = k ∧ k < 30 ∧ At w ⟨0, k * 4, none⟩ [.int .i64 (shapeZ op : Nat), .int .i64 (formZ op).code, .int .i64 (formZ op).f3, .int .i64 (formZ op).f7] := by
  obtain ⟨k, rfl⟩ := Int.eq_ofNat_of_zero_le (show 0 ≤ op by omega)
  have hk : k < 30 := by omega
  have := h.forms k hk
  rw [shape_at k hk] at this
  exact ⟨k, rfl, hk, this⟩
set_option maxRecDepth 10000 in
set_option maxHeartbeats 4000000 in
theorem rvEncode_any (x : Rvi) (w : World) (ht : RvTabs w) :
    Calls Tryd.prog 95 #[.agg #[.int .i64 x.op, .int .i64 x.rd, .int .i64 x.rs1, .int .i64 x.rs2, .int .i64 x.imm]] w fun e w' => e = .returned (.tuple #[.int .i64 (encZ x), .int .i64 (rvFault x)]) ∧ Below w.heap.size w w' := by
  have HT := Lib.hid ht
  clear ht
  have HP := Lib.hid (Hp.start w)
  by_cases hz : rvFault x = 0
  · have HZ := Lib.hid hz
    have ok := rv_ok hz
    have HE := Lib.hid (show encZ x = (encN (shapeZ x.op) (fldOf x) x.imm : Nat) by unfold encZ; rw [if_pos hz])
    rw [hz]
    have hs8 := shapeZ_lt x.op
    obtain ⟨kk, hop, hk30, hat0⟩ := rv_at HT.out x.op ok.op
    have hop' := ok.op
    obtain ⟨⟨hc, ht, hu, hd, h1, h2, -, -, -, -, -, -, hsh⟩, d0, r10, r20, c0, t0, u0, hi⟩ := (⟨ok.fld, ok.rd, ok.r1, ok.r2, ok.code, ok.f3, ok.f7, ok.imm⟩ : FldOk (shapeZ x.op) (fldOf x) x.imm ∧ _ ∧ _ ∧ _ ∧ _ ∧ _ ∧ _ ∧ _)
    have HOK := Lib.hid ok
    have HKK := Lib.hid hop
    clear ok hz hop
    obtain ⟨sh, hsh⟩ : ∃ sh, shapeZ x.op = sh := ⟨_, rfl⟩
    have HSH := Lib.hid hsh
    go_enter Tryd.func95, Tryd.ntmps95
    go_upto_region 4 with (first | (refine wpList_box_hp (o := ⟨some 1, _, _, _, _, _⟩) rfl _ _ rfl HP.out [_, _, _, _, _] rfl ?_; clear HP; intro g1 w1 HP; replace HP := Lib.hid HP) | (refine wpList_ldR0 rfl 102 _ rfl HP.out rfl Tryd.underlying102 rfl (by kernel_rfl) ?_) | (go_at_call 113; refine (rvCheck_any x _ (HT.out.keep HP.out.below rfl)).mono ?_; rintro e w2 ⟨rfl, hb⟩; replace HP := Lib.hid (HP.out.call0 hb); clear hb; rw [HZ.out]))
    have hc0 := HP.out.cell (.head _) 0 _ rfl
    have hop := HKK.out
    go_outline
    obtain ⟨c, hcq⟩ : ∃ c, (formZ x.op).code = c := ⟨_, rfl⟩
    obtain ⟨f3, hf3⟩ : ∃ c, (formZ x.op).f3 = c := ⟨_, rfl⟩
    obtain ⟨f7, hf7⟩ : ∃ c, (formZ x.op).f7 = c := ⟨_, rfl⟩
    have HAT := Lib.hid (show At _ ⟨0, kk * 4, none⟩ [.int .i64 (sh : Int), .int .i64 c, .int .i64 f3, .int .i64 f7] by
      have := (HT.out.keep HP.out.below rfl).forms kk hk30
      rw [shape_at kk hk30, ← hop, hsh] at this
      have e : formsL.getD kk default = formZ x.op := by unfold formZ; rw [hop, Int.toNat_natCast]
      rw [e, hcq, hf3, hf7] at this
      exact this)
    have HCQ := Lib.hid hcq
    have HF3 := Lib.hid hf3
    have HF7 := Lib.hid hf7
    rw [hop] at hc0 HP
    rw [hcq] at c0
    rw [hf3] at t0
    rw [hf7] at u0
    rw [hsh] at hs8
    clear hat0 hsh hcq hf3 hf7 hop' hop
    go_upto_region 5 with (first | (refine wpList_alloc_hp (o := ⟨some 5, _, _, _, _, _⟩) rfl _ rfl HP.out (.agg #[.int .i64 0, .int .i64 0, .int .i64 0, .int .i64 0]) (by kernel_rfl) [_, _, _, _] rfl ?_; clear HP; intro g5 w5 HP; replace HP := Lib.hid HP) | (refine wpList_alloc_hp (o := ⟨some 4, _, _, _, _, _⟩) rfl _ rfl HP.out (.agg #[.int .i64 0, .int .i64 0, .int .i64 0, .int .i64 0]) (by kernel_rfl) [_, _, _, _] rfl ?_; clear HP; intro g4 w4 HP; replace HP := Lib.hid HP) | (refine wpList_alloc_hp (o := ⟨some 6, _, _, _, _, _⟩) rfl _ rfl HP.out (.agg #[.int .i64 0, .int .i64 0, .int .i64 0, .int .i64 0]) (by kernel_rfl) [_, _, _, _] rfl ?_; clear HP; intro g6 w6 HP; replace HP := Lib.hid HP) | (refine wpList_stR0 rfl 119 _ _ rfl HP.out rfl (cs' := [_, _, _, _]) rfl rfl (by simp [Value.oneCell']) (by kernel_rfl) ?_; clear HP; intro wst HP; replace HP := Lib.hid HP) | (refine wpList_load_at rfl 119 _ rfl _ rfl _ _ HAT.out Tryd.underlying119 rfl (by kernel_rfl) ?_))
    (try simp only [Act.put, List.setIfInBounds_toArray, List.set_cons_zero, List.set_cons_succ])
    obtain ⟨C, rfl⟩ := Int.eq_ofNat_of_zero_le c0
    obtain ⟨T, rfl⟩ := Int.eq_ofNat_of_zero_le t0
    obtain ⟨U, rfl⟩ := Int.eq_ofNat_of_zero_le u0
    obtain ⟨D, hD⟩ := Int.eq_ofNat_of_zero_le d0
    obtain ⟨R1, hR1⟩ := Int.eq_ofNat_of_zero_le r10
    obtain ⟨R2, hR2⟩ := Int.eq_ofNat_of_zero_le r20
    obtain ⟨n, hn⟩ : ∃ n, x.imm = n := ⟨_, rfl⟩
    have hF : fldOf x = ⟨C, T, U, D, R1, R2⟩ := by
      unfold fldOf; rw [HCQ.out, HF3.out, HF7.out, hD, hR1, hR2]; simp
    rw [hF] at hc ht hu hd h1 h2
    simp only at hc ht hu hd h1 h2
    rw [HSH.out, hn] at hsh
    rw [hn] at hi
    rw [hD, hR1, hR2, hn] at HP
    have HFL := Lib.hid hF
    have HQ : Hid (encZ x = (encN sh ⟨C, T, U, D, R1, R2⟩ n : Nat)) := Lib.hid (by rw [HE.out, HSH.out, hF, hn])
    have hbase := base_int ⟨C, T, U, D, R1, R2⟩ hc ht hd h1 h2
    have hblt := encBase_lt (x := ⟨C, T, U, D, R1, R2⟩) hc ht hd h1 h2
    simp only at hbase
    obtain ⟨B, hB⟩ : ∃ B, encBase ⟨C, T, U, D, R1, R2⟩ = B := ⟨_, rfl⟩
    rw [hB] at hbase hblt
    have HB := Lib.hid hB
    clear c0 t0 u0 d0 r10 r20 hF hD hR1 hR2 hn hB
    rcases lt8 hs8 with rfl | rfl | rfl | rfl | rfl | rfl | rfl | rfl
    · go_wp2_with (first | (refine wpList_ld0 rfl 3 _ rfl HP.out rfl rfl Tryd.underlying3 rfl ?_) | (refine wpList_ld1 rfl 3 _ rfl HP.out rfl rfl Tryd.underlying3 rfl ?_))
      go_ret2
      refine ⟨congrArg (fun v => Ending.returned (.tuple #[.int .i64 v, .int .i64 0])) ?_, (by first | exact HP.out.below | exact below_drewN HP.out.below _)⟩
      rw [HQ.out]; unfold encN; rw [HB.out]
      have hb := up32 hblt (by decide)
      exact orI rfl (shlI _ 25 _ (by decide)) hb (shl32 (k := 7) 25 hu (by decide))
    · have hp0_12 : piece n 0 12 < 4096 := piece_lt n 0 12
      go_wp2_with (first | (refine wpList_ld0 rfl 3 _ rfl HP.out rfl rfl Tryd.underlying3 rfl ?_) | (refine wpList_ld1 rfl 3 _ rfl HP.out rfl rfl Tryd.underlying3 rfl ?_) | (go_at_call_of 94 ([Value.int IntKind.i64 0, Value.int IntKind.i64 12]); refine (rvbits_any n 0 12 (by decide) (by decide) _).mono ?_; rintro e wb ⟨rfl, kb, rfl⟩))
      go_ret2
      refine ⟨congrArg (fun v => Ending.returned (.tuple #[.int .i64 v, .int .i64 0])) ?_, (by first | exact HP.out.below | exact below_drewN HP.out.below _)⟩
      rw [HQ.out]; unfold encN; rw [HB.out]
      have hb := up32 hblt (by decide)
      exact orI rfl (shlI _ 20 _ (by decide)) hb (shl32 20 (piece_lt n 0 12) (by decide))
    · have hu6 : U < 64 := by have := HOK.out.fld.u2 HSH.out; rw [HFL.out] at this; exact this
      obtain ⟨n1, n2⟩ := hsh rfl
      obtain ⟨N, rfl⟩ := Int.eq_ofNat_of_zero_le n1
      have hn6 : N < 64 := by omega
      go_wp2_with (first | (refine wpList_ld0 rfl 3 _ rfl HP.out rfl rfl Tryd.underlying3 rfl ?_) | (refine wpList_ld1 rfl 3 _ rfl HP.out rfl rfl Tryd.underlying3 rfl ?_))
      go_ret2
      refine ⟨congrArg (fun v => Ending.returned (.tuple #[.int .i64 v, .int .i64 0])) ?_, (by first | exact HP.out.below | exact below_drewN HP.out.below _)⟩
      rw [HQ.out]; unfold encN; rw [HB.out]
      have hb := up32 hblt (by decide)
      exact orI rfl (orI (shlI _ 26 _ (by decide)) (shlI _ 20 _ (by decide)) (shl32 (k := 6) 26 hu6 (by decide)) (shl32 (k := 6) 20 hn6 (by decide))) hb (or_lt (shl32 (k := 6) 26 hu6 (by decide)) (shl32 (k := 6) 20 hn6 (by decide)))
    · have hp5_7 : piece n 5 7 < 128 := piece_lt n 5 7
      have hp0_5 : piece n 0 5 < 32 := piece_lt n 0 5
      go_wp2_with (first | (refine wpList_ld0 rfl 3 _ rfl HP.out rfl rfl Tryd.underlying3 rfl ?_) | (refine wpList_ld1 rfl 3 _ rfl HP.out rfl rfl Tryd.underlying3 rfl ?_) | (go_at_call_of 94 ([Value.int IntKind.i64 5, Value.int IntKind.i64 7]); refine (rvbits_any n 5 7 (by decide) (by decide) _).mono ?_; rintro e wb ⟨rfl, kb, rfl⟩) | (go_at_call_of 94 ([Value.int IntKind.i64 0, Value.int IntKind.i64 5]); refine (rvbits_any n 0 5 (by decide) (by decide) _).mono ?_; rintro e wb ⟨rfl, kb, rfl⟩))
      go_ret2
      refine ⟨congrArg (fun v => Ending.returned (.tuple #[.int .i64 v, .int .i64 0])) ?_, (by first | exact HP.out.below | exact below_drewN HP.out.below _)⟩
      rw [HQ.out]; unfold encN; rw [HB.out]
      have hb := up32 hblt (by decide)
      exact orI rfl (orI (shlI _ 25 _ (by decide)) (shlI _ 7 _ (by decide)) (shl32 25 (piece_lt n 5 7) (by decide)) (shl32 7 (piece_lt n 0 5) (by decide))) hb (or_lt (shl32 25 (piece_lt n 5 7) (by decide)) (shl32 7 (piece_lt n 0 5) (by decide)))
    · have hp12_1 : piece n 12 1 < 2 := piece_lt n 12 1
      have hp5_6 : piece n 5 6 < 64 := piece_lt n 5 6
      have hp1_4 : piece n 1 4 < 16 := piece_lt n 1 4
      have hp11_1 : piece n 11 1 < 2 := piece_lt n 11 1
      go_wp2_with (first | (refine wpList_ld0 rfl 3 _ rfl HP.out rfl rfl Tryd.underlying3 rfl ?_) | (refine wpList_ld1 rfl 3 _ rfl HP.out rfl rfl Tryd.underlying3 rfl ?_) | (go_at_call_of 94 ([Value.int IntKind.i64 12, Value.int IntKind.i64 1]); refine (rvbits_any n 12 1 (by decide) (by decide) _).mono ?_; rintro e wb ⟨rfl, kb, rfl⟩) | (go_at_call_of 94 ([Value.int IntKind.i64 5, Value.int IntKind.i64 6]); refine (rvbits_any n 5 6 (by decide) (by decide) _).mono ?_; rintro e wb ⟨rfl, kb, rfl⟩) | (go_at_call_of 94 ([Value.int IntKind.i64 1, Value.int IntKind.i64 4]); refine (rvbits_any n 1 4 (by decide) (by decide) _).mono ?_; rintro e wb ⟨rfl, kb, rfl⟩) | (go_at_call_of 94 ([Value.int IntKind.i64 11, Value.int IntKind.i64 1]); refine (rvbits_any n 11 1 (by decide) (by decide) _).mono ?_; rintro e wb ⟨rfl, kb, rfl⟩))
      go_ret2
      refine ⟨congrArg (fun v => Ending.returned (.tuple #[.int .i64 v, .int .i64 0])) ?_, (by first | exact HP.out.below | exact below_drewN HP.out.below _)⟩
      rw [HQ.out]; unfold encN; rw [HB.out]
      have hb := up32 hblt (by decide)
      exact orI rfl (orI (orI (orI (shlI _ 31 _ (by decide)) (shlI _ 25 _ (by decide)) (shl32 31 (piece_lt n 12 1) (by decide)) (shl32 25 (piece_lt n 5 6) (by decide))) (shlI _ 8 _ (by decide)) (or_lt (shl32 31 (piece_lt n 12 1) (by decide)) (shl32 25 (piece_lt n 5 6) (by decide))) (shl32 8 (piece_lt n 1 4) (by decide))) (shlI _ 7 _ (by decide)) (or_lt (or_lt (shl32 31 (piece_lt n 12 1) (by decide)) (shl32 25 (piece_lt n 5 6) (by decide))) (shl32 8 (piece_lt n 1 4) (by decide))) (shl32 7 (piece_lt n 11 1) (by decide))) hb (or_lt (or_lt (or_lt (shl32 31 (piece_lt n 12 1) (by decide)) (shl32 25 (piece_lt n 5 6) (by decide))) (shl32 8 (piece_lt n 1 4) (by decide))) (shl32 7 (piece_lt n 11 1) (by decide)))
    · have hp20_1 : piece n 20 1 < 2 := piece_lt n 20 1
      have hp1_10 : piece n 1 10 < 1024 := piece_lt n 1 10
      have hp11_1 : piece n 11 1 < 2 := piece_lt n 11 1
      have hp12_8 : piece n 12 8 < 256 := piece_lt n 12 8
      go_wp2_with (first | (refine wpList_ld0 rfl 3 _ rfl HP.out rfl rfl Tryd.underlying3 rfl ?_) | (refine wpList_ld1 rfl 3 _ rfl HP.out rfl rfl Tryd.underlying3 rfl ?_) | (go_at_call_of 94 ([Value.int IntKind.i64 20, Value.int IntKind.i64 1]); refine (rvbits_any n 20 1 (by decide) (by decide) _).mono ?_; rintro e wb ⟨rfl, kb, rfl⟩) | (go_at_call_of 94 ([Value.int IntKind.i64 1, Value.int IntKind.i64 10]); refine (rvbits_any n 1 10 (by decide) (by decide) _).mono ?_; rintro e wb ⟨rfl, kb, rfl⟩) | (go_at_call_of 94 ([Value.int IntKind.i64 11, Value.int IntKind.i64 1]); refine (rvbits_any n 11 1 (by decide) (by decide) _).mono ?_; rintro e wb ⟨rfl, kb, rfl⟩) | (go_at_call_of 94 ([Value.int IntKind.i64 12, Value.int IntKind.i64 8]); refine (rvbits_any n 12 8 (by decide) (by decide) _).mono ?_; rintro e wb ⟨rfl, kb, rfl⟩))
      go_ret2
      refine ⟨congrArg (fun v => Ending.returned (.tuple #[.int .i64 v, .int .i64 0])) ?_, (by first | exact HP.out.below | exact below_drewN HP.out.below _)⟩
      rw [HQ.out]; unfold encN; rw [HB.out]
      have hb := up32 hblt (by decide)
      exact orI rfl (orI (orI (orI (shlI _ 31 _ (by decide)) (shlI _ 21 _ (by decide)) (shl32 31 (piece_lt n 20 1) (by decide)) (shl32 21 (piece_lt n 1 10) (by decide))) (shlI _ 20 _ (by decide)) (or_lt (shl32 31 (piece_lt n 20 1) (by decide)) (shl32 21 (piece_lt n 1 10) (by decide))) (shl32 20 (piece_lt n 11 1) (by decide))) (shlI _ 12 _ (by decide)) (or_lt (or_lt (shl32 31 (piece_lt n 20 1) (by decide)) (shl32 21 (piece_lt n 1 10) (by decide))) (shl32 20 (piece_lt n 11 1) (by decide))) (shl32 12 (piece_lt n 12 8) (by decide))) hb (or_lt (or_lt (or_lt (shl32 31 (piece_lt n 20 1) (by decide)) (shl32 21 (piece_lt n 1 10) (by decide))) (shl32 20 (piece_lt n 11 1) (by decide))) (shl32 12 (piece_lt n 12 8) (by decide)))
    · have hp0_20 : piece n 0 20 < 1048576 := piece_lt n 0 20
      go_wp2_with (first | (refine wpList_ld0 rfl 3 _ rfl HP.out rfl rfl Tryd.underlying3 rfl ?_) | (refine wpList_ld1 rfl 3 _ rfl HP.out rfl rfl Tryd.underlying3 rfl ?_) | (go_at_call_of 94 ([Value.int IntKind.i64 0, Value.int IntKind.i64 20]); refine (rvbits_any n 0 20 (by decide) (by decide) _).mono ?_; rintro e wb ⟨rfl, kb, rfl⟩))
      go_ret2
      refine ⟨congrArg (fun v => Ending.returned (.tuple #[.int .i64 v, .int .i64 0])) ?_, (by first | exact HP.out.below | exact below_drewN HP.out.below _)⟩
      rw [HQ.out]; unfold encN; rw [HB.out]
      have hb := up32 hblt (by decide)
      exact orI rfl (shlI _ 12 _ (by decide)) hb (shl32 12 (piece_lt n 0 20) (by decide))
    · go_wp2_with (first | (refine wpList_ld0 rfl 3 _ rfl HP.out rfl rfl Tryd.underlying3 rfl ?_) | (refine wpList_ld1 rfl 3 _ rfl HP.out rfl rfl Tryd.underlying3 rfl ?_))
      go_ret2
      refine ⟨congrArg (fun v => Ending.returned (.tuple #[.int .i64 v, .int .i64 0])) ?_, (by first | exact HP.out.below | exact below_drewN HP.out.below _)⟩
      rw [HQ.out]; unfold encN; rw [HB.out]
      rfl
  · have HE := Lib.hid (show encZ x = 0 by unfold encZ; rw [if_neg hz])
    obtain ⟨e0, he0⟩ : ∃ e0, rvFault x = e0 := ⟨_, rfl⟩
    have hzb : (e0 != 0) = true := by rw [bne_iff_ne, ← he0]; exact hz
    have HE0 := Lib.hid he0
    clear hz
    go_enter Tryd.func95, Tryd.ntmps95
    go_wp2_with (first | (refine wpList_box_hp (o := ⟨some 1, _, _, _, _, _⟩) rfl _ _ rfl HP.out [_, _, _, _, _] rfl ?_; clear HP; intro g1 w1 HP; replace HP := Lib.hid HP) | (refine wpList_ldR0 rfl 102 _ rfl HP.out rfl Tryd.underlying102 rfl (by kernel_rfl) ?_) | (go_at_call 113; refine (rvCheck_any x _ (HT.out.keep HP.out.below rfl)).mono ?_; rintro e w2 ⟨rfl, hb⟩; replace HP := Lib.hid (HP.out.call0 hb); clear hb; rw [HE0.out]))
    go_ret2
    exact ⟨by rw [HE.out, he0]; rfl, HP.out.below⟩
end Go.Proofs.YtfhoffpdodjfeaaDoor
