/- rv.Decode. -/
import Derived.Test.YtfhoffpdodjfeaaDoorRvNum
import Derived.Test.YtfhoffpdodjfeaaDoorRes
set_option linter.unusedSimpArgs false
set_option linter.unusedVariables false
namespace Go.Proofs.YtfhoffpdodjfeaaDoor
open Go.RowKit Plain64
attribute [local irreducible] wpList Code.wp Oper.wp
def hitB (w : Int) (k : Nat) : Bool := decide (1 ≤ k) && (decide (rvFault (candZ k w) = 0) && decide (encZ (candZ k w) = w))
def zeroRv : Rvi := ⟨0, 0, 0, 0, 0⟩
def decAns (w : Int) : Rvi × Int := if w < 0 ∨ 4294967296 ≤ w then (zeroRv, 2) else match (List.range 30).find? (hitB w) with | some k => (candZ k w, 0) | none => (zeroRv, 3)
theorem dec_hit {w : Int} {k : Nat} (hw : ¬ (w < 0 ∨ 4294967296 ≤ w)) (hk : k < 30) (h : hitB w k = true) (hn : ∀ j, j < k → hitB w j = false) : decAns w = (candZ k w, 0) := by
  unfold decAns
  rw [if_neg hw, List.find?_range_eq_some.2 ⟨h, by simpa using hk, fun j hj => by simp [hn j hj]⟩]
theorem dec_none {w : Int} (hw : ¬ (w < 0 ∨ 4294967296 ≤ w)) (hn : ∀ j, j < 30 → hitB w j = false) : decAns w = (zeroRv, 3) := by
  unfold decAns
  rw [if_neg hw, List.find?_eq_none.2 (fun j hj => by simp [hn j (by simpa using hj)])]
theorem dec_out {w : Int} (hw : w < 0 ∨ 4294967296 ≤ w) : decAns w = (zeroRv, 2) := by unfold decAns; rw [if_pos hw]
set_option maxRecDepth 100000 in
set_option maxHeartbeats 4000000 in
theorem rvDecode_any (w : Int) (W : World) (ht : RvTabs W) :
    Calls Tryd.prog 74 #[.int .i64 w] W fun e w' => e = .returned (.tuple #[.agg #[.int .i64 (decAns w).1.op, .int .i64 (decAns w).1.rd, .int .i64 (decAns w).1.rs1, .int .i64 (decAns w).1.rs2, .int .i64 (decAns w).1.imm], .int .i64 (decAns w).2]) ∧ Below W.heap.size W w' := by
  have HT := Lib.hid ht
  clear ht
  have HP := Lib.hid (Hp.start W)
  by_cases hw : w < 0 ∨ 4294967296 ≤ w
  · have HA := Lib.hid (dec_out hw)
    have hq : decide (w < 0) = true ∨ (decide (w < 0) = false ∧ decide (4294967296 ≤ w) = true) := by
      by_cases h : w < 0
      · left; exact decide_eq_true h
      · right; exact ⟨decide_eq_false h, decide_eq_true (by omega)⟩
    clear hw
    rcases hq with h1 | ⟨h1, h2⟩
    all_goals
      go_enter Tryd.func74, Tryd.ntmps74
      go_wp2_with (first | (refine wpList_alloc_hp (o := ⟨some 2, _, _, _, _, _⟩) rfl _ rfl HP.out (.agg #[.int .i64 0, .int .i64 0, .int .i64 0, .int .i64 0, .int .i64 0]) (by kernel_rfl) [_, _, _, _, _] rfl ?_; clear HP; intro g2 w2 HP; replace HP := Lib.hid HP) | (refine wpList_stR0 rfl 102 _ _ rfl HP.out rfl (cs' := [_, _, _, _, _]) rfl rfl (by simp [Value.oneCell']) (by kernel_rfl) ?_; clear HP; intro wst HP; replace HP := Lib.hid HP))
      rw [HA.out]
      refine bodyPost_ret (results_cell_row_tmp2 rfl _ _ g2 102 (List.toArray [.int .i64 0, .int .i64 0, .int .i64 0, .int .i64 0, .int .i64 0]) (0, 0) _ rfl (HP.out.blk (.head _)) Tryd.underlying102 rfl (by kernel_rfl)) rfl ⟨rfl, HP.out.below⟩
  · have HW := Lib.hid hw
    have h1 : decide (w < 0) = false := decide_eq_false (by omega)
    have h2 : decide (4294967296 ≤ w) = false := decide_eq_false (by omega)
    clear hw
    go_enter Tryd.func74, Tryd.ntmps74
    go_wp2_with (first | (refine wpList_alloc_hp (o := ⟨some 2, _, _, _, _, _⟩) rfl _ rfl HP.out (.agg #[.int .i64 0, .int .i64 0, .int .i64 0, .int .i64 0, .int .i64 0]) (by kernel_rfl) [_, _, _, _, _] rfl ?_; clear HP; intro g2 w2 HP; replace HP := Lib.hid HP))
    clear h1 h2
    go_loopw [4] (fun o wr => ∃ k : Nat, 1 ≤ k ∧ k ≤ 30 ∧ o = .int .i64 k ∧ Hid (∀ j, j < k → hitB w j = false) ∧ Hid (Hp W [⟨W, Lt W.heap.size⟩] [.blk g2 102 [.int .i64 0, .int .i64 0, .int .i64 0, .int .i64 0, .int .i64 0]] wr)) (fun o _ => 30 - (intOf o).toNat)
    case atStart => exact ⟨1, by omega, by omega, rfl, Lib.hid (fun j hj => by obtain rfl : j = 0 := (by omega); rfl), HP⟩
    case round =>
      clear HP
      obtain ⟨k, hk1, hk2, rfl, HN, HP⟩ := hrel
      obtain ⟨wo, rfl⟩ : ∃ wo : World, wo = wr := ⟨_, rfl⟩
      by_cases hk : k ≤ 29
      · have hs8 := shapeZ_lt (k : Int)
        obtain ⟨sh, hsh⟩ : ∃ s, shapeZ (k : Int) = s := ⟨_, rfl⟩
        rw [hsh] at hs8
        obtain ⟨FC, hFC⟩ : ∃ f, formZ (k : Int) = f := ⟨_, rfl⟩
        have HAT := Lib.hid (show ∀ wx, Below W.heap.size W wx → At wx ⟨0, k * 4, none⟩ [.int .i64 (sh : Int), .int .i64 FC.code, .int .i64 FC.f3, .int .i64 FC.f7] from fun wx hb => by
          obtain ⟨k', e, -, hat⟩ := rv_at (HT.out.keep hb rfl) (k : Int) (by omega)
          obtain rfl : k' = k := by omega
          rw [← hsh, ← hFC]; exact hat)
        obtain ⟨im, him⟩ : ∃ n, numZ sh w = n := ⟨_, rfl⟩
        obtain ⟨RD, hRD⟩ : ∃ n : Int, (if fieldB sh 0 then ((piece w 7 5 : Nat) : Int) else 0) = n := ⟨_, rfl⟩
        obtain ⟨R1, hR1⟩ : ∃ n : Int, (if fieldB sh 1 then ((piece w 15 5 : Nat) : Int) else 0) = n := ⟨_, rfl⟩
        obtain ⟨R2, hR2⟩ : ∃ n : Int, (if fieldB sh 2 then ((piece w 20 5 : Nat) : Int) else 0) = n := ⟨_, rfl⟩
        have HC := Lib.hid (show candZ k w = ⟨k, RD, R1, R2, im⟩ by unfold candZ; rw [hsh, him, hRD, hR1, hR2])
        have HIM := Lib.hid him
        have HRD := Lib.hid hRD
        have HR1 := Lib.hid hR1
        have HR2 := Lib.hid hR2
        have HS8 := Lib.hid hs8
        obtain ⟨ez, hez⟩ : ∃ n, encZ ⟨k, RD, R1, R2, im⟩ = n := ⟨_, rfl⟩
        obtain ⟨fz, hfz⟩ : ∃ n, rvFault ⟨k, RD, R1, R2, im⟩ = n := ⟨_, rfl⟩
        have HEZ := Lib.hid hez
        have HFZ := Lib.hid hfz
        have hk3 : (k : Int) < 30 := by omega
        have hk4 : (0 : Int) ≤ (k : Int) := by omega
        clear hsh hFC him hRD hR1 hR2 hez hfz
        go_wp2_with (first | (refine wpList_load_at rfl 119 _ rfl _ rfl _ _ (HAT.out _ HP.out.below) Tryd.underlying119 rfl (by kernel_rfl) ?_) | (refine wpList_alloc_hp (o := ⟨some 5, _, _, _, _, _⟩) rfl _ rfl HP.out (.agg #[.int .i64 0, .int .i64 0, .int .i64 0, .int .i64 0]) (by kernel_rfl) [_, _, _, _] rfl ?_; clear HP; intro g5 w5 HP; replace HP := Lib.hid HP) | (refine wpList_stR0 rfl 119 _ _ rfl HP.out rfl (cs' := [_, _, _, _]) rfl rfl (by simp [Value.oneCell']) (by kernel_rfl) ?_; clear HP; intro wst HP; replace HP := Lib.hid HP) | (refine wpList_ld0 rfl 3 _ rfl HP.out rfl rfl Tryd.underlying3 rfl ?_) | (refine wpList_ld1 rfl 3 _ rfl HP.out rfl rfl Tryd.underlying3 rfl ?_) | (refine wpList_alloc_hp (o := ⟨some 6, _, _, _, _, _⟩) rfl _ rfl HP.out (.agg #[.int .i64 0, .int .i64 0, .int .i64 0, .int .i64 0, .int .i64 0]) (by kernel_rfl) [_, _, _, _, _] rfl ?_; clear HP; intro g6 w6 HP; replace HP := Lib.hid HP) | (refine wpList_stR0 rfl 102 _ _ rfl HP.out rfl (cs' := [_, _, _, _, _]) rfl rfl (by simp [Value.oneCell']) (by kernel_rfl) ?_; clear HP; intro wst HP; replace HP := Lib.hid HP) | (go_at_call 93; go_loud (refine (number_any w sh HS8.out _).mono ?_; rintro e wb ⟨rfl, kb, rfl⟩; replace HP := Lib.hid (HP.out.drewN kb); rw [HIM.out])))
        go_loopw [35] (fun o wr => ∃ i : Nat, i ≤ 3 ∧ o = .int .i64 i ∧ Hid (Hp W [⟨W, Lt W.heap.size⟩] [.blk g6 102 [.int .i64 k, .int .i64 (if 0 < i then RD else 0), .int .i64 (if 1 < i then R1 else 0), .int .i64 (if 2 < i then R2 else 0), .int .i64 im], .blk g5 119 [.int .i64 (sh : Int), .int .i64 FC.code, .int .i64 FC.f3, .int .i64 FC.f7], .blk g2 102 [.int .i64 0, .int .i64 0, .int .i64 0, .int .i64 0, .int .i64 0]] wr)) (fun o _ => 3 - (intOf o).toNat)
        case atStart => exact ⟨0, by omega, rfl, HP⟩
        case round =>
          clear HP
          obtain ⟨i, hi, rfl, HP⟩ := hrel
          obtain ⟨wo2, rfl⟩ : ∃ wo : World, wo = wr := ⟨_, rfl⟩
          have h4 : i = 0 ∨ i = 1 ∨ i = 2 ∨ i = 3 := by omega
          clear hi
          rcases h4 with rfl | rfl | rfl | rfl
          · have hfl := (HT.out.keep HP.out.below rfl).fields sh 0 HS8.out (by omega)
            have hix : ∀ w', (Instr.index 123 (.agg #[.pointer (some ⟨g6, 1, none⟩), .pointer (some ⟨g6, 2, none⟩), .pointer (some ⟨g6, 3, none⟩)]) (.int .i64 0)).run Tryd.prog w' = .ok (.pointer (some ⟨g6, 1, none⟩)) w' := fun _ => by kernel_rfl
            have hix2 : ∀ w', (Instr.index 126 (.agg #[.int .i64 7, .int .i64 15, .int .i64 20]) (.int .i64 0)).run Tryd.prog w' = .ok (.int .i64 7) w' := fun _ => by kernel_rfl
            rw [Nat.add_zero] at hfl
            simp only [show ((0 : Nat) : Int) = 0 from rfl]
            have h8 : (sh : Int) < 8 := by have := HS8.out; omega
            have h9 : (0 : Int) ≤ (sh : Int) := by omega
            cases hb : fieldB sh 0 with
            | true =>
              obtain rfl : RD = ((piece w 7 5 : Nat) : Int) := by have := HRD.out; rw [hb] at this; exact this.symm
              rw [show (fieldsL.getD sh []).getD 0 false = true from hb] at hfl
              clear hb
              go_wp2_with (first | (refine wpList_ld0 rfl 3 _ rfl HP.out rfl rfl Tryd.underlying3 rfl ?_) | (refine wpList_ld1 rfl 3 _ rfl HP.out rfl rfl Tryd.underlying3 rfl ?_) | (go_at_call_of 94 ([Value.int IntKind.i64 7, Value.int IntKind.i64 5]); refine (rvbits31_any w 7 5 (by decide) (by decide) _).mono ?_; rintro e wb ⟨rfl, kb, rfl⟩; replace HP := Lib.hid (HP.out.drewN kb)) | (refine wpList_st0 rfl 3 _ _ rfl HP.out rfl rfl (by simp) rfl rfl (by kernel_rfl) ?_; clear HP; intro wst HP; replace HP := Lib.hid HP))
              go_roundw
              case rel => exact ⟨1, by omega, by go_num, HP⟩
              case measure => simp [intOf]
            | false =>
              obtain rfl : RD = 0 := by have := HRD.out; rw [hb] at this; exact this.symm
              rw [show (fieldsL.getD sh []).getD 0 false = false from hb] at hfl
              clear hb
              go_wp2_with (first | (refine wpList_ld0 rfl 3 _ rfl HP.out rfl rfl Tryd.underlying3 rfl ?_) | (refine wpList_ld1 rfl 3 _ rfl HP.out rfl rfl Tryd.underlying3 rfl ?_))
              go_roundw
              case rel => exact ⟨1, by omega, by go_num, HP⟩
              case measure => simp [intOf]
          · have hfl := (HT.out.keep HP.out.below rfl).fields sh 1 HS8.out (by omega)
            have hix : ∀ w', (Instr.index 123 (.agg #[.pointer (some ⟨g6, 1, none⟩), .pointer (some ⟨g6, 2, none⟩), .pointer (some ⟨g6, 3, none⟩)]) (.int .i64 1)).run Tryd.prog w' = .ok (.pointer (some ⟨g6, 2, none⟩)) w' := fun _ => by kernel_rfl
            have hix2 : ∀ w', (Instr.index 126 (.agg #[.int .i64 7, .int .i64 15, .int .i64 20]) (.int .i64 1)).run Tryd.prog w' = .ok (.int .i64 15) w' := fun _ => by kernel_rfl
            simp only [show ((1 : Nat) : Int) = 1 from rfl]
            have h8 : (sh : Int) < 8 := by have := HS8.out; omega
            have h9 : (0 : Int) ≤ (sh : Int) := by omega
            cases hb : fieldB sh 1 with
            | true =>
              obtain rfl : R1 = ((piece w 15 5 : Nat) : Int) := by have := HR1.out; rw [hb] at this; exact this.symm
              rw [show (fieldsL.getD sh []).getD 1 false = true from hb] at hfl
              clear hb
              go_wp2_with (first | (refine wpList_ld0 rfl 3 _ rfl HP.out rfl rfl Tryd.underlying3 rfl ?_) | (refine wpList_ld1 rfl 3 _ rfl HP.out rfl rfl Tryd.underlying3 rfl ?_) | (go_at_call_of 94 ([Value.int IntKind.i64 15, Value.int IntKind.i64 5]); refine (rvbits31_any w 15 5 (by decide) (by decide) _).mono ?_; rintro e wb ⟨rfl, kb, rfl⟩; replace HP := Lib.hid (HP.out.drewN kb)) | (refine wpList_st0 rfl 3 _ _ rfl HP.out rfl rfl (by simp) rfl rfl (by kernel_rfl) ?_; clear HP; intro wst HP; replace HP := Lib.hid HP))
              go_roundw
              case rel => exact ⟨2, by omega, by go_num, HP⟩
              case measure => simp [intOf]
            | false =>
              obtain rfl : R1 = 0 := by have := HR1.out; rw [hb] at this; exact this.symm
              rw [show (fieldsL.getD sh []).getD 1 false = false from hb] at hfl
              clear hb
              go_wp2_with (first | (refine wpList_ld0 rfl 3 _ rfl HP.out rfl rfl Tryd.underlying3 rfl ?_) | (refine wpList_ld1 rfl 3 _ rfl HP.out rfl rfl Tryd.underlying3 rfl ?_))
              go_roundw
              case rel => exact ⟨2, by omega, by go_num, HP⟩
              case measure => simp [intOf]
          · have hfl := (HT.out.keep HP.out.below rfl).fields sh 2 HS8.out (by omega)
            have hix : ∀ w', (Instr.index 123 (.agg #[.pointer (some ⟨g6, 1, none⟩), .pointer (some ⟨g6, 2, none⟩), .pointer (some ⟨g6, 3, none⟩)]) (.int .i64 2)).run Tryd.prog w' = .ok (.pointer (some ⟨g6, 3, none⟩)) w' := fun _ => by kernel_rfl
            have hix2 : ∀ w', (Instr.index 126 (.agg #[.int .i64 7, .int .i64 15, .int .i64 20]) (.int .i64 2)).run Tryd.prog w' = .ok (.int .i64 20) w' := fun _ => by kernel_rfl
            simp only [show ((2 : Nat) : Int) = 2 from rfl]
            have h8 : (sh : Int) < 8 := by have := HS8.out; omega
            have h9 : (0 : Int) ≤ (sh : Int) := by omega
            cases hb : fieldB sh 2 with
            | true =>
              obtain rfl : R2 = ((piece w 20 5 : Nat) : Int) := by have := HR2.out; rw [hb] at this; exact this.symm
              rw [show (fieldsL.getD sh []).getD 2 false = true from hb] at hfl
              clear hb
              go_wp2_with (first | (refine wpList_ld0 rfl 3 _ rfl HP.out rfl rfl Tryd.underlying3 rfl ?_) | (refine wpList_ld1 rfl 3 _ rfl HP.out rfl rfl Tryd.underlying3 rfl ?_) | (go_at_call_of 94 ([Value.int IntKind.i64 20, Value.int IntKind.i64 5]); refine (rvbits31_any w 20 5 (by decide) (by decide) _).mono ?_; rintro e wb ⟨rfl, kb, rfl⟩; replace HP := Lib.hid (HP.out.drewN kb)) | (refine wpList_st0 rfl 3 _ _ rfl HP.out rfl rfl (by simp) rfl rfl (by kernel_rfl) ?_; clear HP; intro wst HP; replace HP := Lib.hid HP))
              go_roundw
              case rel => exact ⟨3, by omega, by go_num, HP⟩
              case measure => simp [intOf]
            | false =>
              obtain rfl : R2 = 0 := by have := HR2.out; rw [hb] at this; exact this.symm
              rw [show (fieldsL.getD sh []).getD 2 false = false from hb] at hfl
              clear hb
              go_wp2_with (first | (refine wpList_ld0 rfl 3 _ rfl HP.out rfl rfl Tryd.underlying3 rfl ?_) | (refine wpList_ld1 rfl 3 _ rfl HP.out rfl rfl Tryd.underlying3 rfl ?_))
              go_roundw
              case rel => exact ⟨3, by omega, by go_num, HP⟩
              case measure => simp [intOf]
          · replace HP := Lib.hid (show Hp W [⟨W, Lt W.heap.size⟩] [.blk g6 102 [.int .i64 k, .int .i64 RD, .int .i64 R1, .int .i64 R2, .int .i64 im], .blk g5 119 [.int .i64 (sh : Int), .int .i64 FC.code, .int .i64 FC.f3, .int .i64 FC.f7], .blk g2 102 [.int .i64 0, .int .i64 0, .int .i64 0, .int .i64 0, .int .i64 0]] _ from HP.out)
            simp only [show ((3 : Nat) : Int) = 3 from rfl]
            go_upto_region 15 with (first | (refine wpList_ldR0 rfl 102 _ rfl HP.out rfl Tryd.underlying102 rfl (by kernel_rfl) ?_) | (go_at_call 95; refine (rvEncode_any ⟨k, RD, R1, R2, im⟩ _ (HT.out.keep HP.out.below rfl)).mono ?_; rintro e w8 ⟨rfl, hb⟩; replace HP := Lib.hid (HP.out.call0 hb); clear hb; rw [HEZ.out, HFZ.out]))
            by_cases hh : fz = 0 ∧ ez = w
            · have HH := Lib.hid (dec_hit HW.out (show k < 30 by omega) (by unfold hitB; rw [HC.out, HFZ.out, HEZ.out]; simp [hh.1, hh.2, hk1]) HN.out)
              have hb1 : (fz == 0) = true := by simpa using hh.1
              have hb2 : (ez == w) = true := by simpa using hh.2
              clear hh
              go_wp2_with (first | (refine wpList_ldR0 rfl 102 _ rfl HP.out rfl Tryd.underlying102 rfl (by kernel_rfl) ?_) | (refine wpList_stR0 rfl 102 _ _ rfl HP.out rfl (cs' := [_, _, _, _, _]) rfl rfl (by simp [Value.oneCell']) (by kernel_rfl) ?_; clear HP; intro wst HP; replace HP := Lib.hid HP) | (refine wpList_stR1 rfl 102 _ _ rfl HP.out rfl (cs' := [_, _, _, _, _]) rfl rfl (by simp [Value.oneCell']) (by kernel_rfl) ?_; clear HP; intro wst HP; replace HP := Lib.hid HP) | (refine wpList_stR2 rfl 102 _ _ rfl HP.out rfl (cs' := [_, _, _, _, _]) rfl rfl (by simp [Value.oneCell']) (by kernel_rfl) ?_; clear HP; intro wst HP; replace HP := Lib.hid HP))
              rw [HH.out, HC.out]
              refine bodyPost_ret (results_cell_row_tmp2 rfl _ _ g2 102 (List.toArray [.int .i64 (k : Int), .int .i64 RD, .int .i64 R1, .int .i64 R2, .int .i64 im]) (0, 0) _ rfl (HP.out.blk (.tail _ (.tail _ (.head _)))) Tryd.underlying102 rfl (by kernel_rfl)) rfl ⟨rfl, HP.out.below⟩
            · have HNH := Lib.hid (show hitB w k = false by unfold hitB; rw [HC.out, HFZ.out, HEZ.out]; simp only [Bool.and_eq_false_iff, decide_eq_false_iff_not]; right; by_cases h : fz = 0 <;> simp_all)
              have hb : ((fz == 0) = false) ∨ ((fz == 0) = true ∧ (ez == w) = false) := by
                by_cases h : fz = 0
                · right; exact ⟨by simpa using h, by rw [beq_eq_false_iff_ne]; exact fun e => hh ⟨h, e⟩⟩
                · left; rw [beq_eq_false_iff_ne]; exact h
              clear hh
              rcases hb with hb1 | ⟨hb1, hb2⟩
              all_goals
                go_wp2
                go_roundw
                case rel => exact ⟨k + 1, by omega, by omega, by go_num, Lib.hid (fun j hj => by by_cases e : j = k; exact e ▸ HNH.out; exact HN.out j (by omega)), Lib.hid ((HP.out.drop (A := [])).drop (A := []))⟩
                case measure => simp [intOf]; omega
      · obtain rfl : k = 30 := by omega
        have HH := Lib.hid (dec_none HW.out HN.out)
        simp only [show ((30 : Nat) : Int) = 30 from rfl]
        go_wp2_with (first | (refine wpList_stR0 rfl 102 _ _ rfl HP.out rfl (cs' := [_, _, _, _, _]) rfl rfl (by simp [Value.oneCell']) (by kernel_rfl) ?_; clear HP; intro wst HP; replace HP := Lib.hid HP))
        rw [HH.out]
        refine bodyPost_ret (results_cell_row_tmp2 rfl _ _ g2 102 (List.toArray [.int .i64 0, .int .i64 0, .int .i64 0, .int .i64 0, .int .i64 0]) (0, 0) _ rfl (HP.out.blk (.head _)) Tryd.underlying102 rfl (by kernel_rfl)) rfl ⟨rfl, HP.out.below⟩
end Go.Proofs.YtfhoffpdodjfeaaDoor
