/- ref.RvOf. -/
import Derived.Test.YtfhoffpdodjfeaaDoorRvOfLaw
import Derived.Test.YtfhoffpdodjfeaaDoorRvDec
import Derived.Test.YtfhoffpdodjfeaaDoorMgHeldHeldB2
set_option linter.unusedSimpArgs false
set_option linter.unusedVariables false
namespace Go.Proofs.YtfhoffpdodjfeaaDoor
open Go.RowKit Plain64
attribute [local irreducible] wpList Code.wp Oper.wp
set_option maxRecDepth 100000 in
set_option maxHeartbeats 4000000 in
theorem RvOf_any (w : Int) (W : World) (hwr : -9223372036854775808 ≤ w ∧ w ≤ 9223372036854775807) :
    Calls Tryd.prog 76 #[.int .i64 w] W fun e w' => e = .returned (.tuple #[.agg #[.int .i64 (decAns w).1.op, .int .i64 (decAns w).1.rd, .int .i64 (decAns w).1.rs1, .int .i64 (decAns w).1.rs2, .int .i64 (decAns w).1.imm], .int .i64 (decAns w).2]) ∧ Below W.heap.size W w' := by
  have HWR := Lib.hid hwr
  clear hwr
  have HP := Lib.hid (Hp.start W)
  by_cases hw : w < 0 ∨ 4294967296 ≤ w
  · have HA := Lib.hid (dec_out hw)
    have hq : decide (0 ≤ w) = false ∨ (decide (0 ≤ w) = true ∧ decide (w ≤ 4294967295) = false) := by
      by_cases h : w < 0
      · left; exact decide_eq_false (by omega)
      · right; exact ⟨decide_eq_true (by omega), decide_eq_false (by omega)⟩
    clear hw
    rcases hq with h1 | ⟨h1, h2⟩
    all_goals
      go_enter Tryd.func76, Tryd.ntmps76
      go_wp2_with (first | (refine wpList_alloc_hp (o := ⟨some 2, _, _, _, _, _⟩) rfl _ rfl HP.out (.agg #[.int .i64 0, .int .i64 0, .int .i64 0, .int .i64 0, .int .i64 0]) (by kernel_rfl) [_, _, _, _, _] rfl ?_; clear HP; intro g2 w2 HP; replace HP := Lib.hid HP) | (refine wpList_stR0 rfl 102 _ _ rfl HP.out rfl (cs' := [_, _, _, _, _]) rfl rfl (by simp [Value.oneCell']) (by kernel_rfl) ?_; clear HP; intro wst HP; replace HP := Lib.hid HP) | (go_at_call 47; refine (In_any _ _ _ _).mono ?_; rintro e w' ⟨rfl, rfl⟩))
      rw [HA.out]
      refine bodyPost_ret (results_cell_row_tmp2 rfl _ _ g2 102 (List.toArray [.int .i64 0, .int .i64 0, .int .i64 0, .int .i64 0, .int .i64 0]) (0, 0) _ rfl (HP.out.blk (.head _)) Tryd.underlying102 rfl (by kernel_rfl)) rfl ⟨rfl, HP.out.below⟩
  · have HW := Lib.hid hw
    have h1 : decide (0 ≤ w) = true := decide_eq_true (by omega)
    have h2 : decide (w ≤ 4294967295) = true := decide_eq_true (by omega)
    clear hw
    go_enter Tryd.func76, Tryd.ntmps76
    go_wp2_with (first | (refine wpList_alloc_hp (o := ⟨some 2, _, _, _, _, _⟩) rfl _ rfl HP.out (.agg #[.int .i64 0, .int .i64 0, .int .i64 0, .int .i64 0, .int .i64 0]) (by kernel_rfl) [_, _, _, _, _] rfl ?_; clear HP; intro g2 w2 HP; replace HP := Lib.hid HP) | (go_at_call 47; refine (In_any _ _ _ _).mono ?_; rintro e w' ⟨rfl, rfl⟩))
    clear h1 h2
    go_loopw [4] (fun o wr => ∃ k : Nat, 1 ≤ k ∧ k ≤ 30 ∧ o = .int .i64 k ∧ Hid (∀ j, j < k → hitB w j = false) ∧ Hid (Hp W [⟨W, Lt W.heap.size⟩] [.blk g2 102 [.int .i64 0, .int .i64 0, .int .i64 0, .int .i64 0, .int .i64 0]] wr)) (fun o _ => 30 - (intOf o).toNat)
    case atStart => exact ⟨1, by omega, by omega, rfl, Lib.hid (fun j hj => by obtain rfl : j = 0 := (by omega); rfl), HP⟩
    case round =>
      clear HP
      obtain ⟨k, hk1, hk2, rfl, HN, HP⟩ := hrel
      obtain ⟨wo, rfl⟩ : ∃ wo : World, wo = wr := ⟨_, rfl⟩
      by_cases hk : k ≤ 29
      · have hs8 := shapeZ_lt (k : Int)
        have HCE := Lib.hid (cand_eq (k : Int) w)
        obtain ⟨sh, hsh⟩ : ∃ s, shapeZ (k : Int) = s := ⟨_, rfl⟩
        rw [hsh] at hs8 HCE
        have HSH := Lib.hid hsh
        have HS8 := Lib.hid hs8
        clear hsh hs8
        go_wp2_with (first | (refine wpList_alloc_hp (o := ⟨some 5, _, _, _, _, _⟩) rfl _ rfl HP.out (.agg #[.int .i64 0, .int .i64 0, .int .i64 0, .int .i64 0, .int .i64 0]) (by kernel_rfl) [_, _, _, _, _] rfl ?_; clear HP; intro g5 w5 HP; replace HP := Lib.hid HP) | (refine wpList_stR0 rfl 102 _ _ rfl HP.out rfl (cs' := [_, _, _, _, _]) rfl rfl (by simp [Value.oneCell']) (by kernel_rfl) ?_; clear HP; intro wst HP; replace HP := Lib.hid HP) | (go_at_call 101; refine (shapeOf_any _ (by omega) _).mono ?_; rintro e w' ⟨rfl, rfl⟩; rw [HSH.out]) | (go_at_call 100; refine (layOut_any sh HS8.out _).mono ?_; rintro e w7 ⟨gl, rfl, HL⟩; replace HP := Lib.hid (by simpa only [List.cons_append, List.nil_append] using Hp.take HP.out HL); clear HL))
        go_loopw [7, 8] (fun t o wr => ∃ (i : Nat) (a : Acc), i ≤ 32 ∧ o = .int .i64 i ∧ Hid (accN w sh i = a) ∧ t = .int .i64 a.top ∧ Hid (Hp W [⟨W, Lt W.heap.size⟩] [.blk gl 3 (List.map (Value.int .i64) (layI sh)), .blk g5 102 [.int .i64 k, .int .i64 a.rd, .int .i64 a.r1, .int .i64 a.r2, .int .i64 a.imm], .blk g2 102 [.int .i64 0, .int .i64 0, .int .i64 0, .int .i64 0, .int .i64 0]] wr)) (fun _ o _ => 32 - (intOf o).toNat)
        case atStart => exact ⟨0, ⟨0, 0, 0, 0, -1⟩, by omega, rfl, Lib.hid rfl, rfl, HP⟩
        case round =>
          clear HP
          obtain ⟨i, a, hi, rfl, HA, rfl, HP⟩ := hrel
          obtain ⟨wo2, rfl⟩ : ∃ wo : World, wo = wr := ⟨_, rfl⟩
          by_cases hlt : i < 32
          · have hok := acc_ok w sh HS8.out i hi
            rw [HA.out] at hok
            obtain ⟨⟨a1, a2⟩, ⟨b1, b2⟩, ⟨c1, c2⟩, ⟨d1, d2⟩, ⟨e1, e2⟩⟩ := hok
            obtain ⟨v, hv0⟩ : ∃ v, (layL sh).getD i 0 = v := ⟨_, rfl⟩
            have hlv := layV_at sh i HS8.out hlt
            have hli := layI_at sh i hlt
            rw [hv0] at hlv hli
            have HST := Lib.hid (show accN w sh (i + 1) = accStep w i v a by rw [accN, HA.out, hv0])
            have HLI := Lib.hid (show (List.map (Value.int IntKind.i64) (layI sh))[i]? = some (.int .i64 (v : Int)) by rw [List.getElem?_map, hli]; rfl)
            have HB1 := Lib.hid (bI_01 w i)
            have hi0 : (0 : Int) ≤ (i : Int) := by omega
            have hi32 : (i : Int) < 32 := by omega
            clear hv0 hli
            rcases lay_cases hlv with hv | ⟨j, hj, hv⟩ | ⟨j, hj, hv⟩ | ⟨j, hj, hv⟩ | ⟨j, hj, hv⟩ | ⟨j, hj, hv⟩ | ⟨j, hj, hv⟩
            · obtain ⟨m, f1⟩ : ∃ m, (v : Int).tmod 10 = m := ⟨_, rfl⟩
              obtain ⟨d, f2⟩ : ∃ d, (v : Int).tdiv 10 = d := ⟨_, rfl⟩
              have f4 : (v : Int) / 10 = d := by rw [← f2, Int.tdiv_eq_ediv_of_nonneg (by omega)]
              have f3 : (v : Int) % 10 = m := by rw [← f1, Int.tmod_eq_emod_of_nonneg (by omega)]
              have e10 : (d == 10) = false := by rw [beq_eq_false_iff_ne]; omega
              have e11 : (d == 11) = false := by rw [beq_eq_false_iff_ne]; omega
              have e12 : (d == 12) = false := by rw [beq_eq_false_iff_ne]; omega
              have e13 : (d == 13) = false := by rw [beq_eq_false_iff_ne]; omega
              have e14 : (d == 14) = false := by rw [beq_eq_false_iff_ne]; omega
              have e15 : (d == 15) = false := by rw [beq_eq_false_iff_ne]; omega
              have hp := pow20 (j := v) (by omega)
              have hm := mul_bit HB1.out hp
              obtain ⟨tj, htj⟩ : ∃ t, (2 : Int) ^ v = t := ⟨_, rfl⟩
              obtain ⟨bj, hbj⟩ : ∃ t, bI w i * tj = t := ⟨_, rfl⟩
              rw [htj] at hm
              rw [hbj] at hm
              have HTJ := Lib.hid htj
              have HBJ := Lib.hid hbj
              have HAN := Lib.hid (show accN w sh (i + 1) = { a with imm := a.imm + bj, top := if a.top < (v : Int) then (v : Int) else a.top } by
                rw [HST.out]; unfold accStep
                rw [if_pos (show v ≤ 20 by omega), htj, hbj])
              have hw1 : IntKind.i64.wrap (bI w i * tj) = bj := by rw [hbj, IntKind.wrap_i64]; omega
              have hw2 : IntKind.i64.wrap (a.imm + bj) = a.imm + bj := by rw [IntKind.wrap_i64]; omega
              clear htj hbj hlv
              go_upto_region 15 with (first | (go_at_call 102; refine (bitOf_any w i (by omega) _ HWR.out).mono ?_; rintro e wb ⟨rfl, hb⟩; replace HP := Lib.hid (HP.out.call0 hb); clear hb; rw [show ((bitZ w i).toNat : Int) = bI w i from rfl]) | (refine wpList_ld0 rfl 3 _ rfl HP.out rfl HLI.out Tryd.underlying3 rfl ?_))
              clear f1 f2 f3 f4 e10 e11 e12 e13 e14 e15
              replace HP := Lib.hid HP.out.drew
              refine wp_region_held_drew (S := fun w' => w'.cell? ⟨gl, i, none⟩ = some (.int .i64 (v : Int))) (by kernel_rfl) (HP.out.cell (.head _) i _ HLI.out) (fun hHeld => ?_)
              have HS0 := Lib.hid hHeld
              clear hHeld
              (try simp only [Act.put, List.setIfInBounds_toArray, List.set_cons_zero, List.set_cons_succ])
              refine wpAnyH_take (i := 0) (v := ?_) rfl (by kernel_rfl) (by kernel_rfl) (by kernel_rfl) (fun _ _ _ h => h) (.inl ⟨by simp [Region.wanted], ?_⟩) HS0.out ?_
              rotate_left
              · intro w' hw
                go_simp
                (try with_reducible rfl)
              (try simp only [List.getElem_toArray, List.getElem_cons_succ, List.getElem_cons_zero, Act.put, List.setIfInBounds_toArray, List.set_cons_zero, List.set_cons_succ])
              refine wpAnyH_take (i := 2) (v := ?_) rfl (by kernel_rfl) (by kernel_rfl) (by kernel_rfl) (fun _ _ _ h => h) (.inl ⟨by simp [Region.wanted], ?_⟩) HS0.out ?_
              rotate_left
              · intro w' hw
                go_simp
                (try with_reducible rfl)
              (try simp only [List.getElem_toArray, List.getElem_cons_succ, List.getElem_cons_zero, Act.put, List.setIfInBounds_toArray, List.set_cons_zero, List.set_cons_succ])
              refine wpAnyH_take (i := 3) (v := ?_) rfl (by kernel_rfl) (by kernel_rfl) (by kernel_rfl) (fun _ _ _ h => h) (.inl ⟨by simp [Region.wanted], ?_⟩) HS0.out ?_
              rotate_left
              · intro w' hw
                go_simp
                (try with_reducible rfl)
              (try simp only [List.getElem_toArray, List.getElem_cons_succ, List.getElem_cons_zero, Act.put, List.setIfInBounds_toArray, List.set_cons_zero, List.set_cons_succ])
              refine wpAnyH_take (i := 4) (v := ?_) rfl (by kernel_rfl) (by kernel_rfl) (by kernel_rfl) (fun _ _ _ h => h) (.inl ⟨by simp [Region.wanted], ?_⟩) HS0.out ?_
              rotate_left
              · intro w' hw
                go_simp
                (try with_reducible rfl)
              (try simp only [List.getElem_toArray, List.getElem_cons_succ, List.getElem_cons_zero, Act.put, List.setIfInBounds_toArray, List.set_cons_zero, List.set_cons_succ])
              refine wpAnyH_take (i := 5) (v := ?_) rfl (by kernel_rfl) (by kernel_rfl) (by kernel_rfl) (fun _ _ _ h => h) (.inl ⟨by simp [Region.wanted], ?_⟩) HS0.out ?_
              rotate_left
              · intro w' hw
                go_simp
                (try with_reducible rfl)
              (try simp only [List.getElem_toArray, List.getElem_cons_succ, List.getElem_cons_zero, Act.put, List.setIfInBounds_toArray, List.set_cons_zero, List.set_cons_succ])
              refine wpAnyH_take (i := 6) (v := ?_) rfl (by kernel_rfl) (by kernel_rfl) (by kernel_rfl) (fun _ _ _ h => h) (.inl ⟨by simp [Region.wanted], ?_⟩) HS0.out ?_
              rotate_left
              · intro w' hw
                go_simp
                (try with_reducible rfl)
              (try simp only [List.getElem_toArray, List.getElem_cons_succ, List.getElem_cons_zero, Act.put, List.setIfInBounds_toArray, List.set_cons_zero, List.set_cons_succ])
              refine wpAnyH_ready (rs := [1, 7]) (by kernel_rfl) (by simp) ?_
              refine AllReadyH.cons rfl (fun K hK => ?_) (AllReadyH.cons rfl (fun K hK => ?_) AllReadyH.nil)
              · skip
                refine wanted_only rfl ?_
                (first | (refine wpList_ld0 rfl 3 _ rfl HP.out rfl rfl Tryd.underlying3 rfl ?_) | (refine wpList_ld1 rfl 3 _ rfl HP.out rfl rfl Tryd.underlying3 rfl ?_))
                refine wpList_nil ?_
                refine hK.out _ _ (HP.out.cell (.head _) i _ HLI.out) (fun hHeld => ?_)
                clear hK K hHeld
                (try simp only [List.getElem_toArray, List.getElem_cons_succ, List.getElem_cons_zero, Act.put, List.setIfInBounds_toArray, List.set_cons_zero, List.set_cons_succ])
                refine wpAnyH_ready (rs := [7]) (by kernel_rfl) (by simp) ?_
                refine AllReadyH.cons rfl (fun K hK => ?_) AllReadyH.nil
                go_simp
                refine (oneBit_any v (by omega) _).mono ?_
                rintro e wo3 ⟨rfl, rfl⟩
                rw [HTJ.out]
                dsimp only
                refine hK.out _ _ (HP.out.cell (.head _) i _ HLI.out) (fun hHeld => ?_)
                clear hK K hHeld
                (try simp only [List.getElem_toArray, List.getElem_cons_succ, List.getElem_cons_zero, Act.put, List.setIfInBounds_toArray, List.set_cons_zero, List.set_cons_succ])
                refine wpAnyH_take (i := 8) (v := ?_) rfl (by kernel_rfl) (by kernel_rfl) (by kernel_rfl) (fun _ _ _ h => h) (.inl ⟨by simp [Region.wanted], ?_⟩) HS0.out ?_
                rotate_left
                · intro w' hw
                  go_simp
                  (try with_reducible rfl)
                (try simp only [List.getElem_toArray, List.getElem_cons_succ, List.getElem_cons_zero, Act.put, List.setIfInBounds_toArray, List.set_cons_zero, List.set_cons_succ])
                refine wpAnyH_take (i := 9) (v := ?_) rfl (by kernel_rfl) (by kernel_rfl) (by kernel_rfl) (fun _ _ _ h => h) (.inl ⟨by simp [Region.wanted], ?_⟩) HS0.out ?_
                rotate_left
                · intro w' hw
                  go_simp
                  (try with_reducible rfl)
                (try simp only [List.getElem_toArray, List.getElem_cons_succ, List.getElem_cons_zero, Act.put, List.setIfInBounds_toArray, List.set_cons_zero, List.set_cons_succ])
                refine wpAnyH_take (i := 10) (v := ?_) rfl (by kernel_rfl) (by kernel_rfl) (by kernel_rfl) (fun _ _ _ h => h) (.inl ⟨by simp [Region.wanted], ?_⟩) HS0.out ?_
                rotate_left
                · intro w' hw
                  go_simp
                  (try with_reducible rfl)
                (try simp only [List.getElem_toArray, List.getElem_cons_succ, List.getElem_cons_zero, Act.put, List.setIfInBounds_toArray, List.set_cons_zero, List.set_cons_succ])
                refine wpAnyH_ready (rs := [11]) (by kernel_rfl) (by simp) ?_
                refine AllReadyH.cons rfl (fun K hK => ?_) AllReadyH.nil
                refine wanted_only rfl ?_
                (refine wpList_st1 rfl 3 _ _ rfl HP.out rfl rfl (by simp) rfl rfl (by kernel_rfl) ?_; clear HP; intro wst HP; replace HP := Lib.hid HP)
                refine wpList_nil ?_
                refine hK.out _ _ (HP.out.cell (.head _) i _ HLI.out) (fun hHeld => ?_)
                clear hK K hHeld
                (try simp only [List.getElem_toArray, List.getElem_cons_succ, List.getElem_cons_zero, Act.put, List.setIfInBounds_toArray, List.set_cons_zero, List.set_cons_succ])
                clear HS0
                refine wpAnyH_done (by kernel_rfl) ?_ _
                (try simp only [List.getElem_toArray, List.getElem_cons_succ, List.getElem_cons_zero, Act.put, List.setIfInBounds_toArray, List.set_cons_zero, List.set_cons_succ])
                by_cases htp : a.top < (v : Int)
                · have HAT := Lib.hid (show accN w sh (i + 1) = { a with imm := a.imm + bj, top := (v : Int) } by rw [HAN.out, if_pos htp])
                  have hb1 : decide (a.top < (v : Int)) = true := decide_eq_true htp
                  clear htp
                  go_wp2_with (first | (refine wpList_ld0 rfl 3 _ rfl HP.out rfl HLI.out Tryd.underlying3 rfl ?_))
                  go_roundw
                  case rel => exact ⟨i + 1, _, by omega, by go_num, HAT, rfl, HP⟩
                  case measure => simp [intOf]; omega
                · have HAT := Lib.hid (show accN w sh (i + 1) = { a with imm := a.imm + bj } by rw [HAN.out, if_neg htp])
                  have hb1 : decide (a.top < (v : Int)) = false := decide_eq_false htp
                  clear htp
                  go_wp2_with (first | (refine wpList_ld0 rfl 3 _ rfl HP.out rfl HLI.out Tryd.underlying3 rfl ?_))
                  go_roundw
                  case rel => exact ⟨i + 1, _, by omega, by go_num, HAT, rfl, HP⟩
                  case measure => simp [intOf]; omega
              · skip
                go_simp
                refine (oneBit_any v (by omega) _).mono ?_
                rintro e wo3 ⟨rfl, rfl⟩
                rw [HTJ.out]
                dsimp only
                refine hK.out _ _ (HP.out.cell (.head _) i _ HLI.out) (fun hHeld => ?_)
                clear hK K hHeld
                (try simp only [List.getElem_toArray, List.getElem_cons_succ, List.getElem_cons_zero, Act.put, List.setIfInBounds_toArray, List.set_cons_zero, List.set_cons_succ])
                refine wpAnyH_take (i := 8) (v := ?_) rfl (by kernel_rfl) (by kernel_rfl) (by kernel_rfl) (fun _ _ _ h => h) (.inl ⟨by simp [Region.wanted], ?_⟩) HS0.out ?_
                rotate_left
                · intro w' hw
                  go_simp
                  (try with_reducible rfl)
                (try simp only [List.getElem_toArray, List.getElem_cons_succ, List.getElem_cons_zero, Act.put, List.setIfInBounds_toArray, List.set_cons_zero, List.set_cons_succ])
                refine wpAnyH_ready (rs := [1]) (by kernel_rfl) (by simp) ?_
                refine AllReadyH.cons rfl (fun K hK => ?_) AllReadyH.nil
                refine wanted_only rfl ?_
                (first | (refine wpList_ld0 rfl 3 _ rfl HP.out rfl rfl Tryd.underlying3 rfl ?_) | (refine wpList_ld1 rfl 3 _ rfl HP.out rfl rfl Tryd.underlying3 rfl ?_))
                refine wpList_nil ?_
                refine hK.out _ _ (HP.out.cell (.head _) i _ HLI.out) (fun hHeld => ?_)
                clear hK K hHeld
                (try simp only [List.getElem_toArray, List.getElem_cons_succ, List.getElem_cons_zero, Act.put, List.setIfInBounds_toArray, List.set_cons_zero, List.set_cons_succ])
                refine wpAnyH_take (i := 9) (v := ?_) rfl (by kernel_rfl) (by kernel_rfl) (by kernel_rfl) (fun _ _ _ h => h) (.inl ⟨by simp [Region.wanted], ?_⟩) HS0.out ?_
                rotate_left
                · intro w' hw
                  go_simp
                  (try with_reducible rfl)
                (try simp only [List.getElem_toArray, List.getElem_cons_succ, List.getElem_cons_zero, Act.put, List.setIfInBounds_toArray, List.set_cons_zero, List.set_cons_succ])
                refine wpAnyH_take (i := 10) (v := ?_) rfl (by kernel_rfl) (by kernel_rfl) (by kernel_rfl) (fun _ _ _ h => h) (.inl ⟨by simp [Region.wanted], ?_⟩) HS0.out ?_
                rotate_left
                · intro w' hw
                  go_simp
                  (try with_reducible rfl)
                (try simp only [List.getElem_toArray, List.getElem_cons_succ, List.getElem_cons_zero, Act.put, List.setIfInBounds_toArray, List.set_cons_zero, List.set_cons_succ])
                refine wpAnyH_ready (rs := [11]) (by kernel_rfl) (by simp) ?_
                refine AllReadyH.cons rfl (fun K hK => ?_) AllReadyH.nil
                refine wanted_only rfl ?_
                (refine wpList_st1 rfl 3 _ _ rfl HP.out rfl rfl (by simp) rfl rfl (by kernel_rfl) ?_; clear HP; intro wst HP; replace HP := Lib.hid HP)
                refine wpList_nil ?_
                refine hK.out _ _ (HP.out.cell (.head _) i _ HLI.out) (fun hHeld => ?_)
                clear hK K hHeld
                (try simp only [List.getElem_toArray, List.getElem_cons_succ, List.getElem_cons_zero, Act.put, List.setIfInBounds_toArray, List.set_cons_zero, List.set_cons_succ])
                clear HS0
                refine wpAnyH_done (by kernel_rfl) ?_ _
                (try simp only [List.getElem_toArray, List.getElem_cons_succ, List.getElem_cons_zero, Act.put, List.setIfInBounds_toArray, List.set_cons_zero, List.set_cons_succ])
                by_cases htp : a.top < (v : Int)
                · have HAT := Lib.hid (show accN w sh (i + 1) = { a with imm := a.imm + bj, top := (v : Int) } by rw [HAN.out, if_pos htp])
                  have hb1 : decide (a.top < (v : Int)) = true := decide_eq_true htp
                  clear htp
                  go_wp2_with (first | (refine wpList_ld0 rfl 3 _ rfl HP.out rfl HLI.out Tryd.underlying3 rfl ?_))
                  go_roundw
                  case rel => exact ⟨i + 1, _, by omega, by go_num, HAT, rfl, HP⟩
                  case measure => simp [intOf]; omega
                · have HAT := Lib.hid (show accN w sh (i + 1) = { a with imm := a.imm + bj } by rw [HAN.out, if_neg htp])
                  have hb1 : decide (a.top < (v : Int)) = false := decide_eq_false htp
                  clear htp
                  go_wp2_with (first | (refine wpList_ld0 rfl 3 _ rfl HP.out rfl HLI.out Tryd.underlying3 rfl ?_))
                  go_roundw
                  case rel => exact ⟨i + 1, _, by omega, by go_num, HAT, rfl, HP⟩
                  case measure => simp [intOf]; omega
            · have f1 : (v : Int).tmod 10 = (j : Int) := by rw [Int.tmod_eq_emod_of_nonneg (by omega)]; omega
              have f2 : (v : Int).tdiv 10 = 10 := by rw [Int.tdiv_eq_ediv_of_nonneg (by omega)]; omega
              have f3 : (v : Int) % 10 = (j : Int) := by omega
              have f4 : (v : Int) / 10 = 10 := by omega
              have hp := pow4 (j := j) (by omega)
              have hm := mul_bit HB1.out hp
              obtain ⟨tj, htj⟩ : ∃ t, (2 : Int) ^ j = t := ⟨_, rfl⟩
              obtain ⟨bj, hbj⟩ : ∃ t, bI w i * tj = t := ⟨_, rfl⟩
              rw [htj] at hm
              rw [hbj] at hm
              have HTJ := Lib.hid htj
              have HBJ := Lib.hid hbj
              have HAN := Lib.hid (show accN w sh (i + 1) = { a with rd := a.rd + bj } by
                rw [HST.out, hv]; unfold accStep
                simp only [show ¬ 100 + j ≤ 20 by omega, if_false, show 100 + j - 100 = j by omega, htj, hbj]
                rw [if_pos (show 100 + j < 110 by omega)])
              have hw1 : IntKind.i64.wrap (bI w i * tj) = bj := by rw [hbj, IntKind.wrap_i64]; omega
              have hw2 : IntKind.i64.wrap (a.rd + bj) = a.rd + bj := by rw [IntKind.wrap_i64]; omega
              have HVV := Lib.hid hv
              clear htj hbj hv hlv
              go_upto_region 19 with (first | (go_at_call 102; refine (bitOf_any w i (by omega) _ HWR.out).mono ?_; rintro e wb ⟨rfl, hb⟩; replace HP := Lib.hid (HP.out.call0 hb); clear hb; rw [show ((bitZ w i).toNat : Int) = bI w i from rfl]) | (refine wpList_ld0 rfl 3 _ rfl HP.out rfl HLI.out Tryd.underlying3 rfl ?_))
              clear f1 f2 f3 f4
              replace HP := Lib.hid HP.out.drew
              refine wp_region_held_drew (S := fun _ => True) (by kernel_rfl) trivial (fun hHeld => ?_)
              have HS0 := Lib.hid hHeld
              clear hHeld
              (try simp only [Act.put, List.setIfInBounds_toArray, List.set_cons_zero, List.set_cons_succ])
              refine wpAnyH_take (i := 0) (v := ?_) rfl (by kernel_rfl) (by kernel_rfl) (by kernel_rfl) (fun _ _ _ h => h) (.inl ⟨by simp [Region.wanted], ?_⟩) HS0.out ?_
              rotate_left
              · intro w' hw
                go_simp
                (try with_reducible rfl)
              (try simp only [List.getElem_toArray, List.getElem_cons_succ, List.getElem_cons_zero, Act.put, List.setIfInBounds_toArray, List.set_cons_zero, List.set_cons_succ])
              refine wpAnyH_take (i := 2) (v := ?_) rfl (by kernel_rfl) (by kernel_rfl) (by kernel_rfl) (fun _ _ _ h => h) (.inl ⟨by simp [Region.wanted], ?_⟩) HS0.out ?_
              rotate_left
              · intro w' hw
                go_simp
                (try with_reducible rfl)
              (try simp only [List.getElem_toArray, List.getElem_cons_succ, List.getElem_cons_zero, Act.put, List.setIfInBounds_toArray, List.set_cons_zero, List.set_cons_succ])
              refine wpAnyH_take (i := 3) (v := ?_) rfl (by kernel_rfl) (by kernel_rfl) (by kernel_rfl) (fun _ _ _ h => h) (.inl ⟨by simp [Region.wanted], ?_⟩) HS0.out ?_
              rotate_left
              · intro w' hw
                go_simp
                (try with_reducible rfl)
              (try simp only [List.getElem_toArray, List.getElem_cons_succ, List.getElem_cons_zero, Act.put, List.setIfInBounds_toArray, List.set_cons_zero, List.set_cons_succ])
              refine wpAnyH_ready (rs := [1, 4]) (by kernel_rfl) (by simp) ?_
              refine AllReadyH.cons rfl (fun K hK => ?_) (AllReadyH.cons rfl (fun K hK => ?_) AllReadyH.nil)
              · skip
                refine wanted_only rfl ?_
                (first | (refine wpList_ld0 rfl 3 _ rfl HP.out rfl rfl Tryd.underlying3 rfl ?_) | (refine wpList_ld1 rfl 3 _ rfl HP.out rfl rfl Tryd.underlying3 rfl ?_))
                refine wpList_nil ?_
                refine hK.out _ _ trivial (fun hHeld => ?_)
                clear hK K hHeld
                (try simp only [List.getElem_toArray, List.getElem_cons_succ, List.getElem_cons_zero, Act.put, List.setIfInBounds_toArray, List.set_cons_zero, List.set_cons_succ])
                refine wpAnyH_ready (rs := [4]) (by kernel_rfl) (by simp) ?_
                refine AllReadyH.cons rfl (fun K hK => ?_) AllReadyH.nil
                go_simp
                refine (oneBit_any j (by omega) _).mono ?_
                rintro e wo3 ⟨rfl, rfl⟩
                rw [HTJ.out]
                dsimp only
                refine hK.out _ _ trivial (fun hHeld => ?_)
                clear hK K hHeld
                (try simp only [List.getElem_toArray, List.getElem_cons_succ, List.getElem_cons_zero, Act.put, List.setIfInBounds_toArray, List.set_cons_zero, List.set_cons_succ])
                refine wpAnyH_take (i := 5) (v := ?_) rfl (by kernel_rfl) (by kernel_rfl) (by kernel_rfl) (fun _ _ _ h => h) (.inl ⟨by simp [Region.wanted], ?_⟩) HS0.out ?_
                rotate_left
                · intro w' hw
                  go_simp
                  (try with_reducible rfl)
                (try simp only [List.getElem_toArray, List.getElem_cons_succ, List.getElem_cons_zero, Act.put, List.setIfInBounds_toArray, List.set_cons_zero, List.set_cons_succ])
                refine wpAnyH_take (i := 6) (v := ?_) rfl (by kernel_rfl) (by kernel_rfl) (by kernel_rfl) (fun _ _ _ h => h) (.inl ⟨by simp [Region.wanted], ?_⟩) HS0.out ?_
                rotate_left
                · intro w' hw
                  go_simp
                  (try with_reducible rfl)
                (try simp only [List.getElem_toArray, List.getElem_cons_succ, List.getElem_cons_zero, Act.put, List.setIfInBounds_toArray, List.set_cons_zero, List.set_cons_succ])
                refine wpAnyH_take (i := 7) (v := ?_) rfl (by kernel_rfl) (by kernel_rfl) (by kernel_rfl) (fun _ _ _ h => h) (.inl ⟨by simp [Region.wanted], ?_⟩) HS0.out ?_
                rotate_left
                · intro w' hw
                  go_simp
                  (try with_reducible rfl)
                (try simp only [List.getElem_toArray, List.getElem_cons_succ, List.getElem_cons_zero, Act.put, List.setIfInBounds_toArray, List.set_cons_zero, List.set_cons_succ])
                refine wpAnyH_ready (rs := [8]) (by kernel_rfl) (by simp) ?_
                refine AllReadyH.cons rfl (fun K hK => ?_) AllReadyH.nil
                refine wanted_only rfl ?_
                (refine wpList_st1 rfl 3 _ _ rfl HP.out rfl rfl (by simp) rfl rfl (by kernel_rfl) ?_; clear HP; intro wst HP; replace HP := Lib.hid HP)
                refine wpList_nil ?_
                refine hK.out _ _ trivial (fun hHeld => ?_)
                clear hK K hHeld
                (try simp only [List.getElem_toArray, List.getElem_cons_succ, List.getElem_cons_zero, Act.put, List.setIfInBounds_toArray, List.set_cons_zero, List.set_cons_succ])
                clear HS0
                refine wpAnyH_done (by kernel_rfl) ?_ _
                (try simp only [List.getElem_toArray, List.getElem_cons_succ, List.getElem_cons_zero, Act.put, List.setIfInBounds_toArray, List.set_cons_zero, List.set_cons_succ])
                go_wp2
                go_roundw
                case rel => exact ⟨i + 1, _, by omega, by go_num, HAN, rfl, HP⟩
                case measure => simp [intOf]; omega
              · skip
                go_simp
                refine (oneBit_any j (by omega) _).mono ?_
                rintro e wo3 ⟨rfl, rfl⟩
                rw [HTJ.out]
                dsimp only
                refine hK.out _ _ trivial (fun hHeld => ?_)
                clear hK K hHeld
                (try simp only [List.getElem_toArray, List.getElem_cons_succ, List.getElem_cons_zero, Act.put, List.setIfInBounds_toArray, List.set_cons_zero, List.set_cons_succ])
                refine wpAnyH_take (i := 5) (v := ?_) rfl (by kernel_rfl) (by kernel_rfl) (by kernel_rfl) (fun _ _ _ h => h) (.inl ⟨by simp [Region.wanted], ?_⟩) HS0.out ?_
                rotate_left
                · intro w' hw
                  go_simp
                  (try with_reducible rfl)
                (try simp only [List.getElem_toArray, List.getElem_cons_succ, List.getElem_cons_zero, Act.put, List.setIfInBounds_toArray, List.set_cons_zero, List.set_cons_succ])
                refine wpAnyH_ready (rs := [1]) (by kernel_rfl) (by simp) ?_
                refine AllReadyH.cons rfl (fun K hK => ?_) AllReadyH.nil
                refine wanted_only rfl ?_
                (first | (refine wpList_ld0 rfl 3 _ rfl HP.out rfl rfl Tryd.underlying3 rfl ?_) | (refine wpList_ld1 rfl 3 _ rfl HP.out rfl rfl Tryd.underlying3 rfl ?_))
                refine wpList_nil ?_
                refine hK.out _ _ trivial (fun hHeld => ?_)
                clear hK K hHeld
                (try simp only [List.getElem_toArray, List.getElem_cons_succ, List.getElem_cons_zero, Act.put, List.setIfInBounds_toArray, List.set_cons_zero, List.set_cons_succ])
                refine wpAnyH_take (i := 6) (v := ?_) rfl (by kernel_rfl) (by kernel_rfl) (by kernel_rfl) (fun _ _ _ h => h) (.inl ⟨by simp [Region.wanted], ?_⟩) HS0.out ?_
                rotate_left
                · intro w' hw
                  go_simp
                  (try with_reducible rfl)
                (try simp only [List.getElem_toArray, List.getElem_cons_succ, List.getElem_cons_zero, Act.put, List.setIfInBounds_toArray, List.set_cons_zero, List.set_cons_succ])
                refine wpAnyH_take (i := 7) (v := ?_) rfl (by kernel_rfl) (by kernel_rfl) (by kernel_rfl) (fun _ _ _ h => h) (.inl ⟨by simp [Region.wanted], ?_⟩) HS0.out ?_
                rotate_left
                · intro w' hw
                  go_simp
                  (try with_reducible rfl)
                (try simp only [List.getElem_toArray, List.getElem_cons_succ, List.getElem_cons_zero, Act.put, List.setIfInBounds_toArray, List.set_cons_zero, List.set_cons_succ])
                refine wpAnyH_ready (rs := [8]) (by kernel_rfl) (by simp) ?_
                refine AllReadyH.cons rfl (fun K hK => ?_) AllReadyH.nil
                refine wanted_only rfl ?_
                (refine wpList_st1 rfl 3 _ _ rfl HP.out rfl rfl (by simp) rfl rfl (by kernel_rfl) ?_; clear HP; intro wst HP; replace HP := Lib.hid HP)
                refine wpList_nil ?_
                refine hK.out _ _ trivial (fun hHeld => ?_)
                clear hK K hHeld
                (try simp only [List.getElem_toArray, List.getElem_cons_succ, List.getElem_cons_zero, Act.put, List.setIfInBounds_toArray, List.set_cons_zero, List.set_cons_succ])
                clear HS0
                refine wpAnyH_done (by kernel_rfl) ?_ _
                (try simp only [List.getElem_toArray, List.getElem_cons_succ, List.getElem_cons_zero, Act.put, List.setIfInBounds_toArray, List.set_cons_zero, List.set_cons_succ])
                go_wp2
                go_roundw
                case rel => exact ⟨i + 1, _, by omega, by go_num, HAN, rfl, HP⟩
                case measure => simp [intOf]; omega
            · have f1 : (v : Int).tmod 10 = (j : Int) := by rw [Int.tmod_eq_emod_of_nonneg (by omega)]; omega
              have f2 : (v : Int).tdiv 10 = 11 := by rw [Int.tdiv_eq_ediv_of_nonneg (by omega)]; omega
              have f3 : (v : Int) % 10 = (j : Int) := by omega
              have f4 : (v : Int) / 10 = 11 := by omega
              have hp := pow4 (j := j) (by omega)
              have hm := mul_bit HB1.out hp
              obtain ⟨tj, htj⟩ : ∃ t, (2 : Int) ^ j = t := ⟨_, rfl⟩
              obtain ⟨bj, hbj⟩ : ∃ t, bI w i * tj = t := ⟨_, rfl⟩
              rw [htj] at hm
              rw [hbj] at hm
              have HTJ := Lib.hid htj
              have HBJ := Lib.hid hbj
              have HAN := Lib.hid (show accN w sh (i + 1) = { a with r1 := a.r1 + bj } by
                rw [HST.out, hv]; unfold accStep
                simp only [show ¬ 110 + j ≤ 20 by omega, if_false, show 110 + j - 110 = j by omega, htj, hbj]
                rw [if_neg (show ¬ 110 + j < 110 by omega)]; rw [if_pos (show 110 + j < 120 by omega)])
              have hw1 : IntKind.i64.wrap (bI w i * tj) = bj := by rw [hbj, IntKind.wrap_i64]; omega
              have hw2 : IntKind.i64.wrap (a.r1 + bj) = a.r1 + bj := by rw [IntKind.wrap_i64]; omega
              have HVV := Lib.hid hv
              clear htj hbj hv hlv
              go_upto_region 21 with (first | (go_at_call 102; refine (bitOf_any w i (by omega) _ HWR.out).mono ?_; rintro e wb ⟨rfl, hb⟩; replace HP := Lib.hid (HP.out.call0 hb); clear hb; rw [show ((bitZ w i).toNat : Int) = bI w i from rfl]) | (refine wpList_ld0 rfl 3 _ rfl HP.out rfl HLI.out Tryd.underlying3 rfl ?_))
              clear f1 f2 f3 f4
              replace HP := Lib.hid HP.out.drew
              refine wp_region_held_drew (S := fun _ => True) (by kernel_rfl) trivial (fun hHeld => ?_)
              have HS0 := Lib.hid hHeld
              clear hHeld
              (try simp only [Act.put, List.setIfInBounds_toArray, List.set_cons_zero, List.set_cons_succ])
              refine wpAnyH_take (i := 0) (v := ?_) rfl (by kernel_rfl) (by kernel_rfl) (by kernel_rfl) (fun _ _ _ h => h) (.inl ⟨by simp [Region.wanted], ?_⟩) HS0.out ?_
              rotate_left
              · intro w' hw
                go_simp
                (try with_reducible rfl)
              (try simp only [List.getElem_toArray, List.getElem_cons_succ, List.getElem_cons_zero, Act.put, List.setIfInBounds_toArray, List.set_cons_zero, List.set_cons_succ])
              refine wpAnyH_take (i := 2) (v := ?_) rfl (by kernel_rfl) (by kernel_rfl) (by kernel_rfl) (fun _ _ _ h => h) (.inl ⟨by simp [Region.wanted], ?_⟩) HS0.out ?_
              rotate_left
              · intro w' hw
                go_simp
                (try with_reducible rfl)
              (try simp only [List.getElem_toArray, List.getElem_cons_succ, List.getElem_cons_zero, Act.put, List.setIfInBounds_toArray, List.set_cons_zero, List.set_cons_succ])
              refine wpAnyH_take (i := 3) (v := ?_) rfl (by kernel_rfl) (by kernel_rfl) (by kernel_rfl) (fun _ _ _ h => h) (.inl ⟨by simp [Region.wanted], ?_⟩) HS0.out ?_
              rotate_left
              · intro w' hw
                go_simp
                (try with_reducible rfl)
              (try simp only [List.getElem_toArray, List.getElem_cons_succ, List.getElem_cons_zero, Act.put, List.setIfInBounds_toArray, List.set_cons_zero, List.set_cons_succ])
              refine wpAnyH_ready (rs := [1, 4]) (by kernel_rfl) (by simp) ?_
              refine AllReadyH.cons rfl (fun K hK => ?_) (AllReadyH.cons rfl (fun K hK => ?_) AllReadyH.nil)
              · skip
                refine wanted_only rfl ?_
                (first | (refine wpList_ld0 rfl 3 _ rfl HP.out rfl rfl Tryd.underlying3 rfl ?_) | (refine wpList_ld1 rfl 3 _ rfl HP.out rfl rfl Tryd.underlying3 rfl ?_))
                refine wpList_nil ?_
                refine hK.out _ _ trivial (fun hHeld => ?_)
                clear hK K hHeld
                (try simp only [List.getElem_toArray, List.getElem_cons_succ, List.getElem_cons_zero, Act.put, List.setIfInBounds_toArray, List.set_cons_zero, List.set_cons_succ])
                refine wpAnyH_ready (rs := [4]) (by kernel_rfl) (by simp) ?_
                refine AllReadyH.cons rfl (fun K hK => ?_) AllReadyH.nil
                go_simp
                refine (oneBit_any j (by omega) _).mono ?_
                rintro e wo3 ⟨rfl, rfl⟩
                rw [HTJ.out]
                dsimp only
                refine hK.out _ _ trivial (fun hHeld => ?_)
                clear hK K hHeld
                (try simp only [List.getElem_toArray, List.getElem_cons_succ, List.getElem_cons_zero, Act.put, List.setIfInBounds_toArray, List.set_cons_zero, List.set_cons_succ])
                refine wpAnyH_take (i := 5) (v := ?_) rfl (by kernel_rfl) (by kernel_rfl) (by kernel_rfl) (fun _ _ _ h => h) (.inl ⟨by simp [Region.wanted], ?_⟩) HS0.out ?_
                rotate_left
                · intro w' hw
                  go_simp
                  (try with_reducible rfl)
                (try simp only [List.getElem_toArray, List.getElem_cons_succ, List.getElem_cons_zero, Act.put, List.setIfInBounds_toArray, List.set_cons_zero, List.set_cons_succ])
                refine wpAnyH_take (i := 6) (v := ?_) rfl (by kernel_rfl) (by kernel_rfl) (by kernel_rfl) (fun _ _ _ h => h) (.inl ⟨by simp [Region.wanted], ?_⟩) HS0.out ?_
                rotate_left
                · intro w' hw
                  go_simp
                  (try with_reducible rfl)
                (try simp only [List.getElem_toArray, List.getElem_cons_succ, List.getElem_cons_zero, Act.put, List.setIfInBounds_toArray, List.set_cons_zero, List.set_cons_succ])
                refine wpAnyH_take (i := 7) (v := ?_) rfl (by kernel_rfl) (by kernel_rfl) (by kernel_rfl) (fun _ _ _ h => h) (.inl ⟨by simp [Region.wanted], ?_⟩) HS0.out ?_
                rotate_left
                · intro w' hw
                  go_simp
                  (try with_reducible rfl)
                (try simp only [List.getElem_toArray, List.getElem_cons_succ, List.getElem_cons_zero, Act.put, List.setIfInBounds_toArray, List.set_cons_zero, List.set_cons_succ])
                refine wpAnyH_ready (rs := [8]) (by kernel_rfl) (by simp) ?_
                refine AllReadyH.cons rfl (fun K hK => ?_) AllReadyH.nil
                refine wanted_only rfl ?_
                (refine wpList_st1 rfl 3 _ _ rfl HP.out rfl rfl (by simp) rfl rfl (by kernel_rfl) ?_; clear HP; intro wst HP; replace HP := Lib.hid HP)
                refine wpList_nil ?_
                refine hK.out _ _ trivial (fun hHeld => ?_)
                clear hK K hHeld
                (try simp only [List.getElem_toArray, List.getElem_cons_succ, List.getElem_cons_zero, Act.put, List.setIfInBounds_toArray, List.set_cons_zero, List.set_cons_succ])
                clear HS0
                refine wpAnyH_done (by kernel_rfl) ?_ _
                (try simp only [List.getElem_toArray, List.getElem_cons_succ, List.getElem_cons_zero, Act.put, List.setIfInBounds_toArray, List.set_cons_zero, List.set_cons_succ])
                go_wp2
                go_roundw
                case rel => exact ⟨i + 1, _, by omega, by go_num, HAN, rfl, HP⟩
                case measure => simp [intOf]; omega
              · skip
                go_simp
                refine (oneBit_any j (by omega) _).mono ?_
                rintro e wo3 ⟨rfl, rfl⟩
                rw [HTJ.out]
                dsimp only
                refine hK.out _ _ trivial (fun hHeld => ?_)
                clear hK K hHeld
                (try simp only [List.getElem_toArray, List.getElem_cons_succ, List.getElem_cons_zero, Act.put, List.setIfInBounds_toArray, List.set_cons_zero, List.set_cons_succ])
                refine wpAnyH_take (i := 5) (v := ?_) rfl (by kernel_rfl) (by kernel_rfl) (by kernel_rfl) (fun _ _ _ h => h) (.inl ⟨by simp [Region.wanted], ?_⟩) HS0.out ?_
                rotate_left
                · intro w' hw
                  go_simp
                  (try with_reducible rfl)
                (try simp only [List.getElem_toArray, List.getElem_cons_succ, List.getElem_cons_zero, Act.put, List.setIfInBounds_toArray, List.set_cons_zero, List.set_cons_succ])
                refine wpAnyH_ready (rs := [1]) (by kernel_rfl) (by simp) ?_
                refine AllReadyH.cons rfl (fun K hK => ?_) AllReadyH.nil
                refine wanted_only rfl ?_
                (first | (refine wpList_ld0 rfl 3 _ rfl HP.out rfl rfl Tryd.underlying3 rfl ?_) | (refine wpList_ld1 rfl 3 _ rfl HP.out rfl rfl Tryd.underlying3 rfl ?_))
                refine wpList_nil ?_
                refine hK.out _ _ trivial (fun hHeld => ?_)
                clear hK K hHeld
                (try simp only [List.getElem_toArray, List.getElem_cons_succ, List.getElem_cons_zero, Act.put, List.setIfInBounds_toArray, List.set_cons_zero, List.set_cons_succ])
                refine wpAnyH_take (i := 6) (v := ?_) rfl (by kernel_rfl) (by kernel_rfl) (by kernel_rfl) (fun _ _ _ h => h) (.inl ⟨by simp [Region.wanted], ?_⟩) HS0.out ?_
                rotate_left
                · intro w' hw
                  go_simp
                  (try with_reducible rfl)
                (try simp only [List.getElem_toArray, List.getElem_cons_succ, List.getElem_cons_zero, Act.put, List.setIfInBounds_toArray, List.set_cons_zero, List.set_cons_succ])
                refine wpAnyH_take (i := 7) (v := ?_) rfl (by kernel_rfl) (by kernel_rfl) (by kernel_rfl) (fun _ _ _ h => h) (.inl ⟨by simp [Region.wanted], ?_⟩) HS0.out ?_
                rotate_left
                · intro w' hw
                  go_simp
                  (try with_reducible rfl)
                (try simp only [List.getElem_toArray, List.getElem_cons_succ, List.getElem_cons_zero, Act.put, List.setIfInBounds_toArray, List.set_cons_zero, List.set_cons_succ])
                refine wpAnyH_ready (rs := [8]) (by kernel_rfl) (by simp) ?_
                refine AllReadyH.cons rfl (fun K hK => ?_) AllReadyH.nil
                refine wanted_only rfl ?_
                (refine wpList_st1 rfl 3 _ _ rfl HP.out rfl rfl (by simp) rfl rfl (by kernel_rfl) ?_; clear HP; intro wst HP; replace HP := Lib.hid HP)
                refine wpList_nil ?_
                refine hK.out _ _ trivial (fun hHeld => ?_)
                clear hK K hHeld
                (try simp only [List.getElem_toArray, List.getElem_cons_succ, List.getElem_cons_zero, Act.put, List.setIfInBounds_toArray, List.set_cons_zero, List.set_cons_succ])
                clear HS0
                refine wpAnyH_done (by kernel_rfl) ?_ _
                (try simp only [List.getElem_toArray, List.getElem_cons_succ, List.getElem_cons_zero, Act.put, List.setIfInBounds_toArray, List.set_cons_zero, List.set_cons_succ])
                go_wp2
                go_roundw
                case rel => exact ⟨i + 1, _, by omega, by go_num, HAN, rfl, HP⟩
                case measure => simp [intOf]; omega
            · have f1 : (v : Int).tmod 10 = (j : Int) := by rw [Int.tmod_eq_emod_of_nonneg (by omega)]; omega
              have f2 : (v : Int).tdiv 10 = 12 := by rw [Int.tdiv_eq_ediv_of_nonneg (by omega)]; omega
              have f3 : (v : Int) % 10 = (j : Int) := by omega
              have f4 : (v : Int) / 10 = 12 := by omega
              have hp := pow4 (j := j) (by omega)
              have hm := mul_bit HB1.out hp
              obtain ⟨tj, htj⟩ : ∃ t, (2 : Int) ^ j = t := ⟨_, rfl⟩
              obtain ⟨bj, hbj⟩ : ∃ t, bI w i * tj = t := ⟨_, rfl⟩
              rw [htj] at hm
              rw [hbj] at hm
              have HTJ := Lib.hid htj
              have HBJ := Lib.hid hbj
              have HAN := Lib.hid (show accN w sh (i + 1) = { a with r2 := a.r2 + bj } by
                rw [HST.out, hv]; unfold accStep
                simp only [show ¬ 120 + j ≤ 20 by omega, if_false, show 120 + j - 120 = j by omega, htj, hbj]
                rw [if_neg (show ¬ 120 + j < 110 by omega)]; rw [if_neg (show ¬ 120 + j < 120 by omega)]; rw [if_pos (show 120 + j < 130 by omega)])
              have hw1 : IntKind.i64.wrap (bI w i * tj) = bj := by rw [hbj, IntKind.wrap_i64]; omega
              have hw2 : IntKind.i64.wrap (a.r2 + bj) = a.r2 + bj := by rw [IntKind.wrap_i64]; omega
              have HVV := Lib.hid hv
              clear htj hbj hv hlv
              go_upto_region 23 with (first | (go_at_call 102; refine (bitOf_any w i (by omega) _ HWR.out).mono ?_; rintro e wb ⟨rfl, hb⟩; replace HP := Lib.hid (HP.out.call0 hb); clear hb; rw [show ((bitZ w i).toNat : Int) = bI w i from rfl]) | (refine wpList_ld0 rfl 3 _ rfl HP.out rfl HLI.out Tryd.underlying3 rfl ?_))
              clear f1 f2 f3 f4
              replace HP := Lib.hid HP.out.drew
              refine wp_region_held_drew (S := fun _ => True) (by kernel_rfl) trivial (fun hHeld => ?_)
              have HS0 := Lib.hid hHeld
              clear hHeld
              (try simp only [Act.put, List.setIfInBounds_toArray, List.set_cons_zero, List.set_cons_succ])
              refine wpAnyH_take (i := 0) (v := ?_) rfl (by kernel_rfl) (by kernel_rfl) (by kernel_rfl) (fun _ _ _ h => h) (.inl ⟨by simp [Region.wanted], ?_⟩) HS0.out ?_
              rotate_left
              · intro w' hw
                go_simp
                (try with_reducible rfl)
              (try simp only [List.getElem_toArray, List.getElem_cons_succ, List.getElem_cons_zero, Act.put, List.setIfInBounds_toArray, List.set_cons_zero, List.set_cons_succ])
              refine wpAnyH_take (i := 2) (v := ?_) rfl (by kernel_rfl) (by kernel_rfl) (by kernel_rfl) (fun _ _ _ h => h) (.inl ⟨by simp [Region.wanted], ?_⟩) HS0.out ?_
              rotate_left
              · intro w' hw
                go_simp
                (try with_reducible rfl)
              (try simp only [List.getElem_toArray, List.getElem_cons_succ, List.getElem_cons_zero, Act.put, List.setIfInBounds_toArray, List.set_cons_zero, List.set_cons_succ])
              refine wpAnyH_take (i := 3) (v := ?_) rfl (by kernel_rfl) (by kernel_rfl) (by kernel_rfl) (fun _ _ _ h => h) (.inl ⟨by simp [Region.wanted], ?_⟩) HS0.out ?_
              rotate_left
              · intro w' hw
                go_simp
                (try with_reducible rfl)
              (try simp only [List.getElem_toArray, List.getElem_cons_succ, List.getElem_cons_zero, Act.put, List.setIfInBounds_toArray, List.set_cons_zero, List.set_cons_succ])
              refine wpAnyH_ready (rs := [1, 4]) (by kernel_rfl) (by simp) ?_
              refine AllReadyH.cons rfl (fun K hK => ?_) (AllReadyH.cons rfl (fun K hK => ?_) AllReadyH.nil)
              · skip
                refine wanted_only rfl ?_
                (first | (refine wpList_ld0 rfl 3 _ rfl HP.out rfl rfl Tryd.underlying3 rfl ?_) | (refine wpList_ld1 rfl 3 _ rfl HP.out rfl rfl Tryd.underlying3 rfl ?_))
                refine wpList_nil ?_
                refine hK.out _ _ trivial (fun hHeld => ?_)
                clear hK K hHeld
                (try simp only [List.getElem_toArray, List.getElem_cons_succ, List.getElem_cons_zero, Act.put, List.setIfInBounds_toArray, List.set_cons_zero, List.set_cons_succ])
                refine wpAnyH_ready (rs := [4]) (by kernel_rfl) (by simp) ?_
                refine AllReadyH.cons rfl (fun K hK => ?_) AllReadyH.nil
                go_simp
                refine (oneBit_any j (by omega) _).mono ?_
                rintro e wo3 ⟨rfl, rfl⟩
                rw [HTJ.out]
                dsimp only
                refine hK.out _ _ trivial (fun hHeld => ?_)
                clear hK K hHeld
                (try simp only [List.getElem_toArray, List.getElem_cons_succ, List.getElem_cons_zero, Act.put, List.setIfInBounds_toArray, List.set_cons_zero, List.set_cons_succ])
                refine wpAnyH_take (i := 5) (v := ?_) rfl (by kernel_rfl) (by kernel_rfl) (by kernel_rfl) (fun _ _ _ h => h) (.inl ⟨by simp [Region.wanted], ?_⟩) HS0.out ?_
                rotate_left
                · intro w' hw
                  go_simp
                  (try with_reducible rfl)
                (try simp only [List.getElem_toArray, List.getElem_cons_succ, List.getElem_cons_zero, Act.put, List.setIfInBounds_toArray, List.set_cons_zero, List.set_cons_succ])
                refine wpAnyH_take (i := 6) (v := ?_) rfl (by kernel_rfl) (by kernel_rfl) (by kernel_rfl) (fun _ _ _ h => h) (.inl ⟨by simp [Region.wanted], ?_⟩) HS0.out ?_
                rotate_left
                · intro w' hw
                  go_simp
                  (try with_reducible rfl)
                (try simp only [List.getElem_toArray, List.getElem_cons_succ, List.getElem_cons_zero, Act.put, List.setIfInBounds_toArray, List.set_cons_zero, List.set_cons_succ])
                refine wpAnyH_take (i := 7) (v := ?_) rfl (by kernel_rfl) (by kernel_rfl) (by kernel_rfl) (fun _ _ _ h => h) (.inl ⟨by simp [Region.wanted], ?_⟩) HS0.out ?_
                rotate_left
                · intro w' hw
                  go_simp
                  (try with_reducible rfl)
                (try simp only [List.getElem_toArray, List.getElem_cons_succ, List.getElem_cons_zero, Act.put, List.setIfInBounds_toArray, List.set_cons_zero, List.set_cons_succ])
                refine wpAnyH_ready (rs := [8]) (by kernel_rfl) (by simp) ?_
                refine AllReadyH.cons rfl (fun K hK => ?_) AllReadyH.nil
                refine wanted_only rfl ?_
                (refine wpList_st1 rfl 3 _ _ rfl HP.out rfl rfl (by simp) rfl rfl (by kernel_rfl) ?_; clear HP; intro wst HP; replace HP := Lib.hid HP)
                refine wpList_nil ?_
                refine hK.out _ _ trivial (fun hHeld => ?_)
                clear hK K hHeld
                (try simp only [List.getElem_toArray, List.getElem_cons_succ, List.getElem_cons_zero, Act.put, List.setIfInBounds_toArray, List.set_cons_zero, List.set_cons_succ])
                clear HS0
                refine wpAnyH_done (by kernel_rfl) ?_ _
                (try simp only [List.getElem_toArray, List.getElem_cons_succ, List.getElem_cons_zero, Act.put, List.setIfInBounds_toArray, List.set_cons_zero, List.set_cons_succ])
                go_wp2
                go_roundw
                case rel => exact ⟨i + 1, _, by omega, by go_num, HAN, rfl, HP⟩
                case measure => simp [intOf]; omega
              · skip
                go_simp
                refine (oneBit_any j (by omega) _).mono ?_
                rintro e wo3 ⟨rfl, rfl⟩
                rw [HTJ.out]
                dsimp only
                refine hK.out _ _ trivial (fun hHeld => ?_)
                clear hK K hHeld
                (try simp only [List.getElem_toArray, List.getElem_cons_succ, List.getElem_cons_zero, Act.put, List.setIfInBounds_toArray, List.set_cons_zero, List.set_cons_succ])
                refine wpAnyH_take (i := 5) (v := ?_) rfl (by kernel_rfl) (by kernel_rfl) (by kernel_rfl) (fun _ _ _ h => h) (.inl ⟨by simp [Region.wanted], ?_⟩) HS0.out ?_
                rotate_left
                · intro w' hw
                  go_simp
                  (try with_reducible rfl)
                (try simp only [List.getElem_toArray, List.getElem_cons_succ, List.getElem_cons_zero, Act.put, List.setIfInBounds_toArray, List.set_cons_zero, List.set_cons_succ])
                refine wpAnyH_ready (rs := [1]) (by kernel_rfl) (by simp) ?_
                refine AllReadyH.cons rfl (fun K hK => ?_) AllReadyH.nil
                refine wanted_only rfl ?_
                (first | (refine wpList_ld0 rfl 3 _ rfl HP.out rfl rfl Tryd.underlying3 rfl ?_) | (refine wpList_ld1 rfl 3 _ rfl HP.out rfl rfl Tryd.underlying3 rfl ?_))
                refine wpList_nil ?_
                refine hK.out _ _ trivial (fun hHeld => ?_)
                clear hK K hHeld
                (try simp only [List.getElem_toArray, List.getElem_cons_succ, List.getElem_cons_zero, Act.put, List.setIfInBounds_toArray, List.set_cons_zero, List.set_cons_succ])
                refine wpAnyH_take (i := 6) (v := ?_) rfl (by kernel_rfl) (by kernel_rfl) (by kernel_rfl) (fun _ _ _ h => h) (.inl ⟨by simp [Region.wanted], ?_⟩) HS0.out ?_
                rotate_left
                · intro w' hw
                  go_simp
                  (try with_reducible rfl)
                (try simp only [List.getElem_toArray, List.getElem_cons_succ, List.getElem_cons_zero, Act.put, List.setIfInBounds_toArray, List.set_cons_zero, List.set_cons_succ])
                refine wpAnyH_take (i := 7) (v := ?_) rfl (by kernel_rfl) (by kernel_rfl) (by kernel_rfl) (fun _ _ _ h => h) (.inl ⟨by simp [Region.wanted], ?_⟩) HS0.out ?_
                rotate_left
                · intro w' hw
                  go_simp
                  (try with_reducible rfl)
                (try simp only [List.getElem_toArray, List.getElem_cons_succ, List.getElem_cons_zero, Act.put, List.setIfInBounds_toArray, List.set_cons_zero, List.set_cons_succ])
                refine wpAnyH_ready (rs := [8]) (by kernel_rfl) (by simp) ?_
                refine AllReadyH.cons rfl (fun K hK => ?_) AllReadyH.nil
                refine wanted_only rfl ?_
                (refine wpList_st1 rfl 3 _ _ rfl HP.out rfl rfl (by simp) rfl rfl (by kernel_rfl) ?_; clear HP; intro wst HP; replace HP := Lib.hid HP)
                refine wpList_nil ?_
                refine hK.out _ _ trivial (fun hHeld => ?_)
                clear hK K hHeld
                (try simp only [List.getElem_toArray, List.getElem_cons_succ, List.getElem_cons_zero, Act.put, List.setIfInBounds_toArray, List.set_cons_zero, List.set_cons_succ])
                clear HS0
                refine wpAnyH_done (by kernel_rfl) ?_ _
                (try simp only [List.getElem_toArray, List.getElem_cons_succ, List.getElem_cons_zero, Act.put, List.setIfInBounds_toArray, List.set_cons_zero, List.set_cons_succ])
                go_wp2
                go_roundw
                case rel => exact ⟨i + 1, _, by omega, by go_num, HAN, rfl, HP⟩
                case measure => simp [intOf]; omega
            all_goals
              have hd : (v : Int) / 10 = 13 ∨ (v : Int) / 10 = 14 ∨ (v : Int) / 10 = 15 := by omega
              have HAN := Lib.hid (show accN w sh (i + 1) = a by
                rw [HST.out]; unfold accStep
                rw [if_neg (by omega), if_neg (by omega), if_neg (by omega), if_neg (by omega)])
              have hvn : 0 ≤ (v : Int) := by omega
              clear hv hlv hj
              rcases hd with hd | hd | hd
              all_goals
                have f2 := (Int.tdiv_eq_ediv_of_nonneg (b := 10) hvn).trans hd
                go_wp2_with (first | (go_at_call 102; refine (bitOf_any w i (by omega) _ HWR.out).mono ?_; rintro e wb ⟨rfl, hb⟩; replace HP := Lib.hid (HP.out.call0 hb); clear hb; rw [show ((bitZ w i).toNat : Int) = bI w i from rfl]) | (refine wpList_ld0 rfl 3 _ rfl HP.out rfl HLI.out Tryd.underlying3 rfl ?_))
                go_roundw
                case rel => exact ⟨i + 1, _, by omega, by go_num, HAN, rfl, HP⟩
                case measure => simp [intOf]; omega
          · obtain rfl : i = 32 := by omega
            have HOK := acc_ok w sh HS8.out 32 (by omega)
            rw [HA.out] at HOK
            obtain ⟨⟨a1, a2⟩, ⟨b1, b2⟩, ⟨c1, c2⟩, ⟨d1, d2⟩, ⟨e1, e2⟩⟩ := HOK
            have HCA := Lib.hid (show accCand (k : Int) sh a = candZ k w by rw [← HCE.out, HA.out])
            simp only [show ((32 : Nat) : Int) = 32 from rfl]
            have cg := HP.out.cell (.tail _ (.head _)) 4 _ rfl
            by_cases h2 : sh = 2
            · have HIM := Lib.hid (show accImm sh a = a.imm by unfold accImm; rw [if_neg (fun h => h.1 h2)])
              have H7 := Lib.hid (show sh ≠ 7 by omega)
              have hn2 : ((sh : Int) != 2) = false := by rw [h2]; rfl
              clear h2
              go_upto_region 27 with fail
              go_quiet ((first | (go_at_call 101; exact quiet_left (calls_value (shapeOf_any _ (by omega) _) (by rw [HSH.out])))))
              replace HP := Lib.hid (HP.out.drewN nq)
              clear cg
              have h7 : sh ≠ 7 := H7.out
              have HC := Lib.hid (show candZ k w = ⟨(k : Int), a.rd, a.r1, a.r2, a.imm⟩ by rw [← HCA.out]; unfold accCand; rw [if_neg h7, HIM.out])
              have hb7 : ((sh : Int) == 7) = false := by rw [beq_eq_false_iff_ne]; omega
              clear h7
              obtain ⟨ez, hez⟩ : ∃ n, encZ ⟨(k : Int), a.rd, a.r1, a.r2, a.imm⟩ = n := ⟨_, rfl⟩
              obtain ⟨fz, hfz⟩ : ∃ n, rvFault ⟨(k : Int), a.rd, a.r1, a.r2, a.imm⟩ = n := ⟨_, rfl⟩
              have HEZ := Lib.hid hez
              have HFZ := Lib.hid hfz
              clear hez hfz
              go_upto_region 32 with (first | (refine wpList_ldR0 rfl 102 _ rfl HP.out rfl Tryd.underlying102 rfl (by kernel_rfl) ?_) | (refine wpList_ldR1 rfl 102 _ rfl HP.out rfl Tryd.underlying102 rfl (by kernel_rfl) ?_) | (refine wpList_stR0 rfl 102 _ _ rfl HP.out rfl (cs' := [_, _, _, _, _]) rfl rfl (by simp [Value.oneCell']) (by kernel_rfl) ?_; clear HP; intro wst HP; replace HP := Lib.hid HP) | (refine wpList_stR1 rfl 102 _ _ rfl HP.out rfl (cs' := [_, _, _, _, _]) rfl rfl (by simp [Value.oneCell']) (by kernel_rfl) ?_; clear HP; intro wst HP; replace HP := Lib.hid HP) | (go_at_call 101; refine (shapeOf_any _ (by omega) _).mono ?_; rintro e w' ⟨rfl, rfl⟩; rw [HSH.out]) | (go_at_call 104; refine (WordOf_any ⟨(k : Int), a.rd, a.r1, a.r2, a.imm⟩ _).mono ?_; rintro e w8 ⟨rfl, hb⟩; replace HP := Lib.hid (HP.out.call0 hb); clear hb; rw [HEZ.out, HFZ.out]))
              by_cases hh : fz = 0 ∧ ez = w
              · have HH := Lib.hid (dec_hit HW.out (show k < 30 by omega) (by unfold hitB; rw [HC.out, HFZ.out, HEZ.out]; simp [hh.1, hh.2, hk1]) HN.out)
                have hb1 : (fz == 0) = true := by simpa using hh.1
                have hb2 : (ez == w) = true := by simpa using hh.2
                clear hh
                go_wp2_with (first | (refine wpList_ldR0 rfl 102 _ rfl HP.out rfl Tryd.underlying102 rfl (by kernel_rfl) ?_) | (refine wpList_ldR1 rfl 102 _ rfl HP.out rfl Tryd.underlying102 rfl (by kernel_rfl) ?_) | (refine wpList_stR0 rfl 102 _ _ rfl HP.out rfl (cs' := [_, _, _, _, _]) rfl rfl (by simp [Value.oneCell']) (by kernel_rfl) ?_; clear HP; intro wst HP; replace HP := Lib.hid HP) | (refine wpList_stR1 rfl 102 _ _ rfl HP.out rfl (cs' := [_, _, _, _, _]) rfl rfl (by simp [Value.oneCell']) (by kernel_rfl) ?_; clear HP; intro wst HP; replace HP := Lib.hid HP) | (refine wpList_stR2 rfl 102 _ _ rfl HP.out rfl (cs' := [_, _, _, _, _]) rfl rfl (by simp [Value.oneCell']) (by kernel_rfl) ?_; clear HP; intro wst HP; replace HP := Lib.hid HP))
                rw [HH.out, HC.out]
                refine bodyPost_ret (results_cell_row_tmp2 rfl _ _ g2 102 (List.toArray [.int .i64 (k : Int), .int .i64 a.rd, .int .i64 a.r1, .int .i64 a.r2, .int .i64 a.imm]) (0, 0) _ rfl (HP.out.blk (.tail _ (.tail _ (.head _)))) Tryd.underlying102 rfl (by kernel_rfl)) rfl ⟨rfl, HP.out.below⟩
              · have HNH := Lib.hid (show hitB w k = false by unfold hitB; rw [HC.out, HFZ.out, HEZ.out]; simp only [Bool.and_eq_false_iff, decide_eq_false_iff_not]; right; by_cases h : fz = 0 <;> simp_all)
                have hb : ((fz == 0) = false) ∨ ((fz == 0) = true ∧ (ez == w) = false) := by
                  by_cases h : fz = 0
                  · right; exact ⟨by simpa using h, by rw [beq_eq_false_iff_ne]; exact fun e => hh ⟨h, e⟩⟩
                  · left; rw [beq_eq_false_iff_ne]; exact h
                clear hh
                rcases hb with hb1 | ⟨hb1, hb2⟩
                all_goals
                  go_wp2
                  go_roundw
                  case rel => exact ⟨k + 1, by omega, by omega, by go_num, Lib.hid (fun j hj => by by_cases e : j = k; exact e ▸ HNH.out; exact HN.out j (by omega)), Lib.hid ((HP.out.drop (A := [])).drop (A := []))⟩
                  case measure => simp [intOf]; omega
            · have hn2 : ((sh : Int) != 2) = true := by simp only [bne_iff_ne, ne_eq]; omega
              by_cases ht0 : 0 ≤ a.top
              · have H7 := Lib.hid (show sh ≠ 7 by
                  intro h
                  have h9 : (accN w 7 32).top = -1 := rfl
                  rw [← h, HA.out] at h9
                  omega)
                obtain ⟨n, hn⟩ : ∃ n : Nat, a.top = n := ⟨a.top.toNat, by omega⟩
                have hp := pow20 (j := n) (by omega)
                have hn20 : n ≤ 20 := by omega
                obtain ⟨tj, htj⟩ : ∃ t, (2 : Int) ^ n = t := ⟨_, rfl⟩
                rw [htj] at hp
                have HTJ := Lib.hid htj
                have hnn : a.top.toNat = n := by omega
                have hd0 : decide (0 ≤ (n : Int)) = true := decide_eq_true (by omega)
                rw [hn]
                by_cases hge : tj ≤ a.imm
                · have HIM := Lib.hid (show accImm sh a = a.imm - 2 * tj by unfold accImm; rw [hnn, htj, if_pos ⟨h2, ht0, hge⟩])
                  have hd1 : decide (tj ≤ a.imm) = true := decide_eq_true hge
                  have hw1 : IntKind.i64.wrap (2 * tj) = 2 * tj := by rw [IntKind.wrap_i64]; omega
                  have hw2 : IntKind.i64.wrap (a.imm - 2 * tj) = a.imm - 2 * tj := by rw [IntKind.wrap_i64]; omega
                  have HGE := Lib.hid hge
                  clear htj h2 hn hnn ht0 hge
                  go_upto_region 27 with fail
                  go_quiet ((first | (go_at_call 101; exact quiet_left (calls_value (shapeOf_any _ (by omega) _) (by rw [HSH.out]))) | (go_at_call 103; exact quiet_left (calls_value (oneBit_any n (by omega) _) (by rw [HTJ.out])))))
                  replace HP := Lib.hid (HP.out.drewN nq)
                  clear cg
                  go_upto_region 28 with fail
                  replace HP := Lib.hid HP.out.drew
                  refine wp_region_held_drew (S := fun _ => True) (by kernel_rfl) trivial (fun hHeld => ?_)
                  have HS0 := Lib.hid hHeld
                  clear hHeld
                  (try simp only [Act.put, List.setIfInBounds_toArray, List.set_cons_zero, List.set_cons_succ])
                  refine wpAnyH_take (i := 0) (v := ?_) rfl (by kernel_rfl) (by kernel_rfl) (by kernel_rfl) (fun _ _ _ h => h) (.inl ⟨by simp [Region.wanted], ?_⟩) HS0.out ?_
                  rotate_left
                  · intro w' hw
                    go_simp
                    (try with_reducible rfl)
                  (try simp only [List.getElem_toArray, List.getElem_cons_succ, List.getElem_cons_zero, Act.put, List.setIfInBounds_toArray, List.set_cons_zero, List.set_cons_succ])
                  refine wpAnyH_take (i := 2) (v := ?_) rfl (by kernel_rfl) (by kernel_rfl) (by kernel_rfl) (fun _ _ _ h => h) (.inl ⟨by simp [Region.wanted], ?_⟩) HS0.out ?_
                  rotate_left
                  · intro w' hw
                    go_simp
                    (try with_reducible rfl)
                  (try simp only [List.getElem_toArray, List.getElem_cons_succ, List.getElem_cons_zero, Act.put, List.setIfInBounds_toArray, List.set_cons_zero, List.set_cons_succ])
                  refine wpAnyH_ready (rs := [1, 3]) (by kernel_rfl) (by simp) ?_
                  refine AllReadyH.cons rfl (fun K hK => ?_) (AllReadyH.cons rfl (fun K hK => ?_) AllReadyH.nil)
                  · skip
                    refine wanted_only rfl ?_
                    (first | (refine wpList_ld0 rfl 3 _ rfl HP.out rfl rfl Tryd.underlying3 rfl ?_) | (refine wpList_ld1 rfl 3 _ rfl HP.out rfl rfl Tryd.underlying3 rfl ?_))
                    refine wpList_nil ?_
                    refine hK.out _ _ trivial (fun hHeld => ?_)
                    clear hK K hHeld
                    (try simp only [List.getElem_toArray, List.getElem_cons_succ, List.getElem_cons_zero, Act.put, List.setIfInBounds_toArray, List.set_cons_zero, List.set_cons_succ])
                    refine wpAnyH_ready (rs := [3]) (by kernel_rfl) (by simp) ?_
                    refine AllReadyH.cons rfl (fun K hK => ?_) AllReadyH.nil
                    go_simp
                    refine (oneBit_any n (by omega) _).mono ?_
                    rintro e wo3 ⟨rfl, rfl⟩
                    rw [HTJ.out]
                    dsimp only
                    refine hK.out _ _ trivial (fun hHeld => ?_)
                    clear hK K hHeld
                    (try simp only [List.getElem_toArray, List.getElem_cons_succ, List.getElem_cons_zero, Act.put, List.setIfInBounds_toArray, List.set_cons_zero, List.set_cons_succ])
                    refine wpAnyH_take (i := 4) (v := ?_) rfl (by kernel_rfl) (by kernel_rfl) (by kernel_rfl) (fun _ _ _ h => h) (.inl ⟨by simp [Region.wanted], ?_⟩) HS0.out ?_
                    rotate_left
                    · intro w' hw
                      go_simp
                      (try with_reducible rfl)
                    (try simp only [List.getElem_toArray, List.getElem_cons_succ, List.getElem_cons_zero, Act.put, List.setIfInBounds_toArray, List.set_cons_zero, List.set_cons_succ])
                    refine wpAnyH_take (i := 5) (v := ?_) rfl (by kernel_rfl) (by kernel_rfl) (by kernel_rfl) (fun _ _ _ h => h) (.inl ⟨by simp [Region.wanted], ?_⟩) HS0.out ?_
                    rotate_left
                    · intro w' hw
                      go_simp
                      (try with_reducible rfl)
                    (try simp only [List.getElem_toArray, List.getElem_cons_succ, List.getElem_cons_zero, Act.put, List.setIfInBounds_toArray, List.set_cons_zero, List.set_cons_succ])
                    refine wpAnyH_take (i := 6) (v := ?_) rfl (by kernel_rfl) (by kernel_rfl) (by kernel_rfl) (fun _ _ _ h => h) (.inl ⟨by simp [Region.wanted], ?_⟩) HS0.out ?_
                    rotate_left
                    · intro w' hw
                      go_simp
                      (try with_reducible rfl)
                    (try simp only [List.getElem_toArray, List.getElem_cons_succ, List.getElem_cons_zero, Act.put, List.setIfInBounds_toArray, List.set_cons_zero, List.set_cons_succ])
                    refine wpAnyH_ready (rs := [7]) (by kernel_rfl) (by simp) ?_
                    refine AllReadyH.cons rfl (fun K hK => ?_) AllReadyH.nil
                    refine wanted_only rfl ?_
                    (refine wpList_st1 rfl 3 _ _ rfl HP.out rfl rfl (by simp) rfl rfl (by kernel_rfl) ?_; clear HP; intro wst HP; replace HP := Lib.hid HP)
                    refine wpList_nil ?_
                    refine hK.out _ _ trivial (fun hHeld => ?_)
                    clear hK K hHeld
                    (try simp only [List.getElem_toArray, List.getElem_cons_succ, List.getElem_cons_zero, Act.put, List.setIfInBounds_toArray, List.set_cons_zero, List.set_cons_succ])
                    clear HS0
                    refine wpAnyH_done (by kernel_rfl) ?_ _
                    (try simp only [List.getElem_toArray, List.getElem_cons_succ, List.getElem_cons_zero, Act.put, List.setIfInBounds_toArray, List.set_cons_zero, List.set_cons_succ])
                    replace HP := Lib.hid (show Hp W [⟨W, Lt W.heap.size⟩] [.blk gl 3 (List.map (Value.int .i64) (layI sh)), .blk g5 102 [.int .i64 k, .int .i64 a.rd, .int .i64 a.r1, .int .i64 a.r2, .int .i64 (a.imm - 2 * tj)], .blk g2 102 [.int .i64 0, .int .i64 0, .int .i64 0, .int .i64 0, .int .i64 0]] _ from HP.out)
                    have h7 : sh ≠ 7 := H7.out
                    have HC := Lib.hid (show candZ k w = ⟨(k : Int), a.rd, a.r1, a.r2, a.imm - 2 * tj⟩ by rw [← HCA.out]; unfold accCand; rw [if_neg h7, HIM.out])
                    have hb7 : ((sh : Int) == 7) = false := by rw [beq_eq_false_iff_ne]; omega
                    clear h7
                    obtain ⟨ez, hez⟩ : ∃ n, encZ ⟨(k : Int), a.rd, a.r1, a.r2, a.imm - 2 * tj⟩ = n := ⟨_, rfl⟩
                    obtain ⟨fz, hfz⟩ : ∃ n, rvFault ⟨(k : Int), a.rd, a.r1, a.r2, a.imm - 2 * tj⟩ = n := ⟨_, rfl⟩
                    have HEZ := Lib.hid hez
                    have HFZ := Lib.hid hfz
                    clear hez hfz
                    go_upto_region 32 with (first | (refine wpList_ldR0 rfl 102 _ rfl HP.out rfl Tryd.underlying102 rfl (by kernel_rfl) ?_) | (refine wpList_ldR1 rfl 102 _ rfl HP.out rfl Tryd.underlying102 rfl (by kernel_rfl) ?_) | (refine wpList_stR0 rfl 102 _ _ rfl HP.out rfl (cs' := [_, _, _, _, _]) rfl rfl (by simp [Value.oneCell']) (by kernel_rfl) ?_; clear HP; intro wst HP; replace HP := Lib.hid HP) | (refine wpList_stR1 rfl 102 _ _ rfl HP.out rfl (cs' := [_, _, _, _, _]) rfl rfl (by simp [Value.oneCell']) (by kernel_rfl) ?_; clear HP; intro wst HP; replace HP := Lib.hid HP) | (go_at_call 101; refine (shapeOf_any _ (by omega) _).mono ?_; rintro e w' ⟨rfl, rfl⟩; rw [HSH.out]) | (go_at_call 104; refine (WordOf_any ⟨(k : Int), a.rd, a.r1, a.r2, a.imm - 2 * tj⟩ _).mono ?_; rintro e w8 ⟨rfl, hb⟩; replace HP := Lib.hid (HP.out.call0 hb); clear hb; rw [HEZ.out, HFZ.out]))
                    by_cases hh : fz = 0 ∧ ez = w
                    · have HH := Lib.hid (dec_hit HW.out (show k < 30 by omega) (by unfold hitB; rw [HC.out, HFZ.out, HEZ.out]; simp [hh.1, hh.2, hk1]) HN.out)
                      have hb1 : (fz == 0) = true := by simpa using hh.1
                      have hb2 : (ez == w) = true := by simpa using hh.2
                      clear hh
                      go_wp2_with (first | (refine wpList_ldR0 rfl 102 _ rfl HP.out rfl Tryd.underlying102 rfl (by kernel_rfl) ?_) | (refine wpList_ldR1 rfl 102 _ rfl HP.out rfl Tryd.underlying102 rfl (by kernel_rfl) ?_) | (refine wpList_stR0 rfl 102 _ _ rfl HP.out rfl (cs' := [_, _, _, _, _]) rfl rfl (by simp [Value.oneCell']) (by kernel_rfl) ?_; clear HP; intro wst HP; replace HP := Lib.hid HP) | (refine wpList_stR1 rfl 102 _ _ rfl HP.out rfl (cs' := [_, _, _, _, _]) rfl rfl (by simp [Value.oneCell']) (by kernel_rfl) ?_; clear HP; intro wst HP; replace HP := Lib.hid HP) | (refine wpList_stR2 rfl 102 _ _ rfl HP.out rfl (cs' := [_, _, _, _, _]) rfl rfl (by simp [Value.oneCell']) (by kernel_rfl) ?_; clear HP; intro wst HP; replace HP := Lib.hid HP))
                      rw [HH.out, HC.out]
                      refine bodyPost_ret (results_cell_row_tmp2 rfl _ _ g2 102 (List.toArray [.int .i64 (k : Int), .int .i64 a.rd, .int .i64 a.r1, .int .i64 a.r2, .int .i64 (a.imm - 2 * tj)]) (0, 0) _ rfl (HP.out.blk (.tail _ (.tail _ (.head _)))) Tryd.underlying102 rfl (by kernel_rfl)) rfl ⟨rfl, HP.out.below⟩
                    · have HNH := Lib.hid (show hitB w k = false by unfold hitB; rw [HC.out, HFZ.out, HEZ.out]; simp only [Bool.and_eq_false_iff, decide_eq_false_iff_not]; right; by_cases h : fz = 0 <;> simp_all)
                      have hb : ((fz == 0) = false) ∨ ((fz == 0) = true ∧ (ez == w) = false) := by
                        by_cases h : fz = 0
                        · right; exact ⟨by simpa using h, by rw [beq_eq_false_iff_ne]; exact fun e => hh ⟨h, e⟩⟩
                        · left; rw [beq_eq_false_iff_ne]; exact h
                      clear hh
                      rcases hb with hb1 | ⟨hb1, hb2⟩
                      all_goals
                        go_wp2
                        go_roundw
                        case rel => exact ⟨k + 1, by omega, by omega, by go_num, Lib.hid (fun j hj => by by_cases e : j = k; exact e ▸ HNH.out; exact HN.out j (by omega)), Lib.hid ((HP.out.drop (A := [])).drop (A := []))⟩
                        case measure => simp [intOf]; omega
                  · skip
                    go_simp
                    refine (oneBit_any n (by omega) _).mono ?_
                    rintro e wo3 ⟨rfl, rfl⟩
                    rw [HTJ.out]
                    dsimp only
                    refine hK.out _ _ trivial (fun hHeld => ?_)
                    clear hK K hHeld
                    (try simp only [List.getElem_toArray, List.getElem_cons_succ, List.getElem_cons_zero, Act.put, List.setIfInBounds_toArray, List.set_cons_zero, List.set_cons_succ])
                    refine wpAnyH_take (i := 4) (v := ?_) rfl (by kernel_rfl) (by kernel_rfl) (by kernel_rfl) (fun _ _ _ h => h) (.inl ⟨by simp [Region.wanted], ?_⟩) HS0.out ?_
                    rotate_left
                    · intro w' hw
                      go_simp
                      (try with_reducible rfl)
                    (try simp only [List.getElem_toArray, List.getElem_cons_succ, List.getElem_cons_zero, Act.put, List.setIfInBounds_toArray, List.set_cons_zero, List.set_cons_succ])
                    refine wpAnyH_ready (rs := [1]) (by kernel_rfl) (by simp) ?_
                    refine AllReadyH.cons rfl (fun K hK => ?_) AllReadyH.nil
                    refine wanted_only rfl ?_
                    (first | (refine wpList_ld0 rfl 3 _ rfl HP.out rfl rfl Tryd.underlying3 rfl ?_) | (refine wpList_ld1 rfl 3 _ rfl HP.out rfl rfl Tryd.underlying3 rfl ?_))
                    refine wpList_nil ?_
                    refine hK.out _ _ trivial (fun hHeld => ?_)
                    clear hK K hHeld
                    (try simp only [List.getElem_toArray, List.getElem_cons_succ, List.getElem_cons_zero, Act.put, List.setIfInBounds_toArray, List.set_cons_zero, List.set_cons_succ])
                    refine wpAnyH_take (i := 5) (v := ?_) rfl (by kernel_rfl) (by kernel_rfl) (by kernel_rfl) (fun _ _ _ h => h) (.inl ⟨by simp [Region.wanted], ?_⟩) HS0.out ?_
                    rotate_left
                    · intro w' hw
                      go_simp
                      (try with_reducible rfl)
                    (try simp only [List.getElem_toArray, List.getElem_cons_succ, List.getElem_cons_zero, Act.put, List.setIfInBounds_toArray, List.set_cons_zero, List.set_cons_succ])
                    refine wpAnyH_take (i := 6) (v := ?_) rfl (by kernel_rfl) (by kernel_rfl) (by kernel_rfl) (fun _ _ _ h => h) (.inl ⟨by simp [Region.wanted], ?_⟩) HS0.out ?_
                    rotate_left
                    · intro w' hw
                      go_simp
                      (try with_reducible rfl)
                    (try simp only [List.getElem_toArray, List.getElem_cons_succ, List.getElem_cons_zero, Act.put, List.setIfInBounds_toArray, List.set_cons_zero, List.set_cons_succ])
                    refine wpAnyH_ready (rs := [7]) (by kernel_rfl) (by simp) ?_
                    refine AllReadyH.cons rfl (fun K hK => ?_) AllReadyH.nil
                    refine wanted_only rfl ?_
                    (refine wpList_st1 rfl 3 _ _ rfl HP.out rfl rfl (by simp) rfl rfl (by kernel_rfl) ?_; clear HP; intro wst HP; replace HP := Lib.hid HP)
                    refine wpList_nil ?_
                    refine hK.out _ _ trivial (fun hHeld => ?_)
                    clear hK K hHeld
                    (try simp only [List.getElem_toArray, List.getElem_cons_succ, List.getElem_cons_zero, Act.put, List.setIfInBounds_toArray, List.set_cons_zero, List.set_cons_succ])
                    clear HS0
                    refine wpAnyH_done (by kernel_rfl) ?_ _
                    (try simp only [List.getElem_toArray, List.getElem_cons_succ, List.getElem_cons_zero, Act.put, List.setIfInBounds_toArray, List.set_cons_zero, List.set_cons_succ])
                    replace HP := Lib.hid (show Hp W [⟨W, Lt W.heap.size⟩] [.blk gl 3 (List.map (Value.int .i64) (layI sh)), .blk g5 102 [.int .i64 k, .int .i64 a.rd, .int .i64 a.r1, .int .i64 a.r2, .int .i64 (a.imm - 2 * tj)], .blk g2 102 [.int .i64 0, .int .i64 0, .int .i64 0, .int .i64 0, .int .i64 0]] _ from HP.out)
                    have h7 : sh ≠ 7 := H7.out
                    have HC := Lib.hid (show candZ k w = ⟨(k : Int), a.rd, a.r1, a.r2, a.imm - 2 * tj⟩ by rw [← HCA.out]; unfold accCand; rw [if_neg h7, HIM.out])
                    have hb7 : ((sh : Int) == 7) = false := by rw [beq_eq_false_iff_ne]; omega
                    clear h7
                    obtain ⟨ez, hez⟩ : ∃ n, encZ ⟨(k : Int), a.rd, a.r1, a.r2, a.imm - 2 * tj⟩ = n := ⟨_, rfl⟩
                    obtain ⟨fz, hfz⟩ : ∃ n, rvFault ⟨(k : Int), a.rd, a.r1, a.r2, a.imm - 2 * tj⟩ = n := ⟨_, rfl⟩
                    have HEZ := Lib.hid hez
                    have HFZ := Lib.hid hfz
                    clear hez hfz
                    go_upto_region 32 with (first | (refine wpList_ldR0 rfl 102 _ rfl HP.out rfl Tryd.underlying102 rfl (by kernel_rfl) ?_) | (refine wpList_ldR1 rfl 102 _ rfl HP.out rfl Tryd.underlying102 rfl (by kernel_rfl) ?_) | (refine wpList_stR0 rfl 102 _ _ rfl HP.out rfl (cs' := [_, _, _, _, _]) rfl rfl (by simp [Value.oneCell']) (by kernel_rfl) ?_; clear HP; intro wst HP; replace HP := Lib.hid HP) | (refine wpList_stR1 rfl 102 _ _ rfl HP.out rfl (cs' := [_, _, _, _, _]) rfl rfl (by simp [Value.oneCell']) (by kernel_rfl) ?_; clear HP; intro wst HP; replace HP := Lib.hid HP) | (go_at_call 101; refine (shapeOf_any _ (by omega) _).mono ?_; rintro e w' ⟨rfl, rfl⟩; rw [HSH.out]) | (go_at_call 104; refine (WordOf_any ⟨(k : Int), a.rd, a.r1, a.r2, a.imm - 2 * tj⟩ _).mono ?_; rintro e w8 ⟨rfl, hb⟩; replace HP := Lib.hid (HP.out.call0 hb); clear hb; rw [HEZ.out, HFZ.out]))
                    by_cases hh : fz = 0 ∧ ez = w
                    · have HH := Lib.hid (dec_hit HW.out (show k < 30 by omega) (by unfold hitB; rw [HC.out, HFZ.out, HEZ.out]; simp [hh.1, hh.2, hk1]) HN.out)
                      have hb1 : (fz == 0) = true := by simpa using hh.1
                      have hb2 : (ez == w) = true := by simpa using hh.2
                      clear hh
                      go_wp2_with (first | (refine wpList_ldR0 rfl 102 _ rfl HP.out rfl Tryd.underlying102 rfl (by kernel_rfl) ?_) | (refine wpList_ldR1 rfl 102 _ rfl HP.out rfl Tryd.underlying102 rfl (by kernel_rfl) ?_) | (refine wpList_stR0 rfl 102 _ _ rfl HP.out rfl (cs' := [_, _, _, _, _]) rfl rfl (by simp [Value.oneCell']) (by kernel_rfl) ?_; clear HP; intro wst HP; replace HP := Lib.hid HP) | (refine wpList_stR1 rfl 102 _ _ rfl HP.out rfl (cs' := [_, _, _, _, _]) rfl rfl (by simp [Value.oneCell']) (by kernel_rfl) ?_; clear HP; intro wst HP; replace HP := Lib.hid HP) | (refine wpList_stR2 rfl 102 _ _ rfl HP.out rfl (cs' := [_, _, _, _, _]) rfl rfl (by simp [Value.oneCell']) (by kernel_rfl) ?_; clear HP; intro wst HP; replace HP := Lib.hid HP))
                      rw [HH.out, HC.out]
                      refine bodyPost_ret (results_cell_row_tmp2 rfl _ _ g2 102 (List.toArray [.int .i64 (k : Int), .int .i64 a.rd, .int .i64 a.r1, .int .i64 a.r2, .int .i64 (a.imm - 2 * tj)]) (0, 0) _ rfl (HP.out.blk (.tail _ (.tail _ (.head _)))) Tryd.underlying102 rfl (by kernel_rfl)) rfl ⟨rfl, HP.out.below⟩
                    · have HNH := Lib.hid (show hitB w k = false by unfold hitB; rw [HC.out, HFZ.out, HEZ.out]; simp only [Bool.and_eq_false_iff, decide_eq_false_iff_not]; right; by_cases h : fz = 0 <;> simp_all)
                      have hb : ((fz == 0) = false) ∨ ((fz == 0) = true ∧ (ez == w) = false) := by
                        by_cases h : fz = 0
                        · right; exact ⟨by simpa using h, by rw [beq_eq_false_iff_ne]; exact fun e => hh ⟨h, e⟩⟩
                        · left; rw [beq_eq_false_iff_ne]; exact h
                      clear hh
                      rcases hb with hb1 | ⟨hb1, hb2⟩
                      all_goals
                        go_wp2
                        go_roundw
                        case rel => exact ⟨k + 1, by omega, by omega, by go_num, Lib.hid (fun j hj => by by_cases e : j = k; exact e ▸ HNH.out; exact HN.out j (by omega)), Lib.hid ((HP.out.drop (A := [])).drop (A := []))⟩
                        case measure => simp [intOf]; omega
                · have HIM := Lib.hid (show accImm sh a = a.imm by unfold accImm; rw [hnn, htj, if_neg (fun h => hge h.2.2)])
                  have hd1 : decide (tj ≤ a.imm) = false := decide_eq_false hge
                  clear htj h2 hn hnn ht0 hge
                  go_upto_region 27 with fail
                  go_quiet ((first | (go_at_call 101; exact quiet_left (calls_value (shapeOf_any _ (by omega) _) (by rw [HSH.out]))) | (go_at_call 103; exact quiet_left (calls_value (oneBit_any n (by omega) _) (by rw [HTJ.out])))))
                  replace HP := Lib.hid (HP.out.drewN nq)
                  clear cg
                  have h7 : sh ≠ 7 := H7.out
                  have HC := Lib.hid (show candZ k w = ⟨(k : Int), a.rd, a.r1, a.r2, a.imm⟩ by rw [← HCA.out]; unfold accCand; rw [if_neg h7, HIM.out])
                  have hb7 : ((sh : Int) == 7) = false := by rw [beq_eq_false_iff_ne]; omega
                  clear h7
                  obtain ⟨ez, hez⟩ : ∃ n, encZ ⟨(k : Int), a.rd, a.r1, a.r2, a.imm⟩ = n := ⟨_, rfl⟩
                  obtain ⟨fz, hfz⟩ : ∃ n, rvFault ⟨(k : Int), a.rd, a.r1, a.r2, a.imm⟩ = n := ⟨_, rfl⟩
                  have HEZ := Lib.hid hez
                  have HFZ := Lib.hid hfz
                  clear hez hfz
                  go_upto_region 32 with (first | (refine wpList_ldR0 rfl 102 _ rfl HP.out rfl Tryd.underlying102 rfl (by kernel_rfl) ?_) | (refine wpList_ldR1 rfl 102 _ rfl HP.out rfl Tryd.underlying102 rfl (by kernel_rfl) ?_) | (refine wpList_stR0 rfl 102 _ _ rfl HP.out rfl (cs' := [_, _, _, _, _]) rfl rfl (by simp [Value.oneCell']) (by kernel_rfl) ?_; clear HP; intro wst HP; replace HP := Lib.hid HP) | (refine wpList_stR1 rfl 102 _ _ rfl HP.out rfl (cs' := [_, _, _, _, _]) rfl rfl (by simp [Value.oneCell']) (by kernel_rfl) ?_; clear HP; intro wst HP; replace HP := Lib.hid HP) | (go_at_call 101; refine (shapeOf_any _ (by omega) _).mono ?_; rintro e w' ⟨rfl, rfl⟩; rw [HSH.out]) | (go_at_call 104; refine (WordOf_any ⟨(k : Int), a.rd, a.r1, a.r2, a.imm⟩ _).mono ?_; rintro e w8 ⟨rfl, hb⟩; replace HP := Lib.hid (HP.out.call0 hb); clear hb; rw [HEZ.out, HFZ.out]))
                  by_cases hh : fz = 0 ∧ ez = w
                  · have HH := Lib.hid (dec_hit HW.out (show k < 30 by omega) (by unfold hitB; rw [HC.out, HFZ.out, HEZ.out]; simp [hh.1, hh.2, hk1]) HN.out)
                    have hb1 : (fz == 0) = true := by simpa using hh.1
                    have hb2 : (ez == w) = true := by simpa using hh.2
                    clear hh
                    go_wp2_with (first | (refine wpList_ldR0 rfl 102 _ rfl HP.out rfl Tryd.underlying102 rfl (by kernel_rfl) ?_) | (refine wpList_ldR1 rfl 102 _ rfl HP.out rfl Tryd.underlying102 rfl (by kernel_rfl) ?_) | (refine wpList_stR0 rfl 102 _ _ rfl HP.out rfl (cs' := [_, _, _, _, _]) rfl rfl (by simp [Value.oneCell']) (by kernel_rfl) ?_; clear HP; intro wst HP; replace HP := Lib.hid HP) | (refine wpList_stR1 rfl 102 _ _ rfl HP.out rfl (cs' := [_, _, _, _, _]) rfl rfl (by simp [Value.oneCell']) (by kernel_rfl) ?_; clear HP; intro wst HP; replace HP := Lib.hid HP) | (refine wpList_stR2 rfl 102 _ _ rfl HP.out rfl (cs' := [_, _, _, _, _]) rfl rfl (by simp [Value.oneCell']) (by kernel_rfl) ?_; clear HP; intro wst HP; replace HP := Lib.hid HP))
                    rw [HH.out, HC.out]
                    refine bodyPost_ret (results_cell_row_tmp2 rfl _ _ g2 102 (List.toArray [.int .i64 (k : Int), .int .i64 a.rd, .int .i64 a.r1, .int .i64 a.r2, .int .i64 a.imm]) (0, 0) _ rfl (HP.out.blk (.tail _ (.tail _ (.head _)))) Tryd.underlying102 rfl (by kernel_rfl)) rfl ⟨rfl, HP.out.below⟩
                  · have HNH := Lib.hid (show hitB w k = false by unfold hitB; rw [HC.out, HFZ.out, HEZ.out]; simp only [Bool.and_eq_false_iff, decide_eq_false_iff_not]; right; by_cases h : fz = 0 <;> simp_all)
                    have hb : ((fz == 0) = false) ∨ ((fz == 0) = true ∧ (ez == w) = false) := by
                      by_cases h : fz = 0
                      · right; exact ⟨by simpa using h, by rw [beq_eq_false_iff_ne]; exact fun e => hh ⟨h, e⟩⟩
                      · left; rw [beq_eq_false_iff_ne]; exact h
                    clear hh
                    rcases hb with hb1 | ⟨hb1, hb2⟩
                    all_goals
                      go_wp2
                      go_roundw
                      case rel => exact ⟨k + 1, by omega, by omega, by go_num, Lib.hid (fun j hj => by by_cases e : j = k; exact e ▸ HNH.out; exact HN.out j (by omega)), Lib.hid ((HP.out.drop (A := [])).drop (A := []))⟩
                      case measure => simp [intOf]; omega
              · have HIM := Lib.hid (show accImm sh a = a.imm by unfold accImm; rw [if_neg (fun h => ht0 h.2.1)])
                have hd0 : decide (0 ≤ a.top) = false := decide_eq_false ht0
                clear h2 ht0
                go_upto_region 27 with fail
                go_quiet ((first | (go_at_call 101; exact quiet_left (calls_value (shapeOf_any _ (by omega) _) (by rw [HSH.out])))))
                replace HP := Lib.hid (HP.out.drewN nq)
                clear cg
                by_cases h7 : sh = 7
                · have HC := Lib.hid (show candZ k w = ⟨(k : Int), 0, 0, 0, 0⟩ by rw [← HCA.out]; unfold accCand; rw [if_pos h7])
                  have hb7 : ((sh : Int) == 7) = true := by rw [h7]; rfl
                  clear h7
                  obtain ⟨ez, hez⟩ : ∃ n, encZ ⟨(k : Int), 0, 0, 0, 0⟩ = n := ⟨_, rfl⟩
                  obtain ⟨fz, hfz⟩ : ∃ n, rvFault ⟨(k : Int), 0, 0, 0, 0⟩ = n := ⟨_, rfl⟩
                  have HEZ := Lib.hid hez
                  have HFZ := Lib.hid hfz
                  clear hez hfz
                  go_upto_region 32 with (first | (refine wpList_ldR0 rfl 102 _ rfl HP.out rfl Tryd.underlying102 rfl (by kernel_rfl) ?_) | (refine wpList_ldR1 rfl 102 _ rfl HP.out rfl Tryd.underlying102 rfl (by kernel_rfl) ?_) | (refine wpList_stR0 rfl 102 _ _ rfl HP.out rfl (cs' := [_, _, _, _, _]) rfl rfl (by simp [Value.oneCell']) (by kernel_rfl) ?_; clear HP; intro wst HP; replace HP := Lib.hid HP) | (refine wpList_stR1 rfl 102 _ _ rfl HP.out rfl (cs' := [_, _, _, _, _]) rfl rfl (by simp [Value.oneCell']) (by kernel_rfl) ?_; clear HP; intro wst HP; replace HP := Lib.hid HP) | (go_at_call 101; refine (shapeOf_any _ (by omega) _).mono ?_; rintro e w' ⟨rfl, rfl⟩; rw [HSH.out]) | (go_at_call 104; refine (WordOf_any ⟨(k : Int), 0, 0, 0, 0⟩ _).mono ?_; rintro e w8 ⟨rfl, hb⟩; replace HP := Lib.hid (HP.out.call0 hb); clear hb; rw [HEZ.out, HFZ.out]))
                  by_cases hh : fz = 0 ∧ ez = w
                  · have HH := Lib.hid (dec_hit HW.out (show k < 30 by omega) (by unfold hitB; rw [HC.out, HFZ.out, HEZ.out]; simp [hh.1, hh.2, hk1]) HN.out)
                    have hb1 : (fz == 0) = true := by simpa using hh.1
                    have hb2 : (ez == w) = true := by simpa using hh.2
                    clear hh
                    go_wp2_with (first | (refine wpList_ldR0 rfl 102 _ rfl HP.out rfl Tryd.underlying102 rfl (by kernel_rfl) ?_) | (refine wpList_ldR1 rfl 102 _ rfl HP.out rfl Tryd.underlying102 rfl (by kernel_rfl) ?_) | (refine wpList_stR0 rfl 102 _ _ rfl HP.out rfl (cs' := [_, _, _, _, _]) rfl rfl (by simp [Value.oneCell']) (by kernel_rfl) ?_; clear HP; intro wst HP; replace HP := Lib.hid HP) | (refine wpList_stR1 rfl 102 _ _ rfl HP.out rfl (cs' := [_, _, _, _, _]) rfl rfl (by simp [Value.oneCell']) (by kernel_rfl) ?_; clear HP; intro wst HP; replace HP := Lib.hid HP) | (refine wpList_stR2 rfl 102 _ _ rfl HP.out rfl (cs' := [_, _, _, _, _]) rfl rfl (by simp [Value.oneCell']) (by kernel_rfl) ?_; clear HP; intro wst HP; replace HP := Lib.hid HP))
                    rw [HH.out, HC.out]
                    refine bodyPost_ret (results_cell_row_tmp2 rfl _ _ g2 102 (List.toArray [.int .i64 (k : Int), .int .i64 0, .int .i64 0, .int .i64 0, .int .i64 0]) (0, 0) _ rfl (HP.out.blk (.tail _ (.tail _ (.head _)))) Tryd.underlying102 rfl (by kernel_rfl)) rfl ⟨rfl, HP.out.below⟩
                  · have HNH := Lib.hid (show hitB w k = false by unfold hitB; rw [HC.out, HFZ.out, HEZ.out]; simp only [Bool.and_eq_false_iff, decide_eq_false_iff_not]; right; by_cases h : fz = 0 <;> simp_all)
                    have hb : ((fz == 0) = false) ∨ ((fz == 0) = true ∧ (ez == w) = false) := by
                      by_cases h : fz = 0
                      · right; exact ⟨by simpa using h, by rw [beq_eq_false_iff_ne]; exact fun e => hh ⟨h, e⟩⟩
                      · left; rw [beq_eq_false_iff_ne]; exact h
                    clear hh
                    rcases hb with hb1 | ⟨hb1, hb2⟩
                    all_goals
                      go_wp2
                      go_roundw
                      case rel => exact ⟨k + 1, by omega, by omega, by go_num, Lib.hid (fun j hj => by by_cases e : j = k; exact e ▸ HNH.out; exact HN.out j (by omega)), Lib.hid ((HP.out.drop (A := [])).drop (A := []))⟩
                      case measure => simp [intOf]; omega
                · have HC := Lib.hid (show candZ k w = ⟨(k : Int), a.rd, a.r1, a.r2, a.imm⟩ by rw [← HCA.out]; unfold accCand; rw [if_neg h7, HIM.out])
                  have hb7 : ((sh : Int) == 7) = false := by rw [beq_eq_false_iff_ne]; omega
                  clear h7
                  obtain ⟨ez, hez⟩ : ∃ n, encZ ⟨(k : Int), a.rd, a.r1, a.r2, a.imm⟩ = n := ⟨_, rfl⟩
                  obtain ⟨fz, hfz⟩ : ∃ n, rvFault ⟨(k : Int), a.rd, a.r1, a.r2, a.imm⟩ = n := ⟨_, rfl⟩
                  have HEZ := Lib.hid hez
                  have HFZ := Lib.hid hfz
                  clear hez hfz
                  go_upto_region 32 with (first | (refine wpList_ldR0 rfl 102 _ rfl HP.out rfl Tryd.underlying102 rfl (by kernel_rfl) ?_) | (refine wpList_ldR1 rfl 102 _ rfl HP.out rfl Tryd.underlying102 rfl (by kernel_rfl) ?_) | (refine wpList_stR0 rfl 102 _ _ rfl HP.out rfl (cs' := [_, _, _, _, _]) rfl rfl (by simp [Value.oneCell']) (by kernel_rfl) ?_; clear HP; intro wst HP; replace HP := Lib.hid HP) | (refine wpList_stR1 rfl 102 _ _ rfl HP.out rfl (cs' := [_, _, _, _, _]) rfl rfl (by simp [Value.oneCell']) (by kernel_rfl) ?_; clear HP; intro wst HP; replace HP := Lib.hid HP) | (go_at_call 101; refine (shapeOf_any _ (by omega) _).mono ?_; rintro e w' ⟨rfl, rfl⟩; rw [HSH.out]) | (go_at_call 104; refine (WordOf_any ⟨(k : Int), a.rd, a.r1, a.r2, a.imm⟩ _).mono ?_; rintro e w8 ⟨rfl, hb⟩; replace HP := Lib.hid (HP.out.call0 hb); clear hb; rw [HEZ.out, HFZ.out]))
                  by_cases hh : fz = 0 ∧ ez = w
                  · have HH := Lib.hid (dec_hit HW.out (show k < 30 by omega) (by unfold hitB; rw [HC.out, HFZ.out, HEZ.out]; simp [hh.1, hh.2, hk1]) HN.out)
                    have hb1 : (fz == 0) = true := by simpa using hh.1
                    have hb2 : (ez == w) = true := by simpa using hh.2
                    clear hh
                    go_wp2_with (first | (refine wpList_ldR0 rfl 102 _ rfl HP.out rfl Tryd.underlying102 rfl (by kernel_rfl) ?_) | (refine wpList_ldR1 rfl 102 _ rfl HP.out rfl Tryd.underlying102 rfl (by kernel_rfl) ?_) | (refine wpList_stR0 rfl 102 _ _ rfl HP.out rfl (cs' := [_, _, _, _, _]) rfl rfl (by simp [Value.oneCell']) (by kernel_rfl) ?_; clear HP; intro wst HP; replace HP := Lib.hid HP) | (refine wpList_stR1 rfl 102 _ _ rfl HP.out rfl (cs' := [_, _, _, _, _]) rfl rfl (by simp [Value.oneCell']) (by kernel_rfl) ?_; clear HP; intro wst HP; replace HP := Lib.hid HP) | (refine wpList_stR2 rfl 102 _ _ rfl HP.out rfl (cs' := [_, _, _, _, _]) rfl rfl (by simp [Value.oneCell']) (by kernel_rfl) ?_; clear HP; intro wst HP; replace HP := Lib.hid HP))
                    rw [HH.out, HC.out]
                    refine bodyPost_ret (results_cell_row_tmp2 rfl _ _ g2 102 (List.toArray [.int .i64 (k : Int), .int .i64 a.rd, .int .i64 a.r1, .int .i64 a.r2, .int .i64 a.imm]) (0, 0) _ rfl (HP.out.blk (.tail _ (.tail _ (.head _)))) Tryd.underlying102 rfl (by kernel_rfl)) rfl ⟨rfl, HP.out.below⟩
                  · have HNH := Lib.hid (show hitB w k = false by unfold hitB; rw [HC.out, HFZ.out, HEZ.out]; simp only [Bool.and_eq_false_iff, decide_eq_false_iff_not]; right; by_cases h : fz = 0 <;> simp_all)
                    have hb : ((fz == 0) = false) ∨ ((fz == 0) = true ∧ (ez == w) = false) := by
                      by_cases h : fz = 0
                      · right; exact ⟨by simpa using h, by rw [beq_eq_false_iff_ne]; exact fun e => hh ⟨h, e⟩⟩
                      · left; rw [beq_eq_false_iff_ne]; exact h
                    clear hh
                    rcases hb with hb1 | ⟨hb1, hb2⟩
                    all_goals
                      go_wp2
                      go_roundw
                      case rel => exact ⟨k + 1, by omega, by omega, by go_num, Lib.hid (fun j hj => by by_cases e : j = k; exact e ▸ HNH.out; exact HN.out j (by omega)), Lib.hid ((HP.out.drop (A := [])).drop (A := []))⟩
                      case measure => simp [intOf]; omega
      · obtain rfl : k = 30 := by omega
        have HH := Lib.hid (dec_none HW.out HN.out)
        simp only [show ((30 : Nat) : Int) = 30 from rfl]
        go_wp2_with (first | (refine wpList_stR0 rfl 102 _ _ rfl HP.out rfl (cs' := [_, _, _, _, _]) rfl rfl (by simp [Value.oneCell']) (by kernel_rfl) ?_; clear HP; intro wst HP; replace HP := Lib.hid HP))
        rw [HH.out]
        refine bodyPost_ret (results_cell_row_tmp2 rfl _ _ g2 102 (List.toArray [.int .i64 0, .int .i64 0, .int .i64 0, .int .i64 0, .int .i64 0]) (0, 0) _ rfl (HP.out.blk (.head _)) Tryd.underlying102 rfl (by kernel_rfl)) rfl ⟨rfl, HP.out.below⟩
end Go.Proofs.YtfhoffpdodjfeaaDoor
