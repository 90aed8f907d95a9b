/- ref.sureOf. -/
import Derived.Test.YtnabeibnaoahmaaDoorMgBehindWayTo2
import Derived.Test.YtnabeibnaoahmaaDoorMgWaySureLawSureRun3
import Derived.Test.YtnabeibnaoahmaaDoorHpRow
import Derived.Test.YtnabeibnaoahmaaDoorMgReadsOfState2
set_option linter.unusedSimpArgs false
set_option linter.unusedVariables false
namespace Go.Proofs.YtnabeibnaoahmaaDoor
open Go.RowKit
attribute [local irreducible] wpList Code.wp Oper.wp
set_option maxRecDepth 10000 in
set_option maxHeartbeats 4000000 in
theorem sureOf_any (f : Fun) (funcs : Nat) (v : Value) (w : World) (hv : Lay.rep w (Lt w.heap.size) f.code [v]) (ok : OkF f funcs) :
    Calls Tryd.prog 30 #[.agg #[.int .i64 f.params, .int .i64 f.regs, v]] w fun e w' => ∃ u, e = .returned u ∧ Lay.rep w' (Fresh w w') (sureL f) [u] ∧ Below w.heap.size w w' := by
  obtain ⟨A, c, rfl, hc, hm, hx⟩ := rep_code2 hv
  clear hx
  unfold maxLen at hm
  have HV := Lib.hid hv
  have HOK := Lib.hid ok
  obtain ⟨l1, l2⟩ := ok.len
  clear hv ok
  obtain ⟨i_int, hi_int, hz_int, hs_int, hy_int⟩ := info_parts info_int
  have HP := Lib.hid ((Hp.start w).nil 3 1)
  go_enter Tryd.func30, Tryd.ntmps30
  go_upto_region 2 with (first | (refine wpList_box_hp (o := ⟨some 1, _, _, _, _, _⟩) rfl _ _ rfl HP.out [_, _, _] rfl ?_; clear HP; intro g1 w1 HP; replace HP := Lib.hid HP) | (refine wpList_ldR0 rfl 57 _ rfl HP.out rfl Tryd.underlying57 rfl (by kernel_rfl) ?_) | (go_at_call 61; refine (wayTo_any f funcs _ (-1) _ (HP.out.rep (F := ⟨w, Lt w.heap.size⟩) (.head _) HV.out) HOK.out ⟨by omega, by omega⟩).mono ?_; rintro e w3 ⟨u3, rfl, hu3, hb3⟩; replace HP := Lib.hid (HP.out.call hb3); obtain ⟨A3, c3, rfl, hc3, hm3, hx3⟩ := rep_bools_at hu3; unfold maxLen at hm3; have HX3 := Lib.hid hx3; clear hu3 hx3 hb3))
  obtain ⟨rs, hrs⟩ : ∃ rs, wayL f (-1) = rs := ⟨_, rfl⟩
  rw [hrs] at HX3 hc3
  simp only [hrs]
  have HRL := Lib.hid (show rs.length = f.code.length + 1 by rw [← hrs, wayL_len])
  have HRS := Lib.hid hrs
  clear hrs
  rw [HRL.out]
  go_wp2
  go_loopw [4, 5] (fun v i wr => ∃ (k : Nat) (A' : Option Addr) (c' : Nat) (os : List Int), k ≤ f.code.length + 1 ∧ v = .slice A' k c' ∧ i = .int .i64 k ∧ Hid (os.length = k ∧ ∀ q, q < k → os[q]? = some (sureUpto f 0 q)) ∧ Hid (Hp w [{ w := w3, S := Fresh w1 w3 }, { w := w, S := Lt w.heap.size }] [Res.blk g1 57 [Value.int IntKind.i64 f.params, Value.int IntKind.i64 f.regs, Value.slice A f.code.length c], Res.row (.slice A' k c') 3 1 (k) (List.map (Value.int IntKind.i64) os)] wr)) (fun _ i _ => f.code.length + 1 - (intOf i).toNat)
  case atStart => exact ⟨0, none, 0, [], by omega, rfl, rfl, Lib.hid ⟨rfl, fun q hq => by omega⟩, HP⟩
  case round =>
    clear HP
    obtain ⟨k, A', c', os, hk, rfl, rfl, HO, HP⟩ := hrel
    obtain ⟨wo, rfl⟩ : ∃ wo : World, wo = wr := ⟨_, rfl⟩
    by_cases hlt : k ≤ f.code.length
    · have hkr : k < rs.length := by rw [HRL.out]; omega
      obtain ⟨a3, rfl, hab3, hc3'⟩ := HX3.out k hkr
      have HC3 := Lib.hid hc3'
      obtain ⟨b, hb⟩ : ∃ b, rs[k] = b := ⟨_, rfl⟩
      rw [hb] at HC3
      have HB := Lib.hid (show rs.getD k false = b by rw [List.getD_eq_getElem?_getD, List.getElem?_eq_getElem hkr, hb]; rfl)
      have hk1 : (k : Int) < (f.code.length : Int) + 1 := by omega
      clear hc3' hb
      go_upto_region 7 with (first | (refine wpList_ld0 rfl 55 _ rfl HP.out rfl rfl Tryd.underlying55 rfl ?_) | (refine wpList_ints_hp rfl 25 3 1 _ rfl HP.out Tryd.underlying25 [_] rfl (by kernel_rfl) ?_; clear HP; intro gi wi HP; replace HP := Lib.hid HP) | (at_builtin; refine wpList_apg1 rfl _ _ 25 rfl i_int (.int .i64 0) Tryd.underlying25 hi_int hz_int hs_int rfl (by decide) hy_int (k + 1) rfl HP.out rfl rfl rfl (by simp [Value.oneCell']) (by unfold maxLen; omega) (by omega) (by omega) ?_; clear HP; intro gap cap wap HP; replace HP := Lib.hid HP))
      rw [← List.map_append] at HP
      have hcb := (HP.out.alike (F := ⟨w3, Fresh w1 w3⟩) (.head _) (a3.add k) (by rw [block_of_add]; exact hab3)).trans HC3.out
      have HBD := Lib.hid (show k < (List.map (Value.int IntKind.i64) (os ++ [-1])).length by rw [List.length_map, List.length_append, HO.out.1]; simp)
      (try simp only [Act.put, List.setIfInBounds_toArray, List.set_cons_zero, List.set_cons_succ])
      cases b
      · go_wp2_with fail
        go_roundw
        case rel =>
          refine ⟨k + 1, _, _, os ++ [-1], by omega, rfl, by go_num, Lib.hid ⟨by simp [HO.out.1], fun q hq => ?_⟩, HP⟩
          by_cases hqk : q < k
          · rw [List.getElem?_append_left (by rw [HO.out.1]; omega)]; exact HO.out.2 q hqk
          · obtain rfl : q = k := by omega
            rw [List.getElem?_append_right (by rw [HO.out.1]; omega), HO.out.1, Nat.sub_self]
            unfold sureUpto
            rw [HRS.out, HB.out]
            rfl
        case measure => simp [intOf]; omega
      · go_wp2_with (first | (refine wpList_stW1 rfl 3 _ _ rfl HP.out rfl rfl HBD.out rfl (List.map_set ..).symm (by kernel_rfl) ?_; clear HP; intro wst HP; replace HP := Lib.hid HP))
        go_roundw
        case rel =>
          refine ⟨k + 1, _, _, (os ++ [-1]).set k 0, by omega, rfl, by go_num, Lib.hid ⟨by simp [HO.out.1], fun q hq => ?_⟩, HP⟩
          by_cases hqk : q < k
          · rw [List.getElem?_set_ne (by omega), List.getElem?_append_left (by rw [HO.out.1]; omega)]; exact HO.out.2 q hqk
          · obtain rfl : q = k := by omega
            rw [List.getElem?_set_self (by simp [HO.out.1])]
            unfold sureUpto
            rw [HRS.out, HB.out]
            rfl
        case measure => simp [intOf]; omega
    · obtain rfl : k = f.code.length + 1 := by omega
      obtain ⟨g4, c4, hv4⟩ := HP.out.rowSome (.tail _ (.head _)) (by omega)
      cases hv4
      go_wp2_with (first | (refine wpList_ld0 rfl 55 _ rfl HP.out rfl rfl Tryd.underlying55 rfl ?_))
      go_hide hQ
      go_loopw [6, 7] (fun v i wr => ∃ (r : Nat) (m : Int) (os : List Int), r ≤ 12 ∧ v = .int .i64 m ∧ i = .int .i64 r ∧ Hid (m = 2 ^ r) ∧ 1 ≤ m ∧ m ≤ 4096 ∧ Hid (os.length = f.code.length + 1 ∧ ∀ q, q < f.code.length + 1 → os[q]? = some (sureUpto f r q)) ∧ Hid (Hp w [{ w := w3, S := Fresh w1 w3 }, { w := w, S := Lt w.heap.size }] [Res.blk g1 57 [Value.int IntKind.i64 f.params, Value.int IntKind.i64 f.regs, Value.slice A f.code.length c], Res.row (.slice (some ⟨g4, 0, none⟩) (f.code.length + 1) c') 3 1 (f.code.length + 1) (List.map (Value.int IntKind.i64) os)] wr)) (fun _ i _ => 12 - (intOf i).toNat)
      case atStart => exact ⟨0, 1, os, by omega, rfl, rfl, Lib.hid rfl, by omega, by omega, HO, HP⟩
      case round =>
        clear HP HO
        obtain ⟨r, m, os, hr, rfl, rfl, HM, m1, m2, HO, HP⟩ := hrel
        obtain ⟨wo, rfl⟩ : ∃ wo : World, wo = wr := ⟨_, rfl⟩
        by_cases hlt : r < 12
        · have hm3' : m ≤ 2048 := by
            have h := HM.out
            have h2 := Nat.pow_le_pow_right (n := 2) (show 0 < 2 by decide) (show r ≤ 11 by omega)
            have e : ((2 ^ r : Nat) : Int) = 2 ^ r := by simp
            rw [h, ← e]; omega
          have hlt2 : (r : Int) < 12 := by omega
          go_upto_region 15 with (first | (refine wpList_ldR0 rfl 57 _ rfl HP.out rfl Tryd.underlying57 rfl (by kernel_rfl) ?_) | (go_at_call 61; refine (wayTo_any f funcs _ (r : Int) _ (HP.out.rep (F := ⟨w, Lt w.heap.size⟩) (.tail _ (.head _)) HV.out) HOK.out ⟨by omega, by omega⟩).mono ?_; rintro e w8 ⟨u8, rfl, hu8, hb8⟩; replace HP := Lib.hid (HP.out.call hb8); obtain ⟨A8, c8, rfl, hc8, hm8, hx8⟩ := rep_bools_at hu8; unfold maxLen at hm8; have HX8 := Lib.hid hx8; clear hu8 hx8 hb8))
          obtain ⟨us, hus⟩ : ∃ us, wayL f (r : Int) = us := ⟨_, rfl⟩
          rw [hus] at HX8 hc8
          simp only [hus]
          have HUL := Lib.hid (show us.length = f.code.length + 1 by rw [← hus, wayL_len])
          have HUS := Lib.hid hus
          clear hus
          rw [HUL.out]
          (try simp only [Act.put, List.setIfInBounds_toArray, List.set_cons_zero, List.set_cons_succ])
          go_hide hQ2
          go_loopw [9] (fun i wr => ∃ (pc : Nat) (os2 : List Int), pc ≤ f.code.length + 1 ∧ i = .int .i64 pc ∧ Hid (os2.length = f.code.length + 1 ∧ ∀ q, q < f.code.length + 1 → os2[q]? = some (if q < pc then sureUpto f (r + 1) q else sureUpto f r q)) ∧ Hid (Hp w [{ w := w8, S := Fresh wo w8 }, { w := w3, S := Fresh w1 w3 }, { w := w, S := Lt w.heap.size }] [Res.blk g1 57 [Value.int IntKind.i64 f.params, Value.int IntKind.i64 f.regs, Value.slice A f.code.length c], Res.row (.slice (some ⟨g4, 0, none⟩) (f.code.length + 1) c') 3 1 (f.code.length + 1) (List.map (Value.int IntKind.i64) os2)] wr)) (fun i _ => f.code.length + 1 - (intOf i).toNat)
          case atStart => exact ⟨0, os, by omega, rfl, Lib.hid ⟨HO.out.1, fun q hq => by rw [if_neg (by omega)]; exact HO.out.2 q hq⟩, HP⟩
          case round =>
            clear HP HO
            obtain ⟨pc, os2, hpc, rfl, HO, HP⟩ := hrel
            obtain ⟨wk, rfl⟩ : ∃ wk : World, wk = wr := ⟨_, rfl⟩
            by_cases hple : pc ≤ f.code.length
            · have hkr : pc < rs.length := by rw [HRL.out]; omega
              have hku : pc < us.length := by rw [HUL.out]; omega
              obtain ⟨a3, rfl, hab3, hc3'⟩ := HX3.out pc hkr
              obtain ⟨a8, rfl, hab8, hc8'⟩ := HX8.out pc hku
              have hcb := (HP.out.alike (F := ⟨w3, Fresh w1 w3⟩) (.tail _ (.head _)) (a3.add pc) (by rw [block_of_add]; exact hab3)).trans hc3'
              have hub := (HP.out.alike (F := ⟨w8, Fresh wo w8⟩) (.head _) (a8.add pc) (by rw [block_of_add]; exact hab8)).trans hc8'
              obtain ⟨b, hb⟩ : ∃ b, rs[pc] = b := ⟨_, rfl⟩
              obtain ⟨ub, hub'⟩ : ∃ ub, us[pc] = ub := ⟨_, rfl⟩
              rw [hb] at hcb
              rw [hub'] at hub
              have HB := Lib.hid (show rs.getD pc false = b by rw [List.getD_eq_getElem?_getD, List.getElem?_eq_getElem hkr, hb]; rfl)
              have HUB := Lib.hid (show us.getD pc false = ub by rw [List.getD_eq_getElem?_getD, List.getElem?_eq_getElem hku, hub']; rfl)
              have ho := HO.out.2 pc (by omega)
              rw [if_neg (by omega)] at ho
              obtain ⟨o, ho'⟩ : ∃ o, sureUpto f r pc = o := ⟨_, rfl⟩
              have hor := sureUpto_range f r pc (by omega)
              rw [ho'] at ho hor
              obtain ⟨o1, o2⟩ := hor
              have hco := HP.out.rowCell (.tail _ (.head _)) pc (.int .i64 o) (by rw [List.getElem?_map, ho]; rfl)
              have HOV := Lib.hid ho'
              have HBD := Lib.hid (show pc < (List.map (Value.int IntKind.i64) os2).length by rw [List.length_map, HO.out.1]; omega)
              have hk1 : (pc : Int) < (f.code.length : Int) + 1 := by omega
              have HSS := Lib.hid (sureUpto_succ f r pc)
              have hrel' : ∀ os3 : List Int, os3.length = f.code.length + 1 → (∀ q, q ≠ pc → os3[q]? = os2[q]?) → os3[pc]? = some (sureUpto f (r + 1) pc) → (os3.length = f.code.length + 1 ∧ ∀ q, q < f.code.length + 1 → os3[q]? = some (if q < pc + 1 then sureUpto f (r + 1) q else sureUpto f r q)) := fun os3 h1 h2 h3 => ⟨h1, fun q hq => by
                by_cases e : q = pc
                · subst e; rw [if_pos (by omega)]; exact h3
                · rw [h2 q e, HO.out.2 q hq]
                  by_cases e2 : q < pc
                  · rw [if_pos e2, if_pos (by omega)]
                  · rw [if_neg e2, if_neg (by omega)]⟩
              have HREL := Lib.hid hrel'
              have HOO := Lib.hid ho
              clear hc3' hc8' hb hub' ho ho' hrel'
              cases b
              · go_wp2_with (first | (refine wpList_ld0 rfl 55 _ rfl HP.out rfl rfl Tryd.underlying55 rfl ?_))
                go_roundw
                case rel => exact ⟨pc + 1, os2, by omega, by go_num, Lib.hid (HREL.out os2 HO.out.1 (fun _ _ => rfl) (by rw [HOO.out, HSS.out, HRS.out, HB.out, HOV.out]; simp)), HP⟩
                case measure => simp [intOf]; omega
              · cases ub
                · go_wp2_with (first | (refine wpList_ld0 rfl 55 _ rfl HP.out rfl rfl Tryd.underlying55 rfl ?_) | (refine wpList_stW1 rfl 3 _ _ rfl HP.out rfl rfl HBD.out rfl (List.map_set ..).symm (by kernel_rfl) ?_; clear HP; intro wst HP; replace HP := Lib.hid HP))
                  go_roundw
                  case rel => exact ⟨pc + 1, os2.set pc (o + m), by omega, by go_num, Lib.hid (HREL.out _ (by simp [HO.out.1]) (fun q hq => List.getElem?_set_ne (Ne.symm hq)) (by rw [List.getElem?_set_self (by rw [HO.out.1]; omega), HSS.out, HRS.out, HB.out, HUS.out, HUB.out, HOV.out, HM.out]; rfl)), HP⟩
                  case measure => simp [intOf]; omega
                · go_wp2_with (first | (refine wpList_ld0 rfl 55 _ rfl HP.out rfl rfl Tryd.underlying55 rfl ?_))
                  go_roundw
                  case rel => exact ⟨pc + 1, os2, by omega, by go_num, Lib.hid (HREL.out os2 HO.out.1 (fun _ _ => rfl) (by rw [HOO.out, HSS.out, HRS.out, HB.out, HUS.out, HUB.out, HOV.out]; simp)), HP⟩
                  case measure => simp [intOf]; omega
            · obtain rfl : pc = f.code.length + 1 := by omega
              go_wp2_with (first | (refine wpList_ld0 rfl 55 _ rfl HP.out rfl rfl Tryd.underlying55 rfl ?_))
              subst hQ2
              go_wp2_with fail
              go_roundw
              case rel => exact ⟨r + 1, m * 2, os2, by omega, by go_num, by go_num, Lib.hid (by rw [HM.out, Int.pow_succ]), by omega, by omega, Lib.hid ⟨HO.out.1, fun q hq => by rw [HO.out.2 q hq, if_pos hq]⟩, Lib.hid HP.out.froDrop⟩
              case measure => simp [intOf]; omega
        · obtain rfl : r = 12 := by omega
          go_wp2_with fail
          subst hQ
          go_wp2_with fail
          go_ret
          exact ⟨_, rfl, HP.out.rowInts (.tail _ (.head _)) (congrArg (List.map (Value.int IntKind.i64)) (sureL_of HO.out.1 HO.out.2)), HP.out.below⟩
end Go.Proofs.YtnabeibnaoahmaaDoor
