/- ref.WhereOf. -/
import Derived.Test.YtfhoffpdodjfeaaDoorTrimB
import Derived.Test.YtfhoffpdodjfeaaDoorTrimA2
set_option linter.unusedSimpArgs false
set_option linter.unusedVariables false
namespace Go.Proofs.YtfhoffpdodjfeaaDoor
open Go.RowKit Plain64
attribute [local irreducible] wpList Code.wp Oper.wp
set_option maxRecDepth 10000 in
set_option maxHeartbeats 2000000 in
theorem WhereOf_any (p : Prg) (u : Value) (fn : Int) (w : World) (hp : Lay.rep w (Lt w.heap.size) p [u]) :
    Calls Tryd.prog 20 #[.agg #[u], .int .i64 fn] w fun e w' => ∃ v, e = .returned (.tuple #[v, .int .i64 (whereAns p fn).2]) ∧ Lay.rep w' (Fresh w w') (whereAns p fn).1 [v] ∧ Below w.heap.size w w' := by
  obtain ⟨A, c, rfl, hc, hm, hx⟩ := rep_prg_at hp
  unfold maxLen at hm
  have HX := Lib.hid hx
  have HR := Lib.hid hp
  clear hx hp
  have HP := Lib.hid (Hp.start w)
  by_cases hz : fnFault p fn = 0
  · have HZ := Lib.hid hz
    have hzp : proven p = 0 := by
      by_cases h : proven p = 0
      · exact h
      · unfold fnFault at hz; rw [if_pos h] at hz; exact hz
    have hfn : 0 ≤ fn ∧ fn < p.funcs.length := by
      unfold fnFault at hz
      rw [if_neg (by simpa using hzp)] at hz
      by_cases h : fn < 0 ∨ (p.funcs.length : Int) ≤ fn
      · rw [if_pos h] at hz; cases hz
      · omega
    have HOK := Lib.hid (okP_of (proven_prg' hzp))
    have HZP := Lib.hid hzp
    clear hz hzp
    obtain ⟨f1, f2⟩ := hfn
    obtain ⟨k, rfl⟩ := Int.eq_ofNat_of_zero_le f1
    have hkl : k < p.funcs.length := by omega
    obtain ⟨n1, n2⟩ := HOK.out.len
    obtain ⟨ad, v, rfl, hab, hat, hcode⟩ := HX.out k hkl
    obtain ⟨f, hf⟩ : ∃ f, p.funcs[k] = f := ⟨_, rfl⟩
    rw [hf] at hat hcode
    have HANS := Lib.hid (whereAns_in HZP.out (show p.funcs[k]? = some f by rw [← hf, List.getElem?_eq_getElem hkl]))
    have HOF := Lib.hid (HOK.out.fns f (hf ▸ List.getElem_mem hkl))
    clear hf
    have HC := Lib.hid hcode
    obtain ⟨A2, c2, rfl, hc2, hm2, hx2⟩ := rep_code hcode
    unfold maxLen at hm2
    clear hx2 hcode
    obtain ⟨l1, l2⟩ := HOF.out.len
    have HAT := Lib.hid hat
    clear hat
    obtain ⟨i_int, hi_int, hz_int, hs_int, hy_int⟩ := info_parts info_int
    go_enter Tryd.func20, Tryd.ntmps20
    go_upto_region 2 with (first | (refine wpList_box_hp (o := ⟨some 2, _, _, _, _, _⟩) rfl _ _ rfl HP.out [_] rfl ?_; clear HP; intro g2 w2 HP; replace HP := Lib.hid HP) | (refine wpList_ldR0 rfl 24 _ rfl HP.out rfl Tryd.underlying24 rfl (by kernel_rfl) ?_) | (go_at_call 50; refine (functionFault_any p _ _ _ (HP.out.rep (F := ⟨w, Lt w.heap.size⟩) (by simp) HR.out)).mono ?_; rintro e w4 ⟨rfl, hb⟩; replace HP := Lib.hid (HP.out.call0 hb); clear hb; rw [HZ.out]))
    have hfs := HP.out.cell (.head _) 0 _ rfl
    go_wp2_with (first | (refine wpList_alloc_hp (o := ⟨some 7, _, _, _, _, _⟩) rfl _ rfl HP.out (.agg #[.int .i64 0, .int .i64 0, .slice none 0 0]) (by kernel_rfl) [_, _, _] rfl ?_; clear HP; intro g7 w7 HP; replace HP := Lib.hid HP) | (refine wpList_ld0 rfl 22 _ rfl HP.out rfl rfl Tryd.underlying22 rfl ?_) | (refine wpList_ld1 rfl 22 _ rfl HP.out rfl rfl Tryd.underlying22 rfl ?_) | (refine wpList_load_at rfl 72 _ rfl _ rfl _ _ (HP.out.at_ (F := ⟨w, Lt w.heap.size⟩) (by simp) HAT.out (by rw [block_of_add]; exact hab)) Tryd.underlying72 rfl (by kernel_rfl) ?_) | (refine wpList_stR0 rfl 72 _ _ rfl HP.out rfl (cs' := [_, _, _]) rfl rfl (by simp [Value.oneCell']) (by kernel_rfl) ?_; clear HP; intro wst HP; replace HP := Lib.hid HP) | (refine wpList_ldR0 rfl 72 _ rfl HP.out rfl Tryd.underlying72 rfl (by kernel_rfl) ?_) | (refine wpList_ldR1 rfl 72 _ rfl HP.out rfl Tryd.underlying72 rfl (by kernel_rfl) ?_) | (go_at_call 51; refine (wayTo_any f p.funcs.length _ (-1) _ (HP.out.rep (F := ⟨w, Lt w.heap.size⟩) (by simp) HC.out) HOF.out ⟨by omega, by omega⟩).mono ?_; rintro e w8 ⟨u8, rfl, hu8, hb8⟩; replace HP := Lib.hid (HP.out.call hb8); obtain ⟨A8, c8, rfl, hc8, hm8, hx8⟩ := rep_bools_at hu8; unfold maxLen at hm8; have HX8 := Lib.hid hx8; clear hu8 hx8 hb8))
    have HW : Hid (∀ q, q ≤ f.code.length → ∃ a : Addr, A8 = some a ∧ Fresh wst w8 a.block ∧ w8.cell? (a.add q) = some (.bool (wayB f q))) := Lib.hid (fun q hq => by
      obtain ⟨a, h1, h2, h3⟩ := HX8.out q (by rw [wayL_len]; omega)
      refine ⟨a, h1, h2, ?_⟩
      rw [h3]
      congr 2
      unfold wayB
      rw [List.getD_eq_getElem?_getD, List.getElem?_eq_getElem]
      rfl)
    rw [wayL_len] at hc8
    rw [wayL_len]
    have HPn := Lib.hid (HP.out.nil 3 1)
    clear HP HX8 hfs hab
    go_loopw [9, 10] (fun o i wr => ∃ (pc : Nat) (A' : Option Addr) (c' : Nat), pc ≤ f.code.length ∧ o = .slice A' pc c' ∧ i = .int .i64 pc ∧ Hid (Hp w [{ w := w8, S := Fresh wst w8 }, { w := w, S := Lt w.heap.size }] [Res.row (.slice A' pc c') 3 1 pc (List.map (Value.int IntKind.i64) ((whereL f).take pc)), Res.blk g7 72 [.int .i64 f.params, .int .i64 f.regs, .slice A2 f.code.length c2], Res.blk g2 24 [.slice (some ad) p.funcs.length c]] wr)) (fun _ i _ => f.code.length - (intOf i).toNat)
    case atStart => exact ⟨0, none, 0, by omega, rfl, rfl, HPn⟩
    case round =>
      clear HPn
      obtain ⟨pc, A', c', hpc, rfl, rfl, HP⟩ := hrel
      obtain ⟨wo, rfl⟩ : ∃ wo : World, wo = wr := ⟨_, rfl⟩
      by_cases hlt : pc < f.code.length
      · have hlt2 : (pc : Int) < (f.code.length : Int) := by omega
        have HTK := Lib.hid (show (whereL f).take (pc + 1) = (whereL f).take pc ++ [whereZ f pc] by rw [List.take_add_one, whereL, List.getElem?_map, List.getElem?_range hlt]; rfl)
        obtain ⟨a8, rfl, hab8, hc8'⟩ := HW.out pc hpc
        have hcw := (HP.out.alike (F := ⟨w8, Fresh wst w8⟩) (.head _) (a8.add pc) (by rw [block_of_add]; exact hab8)).trans hc8'
        have hlw : (pc : Int) < (f.code.length : Int) + 1 := by omega
        clear hc8' hab8
        obtain ⟨b, hb⟩ : ∃ b, wayB f pc = b := ⟨_, rfl⟩
        rw [hb] at hcw
        have HB := Lib.hid hb
        clear hb
        cases b
        · have hz := whereZ_no HB.out
          rw [hz] at HTK
          clear hz
          go_wp2_with (first | (refine wpList_ld0 rfl 70 _ rfl HP.out rfl rfl Tryd.underlying70 rfl ?_) | (refine wpList_ld1 rfl 70 _ rfl HP.out rfl rfl Tryd.underlying70 rfl ?_) | (refine wpList_ld0 rfl 70 _ rfl HP.out rfl rfl Tryd.underlying70 rfl ?_) | (refine wpList_ld1 rfl 70 _ rfl HP.out rfl rfl Tryd.underlying70 rfl ?_) | (refine wpList_ld2 rfl 70 _ rfl HP.out rfl rfl Tryd.underlying70 rfl ?_) | (refine wpList_ints_hp rfl 25 3 1 _ rfl HP.out Tryd.underlying25 [_] rfl (by kernel_rfl) ?_; clear HP; intro gi wi HP; replace HP := Lib.hid HP) | (at_builtin; refine wpList_apg0 rfl _ _ 25 rfl i_int (.int .i64 0) Tryd.underlying25 hi_int hz_int hs_int rfl (by decide) hy_int (pc + 1) rfl HP.out rfl rfl rfl (by simp [Value.oneCell']) (by unfold maxLen; omega) (by omega) (by omega) ?_; clear HP; intro gap cap wap HP; replace HP := Lib.hid HP))
          go_roundw
          case rel => exact ⟨pc + 1, _, _, by omega, rfl, by go_num, Lib.hid (by rw [HTK.out, List.map_append]; exact HP.out)⟩
          case measure => simp [intOf]; omega
        · have hz := whereZ_yes HB.out
          rw [hz] at HTK
          clear hz
          go_wp2_with (first | (refine wpList_ld0 rfl 70 _ rfl HP.out rfl rfl Tryd.underlying70 rfl ?_) | (refine wpList_ld1 rfl 70 _ rfl HP.out rfl rfl Tryd.underlying70 rfl ?_) | (refine wpList_ld0 rfl 70 _ rfl HP.out rfl rfl Tryd.underlying70 rfl ?_) | (refine wpList_ld1 rfl 70 _ rfl HP.out rfl rfl Tryd.underlying70 rfl ?_) | (refine wpList_ld2 rfl 70 _ rfl HP.out rfl rfl Tryd.underlying70 rfl ?_))
          clear hcw
          go_hide hQ
          go_loopw [11, 12] (fun n t wr => ∃ j : Nat, j ≤ pc ∧ n = .int .i64 (cntW f j : Nat) ∧ t = .int .i64 j ∧ Hid (Hp w [{ w := w8, S := Fresh wst w8 }, { w := w, S := Lt w.heap.size }] [Res.row (.slice A' pc c') 3 1 pc (List.map (Value.int IntKind.i64) ((whereL f).take pc)), Res.blk g7 72 [.int .i64 f.params, .int .i64 f.regs, .slice A2 f.code.length c2], Res.blk g2 24 [.slice (some ad) p.funcs.length c]] wr)) (fun _ t _ => pc - (intOf t).toNat)
          case atStart => exact ⟨0, by omega, rfl, rfl, HP⟩
          case round =>
            clear HP
            obtain ⟨j, hj, rfl, rfl, HP⟩ := hrel
            obtain ⟨wi, rfl⟩ : ∃ wi : World, wi = wr := ⟨_, rfl⟩
            have hcl := cntW_le f j
            have HCS := Lib.hid (show cntW f (j + 1) = cntW f j + (wayB f j).toNat from rfl)
            obtain ⟨n, hn⟩ : ∃ n, cntW f j = n := ⟨_, rfl⟩
            rw [hn] at hcl HCS
            rw [hn]
            have HN := Lib.hid hn
            clear hn
            by_cases hjl : j < pc
            · obtain ⟨a9, ha9, hab9, hc9⟩ := HW.out j (by omega)
              cases ha9
              have hcj := (HP.out.alike (F := ⟨w8, Fresh wst w8⟩) (.head _) (a8.add j) (by rw [block_of_add]; exact hab9)).trans hc9
              have hjw : (j : Int) < (f.code.length : Int) + 1 := by omega
              have hjp : (j : Int) < (pc : Int) := by omega
              obtain ⟨bj, hbj⟩ : ∃ bj, wayB f j = bj := ⟨_, rfl⟩
              rw [hbj] at hcj HCS
              clear hc9 hab9 hbj
              cases bj
              all_goals
                go_wp2_with fail
                go_roundw
                case rel => exact ⟨j + 1, by omega, by rw [HCS.out]; go_num, by go_num, HP⟩
                case measure => simp [intOf]; omega
            · obtain rfl : j = pc := by omega
              rw [HN.out] at HTK
              go_wp2_with fail
              subst hQ
              go_wp2_with (first | (refine wpList_ints_hp rfl 25 3 1 _ rfl HP.out Tryd.underlying25 [_] rfl (by kernel_rfl) ?_; clear HP; intro gi wi HP; replace HP := Lib.hid HP) | (at_builtin; refine wpList_apg0 rfl _ _ 25 rfl i_int (.int .i64 0) Tryd.underlying25 hi_int hz_int hs_int rfl (by decide) hy_int (j + 1) rfl HP.out rfl rfl rfl (by simp [Value.oneCell']) (by unfold maxLen; omega) (by omega) (by omega) ?_; clear HP; intro gap cap wap HP; replace HP := Lib.hid HP))
              go_roundw
              case rel => exact ⟨j + 1, _, _, by omega, rfl, by go_num, Lib.hid (by rw [HTK.out, List.map_append]; exact HP.out)⟩
              case measure => simp [intOf]; omega
      · obtain rfl : pc = f.code.length := by omega
        have hall : (whereL f).take f.code.length = whereL f := List.take_of_length_le (by rw [whereL_len]; omega)
        rw [hall] at HP
        go_wp2_with (first | (refine wpList_ld0 rfl 70 _ rfl HP.out rfl rfl Tryd.underlying70 rfl ?_) | (refine wpList_ld1 rfl 70 _ rfl HP.out rfl rfl Tryd.underlying70 rfl ?_) | (refine wpList_ld0 rfl 70 _ rfl HP.out rfl rfl Tryd.underlying70 rfl ?_) | (refine wpList_ld1 rfl 70 _ rfl HP.out rfl rfl Tryd.underlying70 rfl ?_) | (refine wpList_ld2 rfl 70 _ rfl HP.out rfl rfl Tryd.underlying70 rfl ?_))
        go_ret2
        exact ⟨_, by rw [HANS.out]; rfl, by rw [HANS.out]; exact HP.out.rowInts (.head _) rfl, HP.out.below⟩
  · obtain ⟨e0, he0⟩ : ∃ e0, fnFault p fn = e0 := ⟨_, rfl⟩
    have hans : whereAns p fn = ([], e0) := by
      by_cases h1 : proven p = 0
      · by_cases h2 : fn < 0 ∨ (p.funcs.length : Int) ≤ fn
        · rw [whereAns_out h1 h2, ← he0]; unfold fnFault; rw [if_neg (by simpa using h1), if_pos h2]
        · exfalso; apply hz; unfold fnFault; rw [if_neg (by simpa using h1), if_neg h2]
      · rw [whereAns_bad h1, ← he0]; unfold fnFault; rw [if_pos h1]
    have HANS := Lib.hid hans
    rw [he0] at hz
    have HE0 := Lib.hid he0
    have hzb : (e0 != 0) = true := by simpa using hz
    clear he0 hz hans
    go_enter Tryd.func20, Tryd.ntmps20
    go_wp2_with (first | (refine wpList_box_hp (o := ⟨some 2, _, _, _, _, _⟩) rfl _ _ rfl HP.out [_] rfl ?_; clear HP; intro g2 w2 HP; replace HP := Lib.hid HP) | (refine wpList_ldR0 rfl 24 _ rfl HP.out rfl Tryd.underlying24 rfl (by kernel_rfl) ?_) | (go_at_call 50; refine (functionFault_any p _ _ _ (HP.out.rep (F := ⟨w, Lt w.heap.size⟩) (by simp) HR.out)).mono ?_; rintro e w4 ⟨rfl, hb⟩; replace HP := Lib.hid (HP.out.call0 hb); clear hb; rw [HE0.out]))
    go_ret2
    exact ⟨_, by rw [HANS.out]; rfl, by rw [HANS.out]; exact rep_ints_nil, HP.out.below⟩
end Go.Proofs.YtfhoffpdodjfeaaDoor
