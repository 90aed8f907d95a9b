/- trim.calls. -/
import Derived.Test.YtfhoffpdodjfeaaDoorCallLaw
import Derived.Test.YtfhoffpdodjfeaaDoorTrimA2
set_option linter.unusedSimpArgs false
set_option linter.unusedVariables false
namespace Go.Proofs.YtfhoffpdodjfeaaDoor
open Go.RowKit Plain64
attribute [local irreducible] wpList Code.wp Oper.wp
set_option maxRecDepth 10000 in
set_option maxHeartbeats 2000000 in
theorem calls_any (p : Prg) (u : Value) (w : World) (hp : Lay.rep w (Lt w.heap.size) p [u]) (hz : prgFault p = 0) (hh : Has w) :
    Calls Tryd.prog 55 #[.agg #[u]] w fun e w' => ∃ v, e = .returned v ∧ Lay.rep w' (Fresh w w') (calledL p) [v] ∧ Below w.heap.size w w' := by
  obtain ⟨A, c, rfl, hc, hm, hx⟩ := rep_prg_at hp
  unfold maxLen at hm
  have HX := Lib.hid hx
  have HR := Lib.hid hp
  have HH := Lib.hid hh
  have HZ := Lib.hid hz
  have HOK := Lib.hid (okP_of hz)
  obtain ⟨n1, n2⟩ := HOK.out.len
  have HST := Lib.hid (InvC.start (p := p) n1)
  clear hx hp hh hz
  obtain ⟨i_int, hi_int, hz_int, hs_int, hy_int⟩ := info_parts info_int
  obtain ⟨i_bool, hi_bool, hz_bool, hs_bool, hy_bool⟩ := info_parts info_bool
  have HP := Lib.hid (Hp.start w)
  go_enter Tryd.func55, Tryd.ntmps55
  go_upto_region 2 with (first | (refine wpList_box_hp (o := ⟨some 1, _, _, _, _, _⟩) rfl _ _ rfl HP.out [_] rfl ?_; clear HP; intro g1 w1 HP; replace HP := Lib.hid HP) | (refine wpList_ld0 rfl 22 _ rfl HP.out rfl rfl Tryd.underlying22 rfl ?_) | (refine wpList_make_hp (o := ⟨some 12, _, _, _, _, _⟩) rfl _ _ _ rfl _ i_bool (.bool false) Tryd.underlying49 hi_bool hz_bool rfl hs_bool p.funcs.length rfl rfl (by rw [hy_bool]; omega) (by unfold maxLen; omega) HP.out ?_; clear HP; intro gm wm HP; replace HP := Lib.hid HP))
  rw [← List.map_replicate] at HP
  have HB0 := Lib.hid (show 0 < (List.map Value.bool (List.replicate p.funcs.length false)).length by simp; omega)
  go_wp2_with (first | (refine wpList_st0 rfl 4 _ _ rfl HP.out rfl rfl HB0.out rfl (List.map_set ..).symm (by kernel_rfl) ?_; clear HP; intro wst HP; replace HP := Lib.hid HP) | (refine wpList_ints_hp rfl 25 3 1 _ rfl HP.out Tryd.underlying25 [_] rfl (by kernel_rfl) ?_; clear HP; intro gi wi HP; replace HP := Lib.hid HP))
  obtain ⟨bs0, hbs0⟩ : ∃ bs0, (List.replicate p.funcs.length false).set 0 true = bs0 := ⟨_, rfl⟩
  rw [hbs0] at HP HST
  have hcnt : bs0.count false ≤ 4 := by have h1 := List.count_le_length (a := false) (l := bs0); have h2 := HST.out.len; omega
  have HP2 : Hid (Hp w [{ w := w, S := Lt w.heap.size }] [Res.row (Value.slice (some ⟨gi, 0, none⟩) (1) 1) 3 1 (1) (tsV [0]), Res.blk gm 4 (List.map Value.bool bs0), Res.blk g1 24 [.slice A p.funcs.length c]] _) := Lib.hid (HP.out.rowOf (A := []) rfl (by unfold maxLen; decide))
  clear HP hbs0 HB0
  go_loopg [4] (2 * bs0.count false + 1) (fun k v wr => ∃ (g cp : Nat) (bs : List Bool) (ts : List Nat), v = .slice (some ⟨g, 0, none⟩) ts.length cp ∧ Hid (InvC p bs ts ∧ k = 2 * bs.count false + ts.length ∧ k ≤ 9) ∧ Hid (Hp w [{ w := w, S := Lt w.heap.size }] [Res.row (Value.slice (some ⟨g, 0, none⟩) (ts.length) cp) 3 1 (ts.length) (tsV ts), Res.blk gm 4 (List.map Value.bool bs), Res.blk g1 24 [.slice A p.funcs.length c]] wr))
  case atStart => exact ⟨gi, 1, _, [0], rfl, Lib.hid ⟨HST.out, rfl, by omega⟩, HP2⟩
  case round =>
    clear HP2 HST hcnt
    obtain ⟨g, cp, bs, ts, rfl, HI, HP⟩ := hrel
    obtain ⟨wo, rfl⟩ : ∃ wo : World, wo = wr := ⟨_, rfl⟩
    by_cases hts : ts = []
    · subst hts
      have hdone := HI.out.1.done
      subst hdone
      go_wp2
      go_ret
      exact ⟨_, rfl, HP.out.bools (.tail _ (.head _)) rfl (by rw [calledL_len]) (by unfold maxLen; omega), HP.out.below⟩
    · obtain ⟨ts0, fn, rfl⟩ : ∃ ts0 fn, ts = ts0 ++ [fn] := ⟨ts.dropLast, ts.getLast hts, (List.dropLast_concat_getLast hts).symm⟩
      clear hts
      obtain ⟨hfl, hfb⟩ := HI.out.1.todo fn (by simp)
      have hlen : (ts0 ++ [fn]).length = ts0.length + 1 := by simp
      rw [hlen] at HP
      rw [hlen]
      obtain ⟨hcp1, hcp2⟩ := HP.out.rowCap (.head _)
      unfold maxLen at hcp2
      have hll : ts0.length + 1 ≤ 9 := by have h1 := HI.out.2.1; have h2 := HI.out.2.2; rw [hlen] at h1; omega
      have htp : (tsV (ts0 ++ [fn]))[ts0.length]? = some (.int .i64 (fn : Int)) := by simp
      have HTP := Lib.hid htp
      clear hlen htp
      obtain ⟨f, hf⟩ : ∃ f, p.funcs[fn]? = some f := ⟨_, List.getElem?_eq_getElem hfl⟩
      have HF := Lib.hid hf
      have HOF := Lib.hid (HOK.out.fns f (List.mem_of_getElem? hf))
      obtain ⟨l1, l2⟩ := HOF.out.len
      clear hf hfb
      go_upto_region 7 with (first | (refine wpList_ldW0 rfl 3 _ rfl HP.out rfl HTP.out Tryd.underlying3 rfl ?_))
      have HP3 : Hid (Hp w [{ w := w, S := Lt w.heap.size }] [Res.row (Value.slice (some ⟨g, 0, none⟩) (ts0.length) cp) 3 1 (ts0.length) (tsV ts0), Res.blk gm 4 (List.map Value.bool bs), Res.blk g1 24 [.slice A p.funcs.length c]] wo) := Lib.hid (by
        have := Hp.rowTake (A := []) HP.out ts0.length (by omega)
        rwa [show (tsV (ts0 ++ [fn])).take ts0.length = tsV ts0 by simp [tsV]] at this)
      clear HP
      have HP := HP3
      clear HP3 HTP
      go_wp2_with (first | (refine wpList_ldR0 rfl 24 _ rfl HP.out rfl Tryd.underlying24 rfl (by kernel_rfl) ?_) | (refine wpList_ldR1 rfl 24 _ rfl HP.out rfl Tryd.underlying24 rfl (by kernel_rfl) ?_) | (refine wpList_ldR2 rfl 24 _ rfl HP.out rfl Tryd.underlying24 rfl (by kernel_rfl) ?_) | (go_at_call 49; refine (twhere_any p _ fn f HF.out _ (HP.out.rep (F := ⟨w, Lt w.heap.size⟩) (by simp) HR.out) HZ.out (HH.out.keep HP.out.below rfl)).mono ?_; rintro e w5 ⟨v5, rfl, hv5, hb5⟩; replace HP := Lib.hid (HP.out.call hb5); obtain ⟨A5, c5, rfl, hc5, hm5, hx5⟩ := rep_ints_at hv5; unfold maxLen at hm5; have HX5 := Lib.hid hx5; clear hv5 hx5 hb5))
      have HX6 : Hid (∀ q, q < f.code.length → ∃ a : Addr, A5 = some a ∧ Fresh wo w5 a.block ∧ w5.cell? (a.add q) = some (.int .i64 (whereZ f q))) := Lib.hid (fun q hq => by
        obtain ⟨a, h1, h2, h3⟩ := HX5.out q (by rw [whereL_len]; exact hq)
        refine ⟨a, h1, h2, ?_⟩
        rw [h3]
        congr 2
        simp [whereL])
      rw [whereL_len] at hc5
      rw [whereL_len]
      obtain ⟨ad, v, rfl, hab, hat, hcode⟩ := HX.out fn hfl
      have hfe : p.funcs[fn] = f := (List.getElem?_eq_some_iff.1 HF.out).2
      rw [hfe] at hat hcode
      clear hfe HX5
      obtain ⟨A4, c4, rfl, hc4, hm4, hx4⟩ := rep_code hcode
      unfold maxLen at hm4
      have HX4 := Lib.hid hx4
      have HAT := Lib.hid hat
      have HAB := Lib.hid hab
      have HBEG := Lib.hid (InvC.pop (f := f) HI.out.1)
      have HK := Lib.hid HI.out.2
      clear hx4 hat hcode hab HI
      have hn1 : (fn : Int) < (p.funcs.length : Int) := by omega
      go_hide hQ
      go_loopw [4, 34] (fun v i wr => ∃ (g2 cp2 : Nat) (bs2 : List Bool) (ts2 : List Nat) (q : Nat), q ≤ f.code.length ∧ v = .slice (some ⟨g2, 0, none⟩) ts2.length cp2 ∧ i = .int .i64 q ∧ Hid (InvD p bs2 ts2 fn f q ∧ 2 * bs2.count false + ts2.length ≤ 2 * bs.count false + ts0.length) ∧ Hid (Hp w [{ w := w5, S := Fresh wo w5 }, { w := w, S := Lt w.heap.size }] [Res.row (Value.slice (some ⟨g2, 0, none⟩) (ts2.length) cp2) 3 1 (ts2.length) (tsV ts2), Res.blk gm 4 (List.map Value.bool bs2), Res.blk g1 24 [.slice (some ad) p.funcs.length c]] wr)) (fun _ i _ => f.code.length - (intOf i).toNat)
      case atStart => exact ⟨g, cp, bs, ts0, 0, by omega, rfl, rfl, Lib.hid ⟨HBEG.out, Nat.le_refl _⟩, HP⟩
      case round =>
        clear HP HBEG
        obtain ⟨g2, cp2, bs2, ts2, q, hq, rfl, rfl, HJ, HP⟩ := hrel
        obtain ⟨wk, rfl⟩ : ∃ wk : World, wk = wr := ⟨_, rfl⟩
        by_cases hlt : q < f.code.length
        · obtain ⟨a5, rfl, hab5, hc5'⟩ := HX6.out q hlt
          have hcw := (HP.out.alike (F := ⟨w5, Fresh wo w5⟩) (.head _) (a5.add q) (by rw [block_of_add]; exact hab5)).trans hc5'
          obtain ⟨a4, rfl, hab4, hat4⟩ := HX4.out q hlt
          obtain ⟨x, hx⟩ : ∃ x, f.code[q] = x := ⟨_, rfl⟩
          rw [hx] at hat4
          have HXS := Lib.hid (show f.code[q]? = some x by rw [← hx, List.getElem?_eq_getElem hlt])
          have HOI := Lib.hid (HOF.out.ins x (hx ▸ List.getElem_mem hlt))
          have HAT4 := Lib.hid hat4
          have hcl := (HP.out.at_ (F := ⟨w, Lt w.heap.size⟩) (by simp) HAT.out (by rw [block_of_add]; exact HAB.out)).fld 1 rfl
          have hlt2 : (q : Int) < (f.code.length : Int) := by omega
          have HWW := Lib.hid (where_way (f := f) (pc := q))
          obtain ⟨o, ho⟩ : ∃ o, whereZ f q = o := ⟨_, rfl⟩
          rw [ho] at hcw HWW
          have HBL := Lib.hid HJ.out.1.len
          clear hc5' hab5 hx hat4 ho
          go_upto_region 11 with (first | (refine wpList_alloc_hp (o := ⟨some 8, _, _, _, _, _⟩) rfl _ rfl HP.out (.agg #[.int .i64 0, .int .i64 0, .int .i64 0, .int .i64 0, .int .i64 0]) (by kernel_rfl) [_, _, _, _, _] rfl ?_; clear HP; intro g8 w8 HP; replace HP := Lib.hid HP) | (refine wpList_ld0 rfl 22 _ rfl HP.out rfl rfl Tryd.underlying22 rfl ?_) | (refine wpList_ld1 rfl 22 _ rfl HP.out rfl rfl Tryd.underlying22 rfl ?_) | (refine wpList_ld2 rfl 22 _ rfl HP.out rfl rfl Tryd.underlying22 rfl ?_) | (refine wpList_ld3 rfl 22 _ rfl HP.out rfl rfl Tryd.underlying22 rfl ?_) | (refine wpList_load_at rfl 85 _ rfl _ rfl _ _ (HP.out.at_ (F := ⟨w, Lt w.heap.size⟩) (by simp) HAT4.out (by rw [block_of_add]; exact hab4)) Tryd.underlying85 rfl (by kernel_rfl) ?_) | (refine wpList_stR0 rfl 85 _ _ rfl HP.out rfl (cs' := [_, _, _, _, _]) rfl rfl (by simp [Value.oneCell']) (by kernel_rfl) ?_; clear HP; intro wst HP; replace HP := Lib.hid HP))
          (try simp only [Act.put, List.setIfInBounds_toArray, List.set_cons_zero, List.set_cons_succ])
          have hop := HP.out.cell (.head _) 0 _ rfl
          have him := HP.out.cell (.head _) 4 _ rfl
          by_cases h0 : 0 ≤ o
          · have HWB := Lib.hid (HWW.out.1 h0)
            by_cases ho : x.op = 17
            · have hopb : (x.op == 17) = true := by simpa using ho
              have HOP := Lib.hid ho
              obtain ⟨c0, c1⟩ := HOI.out.cal ho
              obtain ⟨n, hn⟩ := Int.eq_ofNat_of_zero_le c0
              have HIM := Lib.hid hn
              rw [hn] at him HP c0 c1
              have hnl : n < p.funcs.length := by omega
              obtain ⟨b, hb⟩ : ∃ b, bs2[n]? = some b := ⟨_, List.getElem?_eq_getElem (by rw [HBL.out]; exact hnl)⟩
              have hob := HP.out.cell (.tail _ (.tail _ (.head _))) n (.bool b) (by rw [List.getElem?_map, hb]; rfl)
              have HBV := Lib.hid hb
              have HBD := Lib.hid (show n < (List.map Value.bool bs2).length by rw [List.length_map, HBL.out]; exact hnl)
              clear ho hn hb
              cases b
              · have hcnt := count_set HBV.out
                have hll2 : ts2.length ≤ 9 := by have h1 := HJ.out.2; have h2 := HK.out; simp at h2; omega
                go_wp2_with (first | (refine wpList_ld0 rfl 3 _ rfl HP.out rfl rfl Tryd.underlying3 rfl ?_) | (refine wpList_st2 rfl 4 _ _ rfl HP.out rfl rfl HBD.out rfl (List.map_set ..).symm (by kernel_rfl) ?_; clear HP; intro wst HP; replace HP := Lib.hid HP) | (refine wpList_ints_hp rfl 25 3 1 _ rfl HP.out Tryd.underlying25 [_] rfl (by kernel_rfl) ?_; clear HP; intro gi wi HP; replace HP := Lib.hid HP) | (at_builtin; refine wpList_apg1 rfl _ _ 25 rfl i_int (.int .i64 0) Tryd.underlying25 hi_int hz_int hs_int rfl (by decide) hy_int (ts2.length + 1) rfl HP.out rfl rfl rfl (by simp [Value.oneCell']) (by unfold maxLen; omega) (by omega) (by omega) ?_; clear HP; intro gap cap wap HP; replace HP := Lib.hid HP))
                go_roundw
                case rel =>
                  refine ⟨gap, cap, bs2.set n true, ts2 ++ [n], q + 1, by omega, by simp, by go_num, Lib.hid ⟨HJ.out.1.push HF.out HXS.out HWB.out HOP.out HIM.out hnl, by have := HJ.out.2; simp; omega⟩, Lib.hid ?_⟩
                  have := Hp.drop (A := []) HP.out
                  rw [show tsV ts2 ++ List.map (Value.int IntKind.i64) [(n : Int)] = tsV (ts2 ++ [n]) by simp [tsV]] at this
                  simpa using this
                case measure => simp [intOf]; omega
              · go_wp2_with fail
                go_roundw
                case rel => exact ⟨g2, cp2, bs2, ts2, q + 1, by omega, rfl, by go_num, Lib.hid ⟨HJ.out.1.step HXS.out (fun _ _ => by rw [HIM.out, Int.toNat_natCast]; exact HBV.out), HJ.out.2⟩, Lib.hid (Hp.drop (A := []) HP.out)⟩
                case measure => simp [intOf]; omega
            · have hopb : (x.op == 17) = false := by simpa using ho
              have HOP := Lib.hid ho
              clear ho
              go_wp2_with fail
              go_roundw
              case rel => exact ⟨g2, cp2, bs2, ts2, q + 1, by omega, rfl, by go_num, Lib.hid ⟨HJ.out.1.step HXS.out (fun _ h => absurd h HOP.out), HJ.out.2⟩, Lib.hid (Hp.drop (A := []) HP.out)⟩
              case measure => simp [intOf]; omega
          · have HWB := Lib.hid (show ¬ wayB f q = true from fun h => h0 (HWW.out.2 h))
            go_wp2_with fail
            go_roundw
            case rel => exact ⟨g2, cp2, bs2, ts2, q + 1, by omega, rfl, by go_num, Lib.hid ⟨HJ.out.1.step HXS.out (fun h => absurd h HWB.out), HJ.out.2⟩, Lib.hid (Hp.drop (A := []) HP.out)⟩
            case measure => simp [intOf]; omega
        · obtain rfl : q = f.code.length := by omega
          have HEND := Lib.hid (HJ.out.1.ends HF.out)
          have HJ2 := HJ.out.2
          have hcnt : bs2.count false ≤ 4 := by have h1 := List.count_le_length (a := false) (l := bs2); have h2 := HEND.out.len; omega
          go_wp2_with fail
          subst hQ
          go_wp2_with fail
          go_roundg (2 * bs2.count false + ts2.length)
          case measure => have := HK.out.1; simp at this; omega
          case rel => exact ⟨g2, cp2, bs2, ts2, rfl, Lib.hid ⟨HEND.out, rfl, by have := HK.out; simp at this; omega⟩, Lib.hid HP.out.froDrop⟩
end Go.Proofs.YtfhoffpdodjfeaaDoor
