/- ref.CalledOf. -/
import Derived.Test.YtfhoffpdodjfeaaDoorCallLaw
import Derived.Test.YtfhoffpdodjfeaaDoorTrimB2
set_option linter.unusedSimpArgs false
set_option linter.unusedVariables false
namespace Go.Proofs.YtfhoffpdodjfeaaDoor
open Go.RowKit Plain64
attribute [local irreducible] wpList Code.wp Oper.wp
theorem start_bools {p : Prg} (h : 1 ≤ p.funcs.length) : RndC p ((List.replicate p.funcs.length false).set 0 true) ((List.replicate p.funcs.length false).set 0 true) false := by
  have h1 := InvC.start h
  exact ⟨h1.len, h1.sound, h1.first, fun _ => rfl, fun e => (by cases e)⟩
set_option maxRecDepth 10000 in
set_option maxHeartbeats 2000000 in
theorem CalledOf_any (p : Prg) (u : Value) (w : World) (hp : Lay.rep w (Lt w.heap.size) p [u]) (hz : proven p = 0) :
    Calls Tryd.prog 26 #[.agg #[u]] w fun e w' => ∃ v, e = .returned (.tuple #[v, .int .i64 0]) ∧ Lay.rep w' (Fresh w w') (calledL p) [v] ∧ Below w.heap.size w w' := by
  obtain ⟨A, c, rfl, hc, hm, hx⟩ := rep_prg_at hp
  unfold maxLen at hm
  have HX := Lib.hid hx
  have HR := Lib.hid hp
  have HZ := Lib.hid hz
  have HOK := Lib.hid (okP_of (proven_prg' hz))
  obtain ⟨n1, n2⟩ := HOK.out.len
  have HST := Lib.hid (start_bools (p := p) n1)
  clear hx hp hz
  obtain ⟨i_bool, hi_bool, hz_bool, hs_bool, hy_bool⟩ := info_parts info_bool
  have HP := Lib.hid (Hp.start w)
  go_enter Tryd.func26, Tryd.ntmps26
  have HB0 := Lib.hid (show 0 < (List.map Value.bool (List.replicate p.funcs.length false)).length by simp; omega)
  go_wp2_with (first | (refine wpList_box_hp (o := ⟨some 1, _, _, _, _, _⟩) rfl _ _ rfl HP.out [_] rfl ?_; clear HP; intro g1 w1 HP; replace HP := Lib.hid HP) | (refine wpList_ldR0 rfl 24 _ rfl HP.out rfl Tryd.underlying24 rfl (by kernel_rfl) ?_) | (refine wpList_ld0 rfl 22 _ rfl HP.out rfl rfl Tryd.underlying22 rfl ?_) | (go_at_call 46; refine (Proven_any p _ _ (HP.out.rep (F := ⟨w, Lt w.heap.size⟩) (by simp) HR.out)).mono ?_; rintro e w4 ⟨rfl, hb⟩; replace HP := Lib.hid (HP.out.call0 hb); clear hb; rw [HZ.out]) | (refine wpList_make_hp (o := ⟨some 20, _, _, _, _, _⟩) rfl _ _ _ rfl _ i_bool (.bool false) Tryd.underlying49 hi_bool hz_bool rfl hs_bool p.funcs.length rfl rfl (by rw [hy_bool]; omega) (by unfold maxLen; omega) HP.out ?_; clear HP; intro gm wm HP; replace HP := Lib.hid HP; rw [← List.map_replicate] at HP) | (refine wpList_st0 rfl 4 _ _ rfl HP.out rfl rfl HB0.out rfl (List.map_set ..).symm (by kernel_rfl) ?_; clear HP; intro wst HP; replace HP := Lib.hid HP))
  obtain ⟨bs0, hbs0⟩ : ∃ bs0, (List.replicate p.funcs.length false).set 0 true = bs0 := ⟨_, rfl⟩
  rw [hbs0] at HP HST
  clear hbs0 HB0
  go_loopg [6] (2 * bs0.count false + 1) (fun k v wr => ∃ (b : Bool) (bs : List Bool), v = .bool b ∧ Hid (bs.length = p.funcs.length ∧ SoundC p bs ∧ bs[0]? = some true ∧ (b = false → ∀ g, g < p.funcs.length → ClosedC p bs g) ∧ k = 2 * bs.count false + b.toNat) ∧ Hid (Hp w [{ w := w, S := Lt w.heap.size }] [Res.blk gm 4 (List.map Value.bool bs), Res.blk g1 24 [.slice A p.funcs.length c]] wr))
  case atStart => exact ⟨true, bs0, rfl, Lib.hid ⟨HST.out.len, HST.out.sound, HST.out.first, fun e => (by cases e), rfl⟩, HP⟩
  case round =>
    clear HP HST
    obtain ⟨b, bs, rfl, HB, HP⟩ := hrel
    obtain ⟨wo, rfl⟩ : ∃ wo : World, wo = wr := ⟨_, rfl⟩
    cases b
    · have hw : bs = calledL p := called_closed HB.out.1 HB.out.2.2.1 HB.out.2.1 (HB.out.2.2.2.1 rfl)
      have HW := Lib.hid hw
      clear hw
      go_wp2
      go_ret2
      exact ⟨_, rfl, HP.out.bools (.head _) (by rw [HW.out]) (by rw [calledL_len]) (by unfold maxLen; omega), HP.out.below⟩
    · go_wp2
      go_hide hQ
      go_loopw [6, 7] (fun v i wr => ∃ (b' : Bool) (bs' : List Bool) (fn : Nat), fn ≤ p.funcs.length ∧ v = .bool b' ∧ i = .int .i64 fn ∧ Hid (RndC p bs bs' b') ∧ Hid (b' = false → ∀ g, g < fn → ClosedC p bs' g) ∧ Hid (Hp w [{ w := w, S := Lt w.heap.size }] [Res.blk gm 4 (List.map Value.bool bs'), Res.blk g1 24 [.slice A p.funcs.length c]] wr)) (fun _ i _ => p.funcs.length - (intOf i).toNat)
      case atStart => exact ⟨false, bs, 0, by omega, rfl, rfl, Lib.hid ⟨HB.out.1, HB.out.2.1, HB.out.2.2.1, fun _ => rfl, fun e => (by cases e)⟩, Lib.hid (fun _ g hg => by omega), HP⟩
      case round =>
        clear HP
        obtain ⟨b', bs', fn, hfn, rfl, rfl, HRN, HC, HP⟩ := hrel
        obtain ⟨wi, rfl⟩ : ∃ wi : World, wi = wr := ⟨_, rfl⟩
        by_cases hlt : fn < p.funcs.length
        · have hlt2 : (fn : Int) < (p.funcs.length : Int) := by omega
          obtain ⟨f, hf⟩ : ∃ f, p.funcs[fn]? = some f := ⟨_, List.getElem?_eq_getElem hlt⟩
          have HF := Lib.hid hf
          have HOF := Lib.hid (HOK.out.fns f (List.mem_of_getElem? hf))
          have HANS := Lib.hid (whereAns_in HZ.out hf)
          obtain ⟨l1, l2⟩ := HOF.out.len
          clear hf
          go_wp2_with (first | (refine wpList_ldR0 rfl 24 _ rfl HP.out rfl Tryd.underlying24 rfl (by kernel_rfl) ?_) | (refine wpList_ldR1 rfl 24 _ rfl HP.out rfl Tryd.underlying24 rfl (by kernel_rfl) ?_) | (refine wpList_ld0 rfl 22 _ rfl HP.out rfl rfl Tryd.underlying22 rfl ?_) | (refine wpList_ld1 rfl 22 _ rfl HP.out rfl rfl Tryd.underlying22 rfl ?_) | (go_at_call 20; refine (WhereOf_any p _ (fn : Int) _ (HP.out.rep (F := ⟨w, Lt w.heap.size⟩) (by simp) HR.out)).mono ?_; rintro e w5 ⟨v5, rfl, hv5, hb5⟩; replace HP := Lib.hid (HP.out.call hb5); rw [HANS.out] at hv5; rw [HANS.out]; obtain ⟨A5, c5, rfl, hc5, hm5, hx5⟩ := rep_ints_at hv5; unfold maxLen at hm5; have HX5 := Lib.hid hx5; clear hv5 hx5 hb5))
          have HX6 : Hid (∀ q, q < f.code.length → ∃ a : Addr, A5 = some a ∧ Fresh wi w5 a.block ∧ w5.cell? (a.add q) = some (.int .i64 (whereZ f q))) := Lib.hid (fun q hq => by
            obtain ⟨a, h1, h2, h3⟩ := HX5.out q (by rw [whereL_len]; exact hq)
            refine ⟨a, h1, h2, ?_⟩
            rw [h3]
            congr 2
            simp [whereL])
          rw [whereL_len] at hc5
          rw [whereL_len]
          obtain ⟨ad, v, rfl, hab, hat, hcode⟩ := HX.out fn hlt
          have hfe : p.funcs[fn] = f := (List.getElem?_eq_some_iff.1 HF.out).2
          rw [hfe] at hat hcode
          clear hfe HX5
          obtain ⟨A4, c4, rfl, hc4, hm4, hx4⟩ := rep_code hcode
          unfold maxLen at hm4
          have HX4 := Lib.hid hx4
          have HAT := Lib.hid hat
          have HAB := Lib.hid hab
          clear hx4 hat hcode hab
          (try simp only [Act.put, List.setIfInBounds_toArray, List.set_cons_zero, List.set_cons_succ])
          go_hide hQ2
          go_loopw [6, 10] (fun v i wr => ∃ (b2 : Bool) (bs2 : List Bool) (q : Nat), q ≤ f.code.length ∧ v = .bool b2 ∧ i = .int .i64 q ∧ Hid (RndC p bs bs2 b2) ∧ Hid (b2 = false → ∀ g, g < fn → ClosedC p bs2 g) ∧ Hid (b2 = false → UptoC f bs2 q) ∧ Hid (Hp w [{ w := w5, S := Fresh wi w5 }, { w := w, S := Lt w.heap.size }] [Res.blk gm 4 (List.map Value.bool bs2), Res.blk g1 24 [.slice (some ad) p.funcs.length c]] wr)) (fun _ i _ => f.code.length - (intOf i).toNat)
          case atStart => exact ⟨b', bs', 0, by omega, rfl, rfl, HRN, HC, Lib.hid (fun _ => UptoC.zero _ _), HP⟩
          case round =>
            clear HP HRN HC
            obtain ⟨b2, bs2, q, hq, rfl, rfl, HR2, HC2, HU2, HP⟩ := hrel
            obtain ⟨wk, rfl⟩ : ∃ wk : World, wk = wr := ⟨_, rfl⟩
            have HBL := Lib.hid HR2.out.len
            by_cases hql : q < f.code.length
            · have hql2 : (q : Int) < (f.code.length : Int) := by omega
              obtain ⟨bf, hbf⟩ : ∃ bf, bs2[fn]? = some bf := ⟨_, List.getElem?_eq_getElem (by rw [HBL.out]; exact hlt)⟩
              have HBF := Lib.hid hbf
              have hof := HP.out.cell (.head _) fn (.bool bf) (by rw [List.getElem?_map, hbf]; rfl)
              clear hbf
              cases bf
              · go_wp2_with fail
                subst hQ2
                go_wp2_with fail
                go_roundw
                case rel =>
                    refine ⟨b2, bs2, fn + 1, by omega, rfl, by go_num, HR2, Lib.hid fun e g hg => ?_, Lib.hid HP.out.froDrop⟩
                    by_cases hgf : g < fn
                    · exact HC2.out e g hgf
                    · obtain rfl : g = fn := by omega
                      intro hb; rw [HBF.out] at hb; cases hb
                case measure => simp [intOf]; omega
              · obtain ⟨a5, rfl, hab5, hc5'⟩ := HX6.out q hql
                have HCW := Lib.hid hc5'
                obtain ⟨a4, rfl, hab4, hat4⟩ := HX4.out q hql
                obtain ⟨x, hx⟩ : ∃ x, f.code[q] = x := ⟨_, rfl⟩
                rw [hx] at hat4
                have HXS := Lib.hid (show f.code[q]? = some x by rw [← hx, List.getElem?_eq_getElem hql])
                have HOI := Lib.hid (HOF.out.ins x (hx ▸ List.getElem_mem hql))
                have HAT4 := Lib.hid hat4
                have hcl := (HP.out.at_ (F := ⟨w, Lt w.heap.size⟩) (by simp) HAT.out (by rw [block_of_add]; exact HAB.out)).fld 1 rfl
                have HWW := Lib.hid (where_way (f := f) (pc := q))
                obtain ⟨o, ho⟩ : ∃ o, whereZ f q = o := ⟨_, rfl⟩
                rw [ho] at HCW HWW
                clear hc5' hx hat4 ho
                go_upto_region 17 with (first | (refine wpList_alloc_hp (o := ⟨some 11, _, _, _, _, _⟩) rfl _ rfl HP.out (.agg #[.int .i64 0, .int .i64 0, .int .i64 0, .int .i64 0, .int .i64 0]) (by kernel_rfl) [_, _, _, _, _] rfl ?_; clear HP; intro g11 w11 HP; replace HP := Lib.hid HP) | (refine wpList_ld0 rfl 22 _ rfl HP.out rfl rfl Tryd.underlying22 rfl ?_) | (refine wpList_ld1 rfl 22 _ rfl HP.out rfl rfl Tryd.underlying22 rfl ?_) | (refine wpList_ld2 rfl 22 _ rfl HP.out rfl rfl Tryd.underlying22 rfl ?_) | (refine wpList_ld3 rfl 22 _ rfl HP.out rfl rfl Tryd.underlying22 rfl ?_) | (refine wpList_load_at rfl 85 _ rfl _ rfl _ _ (HP.out.at_ (F := ⟨w, Lt w.heap.size⟩) (by simp) HAT4.out (by rw [block_of_add]; exact hab4)) Tryd.underlying85 rfl (by kernel_rfl) ?_) | (refine wpList_stR0 rfl 85 _ _ rfl HP.out rfl (cs' := [_, _, _, _, _]) rfl rfl (by simp [Value.oneCell']) (by kernel_rfl) ?_; clear HP; intro wst HP; replace HP := Lib.hid HP))
                (try simp only [Act.put, List.setIfInBounds_toArray, List.set_cons_zero, List.set_cons_succ])
                clear hof hcl
                have hop := HP.out.cell (.head _) 0 _ rfl
                have him := HP.out.cell (.head _) 4 _ rfl
                have hcw := (HP.out.alike (F := ⟨w5, Fresh wi w5⟩) (.head _) (a5.add q) (by rw [block_of_add]; exact hab5)).trans HCW.out
                by_cases h0 : 0 ≤ o
                · have HWB := Lib.hid (HWW.out.1 h0)
                  by_cases ho : x.op = 17
                  · have hopb : (x.op == 17) = true := by simpa using ho
                    have HOP := Lib.hid ho
                    obtain ⟨c0, c1⟩ := HOI.out.cal ho
                    obtain ⟨n, hn⟩ := Int.eq_ofNat_of_zero_le c0
                    have HIM := Lib.hid hn
                    rw [hn] at him HP c0 c1
                    have hnl : n < p.funcs.length := by omega
                    obtain ⟨bn, hb⟩ : ∃ bn, bs2[n]? = some bn := ⟨_, List.getElem?_eq_getElem (by rw [HBL.out]; exact hnl)⟩
                    have hob := HP.out.cell (.tail _ (.head _)) n (.bool bn) (by rw [List.getElem?_map, hb]; rfl)
                    have HBV := Lib.hid hb
                    have HBD := Lib.hid (show n < (List.map Value.bool bs2).length by rw [List.length_map, HBL.out]; exact hnl)
                    clear ho hn hb
                    cases bn
                    · go_wp2_with (first | (refine wpList_ld0 rfl 3 _ rfl HP.out rfl rfl Tryd.underlying3 rfl ?_) | (refine wpList_st1 rfl 4 _ _ rfl HP.out rfl rfl HBD.out rfl (List.map_set ..).symm (by kernel_rfl) ?_; clear HP; intro wst HP; replace HP := Lib.hid HP))
                      go_roundw
                      case rel =>
                        refine ⟨true, bs2.set n true, q + 1, by omega, rfl, by go_num, Lib.hid (HR2.out.set HBV.out ?_), Lib.hid (fun e => by cases e), Lib.hid (fun e => by cases e), Lib.hid (Hp.drop (A := []) HP.out)⟩
                        have := CalledP.call (HR2.out.sound fn HBF.out) HF.out HXS.out HWB.out HOP.out
                        rwa [HIM.out, Int.toNat_natCast] at this
                      case measure => simp [intOf]; omega
                    · go_wp2_with fail
                      go_roundw
                      case rel => exact ⟨b2, bs2, q + 1, by omega, rfl, by go_num, HR2, HC2, Lib.hid (fun e => (HU2.out e).step HXS.out (fun _ _ => by rw [HIM.out, Int.toNat_natCast]; exact HBV.out)), Lib.hid (Hp.drop (A := []) HP.out)⟩
                      case measure => simp [intOf]; omega
                  · have hopb : (x.op == 17) = false := by simpa using ho
                    have HOP := Lib.hid ho
                    clear ho
                    go_wp2_with fail
                    go_roundw
                    case rel => exact ⟨b2, bs2, q + 1, by omega, rfl, by go_num, HR2, HC2, Lib.hid (fun e => (HU2.out e).step HXS.out (fun _ h => absurd h HOP.out)), Lib.hid (Hp.drop (A := []) HP.out)⟩
                    case measure => simp [intOf]; omega
                · have HWB := Lib.hid (show ¬ wayB f q = true from fun h => h0 (HWW.out.2 h))
                  go_wp2_with fail
                  go_roundw
                  case rel => exact ⟨b2, bs2, q + 1, by omega, rfl, by go_num, HR2, HC2, Lib.hid (fun e => (HU2.out e).step HXS.out (fun h => absurd h HWB.out)), Lib.hid (Hp.drop (A := []) HP.out)⟩
                  case measure => simp [intOf]; omega
            · obtain rfl : q = f.code.length := by omega
              go_wp2_with fail
              subst hQ2
              go_wp2_with fail
              go_roundw
              case rel =>
                refine ⟨b2, bs2, fn + 1, by omega, rfl, by go_num, HR2, Lib.hid fun e g hg => ?_, Lib.hid HP.out.froDrop⟩
                by_cases hgf : g < fn
                · exact HC2.out e g hgf
                · obtain rfl : g = fn := by omega
                  intro _ f' hf'; rw [HF.out] at hf'; cases hf'; exact HU2.out e
              case measure => simp [intOf]; omega
        · obtain rfl : fn = p.funcs.length := by omega
          go_wp2_with (first | (refine wpList_ld0 rfl 22 _ rfl HP.out rfl rfl Tryd.underlying22 rfl ?_) | (refine wpList_ld1 rfl 22 _ rfl HP.out rfl rfl Tryd.underlying22 rfl ?_))
          subst hQ
          go_wp2_with fail
          have HBB := HB.out
          go_roundg (2 * bs'.count false + b'.toNat)
          case measure =>
            have h1 := HBB.2.2.2.2
            rw [h1]
            cases b'
            · have := HRN.out.no rfl
              rw [this]; simp
            · have := HRN.out.yes rfl
              simp; omega
          case rel => exact ⟨b', bs', rfl, Lib.hid ⟨HRN.out.len, HRN.out.sound, HRN.out.first, HC.out, rfl⟩, HP⟩
end Go.Proofs.YtfhoffpdodjfeaaDoor
