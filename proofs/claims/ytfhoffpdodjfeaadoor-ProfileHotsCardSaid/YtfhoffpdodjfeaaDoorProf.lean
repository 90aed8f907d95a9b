/- profile.Counts. -/
import Derived.Test.YtfhoffpdodjfeaaDoorProfLaw
import Derived.Test.YtfhoffpdodjfeaaDoorMgPrNestNestB3
import Derived.Test.YtfhoffpdodjfeaaDoorNext
import Derived.Test.YtfhoffpdodjfeaaDoorBeginA
import Derived.Test.YtfhoffpdodjfeaaDoorMgBegLawNextAnsRunLawRunLawBBegRun5
set_option linter.unusedSimpArgs false
set_option linter.unusedVariables false
namespace Go.Proofs.YtfhoffpdodjfeaaDoor
open Go.RowKit Plain64
attribute [local irreducible] wpList Code.wp Oper.wp
set_option maxRecDepth 100000 in
set_option maxHeartbeats 4000000 in
theorem Counts_any (p : Prg) (v : Value) (xs ys : List Int) (u1 u2 : Value) (fuel : Int) (w : World) (hp : Lay.rep w (Lt w.heap.size) p [v]) (hx : Lay.rep w (Lt w.heap.size) xs [u1]) (hy : Lay.rep w (Lt w.heap.size) ys [u2]) (him : ∀ f ∈ p.funcs, ∀ x ∈ f.code, I64 x.imm) (hxi : ∀ x ∈ xs, I64 x) (hyi : ∀ y ∈ ys, I64 y) (hh : Has w) :
    Calls Tryd.prog 39 #[.agg #[v], u1, u2, .int .i64 fuel] w fun r w' => ∃ v', r = .returned (.tuple #[v', .int .i64 (countsAns p xs ys fuel).2]) ∧ Lay.rep w' (Fresh w w') (countsAns p xs ys fuel).1 [v'] ∧ Below w.heap.size w w' := by
  obtain ⟨A, cP, rfl, hcP, hmP, hxP⟩ := rep_prg_at hp
  unfold maxLen at hmP
  have HXP := Lib.hid hxP
  clear hxP
  have HR := Lib.hid hp
  have HX := Lib.hid hx
  have HY := Lib.hid hy
  have HH := Lib.hid hh
  have HIM := Lib.hid him
  have HXI := Lib.hid hxi
  have HYI := Lib.hid hyi
  clear hp hx hy hh him hxi hyi
  have HP := Lib.hid (Hp.start w)
  obtain ⟨i_int, hi_int, hz_int, hs_int, hy_int⟩ := info_parts info_int
  obtain ⟨i_ints, hi_ints, hz_ints, hs_ints, hy_ints⟩ := info_parts info_ints
  by_cases hz : (begunAns p xs ys fuel).2 = 0
  · obtain ⟨hb1, hpz, hyl, hfu⟩ := begun_ok hz
    obtain ⟨s0, hs0⟩ : ∃ s0, (begunAns p xs ys fuel).1 = s0 := ⟨_, rfl⟩
    have HANS := Lib.hid (show countsAns p xs ys fuel = (cntL p (trS p s0), 0) by unfold countsAns; rw [if_neg (by simpa using hz), hs0])
    have HRUN := Lib.hid (show RunX p s0 by rw [← hs0, hb1]; exact beg_runX hpz HXI.out HYI.out hyl hfu)
    have HS0 := Lib.hid hs0
    have HPZ := Lib.hid hpz
    have ok := okP_of (proven_prg hpz)
    have HOK := Lib.hid ok
    obtain ⟨n1, n2⟩ := ok.len
    have HTL := Lib.hid (show (trS p s0).length ≤ 10001 by have h1 := trS_len p s0; have h2 := HRUN.out.run.fuel; omega)
    have HZ := Lib.hid hz
    clear hb1 hpz hyl hfu hz ok hs0
    go_enter Tryd.func39, Tryd.ntmps39
    go_upto_region 2 with (first | (refine wpList_alloc_hp (o := ⟨some 10, _, _, _, _, _⟩) rfl _ rfl HP.out (.agg #[.int .i64 0, .int .i64 0, .slice none 0 0, .int .i64 0, .int .i64 0, .int .i64 0, .int .i64 0, .int .i64 0, .int .i64 0, .int .i64 0, .int .i64 0, .int .i64 0, .int .i64 0, .int .i64 0, .int .i64 0, .int .i64 0, .int .i64 0, .int .i64 0, .int .i64 0, .int .i64 0, .slice none 0 0, .slice none 0 0]) (by kernel_rfl) [_, _, _, _, _, _, _, _, _, _, _, _, _, _, _, _, _, _, _, _, _, _] rfl ?_; clear HP; intro g10 w10 HP; replace HP := Lib.hid HP) | (refine wpList_box_hp (o := ⟨some 4, _, _, _, _, _⟩) rfl _ _ rfl HP.out [_] rfl ?_; clear HP; intro g4 w4 HP; replace HP := Lib.hid HP) | (refine wpList_ldR1 rfl 24 _ rfl HP.out rfl Tryd.underlying24 rfl (by kernel_rfl) ?_) | (refine wpList_ldR0 rfl 24 _ rfl HP.out rfl Tryd.underlying24 rfl (by kernel_rfl) ?_) | (go_at_call 14; refine (Begin_any p _ xs ys _ _ fuel _ (HP.out.rep (F := ⟨w, Lt w.heap.size⟩) (by simp) HR.out) (HP.out.rep (F := ⟨w, Lt w.heap.size⟩) (by simp) HX.out) (HP.out.rep (F := ⟨w, Lt w.heap.size⟩) (by simp) HY.out) (HH.out.keep HP.out.below rfl)).mono ?_; rintro r1 w5 hbg; rw [HZ.out, HS0.out] at hbg; obtain ⟨ua, ea, aa, rfl, hf, he, ha, hb⟩ := hbg; replace HP := Lib.hid (HP.out.call hb); have HF1 := Lib.hid hf; have HE1 := Lib.hid he; have HA1 := Lib.hid ha; obtain ⟨Af1, cf1, rfl, -, -, -⟩ := rep_frames_at hf; obtain ⟨Ae1, ce1, rfl, -, -, -⟩ := rep_ints_at he; obtain ⟨Aa1, ca1, rfl, -, -, -⟩ := rep_ints_at ha; clear hb hf he ha) | (refine wpList_stR0 rfl 29 _ _ rfl HP.out rfl (cs' := staCells s0 (.slice Af1 s0.frames.length cf1) (.slice Ae1 s0.events.length ce1) (.slice Aa1 s0.answers.length ca1)) rfl rfl (by simp [staCells, Value.oneCell']) (by kernel_rfl) ?_; clear HP; intro wst HP; replace HP := Lib.hid HP))
    obtain ⟨G, HP, HRP⟩ : ∃ G : Fro, Hid (Hp w [G, { w := w, S := Lt w.heap.size }] [.blk g10 29 (staCells s0 (.slice Af1 s0.frames.length cf1) (.slice Ae1 s0.events.length ce1) (.slice Aa1 s0.answers.length ca1)), .blk g4 24 [(.slice A p.funcs.length cP)]] _) ∧ Hid (Lay.rep G.w G.S s0.frames [.slice Af1 s0.frames.length cf1] ∧ Lay.rep G.w G.S s0.events [.slice Ae1 s0.events.length ce1] ∧ Lay.rep G.w G.S s0.answers [.slice Aa1 s0.answers.length ca1]) := ⟨_, HP, Lib.hid ⟨HF1.out, HE1.out, HA1.out⟩⟩
    obtain ⟨F1, hF1⟩ : ∃ F1, Value.slice Af1 s0.frames.length cf1 = F1 := ⟨_, rfl⟩
    obtain ⟨E1, hE1⟩ : ∃ E1, Value.slice Ae1 s0.events.length ce1 = E1 := ⟨_, rfl⟩
    obtain ⟨A1, hA1⟩ : ∃ A1, Value.slice Aa1 s0.answers.length ca1 = A1 := ⟨_, rfl⟩
    rw [hF1, hE1, hA1] at HP HRP
    clear hF1 hE1 hA1 HF1 HE1 HA1
    go_upto_region 5 with (first | (refine wpList_ld1 rfl 22 _ rfl HP.out rfl rfl Tryd.underlying22 rfl ?_) | (refine wpList_ld0 rfl 22 _ rfl HP.out rfl rfl Tryd.underlying22 rfl ?_) | (refine wpList_make_hp (o := ⟨some 32, _, _, _, _, _⟩) rfl _ _ _ rfl _ i_ints (.slice none 0 0) Tryd.underlying63 hi_ints hz_ints rfl hs_ints p.funcs.length rfl rfl (by rw [hy_ints]; omega) (by unfold maxLen; omega) HP.out ?_; clear HP; intro gm32 wm32 HP; replace HP := Lib.hid HP))
    go_wp2_with (first | (refine wpList_ld2 rfl 22 _ rfl HP.out rfl rfl Tryd.underlying22 rfl ?_))
    go_loopw [36] (fun i wr => ∃ (q : Nat) (gs : List Nat), q ≤ p.funcs.length ∧ i = .int .i64 q ∧ Hid (gs.length = q) ∧ Hid (Hp w [G, { w := w, S := Lt w.heap.size }] (.blk gm32 25 (nestV gs (zerL p q) ++ List.replicate (p.funcs.length - q) (Value.slice none 0 0)) :: .blk g10 29 (staCells s0 F1 E1 A1) :: .blk g4 24 [(.slice A p.funcs.length cP)] :: nestB 3 gs (zerL p q)) wr)) (fun i _ => p.funcs.length - (intOf i).toNat)
    case atStart => exact ⟨0, [], by omega, rfl, Lib.hid rfl, HP⟩
    case round =>
      clear HP
      obtain ⟨q, gs, hq, rfl, HG, HP⟩ := hrel
      obtain ⟨wo, rfl⟩ : ∃ wo : World, wo = wr := ⟨_, rfl⟩
      by_cases hlt : q < p.funcs.length
      · have hlt2 : (q : Int) < (p.funcs.length : Int) := by omega
        obtain ⟨ad, v, rfl, hab, hat, hcode⟩ := HXP.out q hlt
        obtain ⟨f, hf⟩ : ∃ f, p.funcs[q] = f := ⟨_, rfl⟩
        rw [hf] at hat hcode
        have HF := Lib.hid (show codeN p q = f.code.length by rw [← hf]; exact codeN_eq (List.getElem?_eq_getElem hlt))
        have HOF := Lib.hid (HOK.out.fns f (hf ▸ List.getElem_mem hlt))
        obtain ⟨l1, l2⟩ := HOF.out.len
        clear hf
        obtain ⟨A2, c2, rfl, hc2, hm2, hx2⟩ := rep_code hcode
        unfold maxLen at hm2
        have HAT := Lib.hid hat
        clear hat hx2 hcode
        go_wp2_with (first | (refine wpList_load_at rfl 72 _ rfl _ rfl _ _ (HP.out.at_ (F := ⟨w, Lt w.heap.size⟩) (by simp) HAT.out (by rw [block_of_add]; exact hab)) Tryd.underlying72 rfl (by kernel_rfl) ?_) | (refine wpList_alloc_hp (o := ⟨some 14, _, _, _, _, _⟩) rfl _ rfl HP.out (.agg #[.int .i64 0, .int .i64 0, .slice none 0 0]) (by kernel_rfl) [_, _, _] rfl ?_; clear HP; intro g14 w14 HP; replace HP := Lib.hid HP) | (refine wpList_stR0 rfl 72 _ _ rfl HP.out rfl (cs' := [_, _, _]) rfl rfl (by simp [Value.oneCell']) (by kernel_rfl) ?_; clear HP; intro wst HP; replace HP := Lib.hid HP) | (refine wpList_ld0 rfl 70 _ rfl HP.out rfl rfl Tryd.underlying70 rfl ?_) | (refine wpList_make_hp (o := ⟨some 46, _, _, _, _, _⟩) rfl _ _ _ rfl _ i_int (.int .i64 0) Tryd.underlying25 hi_int hz_int rfl hs_int f.code.length rfl rfl (by rw [hy_int]; omega) (by unfold maxLen; omega) HP.out ?_; clear HP; intro gm46 wm46 HP; replace HP := Lib.hid HP) | (refine wpList_st2 rfl 25 _ _ rfl HP.out rfl rfl (nest_putLen HG.out (zerL_len p q) hlt) rfl (nest_put (xs := List.replicate f.code.length 0) HG.out (zerL_len p q) hlt (List.length_replicate ..)) (by kernel_rfl) ?_; clear HP; intro wst HP; replace HP := Lib.hid HP))
        rw [← List.map_replicate] at HP
        have HP2 := Lib.hid (Hp.nestSnoc (L := [_, _, _]) (by rw [HG.out, zerL_len]) (Hp.drop (A := [_]) HP.out))
        rw [← HF.out, ← zerL_succ] at HP2
        go_roundw
        case rel => exact ⟨q + 1, _, by omega, by go_num, Lib.hid (by rw [List.length_append, HG.out]; rfl), HP2⟩
        case measure => simp [intOf]; omega
      · obtain rfl : q = p.funcs.length := by omega
        rw [Nat.sub_self, List.replicate_zero, List.append_nil, zerL_all] at HP
        go_wp2
        go_loopw [17] (fun _ wr => ∃ (t : Sta) (F E A9 : Value) (G : Fro) (Tr : List (Nat × Nat)), Hid (RunX p t ∧ Tr ++ trS p t = trS p s0) ∧ Hid (Lay.rep G.w G.S t.frames [F] ∧ Lay.rep G.w G.S t.events [E] ∧ Lay.rep G.w G.S t.answers [A9]) ∧ Hid (Hp w [G, { w := w, S := Lt w.heap.size }] (.blk gm32 25 (nestV gs (cntL p Tr)) :: .blk g10 29 (staCells t F E A9) :: .blk g4 24 [(.slice A p.funcs.length cP)] :: nestB 3 gs (cntL p Tr)) wr)) (fun _ wr => profMu g10 wr)
        case atStart => exact ⟨s0, F1, E1, A1, G, [], Lib.hid ⟨HRUN.out, rfl⟩, HRP, HP⟩
        case round =>
          clear HP HRP
          obtain ⟨t, F, E, A9, G3, Tr, HI, HRP, HP⟩ := hrel
          obtain ⟨wo, rfl⟩ : ∃ wo : World, wo = wr := ⟨_, rfl⟩
          have HM := Lib.hid (profMu_of (n := t.fuel) (m := t.status) (HP.out.cell (.tail _ (.head _)) 19 _ rfl) (HP.out.cell (.tail _ (.head _)) 0 _ rfl))
          by_cases hst : t.status = 0
          · obtain ⟨fs, f, hfr⟩ := frames_last (HI.out.1.run.top hst)
            have hsb : (t.status == 0) = true := by simpa using hst
            have HST := Lib.hid hst
            have HN := Lib.hid (HI.out.1.next HPZ.out HIM.out hst hfr)
            have HTR := Lib.hid (show (Tr ++ stepT p t fs f) ++ trS p (nextOf p t fs f) = trS p s0 by rw [List.append_assoc, ← trS_next hfr hst HI.out.1.run.fuel.1]; exact HI.out.2)
            have HNA := Lib.hid (nextAns_run (HI.out.1.fault HPZ.out hst) hst hfr)
            obtain ⟨k, j, hk, hj, hpl, hkl, hjl⟩ := rch_plc (HI.out.1.run.rch f (by rw [hfr]; simp))
            obtain ⟨q, hq⟩ : ∃ q, fs.length = q := ⟨_, rfl⟩
            obtain ⟨A3, c3, rfl, hc3, hm3, hx3⟩ := rep_frames_at HRP.out.1
            have hx4 : ∃ ad, A3 = some ad ∧ G3.S ad.block ∧ At G3.w (ad.add (q * 14)) (frmCells f) := by
              have hl : q < t.frames.length := by rw [hfr]; simp [hq]
              obtain ⟨ad, e1, e2, e3⟩ := hx3 q hl
              have hlast : t.frames[q] = f := by simp [hfr, ← hq]
              exact ⟨ad, e1, e2, by rw [hlast] at e3; exact e3⟩
            obtain ⟨ad3, rfl, habf, hatf⟩ := hx4
            have HLQ := Lib.hid (show t.frames.length = q + 1 by rw [hfr]; simp [hq])
            have hqe : q ≤ 8 := by have h1 := HI.out.1.run.len; have h2 := HLQ.out; omega
            have hqc : q + 1 ≤ c3 := by have h2 := HLQ.out; omega
            obtain ⟨fn0, pc0, rg0⟩ := f
            obtain rfl : fn0 = (k : Int) := hk
            obtain rfl : pc0 = (j : Int) := hj
            have HATF := Lib.hid hatf
            have HABF := Lib.hid habf
            have HSTEP := Lib.hid (cntL_step p Tr (s := t) (fs := fs) (f := ⟨(k : Int), (j : Int), rg0⟩) rfl rfl hkl hjl)
            have HMU := Lib.hid (stepT_mu (p := p) (s := t) (fs := fs) (f := ⟨(k : Int), (j : Int), rg0⟩) HI.out.1.run.fuel.1 HN.out.run.fuel.1)
            obtain ⟨N, hN⟩ : ∃ N, nextOf p t fs ⟨(k : Int), (j : Int), rg0⟩ = N := ⟨_, rfl⟩
            rw [hN] at HN HTR HNA HSTEP HMU
            obtain ⟨n3, n4⟩ := HI.out.1.run.fuel
            obtain ⟨n5, n6⟩ := HN.out.run.fuel
            have hlen := HI.out.1.run.len
            have hans := HI.out.1.run.ans
            have hev := HI.out.1.run.ev
            have hfo : N.fuel = t.fuel ∨ N.fuel = t.fuel - 1 := by rw [← hN]; exact next_fuel_or
            have HLM := Lib.hid (And.intro (show t.frames.length ≤ 1256584717421 by omega) (And.intro (show t.events.length ≤ 17592186043999 by omega) (show t.answers.length ≤ 17592186043999 by omega)))
            have hlq2 : IntKind.i64.wrap ((t.frames.length : Int) - 1) = (q : Int) := by rw [IntKind.wrap_i64, HLQ.out]; omega
            have hlq3 : (t.frames.length : Int) - 1 = (q : Int) := by rw [HLQ.out]; omega
            have hlq4 : (q : Int) < (t.frames.length : Int) := by rw [HLQ.out]; omega
            have hlq5 : q < t.frames.length := by rw [HLQ.out]; omega
            have hcr := count_le Tr (k, j)
            have htl : Tr.length ≤ 10001 := by have h1 := HTL.out; rw [← HI.out.2, List.length_append] at h1; omega
            obtain ⟨c0, hc0⟩ : ∃ c0 : Int, (Tr.count (k, j) : Int) = c0 := ⟨_, rfl⟩
            have hc1 : 0 ≤ c0 ∧ c0 ≤ 10001 := by omega
            have HRJ := Lib.hid (show ((cntR Tr k (codeN p k)).map (Value.int .i64))[j]? = some (.int .i64 c0) by rw [List.getElem?_map, cntR_get _ hjl, hc0]; rfl)
            have hrow := cntL_get p Tr hkl
            obtain ⟨gk, hgk⟩ : ∃ gk, gs[k]? = some gk := ⟨gs[k]'(by rw [HG.out]; exact hkl), List.getElem?_eq_getElem _⟩
            have HVK := Lib.hid (nestV_get hgk hrow)
            rw [hc0] at HSTEP
            have hrl : (cntR Tr k (codeN p k)).length = codeN p k := cntR_len ..
            have hvs : ∀ xs' : List Int, xs'.length = codeN p k → nestV gs ((cntL p Tr).set k xs') = nestV gs (cntL p Tr) := fun xs' h => nestV_set (by rw [h, hrl]) hrow
            have HVS := Lib.hid (show nestV gs (cntL p (Tr ++ stepT p t fs ⟨(k : Int), (j : Int), rg0⟩)) = nestV gs (cntL p Tr) by rw [HSTEP.out]; exact hvs _ (by rw [List.length_set, hrl]))
            obtain ⟨row, hr0⟩ : ∃ row, cntR Tr k (codeN p k) = row := ⟨_, rfl⟩
            rw [hr0] at HRJ HVK HSTEP hrow hrl
            have HGK := Lib.hid hgk
            have HROW := Lib.hid hrow
            clear hst hfr hq hatf habf hx3 hpl hN hlen hans hev hcr htl hc0 hvs hr0 hgk hrow
            go_upto_region 13 with (first | (refine wpList_ld1 rfl 3 _ rfl HP.out rfl rfl Tryd.underlying3 rfl ?_) | (refine wpList_ld1 rfl 26 _ rfl HP.out rfl rfl Tryd.underlying26 rfl ?_) | (refine wpList_load_at rfl 75 _ rfl _ rfl _ _ (HP.out.at_ (F := G3) (by simp) HATF.out (by rw [block_of_add]; exact HABF.out)) Tryd.underlying75 rfl (by kernel_rfl) ?_) | (refine wpList_alloc_hp (o := ⟨some 15, _, _, _, _, _⟩) rfl _ rfl HP.out (.agg #[.int .i64 0, .int .i64 0, .int .i64 0, .int .i64 0, .int .i64 0, .int .i64 0, .int .i64 0, .int .i64 0, .int .i64 0, .int .i64 0, .int .i64 0, .int .i64 0, .int .i64 0, .int .i64 0]) (by kernel_rfl) [_, _, _, _, _, _, _, _, _, _, _, _, _, _] rfl ?_; clear HP; intro g15 w15 HP; replace HP := Lib.hid HP) | (refine wpList_stR0 rfl 75 _ _ rfl HP.out rfl (cs' := frmCells ⟨(k : Int), (j : Int), rg0⟩) rfl rfl (by simp [frmCells, staCells, Value.oneCell']) (by kernel_rfl) ?_; clear HP; intro wst HP; replace HP := Lib.hid HP) | (refine wpList_ldR3 rfl 24 _ rfl HP.out rfl Tryd.underlying24 rfl (by kernel_rfl) ?_) | (refine wpList_ldR2 rfl 29 _ rfl HP.out rfl Tryd.underlying29 rfl (by kernel_rfl) ?_) | (go_at_call 35; refine (Next_any p _ t _ _ _ _ (HP.out.rep (F := ⟨w, Lt w.heap.size⟩) (by simp) HR.out) (HP.out.rep (.head _) HRP.out.1) (HP.out.rep (.head _) HRP.out.2.1) (HP.out.rep (.head _) HRP.out.2.2) HLM.out.1 HLM.out.2.1 HLM.out.2.2 (HH.out.keep HP.out.below rfl)).mono ?_; rintro r2 w6 hnx; rw [HNA.out] at hnx; dsimp only at hnx; obtain ⟨ub, eb, ab, rfl, hf, he, ha, hb⟩ := hnx; replace HP := Lib.hid (HP.out.call hb); have HR5 := Lib.hid (And.intro hf (And.intro he ha)); obtain ⟨Af2, cf2, rfl, -, -, -⟩ := rep_frames_at hf; obtain ⟨Ae2, ce2, rfl, -, -, -⟩ := rep_ints_at he; obtain ⟨Aa2, ca2, rfl, -, -, -⟩ := rep_ints_at ha; clear hb hf he ha) | (refine wpList_alloc_hp (o := ⟨some 16, _, _, _, _, _⟩) rfl _ rfl HP.out (.agg #[.int .i64 0, .int .i64 0, .slice none 0 0, .int .i64 0, .int .i64 0, .int .i64 0, .int .i64 0, .int .i64 0, .int .i64 0, .int .i64 0, .int .i64 0, .int .i64 0, .int .i64 0, .int .i64 0, .int .i64 0, .int .i64 0, .int .i64 0, .int .i64 0, .int .i64 0, .int .i64 0, .slice none 0 0, .slice none 0 0]) (by kernel_rfl) [_, _, _, _, _, _, _, _, _, _, _, _, _, _, _, _, _, _, _, _, _, _] rfl ?_; clear HP; intro g16 w16 HP; replace HP := Lib.hid HP) | (refine wpList_stR0 rfl 29 _ _ rfl HP.out rfl (cs' := staCells N (.slice Af2 N.frames.length cf2) (.slice Ae2 N.events.length ce2) (.slice Aa2 N.answers.length ca2)) rfl rfl (by simp [frmCells, staCells, Value.oneCell']) (by kernel_rfl) ?_; clear HP; intro wst HP; replace HP := Lib.hid HP))
            have hgS := HP.out.size
            replace HP := Lib.hid (HP.out.froKeep (Fs' := [_, ⟨w, Lt w.heap.size⟩]) (by intro F hF; rcases List.mem_cons.1 hF with h | h; exact h ▸ .head _; exact .tail _ (.tail _ h)))
            obtain ⟨R, hp1, hbk⟩ := Hp.nestTake (L := [_, _, _, _, _]) HP.out HGK.out HROW.out
            simp only [List.cons_append, List.nil_append] at hp1 hbk
            replace HP := Lib.hid hp1
            have HBK := Lib.hid hbk
            clear hp1 hbk hgS
            have HDR := Lib.hid HP.out.drew
            have q0 := HP.out.cell (.tail _ (.tail _ (.head _))) 0 _ rfl
            have q1 := HP.out.cell (.tail _ (.tail _ (.head _))) 1 _ rfl
            have q2 := HP.out.cell (.tail _ (.tail _ (.tail _ (.head _)))) k _ HVK.out
            have q3 := HP.out.cell (.head _) j _ HRJ.out
            have q4 := HP.out.cell (.tail _ (.tail _ (.tail _ (.tail _ (.head _))))) 19 _ rfl
            have q5 := HP.out.cell (.tail _ (.head _)) 19 _ rfl
            refine wp_region_still_tail 16 (by kernel_rfl) (by kernel_rfl) ?_
            simp only [List.take_succ_cons, List.take_zero, List.drop_succ_cons, List.drop_zero]
            repeat still_step
            try refine wpStill_nil ?_
            clear q0 q1 q2 q3 q4 q5
            replace HP := HDR
            clear HDR
            go_upto_region 14 with (first | (refine wpList_st0 rfl 3 _ _ rfl HP.out rfl rfl (by rw [List.length_map, hrl]; exact hjl) rfl (List.map_set ..).symm (by kernel_rfl) ?_; clear HP; intro wst HP; replace HP := Lib.hid HP))
            replace HP := Lib.hid (by simpa only [List.cons_append, List.nil_append] using HBK.out _ [_, _, _, _, _] _ HP.out)
            have hw1 : IntKind.i64.wrap (t.fuel - N.fuel) = t.fuel - N.fuel := by rw [IntKind.wrap_i64]; omega
            have hw2 : IntKind.i64.wrap (c0 + (t.fuel - N.fuel)) = c0 + (t.fuel - N.fuel) := by rw [IntKind.wrap_i64]; omega
            rw [hw1, hw2, ← HSTEP.out, ← HVS.out] at HP
            clear hw1 hw2
            go_wp2_with (first | (refine wpList_ldR0 rfl 29 _ rfl HP.out rfl Tryd.underlying29 rfl (by kernel_rfl) ?_) | (refine wpList_stR3 rfl 29 _ _ rfl HP.out rfl (cs' := staCells N (.slice Af2 N.frames.length cf2) (.slice Ae2 N.events.length ce2) (.slice Aa2 N.answers.length ca2)) rfl rfl (by simp [staCells, Value.oneCell']) (by kernel_rfl) ?_; clear HP; intro wst HP; replace HP := Lib.hid HP))
            replace HP := Lib.hid (Hp.drop (A := []) (Hp.drop (A := []) HP.out))
            simp only [List.nil_append] at HP
            go_roundw
            case rel => first | exact ⟨N, _, _, _, _, _, Lib.hid ⟨HN.out, HTR.out⟩, HR5, HP⟩ | ((repeat apply Exists.intro); exact ⟨⟨N, _, _, _, _, _, Lib.hid ⟨HN.out, HTR.out⟩, HR5, HP⟩, rfl⟩)
            case measure =>
              have h1 := profMu_of (n := N.fuel) (m := N.status) (HP.out.cell (.tail _ (.head _)) 19 _ rfl) (HP.out.cell (.tail _ (.head _)) 0 _ rfl)
              have h2 := HM.out
              have h3 := HMU.out
              rw [HST.out] at h2
              simp only [if_true] at h2
              show profMu g10 _ < profMu g10 _
              rw [h1, h2]
              exact h3
          · have hsb : (t.status == 0) = false := by simpa using hst
            have htr : Tr = trS p s0 := by rw [← HI.out.2, trS_done p hst, List.append_nil]
            have HTE := Lib.hid htr
            clear hst htr
            go_wp2_with (first | (refine wpList_ld1 rfl 3 _ rfl HP.out rfl rfl Tryd.underlying3 rfl ?_))
            rw [HANS.out]
            (try simp only [Exit.inBlock, Exit.then])
            refine bodyPost_ret (results_tmp2 (by rfl) _ _ _) (by rfl) ?_
            have hp9 := Hp.rowOf (A := []) (n := p.funcs.length) (sz := 1) HP.out (by rw [nestV_len (by rw [HG.out, cntL_len]), cntL_len, Nat.mul_one]) (by unfold maxLen; omega)
            rw [List.nil_append] at hp9
            refine ⟨_, rfl, ?_, hp9.below⟩
            simp only
            rw [← HTE.out]
            refine hp9.nestRep (t := 3) (.head _) (by rw [HG.out, cntL_len]) (fun r hr => .tail _ (.tail _ (.tail _ hr))) (fun xs hxs => ?_)
            obtain ⟨i, hi, rfl⟩ := List.mem_map.1 hxs
            rw [cntR_len]
            have hi := List.mem_range.1 hi
            rw [codeN_eq (List.getElem?_eq_getElem hi)]
            have := (HOK.out.fns _ (List.getElem_mem hi)).len.2
            unfold maxLen; omega
  · have hans : countsAns p xs ys fuel = ([], (begunAns p xs ys fuel).2) := by unfold countsAns; rw [if_pos hz]
    obtain ⟨e0, he0⟩ : ∃ e0, (begunAns p xs ys fuel).2 = e0 := ⟨_, rfl⟩
    rw [he0] at hz hans
    have HANS := Lib.hid hans
    have HZ := Lib.hid he0
    have hzb : (e0 != 0) = true := by simpa using hz
    clear he0 hz hans
    go_enter Tryd.func39, Tryd.ntmps39
    go_upto_region 2 with (first | (refine wpList_alloc_hp (o := ⟨some 10, _, _, _, _, _⟩) rfl _ rfl HP.out (.agg #[.int .i64 0, .int .i64 0, .slice none 0 0, .int .i64 0, .int .i64 0, .int .i64 0, .int .i64 0, .int .i64 0, .int .i64 0, .int .i64 0, .int .i64 0, .int .i64 0, .int .i64 0, .int .i64 0, .int .i64 0, .int .i64 0, .int .i64 0, .int .i64 0, .int .i64 0, .int .i64 0, .slice none 0 0, .slice none 0 0]) (by kernel_rfl) [_, _, _, _, _, _, _, _, _, _, _, _, _, _, _, _, _, _, _, _, _, _] rfl ?_; clear HP; intro g10 w10 HP; replace HP := Lib.hid HP) | (refine wpList_box_hp (o := ⟨some 4, _, _, _, _, _⟩) rfl _ _ rfl HP.out [_] rfl ?_; clear HP; intro g4 w4 HP; replace HP := Lib.hid HP) | (refine wpList_ldR0 rfl 24 _ rfl HP.out rfl Tryd.underlying24 rfl (by kernel_rfl) ?_) | (refine wpList_ldR1 rfl 24 _ rfl HP.out rfl Tryd.underlying24 rfl (by kernel_rfl) ?_) | (go_at_call 14; refine (Begin_any p _ xs ys _ _ fuel _ (HP.out.rep (F := ⟨w, Lt w.heap.size⟩) (by simp) HR.out) (HP.out.rep (F := ⟨w, Lt w.heap.size⟩) (by simp) HX.out) (HP.out.rep (F := ⟨w, Lt w.heap.size⟩) (by simp) HY.out) (HH.out.keep HP.out.below rfl)).mono ?_; rintro r1 w5 ⟨ua, ea, aa, rfl, hf, he, ha, hb⟩; replace HP := Lib.hid (HP.out.call hb); have HF1 := Lib.hid hf; have HE1 := Lib.hid he; have HA1 := Lib.hid ha; obtain ⟨Af1, cf1, rfl, -, -, -⟩ := rep_frames_at hf; obtain ⟨Ae1, ce1, rfl, -, -, -⟩ := rep_ints_at he; obtain ⟨Aa1, ca1, rfl, -, -, -⟩ := rep_ints_at ha; clear hb hf he ha) | (refine wpList_stR0 rfl 29 _ _ rfl HP.out rfl (cs' := staCells (begunAns p xs ys fuel).1 (.slice Af1 (begunAns p xs ys fuel).1.frames.length cf1) (.slice Ae1 (begunAns p xs ys fuel).1.events.length ce1) (.slice Aa1 (begunAns p xs ys fuel).1.answers.length ca1)) rfl rfl (by simp [staCells, Value.oneCell']) (by kernel_rfl) ?_; clear HP; intro wst HP; replace HP := Lib.hid HP))
    rw [HZ.out]
    go_wp2
    rw [HANS.out]
    (try simp only [Exit.inBlock, Exit.then])
    refine bodyPost_ret (results_tmp2 (by rfl) _ _ _) (by rfl) ⟨_, rfl, rep_rows_nil, HP.out.below⟩
end Go.Proofs.YtfhoffpdodjfeaaDoor
