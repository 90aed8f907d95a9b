/- ref.CountsOf. -/
import Derived.Test.YtfhoffpdodjfeaaDoorProfLaw
import Derived.Test.YtfhoffpdodjfeaaDoorMgPrNestNestB3
import Derived.Test.YtfhoffpdodjfeaaDoorStepd
import Derived.Test.YtfhoffpdodjfeaaDoorNext
import Derived.Test.YtfhoffpdodjfeaaDoorMgHotBeginB2
set_option linter.unusedSimpArgs false
set_option linter.unusedVariables false
namespace Go.Proofs.YtfhoffpdodjfeaaDoor
open Go.RowKit Plain64
attribute [local irreducible] wpList Code.wp Oper.wp
set_option maxRecDepth 100000 in
set_option maxHeartbeats 4000000 in
theorem CountsOf_any (p : Prg) (v : Value) (xs ys : List Int) (u1 u2 : Value) (fuel : Int) (w : World) (hp : Lay.rep w (Lt w.heap.size) p [v]) (hx : Lay.rep w (Lt w.heap.size) xs [u1]) (hy : Lay.rep w (Lt w.heap.size) ys [u2]) (him : ∀ f ∈ p.funcs, ∀ x ∈ f.code, I64 x.imm) (hxi : ∀ x ∈ xs, I64 x) (hyi : ∀ y ∈ ys, I64 y) :
    Calls Tryd.prog 40 #[.agg #[v], u1, u2, .int .i64 fuel] w fun r w' => ∃ v', r = .returned (.tuple #[v', .int .i64 (countsAns p xs ys fuel).2]) ∧ Lay.rep w' (Fresh w w') (countsAns p xs ys fuel).1 [v'] ∧ Below w.heap.size w w' := by
  obtain ⟨A, cP, rfl, hcP, hmP, hxP⟩ := rep_prg_at hp
  unfold maxLen at hmP
  have HXP := Lib.hid hxP
  clear hxP
  have HR := Lib.hid hp
  have HX := Lib.hid hx
  have HY := Lib.hid hy
  have HIM := Lib.hid him
  have HXI := Lib.hid hxi
  have HYI := Lib.hid hyi
  clear hp hx hy him hxi hyi
  have HP := Lib.hid (Hp.start w)
  obtain ⟨i_int, hi_int, hz_int, hs_int, hy_int⟩ := info_parts info_int
  obtain ⟨i_ints, hi_ints, hz_ints, hs_ints, hy_ints⟩ := info_parts info_ints
  by_cases hz : (begunAns p xs ys fuel).2 = 0
  · obtain ⟨hb1, hpz, hyl, hfu⟩ := begun_ok hz
    obtain ⟨s0, hs0⟩ : ∃ s0, (begunAns p xs ys fuel).1 = s0 := ⟨_, rfl⟩
    have HANS := Lib.hid (show countsAns p xs ys fuel = (cntL p (trS p s0), 0) by unfold countsAns; rw [if_neg (by simpa using hz), hs0])
    have HRUN := Lib.hid (show RunX p s0 by rw [← hs0, hb1]; exact beg_runX hpz HXI.out HYI.out hyl hfu)
    have HS0 := Lib.hid hs0
    have HPZ := Lib.hid hpz
    have ok := okP_of (proven_prg hpz)
    have HOK := Lib.hid ok
    obtain ⟨n1, n2⟩ := ok.len
    have HTL := Lib.hid (show (trS p s0).length ≤ 10001 by have h1 := trS_len p s0; have h2 := HRUN.out.run.fuel; omega)
    have HZ := Lib.hid hz
    clear hb1 hpz hyl hfu hz ok hs0
    go_enter Tryd.func40, Tryd.ntmps40
    go_upto_region 2 with (first | (refine wpList_alloc_hp (o := ⟨some 10, _, _, _, _, _⟩) rfl _ rfl HP.out (.agg #[.int .i64 0, .int .i64 0, .slice none 0 0, .int .i64 0, .int .i64 0, .int .i64 0, .int .i64 0, .int .i64 0, .int .i64 0, .int .i64 0, .int .i64 0, .int .i64 0, .int .i64 0, .int .i64 0, .int .i64 0, .int .i64 0, .int .i64 0, .int .i64 0, .int .i64 0, .int .i64 0, .slice none 0 0, .slice none 0 0]) (by kernel_rfl) [_, _, _, _, _, _, _, _, _, _, _, _, _, _, _, _, _, _, _, _, _, _] rfl ?_; clear HP; intro g10 w10 HP; replace HP := Lib.hid HP) | (refine wpList_box_hp (o := ⟨some 4, _, _, _, _, _⟩) rfl _ _ rfl HP.out [_] rfl ?_; clear HP; intro g4 w4 HP; replace HP := Lib.hid HP) | (refine wpList_ldR1 rfl 24 _ rfl HP.out rfl Tryd.underlying24 rfl (by kernel_rfl) ?_) | (refine wpList_ldR0 rfl 24 _ rfl HP.out rfl Tryd.underlying24 rfl (by kernel_rfl) ?_) | (go_at_call 17; refine (Begun_any p _ xs ys _ _ fuel _ (HP.out.rep (F := ⟨w, Lt w.heap.size⟩) (by simp) HR.out) (HP.out.rep (F := ⟨w, Lt w.heap.size⟩) (by simp) HX.out) (HP.out.rep (F := ⟨w, Lt w.heap.size⟩) (by simp) HY.out)).mono ?_; rintro r1 w5 hbg; rw [HZ.out, HS0.out] at hbg; obtain ⟨ua, ea, aa, rfl, hf, he, ha, hb⟩ := hbg; replace HP := Lib.hid (HP.out.call hb); have HF1 := Lib.hid hf; have HE1 := Lib.hid he; have HA1 := Lib.hid ha; obtain ⟨Af1, cf1, rfl, -, -, -⟩ := rep_frames_at hf; obtain ⟨Ae1, ce1, rfl, -, -, -⟩ := rep_ints_at he; obtain ⟨Aa1, ca1, rfl, -, -, -⟩ := rep_ints_at ha; clear hb hf he ha) | (refine wpList_stR0 rfl 29 _ _ rfl HP.out rfl (cs' := staCells s0 (.slice Af1 s0.frames.length cf1) (.slice Ae1 s0.events.length ce1) (.slice Aa1 s0.answers.length ca1)) rfl rfl (by simp [staCells, Value.oneCell']) (by kernel_rfl) ?_; clear HP; intro wst HP; replace HP := Lib.hid HP))
    obtain ⟨G, HP, HRP⟩ : ∃ G : Fro, Hid (Hp w [G, { w := w, S := Lt w.heap.size }] [.blk g10 29 (staCells s0 (.slice Af1 s0.frames.length cf1) (.slice Ae1 s0.events.length ce1) (.slice Aa1 s0.answers.length ca1)), .blk g4 24 [(.slice A p.funcs.length cP)]] _) ∧ Hid (Lay.rep G.w G.S s0.frames [.slice Af1 s0.frames.length cf1] ∧ Lay.rep G.w G.S s0.events [.slice Ae1 s0.events.length ce1] ∧ Lay.rep G.w G.S s0.answers [.slice Aa1 s0.answers.length ca1]) := ⟨_, HP, Lib.hid ⟨HF1.out, HE1.out, HA1.out⟩⟩
    obtain ⟨F1, hF1⟩ : ∃ F1, Value.slice Af1 s0.frames.length cf1 = F1 := ⟨_, rfl⟩
    obtain ⟨E1, hE1⟩ : ∃ E1, Value.slice Ae1 s0.events.length ce1 = E1 := ⟨_, rfl⟩
    obtain ⟨A1, hA1⟩ : ∃ A1, Value.slice Aa1 s0.answers.length ca1 = A1 := ⟨_, rfl⟩
    rw [hF1, hE1, hA1] at HP HRP
    clear hF1 hE1 hA1 HF1 HE1 HA1
    obtain ⟨i_int, hi_int, hz_int, hs_int, hy_int⟩ := info_parts info_int
    replace HP := Lib.hid (HP.out.nil 3 1)
    replace HP := Lib.hid (HP.out.nil 3 1)
    go_wp2
    go_loopw [12, 13] (fun a b wr => ∃ (t : Sta) (F E A9 : Value) (G : Fro) (Tr : List (Nat × Nat)), Hid (RunX p t ∧ Tr ++ trS p t = trS p s0) ∧ Hid (InP p Tr) ∧ Hid (Lay.rep G.w G.S t.frames [F] ∧ Lay.rep G.w G.S t.events [E] ∧ Lay.rep G.w G.S t.answers [A9]) ∧ Hid (Hp w [G, { w := w, S := Lt w.heap.size }] [.row a 3 1 Tr.length ((Tr).map fun x => Value.int .i64 (x.1 : Int)), .row b 3 1 Tr.length ((Tr).map fun x => Value.int .i64 (x.2 : Int)), .blk g10 29 (staCells t F E A9), .blk g4 24 [(.slice A p.funcs.length cP)]] wr)) (fun _ _ wr => profMu g10 wr)
    case atStart => exact ⟨s0, F1, E1, A1, G, [], Lib.hid ⟨HRUN.out, rfl⟩, Lib.hid (by intro x hx; cases hx), HRP, HP⟩
    case round =>
      clear HP HRP
      obtain ⟨t, F, E, A9, G3, Tr, HI, HIP, HRP, HP⟩ := hrel
      obtain ⟨wo, rfl⟩ : ∃ wo : World, wo = wr := ⟨_, rfl⟩
      have HM := Lib.hid (profMu_of (n := t.fuel) (m := t.status) (HP.out.cell (.tail _ (.tail _ (.head _))) 19 _ rfl) (HP.out.cell (.tail _ (.tail _ (.head _))) 0 _ rfl))
      by_cases hst : t.status = 0
      · obtain ⟨fs, f, hfr⟩ := frames_last (HI.out.1.run.top hst)
        have hsb : (t.status == 0) = true := by simpa using hst
        have HST := Lib.hid hst
        have HN := Lib.hid (HI.out.1.next HPZ.out HIM.out hst hfr)
        have HTR := Lib.hid (show (Tr ++ stepT p t fs f) ++ trS p (nextOf p t fs f) = trS p s0 by rw [List.append_assoc, ← trS_next hfr hst HI.out.1.run.fuel.1]; exact HI.out.2)
        have hrc := HI.out.1.run.rch f (by rw [hfr]; simp)
        have HIS := Lib.hid (HIP.out.step (s := t) (fs := fs) hrc)
        obtain ⟨k, j, hk, hj, hpl, hkl, hjl⟩ := rch_plc hrc
        obtain ⟨q, hq⟩ : ∃ q, fs.length = q := ⟨_, rfl⟩
        obtain ⟨A3, c3, rfl, hc3, hm3, hx3⟩ := rep_frames_at HRP.out.1
        have hx4 : ∃ ad, A3 = some ad ∧ G3.S ad.block ∧ At G3.w (ad.add (q * 14)) (frmCells f) := by
          have hl : q < t.frames.length := by rw [hfr]; simp [hq]
          obtain ⟨ad, e1, e2, e3⟩ := hx3 q hl
          have hlast : t.frames[q] = f := by simp [hfr, ← hq]
          exact ⟨ad, e1, e2, by rw [hlast] at e3; exact e3⟩
        obtain ⟨ad3, rfl, habf, hatf⟩ := hx4
        have HLQ := Lib.hid (show t.frames.length = q + 1 by rw [hfr]; simp [hq])
        have hqe : q ≤ 8 := by have h1 := HI.out.1.run.len; have h2 := HLQ.out; omega
        have hqc : q + 1 ≤ c3 := by have h2 := HLQ.out; omega
        obtain ⟨fn0, pc0, rg0⟩ := f
        obtain rfl : fn0 = (k : Int) := hk
        obtain rfl : pc0 = (j : Int) := hj
        have HATF := Lib.hid hatf
        have HABF := Lib.hid habf
        have HFR := Lib.hid hfr
        have HMU := Lib.hid (stepT_mu (p := p) (s := t) (fs := fs) (f := ⟨(k : Int), (j : Int), rg0⟩) HI.out.1.run.fuel.1 HN.out.run.fuel.1)
        have HSTT := Lib.hid (show stepT p t fs ⟨(k : Int), (j : Int), rg0⟩ = if (nextOf p t fs ⟨(k : Int), (j : Int), rg0⟩).fuel < t.fuel then [(k, j)] else [] by unfold stepT; rw [hpl])
        obtain ⟨N, hN⟩ : ∃ N, nextOf p t fs ⟨(k : Int), (j : Int), rg0⟩ = N := ⟨_, rfl⟩
        have HNX := Lib.hid hN
        rw [hN] at HN HTR HMU HSTT
        have hlen := HI.out.1.run.len
        have hans := HI.out.1.run.ans
        have hev := HI.out.1.run.ev
        have hfu := HI.out.1.run.fuel
        have HSM := Lib.hid (And.intro (show t.answers.length ≤ 17592186043999 by omega) (show t.events.length ≤ 17592186043999 by omega))
        have hlq2 : IntKind.i64.wrap ((t.frames.length : Int) - 1) = (q : Int) := by rw [IntKind.wrap_i64, HLQ.out]; omega
        have hlq3 : (t.frames.length : Int) - 1 = (q : Int) := by rw [HLQ.out]; omega
        have hlq4 : (q : Int) < (t.frames.length : Int) := by rw [HLQ.out]; omega
        have hlq5 : q < t.frames.length := by rw [HLQ.out]; omega
        have htl : Tr.length ≤ 10001 := by have h1 := HTL.out; rw [← HI.out.2, List.length_append] at h1; omega
        clear hst hfr hq hatf habf hx3 hpl hN hlen hans hev hfu hrc
        go_upto_region 9 with (first | (refine wpList_ld2 rfl 3 _ rfl HP.out rfl rfl Tryd.underlying3 rfl ?_) | (refine wpList_ld2 rfl 26 _ rfl HP.out rfl rfl Tryd.underlying26 rfl ?_) | (refine wpList_load_at rfl 75 _ rfl _ rfl _ _ (HP.out.at_ (F := G3) (by simp) HATF.out (by rw [block_of_add]; exact HABF.out)) Tryd.underlying75 rfl (by kernel_rfl) ?_) | (refine wpList_alloc_hp (o := ⟨some 14, _, _, _, _, _⟩) rfl _ rfl HP.out (.agg #[.int .i64 0, .int .i64 0, .int .i64 0, .int .i64 0, .int .i64 0, .int .i64 0, .int .i64 0, .int .i64 0, .int .i64 0, .int .i64 0, .int .i64 0, .int .i64 0, .int .i64 0, .int .i64 0]) (by kernel_rfl) [_, _, _, _, _, _, _, _, _, _, _, _, _, _] rfl ?_; clear HP; intro g14 w14 HP; replace HP := Lib.hid HP) | (refine wpList_stR0 rfl 75 _ _ rfl HP.out rfl (cs' := frmCells ⟨(k : Int), (j : Int), rg0⟩) rfl rfl (by simp [frmCells, staCells, Value.oneCell']) (by kernel_rfl) ?_; clear HP; intro wst HP; replace HP := Lib.hid HP) | (refine wpList_ldR4 rfl 24 _ rfl HP.out rfl Tryd.underlying24 rfl (by kernel_rfl) ?_) | (refine wpList_ldR3 rfl 29 _ rfl HP.out rfl Tryd.underlying29 rfl (by kernel_rfl) ?_) | (go_at_call 63; refine (stepped_own p _ t fs _ HFR.out _ _ _ _ (HP.out.rep (F := ⟨w, Lt w.heap.size⟩) (by simp) HR.out) (HP.out.rep (.head _) HRP.out.1) (HP.out.rep (.head _) HRP.out.2.1) (HP.out.rep (.head _) HRP.out.2.2) HI.out.1.run.len HSM.out.1 HSM.out.2 HI.out.1.run.fuel (okP_of (proven_prg HPZ.out)) (fun g hg => rch_own (HI.out.1.run.rch g hg)) (HI.out.1.run.regs _ (by rw [HFR.out]; simp))).mono ?_; rintro r5 w5 ⟨u5, e5, a5, rfl, hb5⟩; replace HP := Lib.hid ((HP.out.call hb5.below).froKeep (Fs' := [_, ⟨w, Lt w.heap.size⟩]) (fun F hF => by rcases List.mem_cons.1 hF with h | h; exact h ▸ .head _; exact List.mem_singleton.1 h ▸ .tail _ (.tail _ (.head _)))); have HR5 := Lib.hid (And.intro (hb5.rowFrames (.head _) rfl) (And.intro (hb5.rowInts (.tail _ (.head _)) rfl) (hb5.rowInts (.tail _ (.tail _ (.head _))) rfl))); have HO5 := Lib.hid (And.intro (hb5.rowOne u5 (.head _)) (And.intro (hb5.rowOne e5 (.tail _ (.head _))) (hb5.rowOne a5 (.tail _ (.tail _ (.head _)))))); rw [HNX.out] at HR5 ⊢; clear hb5) | (refine wpList_alloc_hp (o := ⟨some 15, _, _, _, _, _⟩) rfl _ rfl HP.out (.agg #[.int .i64 0, .int .i64 0, .slice none 0 0, .int .i64 0, .int .i64 0, .int .i64 0, .int .i64 0, .int .i64 0, .int .i64 0, .int .i64 0, .int .i64 0, .int .i64 0, .int .i64 0, .int .i64 0, .int .i64 0, .int .i64 0, .int .i64 0, .int .i64 0, .int .i64 0, .int .i64 0, .slice none 0 0, .slice none 0 0]) (by kernel_rfl) [_, _, _, _, _, _, _, _, _, _, _, _, _, _, _, _, _, _, _, _, _, _] rfl ?_; clear HP; intro g15 w15 HP; replace HP := Lib.hid HP) | (refine wpList_stR0 rfl 29 _ _ rfl HP.out rfl (cs' := staCells N u5 e5 a5) rfl rfl (sta_one HO5.out.1 HO5.out.2.1 HO5.out.2.2) (by kernel_rfl) ?_; clear HP; intro wst HP; replace HP := Lib.hid HP))
        by_cases hfl : N.fuel < t.fuel
        · rw [HSTT.out, if_pos hfl] at HTR HIS
          go_wp2_with (first | (refine wpList_ld0 rfl 3 _ rfl HP.out rfl rfl Tryd.underlying3 rfl ?_) | (refine wpList_ld4 rfl 3 _ rfl HP.out rfl rfl Tryd.underlying3 rfl ?_) | (refine wpList_ld3 rfl 3 _ rfl HP.out rfl rfl Tryd.underlying3 rfl ?_) | (refine wpList_ld2 rfl 3 _ rfl HP.out rfl rfl Tryd.underlying3 rfl ?_) | (refine wpList_ld1 rfl 3 _ rfl HP.out rfl rfl Tryd.underlying3 rfl ?_) | (refine wpList_ints_hp rfl 25 3 1 _ rfl HP.out Tryd.underlying25 [_] rfl (by kernel_rfl) ?_; clear HP; intro gi wi HP; replace HP := Lib.hid HP) | (at_builtin; refine wpList_apg2 rfl _ _ 25 rfl i_int (.int .i64 0) Tryd.underlying25 hi_int hz_int hs_int rfl (by decide) hy_int (Tr.length + 1) rfl HP.out rfl rfl rfl (by simp [Value.oneCell']) (by unfold maxLen; omega) (by omega) (by omega) ?_; clear HP; intro gap cap wap HP; replace HP := Lib.hid HP) | (at_builtin; refine wpList_apg3 rfl _ _ 25 rfl i_int (.int .i64 0) Tryd.underlying25 hi_int hz_int hs_int rfl (by decide) hy_int (Tr.length + 1) rfl HP.out rfl rfl rfl (by simp [Value.oneCell']) (by unfold maxLen; omega) (by omega) (by omega) ?_; clear HP; intro gap cap wap HP; replace HP := Lib.hid HP) | (refine wpList_ldR0 rfl 29 _ rfl HP.out rfl Tryd.underlying29 rfl (by kernel_rfl) ?_) | (refine wpList_stR4 rfl 29 _ _ rfl HP.out rfl (cs' := staCells N u5 e5 a5) rfl rfl (sta_one HO5.out.1 HO5.out.2.1 HO5.out.2.2) (by kernel_rfl) ?_; clear HP; intro wst HP; replace HP := Lib.hid HP))
          try rw [show (Tr.map fun x => Value.int .i64 (x.1 : Int)) ++ List.map (Value.int .i64) [(k : Int)] = (Tr ++ [(k, j)]).map (fun x => Value.int .i64 (x.1 : Int)) by simp, show (Tr.map fun x => Value.int .i64 (x.2 : Int)) ++ List.map (Value.int .i64) [(j : Int)] = (Tr ++ [(k, j)]).map (fun x => Value.int .i64 (x.2 : Int)) by simp] at HP
          have hl1 : Tr.length + 1 = (Tr ++ [(k, j)]).length := by simp
          rw [hl1] at HP ⊢
          replace HP := Lib.hid (Hp.drop (A := []) (Hp.drop (A := []) HP.out))
          simp only [List.nil_append] at HP
          go_roundw
          case rel => first | exact ⟨N, u5, e5, a5, _, Tr ++ [(k, j)], Lib.hid ⟨HN.out, HTR.out⟩, HIS, HR5, HP⟩ | ((repeat apply Exists.intro); exact ⟨⟨N, u5, e5, a5, _, Tr ++ [(k, j)], Lib.hid ⟨HN.out, HTR.out⟩, HIS, HR5, HP⟩, rfl⟩)
          case measure =>
            have h1 := profMu_of (n := N.fuel) (m := N.status) (HP.out.cell (.tail _ (.tail _ (.head _))) 19 _ rfl) (HP.out.cell (.tail _ (.tail _ (.head _))) 0 _ rfl)
            have h2 := HM.out
            have h3 := HMU.out
            rw [HST.out] at h2
            simp only [if_true] at h2
            show profMu g10 _ < profMu g10 _
            rw [h1, h2]
            exact h3
        · rw [HSTT.out, if_neg hfl, List.append_nil] at HTR HIS
          go_wp2_with (first | (refine wpList_ld0 rfl 3 _ rfl HP.out rfl rfl Tryd.underlying3 rfl ?_) | (refine wpList_ld4 rfl 3 _ rfl HP.out rfl rfl Tryd.underlying3 rfl ?_) | (refine wpList_ld3 rfl 3 _ rfl HP.out rfl rfl Tryd.underlying3 rfl ?_) | (refine wpList_ld2 rfl 3 _ rfl HP.out rfl rfl Tryd.underlying3 rfl ?_) | (refine wpList_ld1 rfl 3 _ rfl HP.out rfl rfl Tryd.underlying3 rfl ?_) | (refine wpList_ldR0 rfl 29 _ rfl HP.out rfl Tryd.underlying29 rfl (by kernel_rfl) ?_) | (refine wpList_stR4 rfl 29 _ _ rfl HP.out rfl (cs' := staCells N u5 e5 a5) rfl rfl (sta_one HO5.out.1 HO5.out.2.1 HO5.out.2.2) (by kernel_rfl) ?_; clear HP; intro wst HP; replace HP := Lib.hid HP))
          replace HP := Lib.hid (Hp.drop (A := []) (Hp.drop (A := []) HP.out))
          simp only [List.nil_append] at HP
          go_roundw
          case rel => first | exact ⟨N, u5, e5, a5, _, Tr, Lib.hid ⟨HN.out, HTR.out⟩, HIS, HR5, HP⟩ | ((repeat apply Exists.intro); exact ⟨⟨N, u5, e5, a5, _, Tr, Lib.hid ⟨HN.out, HTR.out⟩, HIS, HR5, HP⟩, rfl⟩)
          case measure =>
            have h1 := profMu_of (n := N.fuel) (m := N.status) (HP.out.cell (.tail _ (.tail _ (.head _))) 19 _ rfl) (HP.out.cell (.tail _ (.tail _ (.head _))) 0 _ rfl)
            have h2 := HM.out
            have h3 := HMU.out
            rw [HST.out] at h2
            simp only [if_true] at h2
            show profMu g10 _ < profMu g10 _
            rw [h1, h2]
            exact h3
      · have hsb : (t.status == 0) = false := by simpa using hst
        have htr : Tr = trS p s0 := by rw [← HI.out.2, trS_done p hst, List.append_nil]
        subst htr
        obtain ⟨TT, hTT⟩ : ∃ TT, trS p s0 = TT := ⟨_, rfl⟩
        rw [hTT] at HP HIP HTL HANS
        have htl := HTL.out
        clear hst hTT HRUN HI HTL
        go_wp2_with (first | (refine wpList_ld2 rfl 3 _ rfl HP.out rfl rfl Tryd.underlying3 rfl ?_))
        obtain ⟨A12, c12, rfl, h12⟩ := HP.out.rowShape (.head _)
        obtain ⟨A13, c13, rfl, h13⟩ := HP.out.rowShape (.tail _ (.head _))
        replace HP := Lib.hid ((HP.out.sub (.cons_cons _ (.cons_cons _ (.cons _ (.cons_cons _ .slnil))))).froKeep (Fs' := [⟨w, Lt w.heap.size⟩]) (fun F hF => .tail _ hF))
        replace HP := Lib.hid (HP.out.nil 25 1)
        go_loopw [16, 17] (fun o i wr => ∃ (q : Nat) (gs : List Nat) (ov : Value), q ≤ p.funcs.length ∧ i = .int .i64 q ∧ ov = o ∧ Hid (gs.length = q) ∧ Hid (Hp w [{ w := w, S := Lt w.heap.size }] (.row ov 25 1 q (nestV gs ((cntL p TT).take q)) :: .row (.slice A12 TT.length c12) 3 1 TT.length ((TT).map fun x => Value.int .i64 (x.1 : Int)) :: .row (.slice A13 TT.length c13) 3 1 TT.length ((TT).map fun x => Value.int .i64 (x.2 : Int)) :: .blk g4 24 [(.slice A p.funcs.length cP)] :: nestB 3 gs ((cntL p TT).take q)) wr)) (fun _ i _ => p.funcs.length - (intOf i).toNat)
        case atStart => exact ⟨0, [], _, by omega, rfl, rfl, Lib.hid rfl, HP⟩
        case round =>
          clear HP
          obtain ⟨q, gs, o, hq, rfl, rfl, HG, HP⟩ := hrel
          obtain ⟨wo, rfl⟩ : ∃ wo : World, wo = wr := ⟨_, rfl⟩
          by_cases hlt : q < p.funcs.length
          · have hlt2 : (q : Int) < (p.funcs.length : Int) := by omega
            obtain ⟨ad, v, rfl, hab, hat, hcode⟩ := HXP.out q hlt
            obtain ⟨f, hf⟩ : ∃ f, p.funcs[q] = f := ⟨_, rfl⟩
            rw [hf] at hat hcode
            have HF := Lib.hid (show codeN p q = f.code.length by rw [← hf]; exact codeN_eq (List.getElem?_eq_getElem hlt))
            have HOF := Lib.hid (HOK.out.fns f (hf ▸ List.getElem_mem hlt))
            obtain ⟨l1, l2⟩ := HOF.out.len
            clear hf
            obtain ⟨A2, c2, rfl, hc2, hm2, hx2⟩ := rep_code hcode
            unfold maxLen at hm2
            have HAT := Lib.hid hat
            clear hat hx2 hcode
            have htk := List.length_take_of_le (show q ≤ (cntL p TT).length by rw [cntL_len]; exact hq)
            have hwl : IntKind.i64.wrap ((TT.length : Int) - 1) = (TT.length : Int) - 1 := by rw [IntKind.wrap_i64]; omega
            have hcl := (HP.out.at_ (F := ⟨w, Lt w.heap.size⟩) (.head _) HAT.out (by rw [block_of_add]; exact hab)).fld 1 rfl
            go_upto_region 18 with (first | (refine wpList_ld3 rfl 22 _ rfl HP.out rfl rfl Tryd.underlying22 rfl ?_) | (refine wpList_make_hp (o := ⟨some 75, _, _, _, _, _⟩) rfl _ _ _ rfl _ i_int (.int .i64 0) Tryd.underlying25 hi_int hz_int rfl hs_int f.code.length rfl rfl (by rw [hy_int]; omega) (by unfold maxLen; omega) HP.out ?_; clear HP; intro gm75 wm75 HP; replace HP := Lib.hid HP))
            clear hcl
            go_wp2
            go_loopw [19] (fun kv wr => ∃ (m : Nat) (I0 : Int), m ≤ TT.length ∧ kv = .int .i64 I0 ∧ I0 = (m : Int) - 1 ∧ Hid (Hp w [{ w := w, S := Lt w.heap.size }] (.blk gm75 3 ((cntR (TT.drop m) q (codeN p q)).map (Value.int .i64)) :: .row o 25 1 q (nestV gs ((cntL p TT).take q)) :: .row (.slice A12 TT.length c12) 3 1 TT.length ((TT).map fun x => Value.int .i64 (x.1 : Int)) :: .row (.slice A13 TT.length c13) 3 1 TT.length ((TT).map fun x => Value.int .i64 (x.2 : Int)) :: .blk g4 24 [(.slice (some ad) p.funcs.length cP)] :: nestB 3 gs ((cntL p TT).take q)) wr)) (fun kv _ => (intOf kv + 1).toNat)
            case atStart => exact ⟨TT.length, (TT.length : Int) - 1, by omega, (by first | rfl | exact congrArg _ hwl), rfl, by rw [List.drop_length, cntR_nil, HF.out, List.map_replicate]; exact HP⟩
            case round =>
              clear HP
              obtain ⟨m, I0, hm, rfl, hI, HP⟩ := hrel
              obtain ⟨wo2, rfl⟩ : ∃ wo : World, wo = wr := ⟨_, rfl⟩
              cases m with
              | succ m =>
                obtain rfl : I0 = (m : Int) := by omega
                have hml : m < TT.length := by omega
                have hml2 : (m : Int) < (TT.length : Int) := by omega
                clear hI
                obtain ⟨g12, hg12⟩ := h12 (by omega)
                obtain ⟨g13, hg13⟩ := h13 (by omega)
                subst hg12 hg13
                obtain ⟨⟨a, b⟩, hx⟩ : ∃ x, TT[m] = x := ⟨_, rfl⟩
                obtain ⟨hal, hbl⟩ := HIP.out (a, b) (hx ▸ List.getElem_mem hml)
                have hd := List.drop_eq_getElem_cons hml
                rw [hx] at hd
                have HD := Lib.hid hd
                have HA := Lib.hid (show ((TT).map fun x => Value.int .i64 (x.1 : Int))[m]? = some (.int .i64 (a : Int)) by rw [List.getElem?_map, List.getElem?_eq_getElem hml, hx]; rfl)
                have HB := Lib.hid (show ((TT).map fun x => Value.int .i64 (x.2 : Int))[m]? = some (.int .i64 (b : Int)) by rw [List.getElem?_map, List.getElem?_eq_getElem hml, hx]; rfl)
                clear hx hd
                by_cases haq : q = a
                · subst haq
                  have hbl : b < codeN p q := hbl
                  have hbf : b < f.code.length := by rw [← HF.out]; exact hbl
                  have hbf2 : (b : Int) < (f.code.length : Int) := by omega
                  have hcl2 := count_le (TT.drop (m + 1)) (q, b)
                  have hcl3 : (TT.drop (m + 1)).length ≤ TT.length := by rw [List.length_drop]; omega
                  obtain ⟨c0, hc0⟩ : ∃ c0 : Int, ((TT.drop (m + 1)).count (q, b) : Int) = c0 := ⟨_, rfl⟩
                  have hc1 : 0 ≤ c0 ∧ c0 ≤ 10001 := by omega
                  have HRB := Lib.hid (show ((cntR (TT.drop (m + 1)) q (codeN p q)).map (Value.int .i64))[b]? = some (.int .i64 c0) by rw [List.getElem?_map, cntR_get _ hbl, hc0]; rfl)
                  have hw1 : IntKind.i64.wrap (c0 + 1) = c0 + 1 := by rw [IntKind.wrap_i64]; omega
                  have HNW := Lib.hid (show cntR (TT.drop m) q (codeN p q) = (cntR (TT.drop (m + 1)) q (codeN p q)).set b (c0 + 1) by rw [HD.out, cntR_cons, hc0])
                  clear hcl2 hcl3 hc0
                  go_wp2_with (first | (refine wpList_ldW2 rfl 3 _ rfl HP.out rfl HA.out Tryd.underlying3 rfl ?_) | (refine wpList_ldW3 rfl 3 _ rfl HP.out rfl HB.out Tryd.underlying3 rfl ?_) | (refine wpList_ld0 rfl 3 _ rfl HP.out rfl HRB.out Tryd.underlying3 rfl ?_) | (refine wpList_st0 rfl 3 _ _ rfl HP.out rfl rfl (by rw [List.length_map, cntR_len]; exact hbl) rfl (List.map_set ..).symm (by kernel_rfl) ?_; clear HP; intro wst HP; replace HP := Lib.hid HP))
                  go_roundw
                  case rel => exact ⟨m, _, by omega, rfl, by first | rfl | (rw [IntKind.wrap_i64]; omega), by rw [HNW.out]; (first | exact HP | (rw [← hw1]; exact HP))⟩
                  case measure => first | (simp [intOf]; done) | (simp [intOf]; omega) | (simp [intOf]; rw [IntKind.wrap_i64]; omega)
                · have haq2 : ((a : Int) == (q : Int)) = false := by simp; omega
                  have HNW := Lib.hid (show cntR (TT.drop m) q (codeN p q) = cntR (TT.drop (m + 1)) q (codeN p q) by rw [HD.out, cntR_cons_ne _ (fun e => haq e.symm)])
                  go_wp2_with (first | (refine wpList_ldW2 rfl 3 _ rfl HP.out rfl HA.out Tryd.underlying3 rfl ?_))
                  go_roundw
                  case rel => exact ⟨m, _, by omega, rfl, by first | rfl | (rw [IntKind.wrap_i64]; omega), by rw [HNW.out]; exact HP⟩
                  case measure => first | (simp [intOf]; done) | (simp [intOf]; omega) | (simp [intOf]; rw [IntKind.wrap_i64]; omega)
              | zero =>
                obtain rfl : I0 = -1 := by omega
                clear hI
                rw [List.drop_zero] at HP
                have hlen : gs.length = ((cntL p TT).take q).length := by rw [HG.out, htk]
                have htk1 : (cntL p TT).take (q + 1) = (cntL p TT).take q ++ [cntR TT q (codeN p q)] := by rw [List.take_add_one, cntL_get _ _ hlt]; rfl
                go_wp2_with (first | (refine wpList_slice_hp rfl 63 25 1 _ rfl HP.out Tryd.underlying63 #[.slice (some ⟨gm75, 0, none⟩) f.code.length f.code.length] (by kernel_rfl) ?_; clear HP; intro gi wi HP; replace HP := Lib.hid HP) | (at_builtin; refine wpList_apg1 rfl _ _ 63 rfl i_ints (.slice none 0 0) Tryd.underlying63 hi_ints hz_ints hs_ints rfl (by decide) hy_ints (q + 1) rfl HP.out rfl rfl rfl (by simp [Value.oneCell']) (by unfold maxLen; omega) (by omega) (by omega) ?_; clear HP; intro gap cap wap HP; replace HP := Lib.hid HP))
                have HP2 := Lib.hid (Hp.nestSnoc (L := [_, _, _, _]) hlen HP.out)
                simp only [List.cons_append, List.nil_append] at HP2
                rw [HF.out] at HP2
                go_roundw
                case rel => exact ⟨q + 1, gs ++ [gm75], _, by omega, by go_num, rfl, Lib.hid (by rw [List.length_append, HG.out]; rfl), by rw [htk1, nestV_snoc hlen, cntR_len, HF.out]; exact HP2⟩
                case measure => simp [intOf]; omega
          · obtain rfl : q = p.funcs.length := by omega
            rw [List.take_of_length_le (by rw [cntL_len]; omega)] at HP
            go_wp2_with (first | (refine wpList_ld3 rfl 22 _ rfl HP.out rfl rfl Tryd.underlying22 rfl ?_))
            rw [HANS.out]
            (try simp only [Exit.inBlock, Exit.then])
            refine bodyPost_ret (results_tmp2 (by rfl) _ _ _) (by rfl) ⟨_, rfl, ?_, HP.out.below⟩
            simp only
            refine HP.out.nestRep (t := 3) (.head _) (by rw [HG.out, cntL_len]) (fun r hr => .tail _ (.tail _ (.tail _ (.tail _ hr)))) (fun xs hxs => ?_)
            obtain ⟨i, hi, rfl⟩ := List.mem_map.1 hxs
            rw [cntR_len]
            have hi := List.mem_range.1 hi
            rw [codeN_eq (List.getElem?_eq_getElem hi)]
            have := (HOK.out.fns _ (List.getElem_mem hi)).len.2
            unfold maxLen; omega
  · have hans : countsAns p xs ys fuel = ([], (begunAns p xs ys fuel).2) := by unfold countsAns; rw [if_pos hz]
    obtain ⟨e0, he0⟩ : ∃ e0, (begunAns p xs ys fuel).2 = e0 := ⟨_, rfl⟩
    rw [he0] at hz hans
    have HANS := Lib.hid hans
    have HZ := Lib.hid he0
    have hzb : (e0 != 0) = true := by simpa using hz
    clear he0 hz hans
    go_enter Tryd.func40, Tryd.ntmps40
    go_upto_region 2 with (first | (refine wpList_alloc_hp (o := ⟨some 10, _, _, _, _, _⟩) rfl _ rfl HP.out (.agg #[.int .i64 0, .int .i64 0, .slice none 0 0, .int .i64 0, .int .i64 0, .int .i64 0, .int .i64 0, .int .i64 0, .int .i64 0, .int .i64 0, .int .i64 0, .int .i64 0, .int .i64 0, .int .i64 0, .int .i64 0, .int .i64 0, .int .i64 0, .int .i64 0, .int .i64 0, .int .i64 0, .slice none 0 0, .slice none 0 0]) (by kernel_rfl) [_, _, _, _, _, _, _, _, _, _, _, _, _, _, _, _, _, _, _, _, _, _] rfl ?_; clear HP; intro g10 w10 HP; replace HP := Lib.hid HP) | (refine wpList_box_hp (o := ⟨some 4, _, _, _, _, _⟩) rfl _ _ rfl HP.out [_] rfl ?_; clear HP; intro g4 w4 HP; replace HP := Lib.hid HP) | (refine wpList_ldR0 rfl 24 _ rfl HP.out rfl Tryd.underlying24 rfl (by kernel_rfl) ?_) | (refine wpList_ldR1 rfl 24 _ rfl HP.out rfl Tryd.underlying24 rfl (by kernel_rfl) ?_) | (go_at_call 17; refine (Begun_any p _ xs ys _ _ fuel _ (HP.out.rep (F := ⟨w, Lt w.heap.size⟩) (by simp) HR.out) (HP.out.rep (F := ⟨w, Lt w.heap.size⟩) (by simp) HX.out) (HP.out.rep (F := ⟨w, Lt w.heap.size⟩) (by simp) HY.out)).mono ?_; rintro r1 w5 ⟨ua, ea, aa, rfl, hf, he, ha, hb⟩; replace HP := Lib.hid (HP.out.call hb); have HF1 := Lib.hid hf; have HE1 := Lib.hid he; have HA1 := Lib.hid ha; obtain ⟨Af1, cf1, rfl, -, -, -⟩ := rep_frames_at hf; obtain ⟨Ae1, ce1, rfl, -, -, -⟩ := rep_ints_at he; obtain ⟨Aa1, ca1, rfl, -, -, -⟩ := rep_ints_at ha; clear hb hf he ha) | (refine wpList_stR0 rfl 29 _ _ rfl HP.out rfl (cs' := staCells (begunAns p xs ys fuel).1 (.slice Af1 (begunAns p xs ys fuel).1.frames.length cf1) (.slice Ae1 (begunAns p xs ys fuel).1.events.length ce1) (.slice Aa1 (begunAns p xs ys fuel).1.answers.length ca1)) rfl rfl (by simp [staCells, Value.oneCell']) (by kernel_rfl) ?_; clear HP; intro wst HP; replace HP := Lib.hid HP))
    rw [HZ.out]
    go_wp2
    rw [HANS.out]
    (try simp only [Exit.inBlock, Exit.then])
    refine bodyPost_ret (results_tmp2 (by rfl) _ _ _) (by rfl) ⟨_, rfl, rep_rows_nil, HP.out.below⟩
end Go.Proofs.YtfhoffpdodjfeaaDoor
