/- flow.Blocks. ref.EndsBlock, ref.beginsBlock. -/
import Derived.Test.YtceilfmfidmfpaaDoorHeads
import Derived.Test.YtceilfmfidmfpaaDoorMgPrNestNestBFind4
import Derived.Test.YtceilfmfidmfpaaDoorMgFlowNextBlkGoBlkRef3
import Derived.Test.YtceilfmfidmfpaaDoorMgSureSLiveProvenCStateFaultLiveOf5
import Derived.Test.YtceilfmfidmfpaaDoorMgBehindWayToSureOfSure4
import Derived.Test.YtceilfmfidmfpaaDoorMgCodeACodeBCodeC3
set_option linter.unusedSimpArgs false
set_option linter.unusedVariables false
namespace Go.Proofs.YtceilfmfidmfpaaDoor
open Go.RowKit Plain64
attribute [local irreducible] wpList Code.wp Oper.wp
section
variable {P : Program} {w0 w : World} {ops : Array Oper} {rest : List Oper} {o : Oper} {a : Act} {Q : Exit → Act → World → Prop} {Fs : List Fro} {L : List Res}
/-- make([]T, n): an element of more cells. -/
theorem wpList_makeF (hgd : o.guard = none) (t : TypeId) (x y : Operand) (ho : o.op = .makeSlice t x y) (e : TypeId) (i : TypeInfo) (z : Value) (ht : P.underlying t = some (.slice e)) (hi : P.info? e = some i) (hz : i.zero = some z) (sz : Nat) (hs : i.size = sz)
    (n : Nat) (hx : a.eval x = .int .i64 n) (hy : a.eval y = .int .i64 n) (hb : i.bytes * n ≤ 281474976710656) (hn : n ≤ maxLen) (H : Hp w0 Fs L w)
    (h : ∀ g w', Hp w0 Fs (.blk g e (madeCells z.cells (n * sz)).toList :: L) w' → wpList P ops Q rest (a.put o.dst (.slice (some ⟨g, 0, none⟩) n n)) w') : wpList P ops Q (o :: rest) a w := by
  have hb' : (i.bytes : Int) * (n : Int) ≤ 281474976710656 := by
    have : ((i.bytes * n : Nat) : Int) ≤ 281474976710656 := by omega
    rwa [Int.natCast_mul] at this
  have hr := run_make (P := P) (w := w) t e i z ht hi hz .i64 .i64 n n (by omega) (Int.le_refl _) hb' (by unfold maxLen at hn; omega)
  simp only [Int.toNat_natCast, hs] at hr
  have H' := H.alloc (madeCells z.cells (n * sz)) e
  refine Great.wpList_runTo hgd o.dst rfl _ _ ?_ (h _ _ H')
  unfold execOp
  simp only [ho, hx, hy, Sem.run_bind, hr, Sem.run_pure, Result.andThen_ok]
end
theorem info_Bk : (Tryd.prog.info? 50).map (fun i => (i.zero, i.size, i.bytes)) = some (some (.agg #[.int .i64 0, .int .i64 0, .slice none 0 0, .slice none 0 0]), 4, 64) := by kernel_rfl
theorem made_bs (n : Nat) : (madeCells (Value.agg #[.int .i64 0, .int .i64 0, .slice none 0 0, .slice none 0 0]).cells (n * 4)).toList = bsCells (List.replicate n zeroBV) := by
  rw [made4 rfl n]
  show _ = List.flatMap bvCells _
  rw [List.flatMap_def, List.map_replicate]; rfl
theorem hdsTo_all (f : Fun) : hdsTo f f.code.length = (headsL f).map fun k : Nat => (k : Int) := rfl
theorem hds_get {f : Fun} {k : Nat} (h : k < (headsL f).length) : (hdsTo f f.code.length)[k]? = some (begB f k : Int) := by
  rw [hdsTo_all, List.getElem?_map, begB_get h]; rfl
theorem hds_mem {f : Fun} {t : Nat} : (t : Int) ∈ hdsTo f f.code.length ↔ t ∈ headsL f := by
  rw [hdsTo_all, List.mem_map]
  constructor
  · rintro ⟨k, hk, e⟩; have : k = t := by omega
    exact this ▸ hk
  · intro h; exact ⟨t, h, rfl⟩
theorem hds_lt (f : Fun) : (hdsTo f f.code.length).Pairwise (· < ·) := by
  rw [hdsTo_all, List.pairwise_map]; exact (headsL_lt f).imp fun {a b} h => by omega
theorem cell_at0 {w : World} {a : Addr} {v : Value} {cs : List Value} (h : At w a (v :: cs)) : w.cell? a = some v := At.fld0 h rfl
set_option maxRecDepth 100000 in
set_option maxHeartbeats 10000000 in
theorem Blocks_any (p : Prg) (u : Value) (fn : Int) (w : World) (hp : Lay.rep w (Lt w.heap.size) p [u]) (hh : Has w) :
    Calls Tryd.prog 11 #[.agg #[u], .int .i64 fn] w fun e w' => ∃ v, e = .returned (.tuple #[v, .int .i64 (blocksAns p fn).2]) ∧ Lay.rep w' (Fresh w w') (blocksAns p fn).1 [v] ∧ Below w.heap.size w w' := by
  obtain ⟨A, c, rfl, hc, hm, hx⟩ := rep_prg_at hp
  unfold maxLen at hm
  have HX := Lib.hid hx
  have HR := Lib.hid hp
  have HH := Lib.hid hh
  clear hx hp hh
  obtain ⟨i_int, hi_int, hz_int, hs_int, hy_int⟩ := info_parts info_int
  obtain ⟨i_Bk, hi_Bk, hz_Bk, hs_Bk, hy_Bk⟩ := info_parts info_Bk
  obtain ⟨z_Bk, hzq⟩ : ∃ z_Bk : Value, Value.agg #[.int .i64 0, .int .i64 0, .slice none 0 0, .slice none 0 0] = z_Bk := ⟨_, rfl⟩
  rw [hzq] at hz_Bk
  have HZB := Lib.hid hzq
  clear hzq
  have HP := Lib.hid (Hp.start w)
  by_cases hz : proven p = 0
  · have hpf := proven_prgL hz
    have ok := okP_of hpf
    have HOK := Lib.hid ok
    obtain ⟨n1, n2⟩ := ok.len
    clear ok
    have HZ := Lib.hid hz
    by_cases hfn : 0 ≤ fn ∧ fn < p.funcs.length
    · obtain ⟨f1, f2⟩ := hfn
      obtain ⟨k, rfl⟩ := Int.eq_ofNat_of_zero_le f1
      have hkl : k < p.funcs.length := by omega
      obtain ⟨ad, v, rfl, hab, hat, hcode⟩ := HX.out k hkl
      obtain ⟨f, hf⟩ : ∃ f, p.funcs[k] = f := ⟨_, rfl⟩
      rw [hf] at hat hcode
      have hfm : f ∈ p.funcs := hf ▸ List.getElem_mem hkl
      have hfk : p.funcs[k]? = some f := by rw [← hf, List.getElem?_eq_getElem hkl]
      have HANS := Lib.hid (blocks_in hz hfk)
      have HSA := Lib.hid (sureAns_in hpf hfk)
      have HOF := Lib.hid (HOK.out.fns f hfm)
      have HEE := Lib.hid (proven_ends hz hfm)
      have HC := Lib.hid hcode
      obtain ⟨A2, c2, rfl, hc2, hm2, hx2⟩ := rep_code hcode
      unfold maxLen at hm2
      have HX2 := Lib.hid hx2
      obtain ⟨l1, l2⟩ := HOF.out.len
      have HAT := Lib.hid hat
      clear hz hpf hf hfm hfk hx2 hcode hat
      rw [HANS.out]
      obtain ⟨m, hmm⟩ : ∃ m, (headsL f).length = m := ⟨_, rfl⟩
      have hmp : 0 < m := hmm ▸ headsL_pos HOF.out
      have hml : m ≤ f.code.length := hmm ▸ headsL_len f
      have HM := Lib.hid hmm
      go_enter Tryd.func11, Tryd.ntmps11
      go_upto_region 9 with (first | (refine wpList_box_hp (o := ⟨some 2, _, _, _, _, _⟩) rfl _ _ rfl HP.out [_] rfl ?_; clear HP; intro g2 w2 HP; replace HP := Lib.hid HP) | (refine wpList_ldR0 rfl 24 _ rfl HP.out rfl Tryd.underlying24 rfl (by kernel_rfl) ?_) | (refine wpList_ldR1 rfl 24 _ rfl HP.out rfl Tryd.underlying24 rfl (by kernel_rfl) ?_) | (go_at_call 24; refine (proofCheck_any p _ _ (HP.out.rep (F := ⟨w, Lt w.heap.size⟩) (by simp) HR.out) (HH.out.keep HP.out.below rfl)).mono ?_; rintro e w4 ⟨rfl, hb⟩; replace HP := Lib.hid (HP.out.call0 hb); clear hb; rw [HZ.out]) | (go_at_call 25; refine (Sure_any p _ _ _ (HP.out.rep (F := ⟨w, Lt w.heap.size⟩) (by simp) HR.out) (HH.out.keep HP.out.below rfl)).mono ?_; rintro e w5 ⟨v5, rfl, hv5, hb⟩; replace HP := Lib.hid (HP.out.call hb); clear hb; rw [HSA.out] at hv5; rw [HSA.out]; have HV5 := Lib.hid hv5; clear hv5) | (refine wpList_alloc_hp (o := ⟨some 9, _, _, _, _, _⟩) rfl _ rfl HP.out (.agg #[.int .i64 0, .int .i64 0, .slice none 0 0]) (by kernel_rfl) [_, _, _] rfl ?_; clear HP; intro g9 w9 HP; replace HP := Lib.hid HP) | (refine wpList_stR0 rfl 47 _ _ rfl HP.out rfl (cs' := [_, _, _]) rfl rfl (by simp [Value.oneCell']) (by kernel_rfl) ?_; clear HP; intro wst HP; replace HP := Lib.hid HP) | (refine wpList_ld0 rfl 22 _ rfl HP.out rfl rfl Tryd.underlying22 rfl ?_) | (refine wpList_ld1 rfl 22 _ rfl HP.out rfl rfl Tryd.underlying22 rfl ?_) | (refine wpList_load_at rfl 47 _ rfl _ rfl _ _ (HP.out.at_ (F := ⟨w, Lt w.heap.size⟩) (by simp) HAT.out (by rw [block_of_add]; exact hab)) Tryd.underlying47 rfl (by kernel_rfl) ?_) | (refine wpList_ldR0 rfl 47 _ rfl HP.out rfl Tryd.underlying47 rfl (by kernel_rfl) ?_) | (go_at_call 26; refine (heads_any f _ HOF.out _ _ _ (HP.out.rep (F := ⟨w, Lt w.heap.size⟩) (by simp) HC.out) (HP.out.rep (.head _) HV5.out)).mono ?_; rintro e w6 ⟨v6, rfl, hv6, hb⟩; replace HP := Lib.hid (HP.out.call hb); clear hb; have HV6 := Lib.hid hv6; clear hv6))
      obtain ⟨H, hH⟩ : ∃ H, hdsTo f f.code.length = H := ⟨_, rfl⟩
      have HGE := Lib.hid (show ∀ k, k < m → H[k]? = some (begB f k : Int) from fun k h => hH ▸ hds_get (by omega))
      have HME := Lib.hid (show ∀ t : Nat, (t : Int) ∈ H ↔ t ∈ headsL f from fun t => hH ▸ hds_mem)
      have HPW := Lib.hid (show H.Pairwise (· < ·) from hH ▸ hds_lt f)
      have hHl : H.length = m := by rw [← hH, hdsTo_all, List.length_map, hmm]
      rw [hH] at HV6
      clear hH hmm
      obtain ⟨A6, c6, rfl, hc6, hm6, -⟩ := rep_ints_at HV6.out
      unfold maxLen at hm6
      rw [hHl] at HV6 hc6 ⊢
      obtain ⟨G6, HP, HS6⟩ : ∃ G : Fro, Hid (Hp w [G, ⟨w, Lt w.heap.size⟩] (.blk g9 47 [.int .i64 f.params, .int .i64 f.regs, .slice A2 f.code.length c2] :: .blk g2 24 [.slice (some ad) p.funcs.length c] :: []) _) ∧ Hid (Lay.rep G.w G.S H [.slice A6 m c6]) := ⟨_, Lib.hid (HP.out.froKeep (by intro F hF; rcases List.mem_cons.1 hF with rfl | hF; exact .head _; exact .tail _ (.tail _ hF))), HV6⟩
      clear HV6 HV5
      go_upto_region 10 with (first | (refine wpList_makeF (o := ⟨some 43, _, _, _, _, _⟩) rfl _ _ _ rfl _ i_Bk z_Bk Tryd.underlying42 hi_Bk hz_Bk 4 hs_Bk m rfl rfl (by rw [hy_Bk]; omega) (by unfold maxLen; omega) HP.out ?_; clear HP; intro gm wm0 HP; replace HP := Lib.hid HP))
      rw [← HZB.out, made_bs] at HP
      have hb0 : (List.replicate m zeroBV)[0]? = some zeroBV := by rw [List.getElem?_replicate, if_pos hmp]
      have hmp2 : (0 : Int) < (m : Int) := by omega
      go_upto_region 11 with (first | (refine wpList_ints_hp rfl 27 3 1 _ rfl HP.out Tryd.underlying27 [_] rfl (by kernel_rfl) ?_; clear HP; intro gi wi HP; replace HP := Lib.hid HP) | (refine wpList_st1 rfl 27 _ _ rfl HP.out rfl rfl (bs_lt hb0 (j := 3) rfl (by omega)) rfl (bs_setP hb0 _ [-1] rfl) (by kernel_rfl) ?_; clear HP; intro wst HP; replace HP := Lib.hid HP))
      replace HP := Lib.hid (Hp.rowOf (A := []) (n := 1) (sz := 1) HP.out rfl (by unfold maxLen; omega))
      simp only [List.nil_append] at HP
      obtain ⟨R0, hp1, hbk⟩ := Hp.takeP (L := [_, _, _, _]) (t := 3) (Hp.bvNil HP.out m) hb0
      replace HP := Lib.hid (hbk _ _ [_, _, _] { zeroBV with vp := .slice (some ⟨gi, 0, none⟩) 1 1, ps := [-1] } rfl (Hp.drop (A := []) hp1))
      simp only [List.cons_append, List.nil_append] at HP
      clear hp1 hbk hb0
      have HB0 := Lib.hid (show ((List.replicate m zeroBV).set 0 { zeroBV with vp := .slice (some ⟨gi, 0, none⟩) 1 1, ps := [-1] }).length = m ∧ AllB (BAt f m 0) ((List.replicate m zeroBV).set 0 { zeroBV with vp := .slice (some ⟨gi, 0, none⟩) 1 1, ps := [-1] }) from ⟨by simp, BAt.start f m _⟩)
      go_wp2
      go_loopw [50] (fun i wr => ∃ (q : Nat) (bs : List BV), q ≤ m ∧ i = .int .i64 q ∧ Hid (bs.length = m ∧ AllB (BAt f m q) bs) ∧ Hid (Hp w [G6, ⟨w, Lt w.heap.size⟩] (.blk gm 50 (bsCells bs) :: .blk g9 47 [.int .i64 f.params, .int .i64 f.regs, .slice A2 f.code.length c2] :: .blk g2 24 [.slice (some ad) p.funcs.length c] :: bvRows 3 bs) wr)) (fun i _ => m - (intOf i).toNat)
      case atStart => exact ⟨0, _, by omega, rfl, HB0, HP⟩
      case round =>
        clear HP HB0
        obtain ⟨q, bs, hq, rfl, HBS, HP⟩ := hrel
        obtain ⟨wo, rfl⟩ : ∃ wo : World, wo = wr := ⟨_, rfl⟩
        by_cases hlt : q < m
        · have hlt2 : (q : Int) < (m : Int) := by omega
          obtain ⟨A10, c10, e10, -, -, hx10⟩ := rep_ints_at (HP.out.rep (F := G6) (by simp) HS6.out)
          obtain ⟨a6, rfl, -, hcl⟩ := hx10 q (by omega)
          clear hx10
          obtain rfl : A6 = some a6 := (Value.slice.inj e10).1
          clear e10
          have hHq : H[q]'(by omega) = (begB f q : Int) := by have := HGE.out q hlt; rw [List.getElem?_eq_getElem (by omega)] at this; exact Option.some.inj this
          rw [hHq] at hcl
          clear hHq
          have hbm := mem_headsL.1 (begB_mem (f := f) (i := q) (by rw [HM.out]; exact hlt))
          have HON := Lib.hid (OnTo.start (hbm.2.sure HOF.out HEE.out).1 hbm.1)
          have hbl := hbm.1
          obtain ⟨bg, hbg⟩ : ∃ bg, begB f q = bg := ⟨_, rfl⟩
          have HBG := Lib.hid hbg
          rw [hbg] at HON hcl hbl
          clear hbm hbg
          go_wp2
          clear hcl
          go_loopw [14] (fun tv wr => ∃ t : Nat, tv = .int .i64 t ∧ Hid (OnTo f (bg) t) ∧ Hid (Hp w [G6, ⟨w, Lt w.heap.size⟩] (.blk gm 50 (bsCells bs) :: .blk g9 47 [.int .i64 f.params, .int .i64 f.regs, .slice A2 f.code.length c2] :: .blk g2 24 [.slice (some ad) p.funcs.length c] :: bvRows 3 bs) wr)) (fun tv _ => f.code.length - (intOf tv).toNat)
          case atStart => exact ⟨bg + 1, by go_num, HON, HP⟩
          case round =>
            clear HP HON
            obtain ⟨t, rfl, HON, HP⟩ := hrel
            obtain ⟨wo2, rfl⟩ : ∃ wo : World, wo = wr := ⟨_, rfl⟩
            obtain ⟨tp, rfl⟩ : ∃ tp, t = tp + 1 := ⟨t - 1, by have := HON.out.gt; omega⟩
            have htl : tp < f.code.length := by have := HON.out.le; omega
            have htl2 : (tp : Int) < (f.code.length : Int) := by omega
            have htw : IntKind.i64.wrap (((tp + 1 : Nat) : Int) - 1) = (tp : Int) := by rw [IntKind.wrap_i64]; omega
            have htw2 : ((tp + 1 : Nat) : Int) - 1 = (tp : Int) := by omega
            obtain ⟨aC, hA2, habC, hatC⟩ := HX2.out tp htl
            subst hA2
            obtain ⟨x, hxq⟩ : ∃ x, f.code[tp] = x := ⟨_, rfl⟩
            rw [hxq] at hatC
            have hxq2 : f.code[tp]? = some x := by rw [List.getElem?_eq_getElem htl, hxq]
            have HXE := Lib.hid hxq
            have HXQ := Lib.hid (show f.code[tp + 1 - 1]? = some x by rw [Nat.add_sub_cancel]; exact hxq2)
            have HOP := Lib.hid (show opAt f (tp + 1 - 1) = x.op from opAt_eq HXQ.out)
            have qop := cell_at0 (HP.out.at_ (F := ⟨w, Lt w.heap.size⟩) (by simp) hatC (by rw [block_of_add]; exact habC))
            clear hxq hxq2 hatC habC
            obtain ⟨be, hbe⟩ : ∃ be, decide (15 ≤ x.op) = be := ⟨_, rfl⟩
            obtain ⟨bh, hbh⟩ : ∃ bh, decide ((tp : Int) + 1 ∈ H) = bh := ⟨_, rfl⟩
            have htc : (tp : Int) + 1 = ((tp + 1 : Nat) : Int) := by omega
            have HEN := Lib.hid hbe
            have HCO := Lib.hid hbh
            have HHD := Lib.hid (show (bh = true ↔ (tp + 1 < f.code.length ∧ HeadP f (tp + 1))) by rw [← hbh, decide_eq_true_iff, htc, HME.out, mem_headsL])
            have HE2 := Lib.hid (show be = true ↔ 15 ≤ opAt f (tp + 1 - 1) by rw [← hbe, decide_eq_true_iff, HOP.out])
            clear hbe hbh htc
            by_cases hgo : be = false ∧ bh = false
            · obtain ⟨rfl, rfl⟩ := hgo
              have hn1 : ¬ 15 ≤ opAt f (tp + 1 - 1) := fun h => by have := HE2.out.2 h; cases this
              have hn2 := HON.out.lt HOF.out HEE.out hn1
              have HNX := Lib.hid (HON.out.next HOF.out HEE.out hn1 (fun h => by have := HHD.out.2 ⟨hn2.1, h⟩; cases this))
              have hnl := hn2.1
              clear hn1 hn2
              go_wp2_with (first | (refine wpList_ld1 rfl 45 _ rfl HP.out rfl rfl Tryd.underlying45 rfl ?_) | (go_at_call 27; refine (flowEnds_any _ _).mono ?_; rintro e w9 ⟨rfl, rfl⟩; rw [HEN.out]) | (go_at_call 28; refine (Contains_any H _ _ _ (HP.out.rep (.head _) HS6.out)).mono ?_; rintro e w9 ⟨rfl, rfl⟩; rw [HCO.out]))
              go_roundw
              case rel => exact ⟨tp + 1 + 1, by go_num, HNX, HP⟩
              case measure => simp [intOf]; omega
            · have HSTP := Lib.hid (show 15 ≤ opAt f (tp + 1 - 1) ∨ HeadP f (tp + 1) by
                cases be with
                | true => exact .inl (HE2.out.1 rfl)
                | false => cases bh with
                  | true => exact .inr (HHD.out.1 rfl).2
                  | false => exact absurd ⟨rfl, rfl⟩ hgo)
              have hgo2 : be = true ∨ (be = false ∧ bh = true) := by
                cases be with
                | true => exact .inl rfl
                | false => cases bh with
                  | true => exact .inr ⟨rfl, rfl⟩
                  | false => exact absurd ⟨rfl, rfl⟩ hgo
              clear hgo
              have HTO := Lib.hid (show (toOf f bg : Int) = (tp : Int) + 1 by rw [(HON.out.done HSTP.out).eq]; omega)
              obtain ⟨ks, hk1, hk2, hk3, hk4⟩ := next_blocks HOF.out HEE.out (i := q) (by rw [HBG.out]; exact HON.out) HSTP.out HXQ.out
              rw [Nat.add_sub_cancel] at hk2
              obtain ⟨ns, hns⟩ : ∃ ns, nxtS x tp = ns := ⟨_, rfl⟩
              have hnl := nxtS_len x tp
              rw [hns] at hk2 hnl
              have HNS := Lib.hid hns
              have hkl2 : ks.length = ns.length := by rw [hk2, List.length_map]
              have HK1 := Lib.hid hk1
              have HK2 := Lib.hid hk2
              have HK3 := Lib.hid hk3
              have HK4 := Lib.hid hk4
              obtain ⟨b, hb⟩ : ∃ b, bs[q]? = some b := ⟨bs[q]'(by rw [HBS.out.1]; exact hlt), List.getElem?_eq_getElem _⟩
              have HBQ := Lib.hid hb
              have HBQ2 := Lib.hid (show (bs.set q { b with frm := (bg : Int) })[q]? = some { b with frm := (bg : Int) } by rw [List.getElem?_set_self (by rw [HBS.out.1]; exact hlt)])
              have HBI := Lib.hid (show (bs.set q { b with frm := (bg : Int), upto := (tp : Int) + 1 }).length = m ∧ AllB (BIn f m q ks 0 0) (bs.set q { b with frm := (bg : Int), upto := (tp : Int) + 1 }) from ⟨by rw [List.length_set]; exact HBS.out.1, by have h := BIn.start (ks := ks) HBS.out.2 hb; rw [HBG.out, HTO.out] at h; exact h⟩)
              have HRW := Lib.hid (bvRows_set (t := 3) (b' := { b with frm := (bg : Int), upto := (tp : Int) + 1 }) hb rfl rfl)
              clear hns hk1 hk2 hk3 hk4 hb
              rcases hgo2 with rfl | ⟨rfl, rfl⟩
              all_goals
                go_upto_region 18 with (first | (refine wpList_ld1 rfl 45 _ rfl HP.out rfl rfl Tryd.underlying45 rfl ?_) | (go_at_call 27; refine (flowEnds_any _ _).mono ?_; rintro e w9 ⟨rfl, rfl⟩; rw [HEN.out]) | (go_at_call 28; refine (Contains_any H _ _ _ (HP.out.rep (.head _) HS6.out)).mono ?_; rintro e w9 ⟨rfl, rfl⟩; rw [HCO.out]) | (refine wpList_st0 rfl 3 _ _ rfl HP.out rfl rfl (bs_lt HBQ.out (j := 0) (by omega) (by omega)) rfl (bs_setF HBQ.out (bg : Int) (by omega)) (by kernel_rfl) ?_; clear HP; intro wst HP; replace HP := Lib.hid HP) | (refine wpList_st0 rfl 3 _ _ rfl HP.out rfl rfl (bs_lt HBQ2.out (j := 1) (by omega) (by omega)) rfl (bs_setT HBQ2.out ((tp : Int) + 1) (by omega)) (by kernel_rfl) ?_; clear HP; intro wst HP; replace HP := Lib.hid HP))
                clear qop
                rw [List.set_set, ← HRW.out] at HP
                go_upto_region 19 with (first | (refine wpList_ldR0 rfl 47 _ rfl HP.out rfl Tryd.underlying47 rfl (by kernel_rfl) ?_) | (refine wpList_ldR1 rfl 47 _ rfl HP.out rfl Tryd.underlying47 rfl (by kernel_rfl) ?_) | (go_at_call 29; refine (flowNext_any f _ tp _ (HP.out.rep (F := ⟨w, Lt w.heap.size⟩) (by simp) HC.out) htl).mono ?_; rintro e w9 ⟨u9, rfl, hu9, hb9⟩; rw [HXE.out, HNS.out] at hu9; replace HP := Lib.hid (HP.out.call hb9); have HU := Lib.hid hu9; clear hb9 hu9; obtain ⟨A9, c9, rfl, hc9, hm9, -⟩ := rep_ints_at HU.out; unfold maxLen at hm9))
                obtain ⟨Gn, HP, HU⟩ : ∃ G : Fro, Hid (Hp w [G, G6, ⟨w, Lt w.heap.size⟩] (.blk gm 50 (bsCells (bs.set q { b with frm := (bg : Int), upto := (tp : Int) + 1 })) :: .blk g9 47 [.int .i64 f.params, .int .i64 f.regs, .slice (some aC) f.code.length c2] :: .blk g2 24 [.slice (some ad) p.funcs.length c] :: bvRows 3 (bs.set q { b with frm := (bg : Int), upto := (tp : Int) + 1 })) w9) ∧ Hid (Lay.rep G.w G.S ns [.slice A9 ns.length c9]) := ⟨_, HP, HU⟩
                go_loopw [89] (fun i wr => ∃ (j : Nat) (bs : List BV), j ≤ ns.length ∧ i = .int .i64 j ∧ Hid (bs.length = m ∧ AllB (BIn f m q ks j j) bs) ∧ Hid (Hp w [Gn, G6, ⟨w, Lt w.heap.size⟩] (.blk gm 50 (bsCells bs) :: .blk g9 47 [.int .i64 f.params, .int .i64 f.regs, .slice (some aC) f.code.length c2] :: .blk g2 24 [.slice (some ad) p.funcs.length c] :: bvRows 3 bs) wr)) (fun i _ => ns.length - (intOf i).toNat)
                case atStart => exact ⟨0, _, by omega, rfl, HBI, HP⟩
                case round =>
                  clear HP HBI HBQ HBQ2 HRW HBS
                  obtain ⟨j, bs, hj, rfl, HBS, HP⟩ := hrel
                  obtain ⟨wo3, rfl⟩ : ∃ wo : World, wo = wr := ⟨_, rfl⟩
                  by_cases hjl : j < ns.length
                  · have hjl2 : (j : Int) < (ns.length : Int) := by omega
                    obtain ⟨A11, c11, e11, -, -, hx11⟩ := rep_ints_at (HP.out.rep (F := Gn) (by simp) HU.out)
                    obtain ⟨a9, rfl, -, hcl⟩ := hx11 j hjl
                    clear hx11
                    obtain rfl : A9 = some a9 := (Value.slice.inj e11).1
                    clear e11
                    obtain ⟨kk, hkk⟩ : ∃ kk, ks[j]? = some kk := ⟨ks[j]'(by omega), List.getElem?_eq_getElem _⟩
                    have hkm : kk < m := HM.out ▸ HK1.out kk (List.mem_of_getElem? hkk)
                    have hnj : ns[j] = (begB f kk : Int) := by
                      have h : ns[j]? = some (begB f kk : Int) := by rw [HK2.out, List.getElem?_map, hkk]; rfl
                      rw [List.getElem?_eq_getElem hjl] at h; exact Option.some.inj h
                    rw [hnj] at hcl
                    have HKK := Lib.hid (HGE.out kk hkm)
                    have hkm2 : (kk : Int) < (m : Int) := by omega
                    have HKJ := Lib.hid hkk
                    have HNK := Lib.hid (show kk ∉ ks.take j by
                      intro hmem
                      obtain ⟨i, hi, e⟩ := List.mem_iff_getElem.1 hmem
                      rw [List.length_take] at hi
                      rw [List.getElem_take] at e
                      obtain ⟨hjk, e2⟩ := List.getElem?_eq_some_iff.1 hkk
                      have := List.pairwise_iff_getElem.1 HK3.out i j (by omega) hjk (by omega)
                      omega)
                    obtain ⟨b, hb⟩ : ∃ b, bs[q]? = some b := ⟨bs[q]'(by rw [HBS.out.1]; exact hlt), List.getElem?_eq_getElem _⟩
                    have hbn := (HBS.out.2 q b hb).len rfl
                    have HBQ := Lib.hid hb
                    obtain ⟨R1, hp1, hbk1⟩ := Hp.takeN (L := [_, _, _]) (t := 3) HP.out hb
                    replace HP := Lib.hid (show Hp w [Gn, G6, ⟨w, Lt w.heap.size⟩] (.row b.vn 3 1 b.ns.length (b.ns.map (Value.int .i64)) :: .blk gm 50 (bsCells bs) :: .blk g9 47 [.int .i64 f.params, .int .i64 f.regs, .slice (some aC) f.code.length c2] :: .blk g2 24 [.slice (some ad) p.funcs.length c] :: R1) wo3 from hp1)
                    have HBK1 := Lib.hid hbk1
                    clear hkk hnj hb hp1 hbk1
                    go_upto_region 22 with (first | (go_at_call 30; refine (BinarySearch_any H _ _ kk HKK.out HPW.out (by omega) _ (HP.out.rep (.tail _ (.head _)) HS6.out)).mono ?_; rintro e w9 ⟨rfl, rfl⟩))
                    clear hcl
                    go_upto_region 23 with (first | (refine wpList_ld1 rfl 27 _ rfl HP.out rfl (bs_at HBQ.out 2 rfl (by omega)) Tryd.underlying27 rfl ?_) | (refine wpList_ints_hp rfl 27 3 1 _ rfl HP.out Tryd.underlying27 [_] rfl (by kernel_rfl) ?_; clear HP; intro gi wi HP; replace HP := Lib.hid HP) | (at_builtin; refine wpList_apg0 rfl _ _ 27 rfl i_int (.int .i64 0) Tryd.underlying27 hi_int hz_int hs_int rfl (by decide) hy_int ((b.ns.length + 1)) rfl HP.out rfl rfl rfl (by simp [Value.oneCell']) (by unfold maxLen; omega) (by omega) (by omega) ?_; clear HP; intro gap cap wap HP; replace HP := Lib.hid HP) | (refine wpList_st1 rfl 27 _ _ rfl HP.out rfl rfl (bs_lt HBQ.out (j := 2) (by omega) (by omega)) rfl (bs_setN HBQ.out _ (b.ns ++ [(kk : Int)]) (by omega)) (by kernel_rfl) ?_; clear HP; intro wst HP; replace HP := Lib.hid HP))
                    replace HP := Lib.hid (show Hp w [Gn, G6, ⟨w, Lt w.heap.size⟩] (.row (.slice (some ⟨gap, 0, none⟩) (b.ns.length + 1) cap) 3 1 (b.ns.length + 1) (b.ns.map (Value.int .i64) ++ [(kk : Int)].map (Value.int .i64)) :: .blk gm 50 (bsCells (bs.set q { b with vn := .slice (some ⟨gap, 0, none⟩) (b.ns.length + 1) cap, ns := b.ns ++ [(kk : Int)] })) :: .blk g9 47 [.int .i64 f.params, .int .i64 f.regs, .slice (some aC) f.code.length c2] :: .blk g2 24 [.slice (some ad) p.funcs.length c] :: R1) _ from HP.out)
                    have hp2 := HBK1.out _ _ [_, _, _] { b with vn := .slice (some ⟨gap, 0, none⟩) (b.ns.length + 1) cap, ns := b.ns ++ [(kk : Int)] } rfl (by unfold bvN; rw [List.length_append, List.map_append]; exact HP.out)
                    simp only [List.cons_append, List.nil_append] at hp2
                    obtain ⟨bs2, hbs2⟩ : ∃ bs2, bs.set q { b with vn := .slice (some ⟨gap, 0, none⟩) (b.ns.length + 1) cap, ns := b.ns ++ [(kk : Int)] } = bs2 := ⟨_, rfl⟩
                    have HBS2 := Lib.hid (show bs2.length = m ∧ AllB (BIn f m q ks (j + 1) j) bs2 from hbs2 ▸ ⟨by rw [List.length_set]; exact HBS.out.1, BIn.stepN HBS.out.2 HBQ.out HKJ.out _⟩)
                    rw [hbs2] at hp2
                    clear hbs2 HBK1 HP HBQ
                    obtain ⟨b2, hb2⟩ : ∃ b2, bs2[kk]? = some b2 := ⟨bs2[kk]'(by rw [HBS2.out.1]; exact hkm), List.getElem?_eq_getElem _⟩
                    have hbp := (HBS2.out.2 kk b2 hb2).lenP
                    have HBQ2 := Lib.hid hb2
                    obtain ⟨R2, hp3, hbk2⟩ := Hp.takeP (L := [_, _, _]) (t := 3) hp2 hb2
                    have HP := Lib.hid (show Hp w [Gn, G6, ⟨w, Lt w.heap.size⟩] (.row b2.vp 3 1 b2.ps.length (b2.ps.map (Value.int .i64)) :: .blk gm 50 (bsCells bs2) :: .blk g9 47 [.int .i64 f.params, .int .i64 f.regs, .slice (some aC) f.code.length c2] :: .blk g2 24 [.slice (some ad) p.funcs.length c] :: R2) _ from hp3)
                    have HBK2 := Lib.hid hbk2
                    clear hb2 hp2 hp3 hbk2
                    go_wp2_with (first | (refine wpList_ld1 rfl 27 _ rfl HP.out rfl (bs_at HBQ2.out 3 rfl (by omega)) Tryd.underlying27 rfl ?_) | (refine wpList_ints_hp rfl 27 3 1 _ rfl HP.out Tryd.underlying27 [_] rfl (by kernel_rfl) ?_; clear HP; intro gi wi HP; replace HP := Lib.hid HP) | (at_builtin; refine wpList_apg0 rfl _ _ 27 rfl i_int (.int .i64 0) Tryd.underlying27 hi_int hz_int hs_int rfl (by decide) hy_int (b2.ps.length + 1) rfl HP.out rfl rfl rfl (by simp [Value.oneCell']) (by unfold maxLen; omega) (by omega) (by omega) ?_; clear HP; intro gap2 cap2 wap2 HP; replace HP := Lib.hid HP) | (refine wpList_st1 rfl 27 _ _ rfl HP.out rfl rfl (bs_lt HBQ2.out (j := 3) (by omega) (by omega)) rfl (bs_setP HBQ2.out _ (b2.ps ++ [(q : Int)]) (by omega)) (by kernel_rfl) ?_; clear HP; intro wst HP; replace HP := Lib.hid HP))
                    replace HP := Lib.hid (show Hp w [Gn, G6, ⟨w, Lt w.heap.size⟩] (.row (.slice (some ⟨gap2, 0, none⟩) (b2.ps.length + 1) cap2) 3 1 (b2.ps.length + 1) (b2.ps.map (Value.int .i64) ++ [(q : Int)].map (Value.int .i64)) :: .blk gm 50 (bsCells (bs2.set kk { b2 with vp := .slice (some ⟨gap2, 0, none⟩) (b2.ps.length + 1) cap2, ps := b2.ps ++ [(q : Int)] })) :: .blk g9 47 [.int .i64 f.params, .int .i64 f.regs, .slice (some aC) f.code.length c2] :: .blk g2 24 [.slice (some ad) p.funcs.length c] :: R2) _ from HP.out)
                    have hp4 := HBK2.out _ _ [_, _, _] { b2 with vp := .slice (some ⟨gap2, 0, none⟩) (b2.ps.length + 1) cap2, ps := b2.ps ++ [(q : Int)] } rfl (by unfold bvP; rw [List.length_append, List.map_append]; exact HP.out)
                    simp only [List.cons_append, List.nil_append] at hp4
                    have HP4 := Lib.hid hp4
                    go_roundw
                    case rel => exact ⟨j + 1, _, by omega, by go_num, Lib.hid ⟨by rw [List.length_set]; exact HBS2.out.1, BIn.stepP HBS2.out.2 HBQ2.out HKJ.out HNK.out _⟩, HP4⟩
                    case measure => simp [intOf]; omega
                  · obtain rfl : j = ns.length := by omega
                    have HBD := Lib.hid (show bs.length = m ∧ AllB (BAt f m (q + 1)) bs from ⟨HBS.out.1, by
                      have h := HBS.out
                      rw [← hkl2, ← HM.out] at h
                      have := BIn.done h.1 HK1.out HK3.out HK4.out h.2
                      rw [HM.out] at this
                      exact this⟩)
                    go_wp2
                    go_roundw
                    case rel => exact ⟨q + 1, bs, by omega, by go_num, HBD, Lib.hid (HP.out.froDrop)⟩
                    case measure => simp [intOf]; omega
        · obtain rfl : q = m := by omega
          have HBL := Lib.hid (show bs.map bvOf = blksL f by
            have h := HBS.out
            rw [← HM.out] at h
            exact BAt.done h.1 h.2)
          have hbl : bs.length = q := HBS.out.1
          go_wp2
          (try simp only [Exit.inBlock, Exit.then])
          replace HP := Lib.hid (Hp.rowOf (A := []) (n := q) (sz := 4) HP.out (by rw [bs_len, hbl]) (by unfold maxLen; omega))
          simp only [List.nil_append] at HP
          refine bodyPost_ret (results_tmp2 (by rfl) _ _ _) (by rfl) ⟨_, rfl, ?_, HP.out.below⟩
          simp only
          rw [← HBL.out]
          exact HP.out.bkRep (t := 3) (.head _) (fun r hr => .tail _ (.tail _ (.tail _ hr)))
    · have HANS := Lib.hid (blocks_out hz (fn := fn) hfn)
      have HSA := Lib.hid (sureAns_out hpf (fn := fn) (by omega))
      clear hz hpf hfn
      rw [HANS.out]
      go_enter Tryd.func11, Tryd.ntmps11
      go_wp2_with (first | (refine wpList_box_hp (o := ⟨some 2, _, _, _, _, _⟩) rfl _ _ rfl HP.out [_] rfl ?_; clear HP; intro g2 w2 HP; replace HP := Lib.hid HP) | (refine wpList_ldR0 rfl 24 _ rfl HP.out rfl Tryd.underlying24 rfl (by kernel_rfl) ?_) | (go_at_call 24; refine (proofCheck_any p _ _ (HP.out.rep (F := ⟨w, Lt w.heap.size⟩) (by simp) HR.out) (HH.out.keep HP.out.below rfl)).mono ?_; rintro e w4 ⟨rfl, hb⟩; replace HP := Lib.hid (HP.out.call0 hb); clear hb; rw [HZ.out]) | (go_at_call 25; refine (Sure_any p _ _ _ (HP.out.rep (F := ⟨w, Lt w.heap.size⟩) (by simp) HR.out) (HH.out.keep HP.out.below rfl)).mono ?_; rintro e w5 ⟨v5, rfl, hv5, hb⟩; replace HP := Lib.hid (HP.out.call0 hb); clear hb; rw [HSA.out]; clear hv5))
      (try simp only [Exit.inBlock, Exit.then])
      refine bodyPost_ret (results_tmp2 (by rfl) _ _ _) (by rfl) ?_
      exact ⟨_, rfl, rep_bks_nil, HP.out.below⟩
  · have HANS := Lib.hid (blocks_bad hz fn)
    obtain ⟨e0, he0⟩ : ∃ e0, proven p = e0 := ⟨_, rfl⟩
    rw [he0] at hz HANS
    have HZ := Lib.hid he0
    have hzb : (e0 != 0) = true := by simpa using hz
    clear he0 hz
    rw [HANS.out]
    go_enter Tryd.func11, Tryd.ntmps11
    go_wp2_with (first | (refine wpList_box_hp (o := ⟨some 2, _, _, _, _, _⟩) rfl _ _ rfl HP.out [_] rfl ?_; clear HP; intro g2 w2 HP; replace HP := Lib.hid HP) | (refine wpList_ldR0 rfl 24 _ rfl HP.out rfl Tryd.underlying24 rfl (by kernel_rfl) ?_) | (go_at_call 24; refine (proofCheck_any p _ _ (HP.out.rep (F := ⟨w, Lt w.heap.size⟩) (by simp) HR.out) (HH.out.keep HP.out.below rfl)).mono ?_; rintro e w4 ⟨rfl, hb⟩; replace HP := Lib.hid (HP.out.call0 hb); clear hb; rw [HZ.out]))
    (try simp only [Exit.inBlock, Exit.then])
    refine bodyPost_ret (results_tmp2 (by rfl) _ _ _) (by rfl) ?_
    exact ⟨_, rfl, rep_bks_nil, HP.out.below⟩
end Go.Proofs.YtceilfmfidmfpaaDoor
namespace Go.Proofs.YtceilfmfidmfpaaDoor
open Go.RowKit Plain64
attribute [local irreducible] wpList Code.wp Oper.wp
theorem EndsBlock_any (op : Int) (w : World) : Calls Tryd.prog 37 #[.int .i64 op] w fun e w' => e = .returned (.bool (decide (15 ≤ op) && decide (op ≤ 19))) ∧ w = w' := by
  go_enter Tryd.func37, Tryd.ntmps37
  go_wp2_with (go_at_call 40; refine (In_any _ _ _ _).mono ?_; rintro e w2 ⟨rfl, rfl⟩)
  go_ret
  exact ⟨rfl, rfl⟩
theorem okI_op {f : Fun} {funcs : Nat} (ok : OkF f funcs) {q : Nat} {x : Ins} (hx : f.code[q]? = some x) : x.op ≤ 19 := (ok.ins x (List.mem_of_getElem? hx)).op.2
set_option maxRecDepth 100000 in
set_option maxHeartbeats 4000000 in
theorem beginsBlock_any (f : Fun) (funcs : Nat) (ok : OkF f funcs) (v su : Value) (pc : Nat) (w : World) (hv : Lay.rep w (Lt w.heap.size) f.code [v]) (hs : Lay.rep w (Lt w.heap.size) (sureL f) [su]) :
    Calls Tryd.prog 36 #[.agg #[.int .i64 f.params, .int .i64 f.regs, v], su, .int .i64 pc] w fun e w' => e = .returned (.bool (headB f pc)) ∧ Below w.heap.size w w' := by
  obtain ⟨A, c, rfl, hc, hm, hx⟩ := rep_code_at hv
  obtain ⟨AS, cS, rfl, hcS, hmS, hxS⟩ := rep_ints_at hs
  unfold maxLen at hm hmS
  have hln : f.code.length ≤ 40 := ok.len.2
  have hsl := sureL_len f
  have HV := Lib.hid hv
  have HX := Lib.hid hx
  have HXS := Lib.hid hxS
  have HOK := Lib.hid ok
  clear hv hs hx hxS ok
  have HP := Lib.hid (Hp.start w)
  by_cases hp0 : pc = 0
  · subst hp0
    have HB := Lib.hid (show headB f 0 = true from headB_iff.2 (.inl rfl))
    go_enter Tryd.func36, Tryd.ntmps36
    go_wp2_with (first | (refine wpList_box_hp (o := ⟨some 3, _, _, _, _, _⟩) rfl _ _ rfl HP.out [_, _, _] rfl ?_; clear HP; intro g3 w3 HP; replace HP := Lib.hid HP))
    go_ret
    exact ⟨by rw [HB.out]; rfl, HP.out.below⟩
  · have hpb : ((pc : Int) == 0) = false := by simp; omega
    have hpb2 : (pc == 0) = false := by simpa using hp0
    go_enter Tryd.func36, Tryd.ntmps36
    go_wp2_with (first | (refine wpList_box_hp (o := ⟨some 3, _, _, _, _, _⟩) rfl _ _ rfl HP.out [_, _, _] rfl ?_; clear HP; intro g3 w3 HP; replace HP := Lib.hid HP))
    go_loopw [7] (fun i wr => ∃ (q : Nat) (Gs : List Fro), q ≤ f.code.length ∧ i = .int .i64 q ∧ Hid (¬ HeadQ f q pc) ∧ Hid (⟨w, Lt w.heap.size⟩ ∈ Gs) ∧ Hid (Hp w Gs [.blk g3 47 [.int .i64 f.params, .int .i64 f.regs, .slice A f.code.length c]] wr)) (fun i _ => f.code.length - (intOf i).toNat)
    case atStart => exact ⟨0, _, by omega, rfl, Lib.hid (fun h => by rcases h with h | ⟨i, x, hi, _⟩ <;> omega), Lib.hid (.head _), HP⟩
    case round =>
      clear HP
      obtain ⟨q, Gs, hq, rfl, HN, HGS, HP⟩ := hrel
      replace HP := Lib.hid (HP.out.froKeep (Fs' := [⟨w, Lt w.heap.size⟩]) (fun F hF => List.mem_singleton.1 hF ▸ HGS.out))
      obtain ⟨wo, rfl⟩ : ∃ wo : World, wo = wr := ⟨_, rfl⟩
      by_cases hlt : q < f.code.length
      · have hlt2 : (q : Int) < (f.code.length : Int) := by omega
        obtain ⟨ad, rfl, hab, hat⟩ := HX.out q hlt
        obtain ⟨aS, rfl, habs, hcs⟩ := HXS.out q (by omega)
        obtain ⟨x, hxq⟩ : ∃ x, f.code[q] = x := ⟨_, rfl⟩
        rw [hxq] at hat
        have hxq2 : f.code[q]? = some x := by rw [List.getElem?_eq_getElem hlt, hxq]
        obtain ⟨y, hy⟩ : ∃ y, (sureL f)[q] = y := ⟨_, rfl⟩
        rw [hy] at hcs
        have hsu : SureAt f q ↔ 0 ≤ y := by unfold SureAt; rw [List.getD_eq_getElem?_getD, List.getElem?_eq_getElem (by omega), hy]; rfl
        have HXQ := Lib.hid hxq2
        have HXE := Lib.hid hxq
        have HSU := Lib.hid hsu
        have hop19 := okI_op HOK.out hxq2
        have qs := (HP.out.alike (F := ⟨w, Lt w.heap.size⟩) (by simp) (aS.add q) (by rw [block_of_add]; exact habs)).trans hcs
        have qop := At.fld0 (HP.out.at_ (F := ⟨w, Lt w.heap.size⟩) (by simp) hat (by rw [block_of_add]; exact hab)) rfl
        have qcd := HP.out.cell (.head _) 2 _ rfl
        clear hxq hxq2 hat hcs hy hsu habs hab
        by_cases h0 : 0 ≤ y
        · have t5 : decide (y < 0) = false := decide_eq_false (by omega)
          by_cases h15 : 15 ≤ x.op
          · have HEN := Lib.hid (show (decide (15 ≤ x.op) && decide (x.op ≤ 19)) = true by rw [decide_eq_true h15, decide_eq_true hop19]; rfl)
            have HQY := Lib.hid (headQ_yes HXQ.out (HSU.out.2 h0) h15 (pc : Int))
            clear h15
            go_upto_region 7 with (first | (go_at_call 37; refine (EndsBlock_any _ _).mono ?_; rintro e w9 ⟨rfl, rfl⟩; rw [HEN.out]))
            clear qs qop qcd
            obtain ⟨ns, hns⟩ : ∃ ns, nextZ x q = ns := ⟨_, rfl⟩
            have HNS := Lib.hid hns
            rw [hns] at HQY
            clear hns
            go_upto_region 8 with (first | (refine wpList_ldR0 rfl 47 _ rfl HP.out rfl Tryd.underlying47 rfl (by kernel_rfl) ?_) | (go_at_call 38; refine (Behind_any f _ q _ (HP.out.rep (F := ⟨w, Lt w.heap.size⟩) (by simp) HV.out) hlt).mono ?_; rintro e w9 ⟨u9, rfl, hu9, hb9⟩; rw [HXE.out, HNS.out] at hu9; replace HP := Lib.hid (HP.out.call hb9); have HU := Lib.hid hu9; clear hb9 hu9; obtain ⟨A9, c9, rfl, hc9, hm9, -⟩ := rep_ints_at HU.out; unfold maxLen at hm9))
            obtain ⟨Gn, HP, HU⟩ : ∃ G : Fro, Hid (Hp w [G, ⟨w, Lt w.heap.size⟩] [.blk g3 47 [.int .i64 f.params, .int .i64 f.regs, .slice (some ad) f.code.length c]] w9) ∧ Hid (Lay.rep G.w G.S ns [.slice A9 ns.length c9]) := ⟨_, HP, HU⟩
            go_wp2
            go_loopw [9] (fun i wr => ∃ j : Nat, j ≤ ns.length ∧ i = .int .i64 j ∧ Hid ((pc : Int) ∉ ns.take j) ∧ Hid (Hp w [Gn, ⟨w, Lt w.heap.size⟩] [.blk g3 47 [.int .i64 f.params, .int .i64 f.regs, .slice (some ad) f.code.length c]] wr)) (fun i _ => ns.length - (intOf i).toNat)
            case atStart => exact ⟨0, by omega, rfl, Lib.hid (by simp), HP⟩
            case round =>
              clear HP
              obtain ⟨j, hj, rfl, HNJ, HP⟩ := hrel
              obtain ⟨wo2, rfl⟩ : ∃ wo : World, wo = wr := ⟨_, rfl⟩
              by_cases hjl : j < ns.length
              · have hjl2 : (j : Int) < (ns.length : Int) := by omega
                obtain ⟨A10, c10, e10, -, -, hx10⟩ := rep_ints_at (HP.out.rep (F := Gn) (by simp) HU.out)
                obtain ⟨a9, rfl, -, hcl⟩ := hx10 j hjl
                clear hx10
                obtain rfl : A9 = some a9 := (Value.slice.inj e10).1
                clear e10
                obtain ⟨n, hn⟩ : ∃ n, ns[j] = n := ⟨_, rfl⟩
                rw [hn] at hcl
                have HNE := Lib.hid hn
                clear hn
                by_cases hnp : n = (pc : Int)
                · have hb : (n == (pc : Int)) = true := by simpa using hnp
                  have HB := Lib.hid (show headB f pc = true from headB_iff.2 (headQ_all.1 (by
                    have h1 : HeadQ f (q + 1) (pc : Int) := HQY.out.2 (.inr (by rw [← hnp, ← HNE.out]; exact List.getElem_mem hjl))
                    rcases h1 with h1 | ⟨i, z, hi, r⟩
                    · exact .inl h1
                    · exact .inr ⟨i, z, by omega, r⟩)))
                  clear hnp
                  go_wp2
                  go_ret
                  exact ⟨by rw [HB.out]; rfl, HP.out.below⟩
                · have hb : (n == (pc : Int)) = false := by simpa using hnp
                  have HM := Lib.hid (show (pc : Int) ∉ ns.take (j + 1) by
                    rw [List.take_add_one, List.getElem?_eq_getElem hjl, HNE.out]
                    intro h
                    rcases List.mem_append.1 h with h | h
                    · exact HNJ.out h
                    · simp at h; exact hnp h.symm)
                  clear hnp
                  go_wp2
                  go_roundw
                  case rel => exact ⟨j + 1, by omega, by go_num, HM, HP⟩
                  case measure => simp [intOf]; omega
              · obtain rfl : j = ns.length := by omega
                have HM := Lib.hid (show ¬ HeadQ f (q + 1) (pc : Int) by
                  intro h
                  rcases HQY.out.1 h with h | h
                  · exact HN.out h
                  · have h2 := HNJ.out; rw [List.take_length] at h2; exact h2 h)
                go_wp2
                go_roundw
                case rel => exact ⟨q + 1, _, by omega, by go_num, HM, Lib.hid (.tail _ (.head _)), HP⟩
                case measure => simp [intOf]; omega
          · have HEN := Lib.hid (show (decide (15 ≤ x.op) && decide (x.op ≤ 19)) = false by rw [decide_eq_false h15]; rfl)
            have HM := Lib.hid (show ¬ HeadQ f (q + 1) (pc : Int) from fun h => HN.out ((headQ_no HXQ.out (fun h => h15 h.2) (pc : Int)).1 h))
            clear h15
            go_wp2_with (first | (go_at_call 37; refine (EndsBlock_any _ _).mono ?_; rintro e w9 ⟨rfl, rfl⟩; rw [HEN.out]))
            go_roundw
            case rel => exact ⟨q + 1, _, by omega, by go_num, HM, Lib.hid (.head _), HP⟩
            case measure => simp [intOf]; omega
        · have t5 : decide (y < 0) = true := decide_eq_true (by omega)
          have HM := Lib.hid (show ¬ HeadQ f (q + 1) (pc : Int) from fun h => HN.out ((headQ_no HXQ.out (fun h => h0 (HSU.out.1 h.1)) (pc : Int)).1 h))
          go_wp2
          go_roundw
          case rel => exact ⟨q + 1, _, by omega, by go_num, HM, Lib.hid (.head _), HP⟩
          case measure => simp [intOf]; omega
      · obtain rfl : q = f.code.length := by omega
        have HB := Lib.hid (show headB f pc = false from by
          cases h : headB f pc with
          | false => rfl
          | true => exact absurd (headQ_all.2 (headB_iff.1 h)) HN.out)
        have qcd := HP.out.cell (.head _) 2 _ rfl
        go_wp2
        go_ret
        exact ⟨by rw [HB.out]; rfl, HP.out.below⟩
end Go.Proofs.YtceilfmfidmfpaaDoor
