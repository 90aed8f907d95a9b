/- ref.BlocksOf. -/
import Derived.Test.YtceilfmfidmfpaaDoorMgBlocksBegins2
import Derived.Test.YtceilfmfidmfpaaDoorMgFlowNextBlkGoBlkRef3
import Derived.Test.YtceilfmfidmfpaaDoorMgSureSLiveProvenCStateFaultLiveOf5
import Derived.Test.YtceilfmfidmfpaaDoorStill
import Derived.Test.YtceilfmfidmfpaaDoorMgHpOpsHpRowHpB3
set_option linter.unusedSimpArgs false
set_option linter.unusedVariables false
namespace Go.Proofs.YtceilfmfidmfpaaDoor
open Go.RowKit Plain64
attribute [local irreducible] wpList Code.wp Oper.wp
theorem Hp.blkAt0B {w0 w : World} {Fs : List Fro} {L : List Res} {g : Nat} {t : TypeId} {cs : List Value} (h : Hp w0 Fs L w) (hr : Res.blk g t cs ∈ L) : At w ⟨g, 0, none⟩ cs := h.blkAt hr 0
theorem beginsN_any (f : Fun) (funcs : Nat) (ok : OkF f funcs) (v su : Value) (pc : Nat) (n : Int) (hn : n = pc) (w : World) (hv : Lay.rep w (Lt w.heap.size) f.code [v]) (hs : Lay.rep w (Lt w.heap.size) (sureL f) [su]) :
    Calls Tryd.prog 36 #[.agg #[.int .i64 f.params, .int .i64 f.regs, v], su, .int .i64 n] w fun e w' => e = .returned (.bool (headB f pc)) ∧ Below w.heap.size w w' := by
  subst hn; exact beginsBlock_any f funcs ok v su pc w hv hs
theorem inListB_any (l : List Int) (v : Value) (n : Int) (b : Bool) (hb : n ∈ l ↔ b = true) (w : World) (hv : Lay.rep w (Lt w.heap.size) l [v]) :
    Calls Tryd.prog 39 #[v, .int .i64 n] w fun e w' => e = .returned (.bool b) ∧ w = w' := by
  refine (inList_any l v n w hv).mono ?_
  rintro e w' ⟨rfl, rfl⟩
  refine ⟨?_, rfl⟩
  congr 2
  cases b with
  | true => exact decide_eq_true (hb.2 rfl)
  | false => exact decide_eq_false (fun h => by cases hb.1 h)
theorem bs1_to {f : Fun} {k : Nat} (h : k < (headsL f).length) : headB f (begB f k) = true ∧ begB f k < f.code.length := by
  have := mem_headsL.1 (begB_mem h)
  exact ⟨headB_iff.2 this.2, this.1⟩
set_option maxRecDepth 100000 in
set_option maxHeartbeats 10000000 in
theorem BlocksOf_any (p : Prg) (u : Value) (fn : Int) (w : World) (hp : Lay.rep w (Lt w.heap.size) p [u]) :
    Calls Tryd.prog 18 #[.agg #[u], .int .i64 fn] w fun e w' => ∃ v, e = .returned (.tuple #[v, .int .i64 (blocksAns p fn).2]) ∧ Lay.rep w' (Fresh w w') (blocksAns p fn).1 [v] ∧ Below w.heap.size w w' := by
  obtain ⟨A, c, rfl, hc, hm, hx⟩ := rep_prg_at hp
  unfold maxLen at hm
  have HX := Lib.hid hx
  have HR := Lib.hid hp
  clear hx hp
  obtain ⟨i_int, hi_int, hz_int, hs_int, hy_int⟩ := info_parts info_int
  obtain ⟨i_Bk, hi_Bk, hz_Bk, hs_Bk, hy_Bk⟩ := info_parts info_Bk
  have HP := Lib.hid (Hp.start w)
  by_cases hz : proven p = 0
  · have hpf := proven_prgL hz
    have ok := okP_of hpf
    have HOK := Lib.hid ok
    obtain ⟨n1, n2⟩ := ok.len
    clear ok
    by_cases hfn : 0 ≤ fn ∧ fn < p.funcs.length
    · obtain ⟨f1, f2⟩ := hfn
      obtain ⟨k, rfl⟩ := Int.eq_ofNat_of_zero_le f1
      have hkl : k < p.funcs.length := by omega
      have HFF := Lib.hid (show ffZ p (k : Int) = 0 by unfold ffZ; rw [if_neg (by simpa using hz), if_pos ⟨by omega, by omega⟩])
      obtain ⟨ad, v, rfl, hab, hat, hcode⟩ := HX.out k hkl
      obtain ⟨f, hf⟩ : ∃ f, p.funcs[k] = f := ⟨_, rfl⟩
      rw [hf] at hat hcode
      have hfm : f ∈ p.funcs := hf ▸ List.getElem_mem hkl
      have hfk : p.funcs[k]? = some f := by rw [← hf, List.getElem?_eq_getElem hkl]
      have HANS := Lib.hid (blocks_in hz hfk)
      have HOF := Lib.hid (HOK.out.fns f hfm)
      have HEE := Lib.hid (proven_ends hz hfm)
      have HC := Lib.hid hcode
      obtain ⟨A2, c2, rfl, hc2, hm2, hx2⟩ := rep_code hcode
      unfold maxLen at hm2
      have HX2 := Lib.hid hx2
      obtain ⟨l1, l2⟩ := HOF.out.len
      have HAT := Lib.hid hat
      clear hz hpf hf hfm hfk hx2 hcode hat
      rw [HANS.out]
      obtain ⟨m, hmm⟩ : ∃ m, (headsL f).length = m := ⟨_, rfl⟩
      have hmp : 0 < m := hmm ▸ headsL_pos HOF.out
      have hml : m ≤ f.code.length := hmm ▸ headsL_len f
      have HM := Lib.hid hmm
      clear hmm
      go_enter Tryd.func18, Tryd.ntmps18
      go_upto_region 7 with (first | (refine wpList_box_hp (o := ⟨some 2, _, _, _, _, _⟩) rfl _ _ rfl HP.out [_] rfl ?_; clear HP; intro g2 w2 HP; replace HP := Lib.hid HP) | (refine wpList_ldR0 rfl 24 _ rfl HP.out rfl Tryd.underlying24 rfl (by kernel_rfl) ?_) | (refine wpList_ldR1 rfl 24 _ rfl HP.out rfl Tryd.underlying24 rfl (by kernel_rfl) ?_) | (go_at_call 34; refine (functionFault_any p _ _ _ (HP.out.rep (F := ⟨w, Lt w.heap.size⟩) (by simp) HR.out)).mono ?_; rintro e w4 ⟨rfl, hb⟩; replace HP := Lib.hid (HP.out.call0 hb); clear hb; rw [HFF.out]) | (refine wpList_alloc_hp (o := ⟨some 7, _, _, _, _, _⟩) rfl _ rfl HP.out (.agg #[.int .i64 0, .int .i64 0, .slice none 0 0]) (by kernel_rfl) [_, _, _] rfl ?_; clear HP; intro g7 w7 HP; replace HP := Lib.hid HP) | (refine wpList_stR0 rfl 47 _ _ rfl HP.out rfl (cs' := [_, _, _]) rfl rfl (by simp [Value.oneCell']) (by kernel_rfl) ?_; clear HP; intro wst HP; replace HP := Lib.hid HP) | (refine wpList_ld0 rfl 22 _ rfl HP.out rfl rfl Tryd.underlying22 rfl ?_) | (refine wpList_ld1 rfl 22 _ rfl HP.out rfl rfl Tryd.underlying22 rfl ?_) | (refine wpList_load_at rfl 47 _ rfl _ rfl _ _ (HP.out.at_ (F := ⟨w, Lt w.heap.size⟩) (by simp) HAT.out (by rw [block_of_add]; exact hab)) Tryd.underlying47 rfl (by kernel_rfl) ?_) | (refine wpList_ldR0 rfl 47 _ rfl HP.out rfl Tryd.underlying47 rfl (by kernel_rfl) ?_) | (go_at_call 35; refine (sureOf_any f _ _ _ (HP.out.rep (F := ⟨w, Lt w.heap.size⟩) (by simp) HC.out) HOF.out).mono ?_; rintro e w5 ⟨v5, rfl, hv5, hb⟩; replace HP := Lib.hid (HP.out.call hb); clear hb; have HV5 := Lib.hid hv5; clear hv5))
      obtain ⟨AS, cS, rfl, hcS, hmS, -⟩ := rep_ints_at HV5.out
      unfold maxLen at hmS
      have hsl := sureL_len f
      rw [hsl] at HV5 hcS ⊢
      obtain ⟨G5, HP, HS5⟩ : ∃ G : Fro, Hid (Hp w [G, ⟨w, Lt w.heap.size⟩] (.blk g7 47 [.int .i64 f.params, .int .i64 f.regs, .slice A2 f.code.length c2] :: .blk g2 24 [.slice (some ad) p.funcs.length c] :: []) _) ∧ Hid (Lay.rep G.w G.S (sureL f) [.slice AS (f.code.length + 1) cS]) := ⟨_, HP, HV5⟩
      clear HV5
      replace HP := Lib.hid (HP.out.nil 50 4)
      go_wp2
      go_loopw [9, 10] (fun o i wr => ∃ (q : Nat) (ov : Value), q ≤ f.code.length ∧ i = .int .i64 q ∧ ov = o ∧ Hid (∀ k, k < q → headB f k = true → 0 < toOf f k ∧ toOf f k ≤ f.code.length) ∧ Hid (Hp w [G5, ⟨w, Lt w.heap.size⟩] (.row ov 50 4 (bs1 f q).length (bsCells (bs1 f q)) :: .blk g7 47 [.int .i64 f.params, .int .i64 f.regs, .slice A2 f.code.length c2] :: .blk g2 24 [.slice (some ad) p.funcs.length c] :: bvRows 3 (bs1 f q)) wr)) (fun _ i _ => f.code.length - (intOf i).toNat)
      case atStart => exact ⟨0, _, by omega, rfl, rfl, Lib.hid (fun k h => by omega), HP⟩
      case round =>
        clear HP
        obtain ⟨q, ov, hq, rfl, rfl, HTA, HP⟩ := hrel
        obtain ⟨wo, rfl⟩ : ∃ wo : World, wo = wr := ⟨_, rfl⟩
        by_cases hlt : q < f.code.length
        · have hlt2 : (q : Int) < (f.code.length : Int) := by omega
          obtain ⟨A10, c10, e10, -, -, hx10⟩ := rep_ints_at (HP.out.rep (F := G5) (by simp) HS5.out)
          obtain ⟨a5, rfl, -, hcl⟩ := hx10 q (by omega)
          clear hx10
          obtain rfl : AS = some a5 := (Value.slice.inj e10).1
          clear e10
          obtain ⟨y, hy⟩ : ∃ y, (sureL f)[q]'(by omega) = y := ⟨_, rfl⟩
          rw [hy] at hcl
          have hsu : SureAt f q ↔ 0 ≤ y := by unfold SureAt; rw [List.getD_eq_getElem?_getD, List.getElem?_eq_getElem (by omega), hy]; rfl
          have HSU := Lib.hid hsu
          have hbl := bs1_len f q
          have q70 := HP.out.cell (.tail _ (.head _)) 0 _ rfl
          have q71 := HP.out.cell (.tail _ (.head _)) 1 _ rfl
          have q72 := HP.out.cell (.tail _ (.head _)) 2 _ rfl
          clear hsu hy
          by_cases h0 : 0 ≤ y
          · have t5 : decide (y < 0) = false := decide_eq_false (by omega)
            by_cases hhd : headB f q = true
            · have HBQ := Lib.hid hhd
              go_upto_region 11 with (first | (refine wpList_ld1 rfl 45 _ rfl HP.out rfl rfl Tryd.underlying45 rfl ?_) | (refine wpList_load_w rfl 47 _ rfl _ rfl _ _ (HP.out.blkAt0B (.tail _ (.head _))) Tryd.underlying47 rfl (by kernel_rfl) ?_) | (go_at_call 36; refine (beginsN_any f _ HOF.out _ _ q (q : Int) rfl _ (HP.out.rep (F := ⟨w, Lt w.heap.size⟩) (by simp) HC.out) (HP.out.rep (.head _) HS5.out)).mono ?_; rintro e w9 ⟨rfl, hb⟩; replace HP := Lib.hid (HP.out.call0 hb); clear hb; rw [HBQ.out]))
              clear hcl q70 q71 q72
              have HON := Lib.hid (OnTo.start ((headB_iff.1 hhd).sure HOF.out HEE.out).1 hlt)
              clear HBQ
              go_wp2
              go_loopw [11] (fun tv wr => ∃ t : Nat, tv = .int .i64 t ∧ Hid (OnTo f q t) ∧ Hid (Hp w [G5, ⟨w, Lt w.heap.size⟩] (.row ov 50 4 (bs1 f q).length (bsCells (bs1 f q)) :: .blk g7 47 [.int .i64 f.params, .int .i64 f.regs, .slice A2 f.code.length c2] :: .blk g2 24 [.slice (some ad) p.funcs.length c] :: bvRows 3 (bs1 f q)) wr)) (fun tv _ => f.code.length - (intOf tv).toNat)
              case atStart => exact ⟨q + 1, by go_num, HON, HP⟩
              case round =>
                clear HP HON
                obtain ⟨t, rfl, HON, HP⟩ := hrel
                obtain ⟨wo2, rfl⟩ : ∃ wo : World, wo = wr := ⟨_, rfl⟩
                obtain ⟨tp, rfl⟩ : ∃ tp, t = tp + 1 := ⟨t - 1, by have := HON.out.gt; omega⟩
                have htl : tp < f.code.length := by have := HON.out.le; omega
                have htl2 : (tp : Int) < (f.code.length : Int) := by omega
                obtain ⟨aC, hA2, habC, hatC⟩ := HX2.out tp htl
                subst hA2
                obtain ⟨x, hxq⟩ : ∃ x, f.code[tp] = x := ⟨_, rfl⟩
                rw [hxq] at hatC
                have hxq2 : f.code[tp]? = some x := by rw [List.getElem?_eq_getElem htl, hxq]
                have HXQ := Lib.hid (show f.code[tp + 1 - 1]? = some x by rw [Nat.add_sub_cancel]; exact hxq2)
                have HOP := Lib.hid (show opAt f (tp + 1 - 1) = x.op from opAt_eq HXQ.out)
                have hop19 := okI_op HOF.out hxq2
                have qop := cell_at0 (HP.out.at_ (F := ⟨w, Lt w.heap.size⟩) (by simp) hatC (by rw [block_of_add]; exact habC))
                have q70 := HP.out.cell (.tail _ (.head _)) 0 _ rfl
                have q71 := HP.out.cell (.tail _ (.head _)) 1 _ rfl
                have qcd := HP.out.cell (.tail _ (.head _)) 2 _ rfl
                clear hxq hxq2 hatC habC
                obtain ⟨be, hbe⟩ : ∃ be, (decide (15 ≤ x.op) && decide (x.op ≤ 19)) = be := ⟨_, rfl⟩
                obtain ⟨bh, hbh⟩ : ∃ bh, headB f (tp + 1) = bh := ⟨_, rfl⟩
                have HEN := Lib.hid hbe
                have HBQ := Lib.hid hbh
                have HE2 := Lib.hid (show be = true ↔ 15 ≤ opAt f (tp + 1 - 1) by rw [← hbe, HOP.out, decide_eq_true hop19, Bool.and_true, decide_eq_true_iff])
                have HHD := Lib.hid (show bh = true ↔ HeadP f (tp + 1) by rw [← hbh]; exact headB_iff)
                clear hbe hbh
                by_cases hgo : be = false ∧ bh = false
                · obtain ⟨rfl, rfl⟩ := hgo
                  have hn1 : ¬ 15 ≤ opAt f (tp + 1 - 1) := fun h => by have := HE2.out.2 h; cases this
                  have hn2 := HON.out.lt HOF.out HEE.out hn1
                  have HNX := Lib.hid (HON.out.next HOF.out HEE.out hn1 (fun h => by have := HHD.out.2 h; cases this))
                  have hnl := hn2.1
                  have hnl2 : (tp : Int) + 1 < (f.code.length : Int) := by omega
                  clear hn1 hn2
                  go_wp2_with (first | (refine wpList_ld1 rfl 45 _ rfl HP.out rfl rfl Tryd.underlying45 rfl ?_) | (go_at_call 37; refine (EndsBlock_any _ _).mono ?_; rintro e w9 ⟨rfl, rfl⟩; rw [HEN.out]) | (refine wpList_load_w rfl 47 _ rfl _ rfl _ _ (HP.out.blkAt0B (.tail _ (.head _))) Tryd.underlying47 rfl (by kernel_rfl) ?_) | (go_at_call 36; refine (beginsN_any f _ HOF.out _ _ (tp + 1) ((tp : Int) + 1) (by omega) _ (HP.out.rep (F := ⟨w, Lt w.heap.size⟩) (by simp) HC.out) (HP.out.rep (.head _) HS5.out)).mono ?_; rintro e w9 ⟨rfl, hb⟩; replace HP := Lib.hid (HP.out.call0 hb); clear hb; rw [HBQ.out]))
                  go_roundw
                  case rel => exact ⟨tp + 1 + 1, by go_num, HNX, HP⟩
                  case measure => simp [intOf]; omega
                · have HSTP := Lib.hid (show 15 ≤ opAt f (tp + 1 - 1) ∨ HeadP f (tp + 1) by
                    cases be with
                    | true => exact .inl (HE2.out.1 rfl)
                    | false => cases bh with
                      | true => exact .inr (HHD.out.1 rfl)
                      | false => exact absurd ⟨rfl, rfl⟩ hgo)
                  have hgo2 : ¬ (tp : Int) + 1 < (f.code.length : Int) ∨ ((tp : Int) + 1 < (f.code.length : Int) ∧ be = true) ∨ ((tp : Int) + 1 < (f.code.length : Int) ∧ be = false ∧ bh = true) := by
                    by_cases h : (tp : Int) + 1 < (f.code.length : Int)
                    · right
                      cases be with
                      | true => exact .inl ⟨h, rfl⟩
                      | false => cases bh with
                        | true => exact .inr ⟨h, rfl, rfl⟩
                        | false => exact absurd ⟨rfl, rfl⟩ hgo
                    · exact .inl h
                  clear hgo
                  have HTO := Lib.hid (show toOf f q = tp + 1 from (HON.out.done HSTP.out).eq)
                  have HSC := Lib.hid (show bs1 f (q + 1) = bs1 f q ++ [⟨q, (tp : Int) + 1, .slice none 0 0, [], .slice none 0 0, []⟩] by rw [bs1_succ, if_pos hhd]; unfold mkB; rw [HTO.out]; rfl)
                  have HTB := Lib.hid (show ∀ k, k < q + 1 → headB f k = true → 0 < toOf f k ∧ toOf f k ≤ f.code.length from fun k h1 h2 => by
                    by_cases h3 : k = q
                    · subst h3; rw [HTO.out]; omega
                    · exact HTA.out k (by omega) h2)
                  have hl1 : (bs1 f q).length + 1 = (bs1 f (q + 1)).length := by rw [HSC.out, List.length_append]; rfl
                  rcases hgo2 with hge | ⟨hge, rfl⟩ | ⟨hge, rfl, rfl⟩
                  all_goals
                    go_upto_region 14 with (first | (refine wpList_ld1 rfl 45 _ rfl HP.out rfl rfl Tryd.underlying45 rfl ?_) | (go_at_call 37; refine (EndsBlock_any _ _).mono ?_; rintro e w9 ⟨rfl, rfl⟩; rw [HEN.out]) | (refine wpList_load_w rfl 47 _ rfl _ rfl _ _ (HP.out.blkAt0B (.tail _ (.head _))) Tryd.underlying47 rfl (by kernel_rfl) ?_) | (go_at_call 36; refine (beginsN_any f _ HOF.out _ _ (tp + 1) ((tp : Int) + 1) (by omega) _ (HP.out.rep (F := ⟨w, Lt w.heap.size⟩) (by simp) HC.out) (HP.out.rep (.head _) HS5.out)).mono ?_; rintro e w9 ⟨rfl, hb⟩; replace HP := Lib.hid (HP.out.call0 hb); clear hb; rw [HBQ.out]))
                    clear qop q70 q71 qcd
                    go_wp2_with (first | (refine wpList_slice_hp rfl 42 50 1 _ rfl HP.out Tryd.underlying42 #[.int .i64 q, .int .i64 ((tp : Int) + 1), .slice none 0 0, .slice none 0 0] (by kernel_rfl) ?_; clear HP; intro gi wi HP; replace HP := Lib.hid HP) | (at_builtin; refine wpList_apg0 rfl _ _ 42 rfl i_Bk (.agg #[.int .i64 0, .int .i64 0, .slice none 0 0, .slice none 0 0]) Tryd.underlying42 hi_Bk hz_Bk hs_Bk rfl (by decide) hy_Bk ((bs1 f q).length + 1) rfl HP.out rfl rfl rfl (by simp [Value.oneCell']) (by unfold maxLen; omega) (by omega) (by omega) ?_; clear HP; intro gap cap wap HP; replace HP := Lib.hid HP))
                    replace HP := Lib.hid (Hp.bvSnoc (L := [_, _, _]) (t := 3) HP.out q ((tp : Int) + 1))
                    simp only [List.cons_append, List.nil_append] at HP
                    replace HP := Lib.hid (show Hp w [G5, ⟨w, Lt w.heap.size⟩] (.row (.slice (some ⟨gap, 0, none⟩) ((bs1 f q).length + 1) cap) 50 4 ((bs1 f q).length + 1) (bsCells (bs1 f (q + 1))) :: .blk g7 47 [.int .i64 f.params, .int .i64 f.regs, .slice (some aC) f.code.length c2] :: .blk g2 24 [.slice (some ad) p.funcs.length c] :: bvRows 3 (bs1 f (q + 1))) _ by rw [HSC.out]; show Hp _ _ (.row _ _ _ _ (List.flatMap bvCells _) :: _) _; rw [List.flatMap_append]; exact HP.out)
                    rw [hl1] at HP
                    (try rw [hl1])
                    go_roundw
                    case rel => exact ⟨q + 1, _, by omega, by go_num, rfl, HTB, HP⟩
                    case measure => simp [intOf]; omega
            · have HBQ := Lib.hid (show headB f q = false by simpa using hhd)
              have hsame : bs1 f (q + 1) = bs1 f q := by rw [bs1_succ, if_neg hhd, List.append_nil]
              have HTB := Lib.hid (show ∀ k, k < q + 1 → headB f k = true → 0 < toOf f k ∧ toOf f k ≤ f.code.length from fun k h1 h2 => by
                by_cases h3 : k = q
                · subst h3; exact absurd h2 hhd
                · exact HTA.out k (by omega) h2)
              go_wp2_with (first | (refine wpList_ld1 rfl 45 _ rfl HP.out rfl rfl Tryd.underlying45 rfl ?_) | (refine wpList_load_w rfl 47 _ rfl _ rfl _ _ (HP.out.blkAt0B (.tail _ (.head _))) Tryd.underlying47 rfl (by kernel_rfl) ?_) | (go_at_call 36; refine (beginsN_any f _ HOF.out _ _ q (q : Int) rfl _ (HP.out.rep (F := ⟨w, Lt w.heap.size⟩) (by simp) HC.out) (HP.out.rep (.head _) HS5.out)).mono ?_; rintro e w9 ⟨rfl, hb⟩; replace HP := Lib.hid (HP.out.call0 hb); clear hb; rw [HBQ.out]))
              go_roundw
              case rel => exact ⟨q + 1, _, by omega, by go_num, rfl, HTB, by rw [hsame]; exact HP⟩
              case measure => simp [intOf]; omega
          · have t5 : decide (y < 0) = true := decide_eq_true (by omega)
            have hhd : ¬ headB f q = true := fun h => h0 (HSU.out.1 ((headB_iff.1 h).sure HOF.out HEE.out).1)
            have hsame : bs1 f (q + 1) = bs1 f q := by rw [bs1_succ, if_neg hhd, List.append_nil]
            have HTB := Lib.hid (show ∀ k, k < q + 1 → headB f k = true → 0 < toOf f k ∧ toOf f k ≤ f.code.length from fun k h1 h2 => by
              by_cases h3 : k = q
              · subst h3; exact absurd h2 hhd
              · exact HTA.out k (by omega) h2)
            go_wp2_with (first | (refine wpList_ld1 rfl 45 _ rfl HP.out rfl rfl Tryd.underlying45 rfl ?_))
            go_roundw
            case rel => exact ⟨q + 1, _, by omega, by go_num, rfl, HTB, by rw [hsame]; exact HP⟩
            case measure => simp [intOf]; omega
        · obtain rfl : q = f.code.length := by omega
          have hbl : (bs1 f f.code.length).length = m := by rw [bs1_all, List.length_map, HM.out]
          have HTM := Lib.hid (show ∀ k, k < m → 0 < toOf f (begB f k) ∧ toOf f (begB f k) ≤ f.code.length from fun k h => by
            have := bs1_to (f := f) (k := k) (by rw [HM.out]; exact h)
            exact HTA.out _ this.2 this.1)
          have HB0 := Lib.hid (show (bs1 f f.code.length).length = m ∧ AllB (RAt f m 0) (bs1 f f.code.length) from ⟨hbl, RAt.start f m⟩)
          rw [hbl] at HP
          obtain ⟨gO, cO, hov⟩ := HP.out.rowSome (.head _) hmp
          subst hov
          obtain ⟨aC, hA2⟩ : ∃ aC, A2 = some aC := by obtain ⟨a, h, _⟩ := HX2.out 0 (by omega); exact ⟨a, h⟩
          subst hA2
          obtain ⟨bs0, hbs0⟩ : ∃ bs0, bs1 f f.code.length = bs0 := ⟨_, rfl⟩
          rw [hbs0] at HP HB0
          clear hbl hbs0 HTA
          go_wp2_with (first | (refine wpList_ld1 rfl 45 _ rfl HP.out rfl rfl Tryd.underlying45 rfl ?_))
          go_loopw [12] (fun i wr => ∃ (q : Nat) (bs : List BV) (Gs : List Fro), q ≤ m ∧ i = .int .i64 q ∧ Hid (bs.length = m ∧ AllB (RAt f m q) bs) ∧ Hid (⟨w, Lt w.heap.size⟩ ∈ Gs) ∧ Hid (Hp w Gs (.row (.slice (some ⟨gO, 0, none⟩) m cO) 50 4 m (bsCells bs) :: .blk g7 47 [.int .i64 f.params, .int .i64 f.regs, .slice (some aC) f.code.length c2] :: .blk g2 24 [.slice (some ad) p.funcs.length c] :: bvRows 3 bs) wr)) (fun i _ => m - (intOf i).toNat)
          case atStart => exact ⟨0, _, _, by omega, rfl, HB0, Lib.hid (.tail _ (.head _)), HP⟩
          case round =>
            clear HP HB0
            obtain ⟨q, bs, Gs, hq, rfl, HBS, HGS, HP⟩ := hrel
            replace HP := Lib.hid (HP.out.froKeep (Fs' := [⟨w, Lt w.heap.size⟩]) (fun F hF => List.mem_singleton.1 hF ▸ HGS.out))
            obtain ⟨wo, rfl⟩ : ∃ wo : World, wo = wr := ⟨_, rfl⟩
            by_cases hlt : q < m
            · have hlt2 : (q : Int) < (m : Int) := by omega
              have HRI := Lib.hid (show bs.length = m ∧ AllB (RIn f m q 0 0) bs from ⟨HBS.out.1, RIn.start HBS.out.2⟩)
              have htq := HTM.out q hlt
              obtain ⟨tq, htq2⟩ : ∃ tq, toOf f (begB f q) = tq + 1 := ⟨toOf f (begB f q) - 1, by omega⟩
              have hlq : tq < f.code.length := by omega
              have HTQ := Lib.hid htq2
              have HLq := Lib.hid hlq
              have HIQ := Lib.hid (show lastB f q = tq by unfold lastB; rw [htq2]; rfl)
              clear htq htq2
              go_wp2
              go_loopw [13] (fun i wr => ∃ (j : Nat) (bs : List BV) (Gs : List Fro), j ≤ m ∧ i = .int .i64 j ∧ Hid (bs.length = m ∧ AllB (RIn f m q j j) bs) ∧ Hid (⟨w, Lt w.heap.size⟩ ∈ Gs) ∧ Hid (Hp w Gs (.row (.slice (some ⟨gO, 0, none⟩) m cO) 50 4 m (bsCells bs) :: .blk g7 47 [.int .i64 f.params, .int .i64 f.regs, .slice (some aC) f.code.length c2] :: .blk g2 24 [.slice (some ad) p.funcs.length c] :: bvRows 3 bs) wr)) (fun i _ => m - (intOf i).toNat)
              case atStart => exact ⟨0, _, _, by omega, rfl, HRI, Lib.hid (.head _), HP⟩
              case round =>
                clear HP HRI HBS HGS
                obtain ⟨j, bs, Gs, hj, rfl, HBS, HGS, HP⟩ := hrel
                replace HP := Lib.hid (HP.out.froKeep (Fs' := [⟨w, Lt w.heap.size⟩]) (fun F hF => List.mem_singleton.1 hF ▸ HGS.out))
                obtain ⟨wo2, rfl⟩ : ∃ wo : World, wo = wr := ⟨_, rfl⟩
                by_cases hjl : j < m
                · have hjl2 : (j : Int) < (m : Int) := by omega
                  have htj := HTM.out j hjl
                  obtain ⟨tj, htj2⟩ : ∃ tj, toOf f (begB f j) = tj + 1 := ⟨toOf f (begB f j) - 1, by omega⟩
                  have hlj : tj < f.code.length := by omega
                  have HTJ := Lib.hid (show (toOf f (begB f j) : Int) = (tj : Int) + 1 by rw [htj2]; omega)
                  have HLj := Lib.hid hlj
                  have HIJ := Lib.hid (show lastB f j = tj by unfold lastB; rw [htj2]; rfl)
                  obtain ⟨b, hb⟩ : ∃ b, bs[q]? = some b := ⟨bs[q]'(by rw [HBS.out.1]; exact hlt), List.getElem?_eq_getElem _⟩
                  obtain ⟨b1, hb1⟩ : ∃ b1, bs[j]? = some b1 := ⟨bs[j]'(by rw [HBS.out.1]; exact hjl), List.getElem?_eq_getElem _⟩
                  have HB := Lib.hid hb
                  have HB1 := Lib.hid hb1
                  have HqU := Lib.hid (show b.upto = (tq : Int) + 1 by rw [(HBS.out.2 q b hb).upto, HTQ.out]; omega)
                  have HF1 := Lib.hid (show b1.frm = (begB f j : Int) from (HBS.out.2 j b1 hb1).frm)
                  have hbn := (HBS.out.2 q b hb).lenN rfl
                  clear hb hb1 htj htj2
                  go_upto_region 21 with (fail)
                  have HDR := Lib.hid HP.out.drew
                  have HATF := Lib.hid (HP.out.blkAt (.tail _ (.head _)) 0)
                  have q1 := HP.out.rowCell (g := gO) (.head _) (q * 4 + 1) _ (bs_at HB.out 1 (show (bvCells b)[1]? = some (.int .i64 ((tq : Int) + 1)) by show some (Value.int .i64 b.upto) = _; rw [HqU.out]) rfl)
                  refine wp_region_still_tail 7 (by kernel_rfl) (by kernel_rfl) ?_
                  simp only [List.take_succ_cons, List.take_zero, List.drop_succ_cons, List.drop_zero]
                  repeat (first | (refine wpStill_load_at rfl 47 _ rfl _ rfl _ _ (At.drew HATF.out) Tryd.underlying47 rfl (by kernel_rfl) ?_) | still_step)
                  try refine wpStill_nil ?_
                  clear q1 HATF
                  replace HP := HDR
                  clear HDR
                  go_upto_region 22 with (first | (go_at_call 38; refine (Behind_any f _ tq _ (HP.out.rep (F := ⟨w, Lt w.heap.size⟩) (by simp) HC.out) HLq.out).mono ?_; rintro e w9 ⟨u9, rfl, hu9, hb9⟩; replace HP := Lib.hid (HP.out.call hb9); have HU := Lib.hid hu9; clear hb9 hu9))
                  obtain ⟨be1, hbe1⟩ : ∃ be1, edgeB f q j = be1 := ⟨_, rfl⟩
                  have HE1 := Lib.hid hbe1
                  have HED1 := Lib.hid (show b1.frm ∈ nextZ f.code[tq] tq ↔ be1 = true by rw [← hbe1]; unfold edgeB; rw [decide_eq_true_iff, HIQ.out, HF1.out, show insB f tq = f.code[tq] by unfold insB; rw [List.getElem?_eq_getElem HLq.out]; rfl])
                  clear hbe1
                  cases be1 with
                  | true =>
                    go_upto_region 23 with (first | (refine wpList_ldW0 rfl 3 _ rfl HP.out rfl (bs_at HB1.out 0 rfl (by omega)) Tryd.underlying3 rfl ?_) | (go_at_call 39; refine (inListB_any _ _ _ _ HED1.out _ (HP.out.rep (.head _) HU.out)).mono ?_; rintro e w10 ⟨rfl, rfl⟩))
                    obtain ⟨R1, hp1, hbk1⟩ := Hp.takeN (L := [_, _, _]) (t := 3) HP.out HB.out
                    replace HP := Lib.hid (show Hp w _ (.row b.vn 3 1 b.ns.length (b.ns.map (Value.int .i64)) :: .row (.slice (some ⟨gO, 0, none⟩) m cO) 50 4 m (bsCells bs) :: .blk g7 47 [.int .i64 f.params, .int .i64 f.regs, .slice (some aC) f.code.length c2] :: .blk g2 24 [.slice (some ad) p.funcs.length c] :: R1) _ from hp1)
                    have HBK1 := Lib.hid hbk1
                    clear hp1 hbk1
                    go_upto_region 24 with (first | (refine wpList_ldW1 rfl 27 _ rfl HP.out rfl (bs_at HB.out 2 rfl (by omega)) Tryd.underlying27 rfl ?_) | (refine wpList_ints_hp rfl 27 3 1 _ rfl HP.out Tryd.underlying27 [_] rfl (by kernel_rfl) ?_; clear HP; intro gi wi HP; replace HP := Lib.hid HP) | (at_builtin; refine wpList_apg0 rfl _ _ 27 rfl i_int (.int .i64 0) Tryd.underlying27 hi_int hz_int hs_int rfl (by decide) hy_int (b.ns.length + 1) rfl HP.out rfl rfl rfl (by simp [Value.oneCell']) (by unfold maxLen; omega) (by omega) (by omega) ?_; clear HP; intro gap1 cap1 wap1 HP; replace HP := Lib.hid HP) | (refine wpList_stW1 rfl 27 _ _ rfl HP.out rfl rfl (bs_lt HB.out (j := 2) (by omega) (by omega)) rfl (bs_setN HB.out _ (b.ns ++ [(j : Int)]) (by omega)) (by kernel_rfl) ?_; clear HP; intro wst HP; replace HP := Lib.hid HP))
                    replace HP := Lib.hid (show Hp w _ (.row (.slice (some ⟨gap1, 0, none⟩) (b.ns.length + 1) cap1) 3 1 (b.ns.length + 1) (b.ns.map (Value.int .i64) ++ [(j : Int)].map (Value.int .i64)) :: .row (.slice (some ⟨gO, 0, none⟩) m cO) 50 4 m (bsCells (bs.set q { b with vn := .slice (some ⟨gap1, 0, none⟩) (b.ns.length + 1) cap1, ns := b.ns ++ [(j : Int)] })) :: .blk g7 47 [.int .i64 f.params, .int .i64 f.regs, .slice (some aC) f.code.length c2] :: .blk g2 24 [.slice (some ad) p.funcs.length c] :: R1) _ from HP.out)
                    have hp2 := HBK1.out _ _ [_, _, _] { b with vn := .slice (some ⟨gap1, 0, none⟩) (b.ns.length + 1) cap1, ns := b.ns ++ [(j : Int)] } rfl (by unfold bvN; rw [List.length_append, List.map_append]; exact HP.out)
                    simp only [List.cons_append, List.nil_append] at hp2
                    obtain ⟨bs2, hbs2⟩ : ∃ bs2, bs.set q { b with vn := .slice (some ⟨gap1, 0, none⟩) (b.ns.length + 1) cap1, ns := b.ns ++ [(j : Int)] } = bs2 := ⟨_, rfl⟩
                    have HBS2 := Lib.hid (show bs2.length = m ∧ AllB (RIn f m q (j + 1) j) bs2 from hbs2 ▸ ⟨by rw [List.length_set]; exact HBS.out.1, RIn.stepN HBS.out.2 HB.out HE1.out _⟩)
                    rw [hbs2] at hp2
                    replace HP := Lib.hid hp2
                    clear hbs2 HBK1 hp2 HB HB1 HU
                    obtain ⟨b2, hb2⟩ : ∃ b2, bs2[q]? = some b2 := ⟨bs2[q]'(by rw [HBS2.out.1]; exact hlt), List.getElem?_eq_getElem _⟩
                    obtain ⟨b3, hb3⟩ : ∃ b3, bs2[j]? = some b3 := ⟨bs2[j]'(by rw [HBS2.out.1]; exact hjl), List.getElem?_eq_getElem _⟩
                    have HB2 := Lib.hid hb2
                    have HB3 := Lib.hid hb3
                    have HjU := Lib.hid (show b3.upto = (tj : Int) + 1 by rw [(HBS2.out.2 j b3 hb3).upto, HTJ.out])
                    have HF2 := Lib.hid (show b2.frm = (begB f q : Int) from (HBS2.out.2 q b2 hb2).frm)
                    have hbp := (HBS2.out.2 q b2 hb2).lenP rfl
                    clear hb2 hb3
                    go_upto_region 24 with (fail)
                    have HDR := Lib.hid HP.out.drew
                    have HATF := Lib.hid (HP.out.blkAt (.tail _ (.head _)) 0)
                    have q1 := HP.out.rowCell (g := gO) (.head _) (j * 4 + 1) _ (bs_at HB3.out 1 (show (bvCells b3)[1]? = some (.int .i64 ((tj : Int) + 1)) by show some (Value.int .i64 b3.upto) = _; rw [HjU.out]) rfl)
                    refine wp_region_still_tail 7 (by kernel_rfl) (by kernel_rfl) ?_
                    simp only [List.take_succ_cons, List.take_zero, List.drop_succ_cons, List.drop_zero]
                    repeat (first | (refine wpStill_load_at rfl 47 _ rfl _ rfl _ _ (At.drew HATF.out) Tryd.underlying47 rfl (by kernel_rfl) ?_) | still_step)
                    try refine wpStill_nil ?_
                    clear q1 HATF
                    replace HP := HDR
                    clear HDR
                    go_upto_region 25 with (first | (go_at_call 38; refine (Behind_any f _ tj _ (HP.out.rep (F := ⟨w, Lt w.heap.size⟩) (by simp) HC.out) HLj.out).mono ?_; rintro e w9 ⟨u9, rfl, hu9, hb9⟩; replace HP := Lib.hid (HP.out.call hb9); have HU := Lib.hid hu9; clear hb9 hu9))
                    obtain ⟨be2, hbe2⟩ : ∃ be2, edgeB f j q = be2 := ⟨_, rfl⟩
                    have HE2 := Lib.hid hbe2
                    have HED2 := Lib.hid (show b2.frm ∈ nextZ f.code[tj] tj ↔ be2 = true by rw [← hbe2]; unfold edgeB; rw [decide_eq_true_iff, HIJ.out, HF2.out, show insB f tj = f.code[tj] by unfold insB; rw [List.getElem?_eq_getElem HLj.out]; rfl])
                    clear hbe2
                    cases be2 with
                    | true =>
                      go_upto_region 26 with (first | (refine wpList_ldW0 rfl 3 _ rfl HP.out rfl (bs_at HB2.out 0 rfl (by omega)) Tryd.underlying3 rfl ?_) | (go_at_call 39; refine (inListB_any _ _ _ _ HED2.out _ (HP.out.rep (.head _) HU.out)).mono ?_; rintro e w10 ⟨rfl, rfl⟩))
                      obtain ⟨R2, hp3, hbk2⟩ := Hp.takeP (L := [_, _, _]) (t := 3) HP.out HB2.out
                      replace HP := Lib.hid (show Hp w _ (.row b2.vp 3 1 b2.ps.length (b2.ps.map (Value.int .i64)) :: .row (.slice (some ⟨gO, 0, none⟩) m cO) 50 4 m (bsCells bs2) :: .blk g7 47 [.int .i64 f.params, .int .i64 f.regs, .slice (some aC) f.code.length c2] :: .blk g2 24 [.slice (some ad) p.funcs.length c] :: R2) _ from hp3)
                      have HBK2 := Lib.hid hbk2
                      clear hp3 hbk2
                      go_wp2_with (first | (refine wpList_ldW1 rfl 27 _ rfl HP.out rfl (bs_at HB2.out 3 rfl (by omega)) Tryd.underlying27 rfl ?_) | (refine wpList_ints_hp rfl 27 3 1 _ rfl HP.out Tryd.underlying27 [_] rfl (by kernel_rfl) ?_; clear HP; intro gi wi HP; replace HP := Lib.hid HP) | (at_builtin; refine wpList_apg0 rfl _ _ 27 rfl i_int (.int .i64 0) Tryd.underlying27 hi_int hz_int hs_int rfl (by decide) hy_int (b2.ps.length + 1) rfl HP.out rfl rfl rfl (by simp [Value.oneCell']) (by unfold maxLen; omega) (by omega) (by omega) ?_; clear HP; intro gap2 cap2 wap2 HP; replace HP := Lib.hid HP) | (refine wpList_stW1 rfl 27 _ _ rfl HP.out rfl rfl (bs_lt HB2.out (j := 3) (by omega) (by omega)) rfl (bs_setP HB2.out _ (b2.ps ++ [(j : Int)]) (by omega)) (by kernel_rfl) ?_; clear HP; intro wst HP; replace HP := Lib.hid HP))
                      replace HP := Lib.hid (show Hp w _ (.row (.slice (some ⟨gap2, 0, none⟩) (b2.ps.length + 1) cap2) 3 1 (b2.ps.length + 1) (b2.ps.map (Value.int .i64) ++ [(j : Int)].map (Value.int .i64)) :: .row (.slice (some ⟨gO, 0, none⟩) m cO) 50 4 m (bsCells (bs2.set q { b2 with vp := .slice (some ⟨gap2, 0, none⟩) (b2.ps.length + 1) cap2, ps := b2.ps ++ [(j : Int)] })) :: .blk g7 47 [.int .i64 f.params, .int .i64 f.regs, .slice (some aC) f.code.length c2] :: .blk g2 24 [.slice (some ad) p.funcs.length c] :: R2) _ from HP.out)
                      have hp4 := HBK2.out _ _ [_, _, _] { b2 with vp := .slice (some ⟨gap2, 0, none⟩) (b2.ps.length + 1) cap2, ps := b2.ps ++ [(j : Int)] } rfl (by unfold bvP; rw [List.length_append, List.map_append]; exact HP.out)
                      simp only [List.cons_append, List.nil_append] at hp4
                      have HP4 := Lib.hid hp4
                      go_roundw
                      case rel => exact ⟨j + 1, _, _, by omega, by go_num, Lib.hid ⟨by rw [List.length_set]; exact HBS2.out.1, RIn.stepP HBS2.out.2 HB2.out HE2.out _⟩, Lib.hid (by simp), HP4⟩
                      case measure => simp [intOf]; omega
                    | false =>
                      go_wp2_with (first | (refine wpList_ldW0 rfl 3 _ rfl HP.out rfl (bs_at HB2.out 0 rfl (by omega)) Tryd.underlying3 rfl ?_) | (go_at_call 39; refine (inListB_any _ _ _ _ HED2.out _ (HP.out.rep (.head _) HU.out)).mono ?_; rintro e w10 ⟨rfl, rfl⟩))
                      go_roundw
                      case rel => exact ⟨j + 1, _, _, by omega, by go_num, Lib.hid ⟨HBS2.out.1, RIn.noP HBS2.out.2 HE2.out⟩, Lib.hid (by simp), HP⟩
                      case measure => simp [intOf]; omega
                  | false =>
                    have HBS2 := Lib.hid (show bs.length = m ∧ AllB (RIn f m q (j + 1) j) bs from ⟨HBS.out.1, RIn.noN HBS.out.2 HE1.out⟩)
                    go_upto_region 24 with (first | (refine wpList_ldW0 rfl 3 _ rfl HP.out rfl (bs_at HB1.out 0 rfl (by omega)) Tryd.underlying3 rfl ?_) | (go_at_call 39; refine (inListB_any _ _ _ _ HED1.out _ (HP.out.rep (.head _) HU.out)).mono ?_; rintro e w10 ⟨rfl, rfl⟩))
                    clear HB HB1 HU
                    obtain ⟨b2, hb2⟩ : ∃ b2, bs[q]? = some b2 := ⟨bs[q]'(by rw [HBS2.out.1]; exact hlt), List.getElem?_eq_getElem _⟩
                    obtain ⟨b3, hb3⟩ : ∃ b3, bs[j]? = some b3 := ⟨bs[j]'(by rw [HBS2.out.1]; exact hjl), List.getElem?_eq_getElem _⟩
                    have HB2 := Lib.hid hb2
                    have HB3 := Lib.hid hb3
                    have HjU := Lib.hid (show b3.upto = (tj : Int) + 1 by rw [(HBS2.out.2 j b3 hb3).upto, HTJ.out])
                    have HF2 := Lib.hid (show b2.frm = (begB f q : Int) from (HBS2.out.2 q b2 hb2).frm)
                    have hbp := (HBS2.out.2 q b2 hb2).lenP rfl
                    clear hb2 hb3
                    go_upto_region 24 with (fail)
                    have HDR := Lib.hid HP.out.drew
                    have HATF := Lib.hid (HP.out.blkAt (.tail _ (.head _)) 0)
                    have q1 := HP.out.rowCell (g := gO) (.head _) (j * 4 + 1) _ (bs_at HB3.out 1 (show (bvCells b3)[1]? = some (.int .i64 ((tj : Int) + 1)) by show some (Value.int .i64 b3.upto) = _; rw [HjU.out]) rfl)
                    refine wp_region_still_tail 7 (by kernel_rfl) (by kernel_rfl) ?_
                    simp only [List.take_succ_cons, List.take_zero, List.drop_succ_cons, List.drop_zero]
                    repeat (first | (refine wpStill_load_at rfl 47 _ rfl _ rfl _ _ (At.drew HATF.out) Tryd.underlying47 rfl (by kernel_rfl) ?_) | still_step)
                    try refine wpStill_nil ?_
                    clear q1 HATF
                    replace HP := HDR
                    clear HDR
                    go_upto_region 25 with (first | (go_at_call 38; refine (Behind_any f _ tj _ (HP.out.rep (F := ⟨w, Lt w.heap.size⟩) (by simp) HC.out) HLj.out).mono ?_; rintro e w9 ⟨u9, rfl, hu9, hb9⟩; replace HP := Lib.hid (HP.out.call hb9); have HU := Lib.hid hu9; clear hb9 hu9))
                    obtain ⟨be2, hbe2⟩ : ∃ be2, edgeB f j q = be2 := ⟨_, rfl⟩
                    have HE2 := Lib.hid hbe2
                    have HED2 := Lib.hid (show b2.frm ∈ nextZ f.code[tj] tj ↔ be2 = true by rw [← hbe2]; unfold edgeB; rw [decide_eq_true_iff, HIJ.out, HF2.out, show insB f tj = f.code[tj] by unfold insB; rw [List.getElem?_eq_getElem HLj.out]; rfl])
                    clear hbe2
                    cases be2 with
                    | true =>
                      go_upto_region 26 with (first | (refine wpList_ldW0 rfl 3 _ rfl HP.out rfl (bs_at HB2.out 0 rfl (by omega)) Tryd.underlying3 rfl ?_) | (go_at_call 39; refine (inListB_any _ _ _ _ HED2.out _ (HP.out.rep (.head _) HU.out)).mono ?_; rintro e w10 ⟨rfl, rfl⟩))
                      obtain ⟨R2, hp3, hbk2⟩ := Hp.takeP (L := [_, _, _]) (t := 3) HP.out HB2.out
                      replace HP := Lib.hid (show Hp w _ (.row b2.vp 3 1 b2.ps.length (b2.ps.map (Value.int .i64)) :: .row (.slice (some ⟨gO, 0, none⟩) m cO) 50 4 m (bsCells bs) :: .blk g7 47 [.int .i64 f.params, .int .i64 f.regs, .slice (some aC) f.code.length c2] :: .blk g2 24 [.slice (some ad) p.funcs.length c] :: R2) _ from hp3)
                      have HBK2 := Lib.hid hbk2
                      clear hp3 hbk2
                      go_wp2_with (first | (refine wpList_ldW1 rfl 27 _ rfl HP.out rfl (bs_at HB2.out 3 rfl (by omega)) Tryd.underlying27 rfl ?_) | (refine wpList_ints_hp rfl 27 3 1 _ rfl HP.out Tryd.underlying27 [_] rfl (by kernel_rfl) ?_; clear HP; intro gi wi HP; replace HP := Lib.hid HP) | (at_builtin; refine wpList_apg0 rfl _ _ 27 rfl i_int (.int .i64 0) Tryd.underlying27 hi_int hz_int hs_int rfl (by decide) hy_int (b2.ps.length + 1) rfl HP.out rfl rfl rfl (by simp [Value.oneCell']) (by unfold maxLen; omega) (by omega) (by omega) ?_; clear HP; intro gap2 cap2 wap2 HP; replace HP := Lib.hid HP) | (refine wpList_stW1 rfl 27 _ _ rfl HP.out rfl rfl (bs_lt HB2.out (j := 3) (by omega) (by omega)) rfl (bs_setP HB2.out _ (b2.ps ++ [(j : Int)]) (by omega)) (by kernel_rfl) ?_; clear HP; intro wst HP; replace HP := Lib.hid HP))
                      replace HP := Lib.hid (show Hp w _ (.row (.slice (some ⟨gap2, 0, none⟩) (b2.ps.length + 1) cap2) 3 1 (b2.ps.length + 1) (b2.ps.map (Value.int .i64) ++ [(j : Int)].map (Value.int .i64)) :: .row (.slice (some ⟨gO, 0, none⟩) m cO) 50 4 m (bsCells (bs.set q { b2 with vp := .slice (some ⟨gap2, 0, none⟩) (b2.ps.length + 1) cap2, ps := b2.ps ++ [(j : Int)] })) :: .blk g7 47 [.int .i64 f.params, .int .i64 f.regs, .slice (some aC) f.code.length c2] :: .blk g2 24 [.slice (some ad) p.funcs.length c] :: R2) _ from HP.out)
                      have hp4 := HBK2.out _ _ [_, _, _] { b2 with vp := .slice (some ⟨gap2, 0, none⟩) (b2.ps.length + 1) cap2, ps := b2.ps ++ [(j : Int)] } rfl (by unfold bvP; rw [List.length_append, List.map_append]; exact HP.out)
                      simp only [List.cons_append, List.nil_append] at hp4
                      have HP4 := Lib.hid hp4
                      go_roundw
                      case rel => exact ⟨j + 1, _, _, by omega, by go_num, Lib.hid ⟨by rw [List.length_set]; exact HBS2.out.1, RIn.stepP HBS2.out.2 HB2.out HE2.out _⟩, Lib.hid (by simp), HP4⟩
                      case measure => simp [intOf]; omega
                    | false =>
                      go_wp2_with (first | (refine wpList_ldW0 rfl 3 _ rfl HP.out rfl (bs_at HB2.out 0 rfl (by omega)) Tryd.underlying3 rfl ?_) | (go_at_call 39; refine (inListB_any _ _ _ _ HED2.out _ (HP.out.rep (.head _) HU.out)).mono ?_; rintro e w10 ⟨rfl, rfl⟩))
                      go_roundw
                      case rel => exact ⟨j + 1, _, _, by omega, by go_num, Lib.hid ⟨HBS2.out.1, RIn.noP HBS2.out.2 HE2.out⟩, Lib.hid (by simp), HP⟩
                      case measure => simp [intOf]; omega
                · obtain rfl : j = m := by omega
                  have HBD := Lib.hid (show bs.length = j ∧ AllB (RAt f j (q + 1)) bs from ⟨HBS.out.1, RIn.done HBS.out.2⟩)
                  go_wp2
                  go_roundw
                  case rel => exact ⟨q + 1, bs, _, by omega, by go_num, HBD, Lib.hid (.head _), HP⟩
                  case measure => simp [intOf]; omega
            · obtain rfl : q = m := by omega
              obtain ⟨b, hb⟩ : ∃ b, bs[0]? = some b := ⟨bs[0]'(by rw [HBS.out.1]; exact hmp), List.getElem?_eq_getElem _⟩
              have HB := Lib.hid hb
              have hps := (HBS.out.2 0 b hb).ps
              have hnil := (HBS.out.2 0 b hb).nil
              have hpl : b.ps.length ≤ q := by rw [hps, if_pos hmp]; exact prvB_len f 0 q
              have hmp3 : (0 : Int) < (q : Int) := by omega
              clear hb hps
              go_upto_region 28 with (first | (refine wpList_ints_hp rfl 27 3 1 _ rfl HP.out Tryd.underlying27 [_] rfl (by kernel_rfl) ?_; clear HP; intro gi wi HP; replace HP := Lib.hid HP))
              replace HP := Lib.hid (Hp.rowOf (A := []) (n := 1) (sz := 1) HP.out rfl (by unfold maxLen; omega))
              obtain ⟨R3, hp3, hbk3⟩ := Hp.takeP (L := [_, _, _, _]) (t := 3) HP.out HB.out
              by_cases hpe : b.ps = []
              · have hvn := hnil hpe
                replace HP := Lib.hid (show Hp w [⟨w, Lt w.heap.size⟩] (.row (.slice (some ⟨gi, 0, none⟩) 1 1) 3 1 1 [.int .i64 (-1)] :: .row (.slice (some ⟨gO, 0, none⟩) q cO) 50 4 q (bsCells bs) :: .blk g7 47 [.int .i64 f.params, .int .i64 f.regs, .slice (some aC) f.code.length c2] :: .blk g2 24 [.slice (some ad) p.funcs.length c] :: R3) _ from Hp.drop (A := []) hp3)
                have HBK3 := Lib.hid hbk3
                have HVN := Lib.hid (show (bvCells b)[3]? = some (.slice none 0 0) by show some b.vp = _; rw [hvn])
                clear hp3 hbk3
                go_upto_region 29 with (first | (refine wpList_ldW1 rfl 27 _ rfl HP.out rfl (bs_at HB.out 3 HVN.out rfl) Tryd.underlying27 rfl ?_) | (refine wpList_stW1 rfl 27 _ _ rfl HP.out rfl rfl (bs_lt HB.out (j := 3) rfl (by omega)) rfl (bs_setP HB.out _ ([-1] ++ b.ps) rfl) (by kernel_rfl) ?_; clear HP; intro wst HP; replace HP := Lib.hid HP))
                replace HP := Lib.hid (show Hp w [⟨w, Lt w.heap.size⟩] (.row (.slice (some ⟨gi, 0, none⟩) 1 1) 3 1 1 [.int .i64 (-1)] :: .row (.slice (some ⟨gO, 0, none⟩) q cO) 50 4 q (bsCells (bs.set 0 { b with vp := .slice (some ⟨gi, 0, none⟩) 1 1, ps := [-1] ++ b.ps })) :: .blk g7 47 [.int .i64 f.params, .int .i64 f.regs, .slice (some aC) f.code.length c2] :: .blk g2 24 [.slice (some ad) p.funcs.length c] :: R3) _ from HP.out)
                have hp5 := HBK3.out _ _ [_, _, _] { b with vp := .slice (some ⟨gi, 0, none⟩) 1 1, ps := [-1] ++ b.ps } rfl (by unfold bvP; rw [hpe]; exact HP.out)
                simp only [List.cons_append, List.nil_append] at hp5
                replace HP := Lib.hid hp5
                clear hp5
                have HFN := Lib.hid (show (bs.set 0 { b with vp := .slice (some ⟨gi, 0, none⟩) 1 1, ps := [-1] ++ b.ps }).map bvOf = blksL f by
                  have h := HBS.out
                  rw [← HM.out] at h
                  exact RAt.done h.1 h.2 HB.out _)
                go_wp2
                (try simp only [Exit.inBlock, Exit.then])
                refine bodyPost_ret (results_tmp2 (by rfl) _ _ _) (by rfl) ⟨_, rfl, ?_, HP.out.below⟩
                simp only
                rw [← HFN.out]
                exact HP.out.bkRep (t := 3) (.head _) (fun r hr => .tail _ (.tail _ (.tail _ hr)))
              · have hpp : 0 < b.ps.length := List.length_pos_iff.2 hpe
                replace HP := Lib.hid (show Hp w [⟨w, Lt w.heap.size⟩] (.row b.vp 3 1 b.ps.length (b.ps.map (Value.int .i64)) :: .row (.slice (some ⟨gi, 0, none⟩) 1 1) 3 1 1 [.int .i64 (-1)] :: .row (.slice (some ⟨gO, 0, none⟩) q cO) 50 4 q (bsCells bs) :: .blk g7 47 [.int .i64 f.params, .int .i64 f.regs, .slice (some aC) f.code.length c2] :: .blk g2 24 [.slice (some ad) p.funcs.length c] :: R3) _ from hp3)
                have HBK3 := Lib.hid hbk3
                obtain ⟨gP, cP, hvp⟩ := HP.out.rowSome (.head _) hpp
                have HVN := Lib.hid (show (bvCells b)[3]? = some (.slice (some ⟨gP, 0, none⟩) b.ps.length cP) by show some b.vp = _; rw [hvp])
                rw [hvp] at HP
                clear hp3 hbk3
                go_upto_region 29 with (first | (refine wpList_ldW2 rfl 27 _ rfl HP.out rfl (bs_at HB.out 3 HVN.out rfl) Tryd.underlying27 rfl ?_) | (at_builtin; refine wpList_append_src (A := [_]) rfl _ _ 27 rfl i_int (.int .i64 0) Tryd.underlying27 hi_int hz_int hs_int rfl (by decide) hy_int (1 + b.ps.length) rfl HP.out rfl rfl (news := b.ps.map (Value.int .i64)) (by simp) (by simp [Value.oneCell']) (fun j u hu => by rw [Addr.add_lit, Nat.zero_add]; exact HP.out.rowCell (g := gP) (.head _) j u hu) (by unfold maxLen; omega) (by omega) ?_; clear HP; intro A' c' wap HP; replace HP := Lib.hid HP) | (refine wpList_stW2 rfl 27 _ _ rfl HP.out rfl rfl (bs_lt HB.out (j := 3) rfl (by omega)) rfl (bs_setP HB.out _ ([-1] ++ b.ps) rfl) (by kernel_rfl) ?_; clear HP; intro wst HP; replace HP := Lib.hid HP))
                replace HP := Lib.hid (Hp.drop (A := []) HP.out)
                replace HP := Lib.hid (show Hp w [⟨w, Lt w.heap.size⟩] (.row (.slice A' (1 + b.ps.length) c') 3 1 (1 + b.ps.length) ([-1].map (Value.int .i64) ++ b.ps.map (Value.int .i64)) :: .row (.slice (some ⟨gO, 0, none⟩) q cO) 50 4 q (bsCells (bs.set 0 { b with vp := .slice A' (1 + b.ps.length) c', ps := [-1] ++ b.ps })) :: .blk g7 47 [.int .i64 f.params, .int .i64 f.regs, .slice (some aC) f.code.length c2] :: .blk g2 24 [.slice (some ad) p.funcs.length c] :: R3) _ from HP.out)
                have hp5 := HBK3.out _ _ [_, _, _] { b with vp := .slice A' (1 + b.ps.length) c', ps := [-1] ++ b.ps } rfl (by unfold bvP; rw [List.length_append, List.map_append]; exact HP.out)
                simp only [List.cons_append, List.nil_append] at hp5
                replace HP := Lib.hid hp5
                clear hp5
                have HFN := Lib.hid (show (bs.set 0 { b with vp := (Value.slice A' (1 + b.ps.length) c'), ps := [-1] ++ b.ps }).map bvOf = blksL f by
                  have h := HBS.out
                  rw [← HM.out] at h
                  exact RAt.done h.1 h.2 HB.out _)
                go_wp2
                (try simp only [Exit.inBlock, Exit.then])
                refine bodyPost_ret (results_tmp2 (by rfl) _ _ _) (by rfl) ⟨_, rfl, ?_, HP.out.below⟩
                simp only
                rw [← HFN.out]
                exact HP.out.bkRep (t := 3) (.head _) (fun r hr => .tail _ (.tail _ (.tail _ hr)))
    · have HANS := Lib.hid (blocks_out hz (fn := fn) hfn)
      have HFF := Lib.hid (show ffZ p fn = 2 by unfold ffZ; rw [if_neg (by simpa using hz), if_neg hfn])
      clear hz hpf hfn
      rw [HANS.out]
      go_enter Tryd.func18, Tryd.ntmps18
      go_wp2_with (first | (refine wpList_box_hp (o := ⟨some 2, _, _, _, _, _⟩) rfl _ _ rfl HP.out [_] rfl ?_; clear HP; intro g2 w2 HP; replace HP := Lib.hid HP) | (refine wpList_ldR0 rfl 24 _ rfl HP.out rfl Tryd.underlying24 rfl (by kernel_rfl) ?_) | (go_at_call 34; refine (functionFault_any p _ _ _ (HP.out.rep (F := ⟨w, Lt w.heap.size⟩) (by simp) HR.out)).mono ?_; rintro e w4 ⟨rfl, hb⟩; replace HP := Lib.hid (HP.out.call0 hb); clear hb; rw [HFF.out]))
      (try simp only [Exit.inBlock, Exit.then])
      refine bodyPost_ret (results_tmp2 (by rfl) _ _ _) (by rfl) ?_
      exact ⟨_, rfl, rep_bks_nil, HP.out.below⟩
  · have HANS := Lib.hid (blocks_bad hz fn)
    have hff0 : ffZ p fn = proven p := by unfold ffZ; rw [if_pos hz]
    obtain ⟨e0, he0⟩ : ∃ e0, proven p = e0 := ⟨_, rfl⟩
    rw [he0] at hz HANS hff0
    have HFF := Lib.hid hff0
    have hzb : (e0 != 0) = true := by simpa using hz
    clear he0 hz hff0
    rw [HANS.out]
    go_enter Tryd.func18, Tryd.ntmps18
    go_wp2_with (first | (refine wpList_box_hp (o := ⟨some 2, _, _, _, _, _⟩) rfl _ _ rfl HP.out [_] rfl ?_; clear HP; intro g2 w2 HP; replace HP := Lib.hid HP) | (refine wpList_ldR0 rfl 24 _ rfl HP.out rfl Tryd.underlying24 rfl (by kernel_rfl) ?_) | (go_at_call 34; refine (functionFault_any p _ _ _ (HP.out.rep (F := ⟨w, Lt w.heap.size⟩) (by simp) HR.out)).mono ?_; rintro e w4 ⟨rfl, hb⟩; replace HP := Lib.hid (HP.out.call0 hb); clear hb; rw [HFF.out]))
    (try simp only [Exit.inBlock, Exit.then])
    refine bodyPost_ret (results_tmp2 (by rfl) _ _ _) (by rfl) ?_
    exact ⟨_, rfl, rep_bks_nil, HP.out.below⟩
end Go.Proofs.YtceilfmfidmfpaaDoor
