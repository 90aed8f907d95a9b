/- ref.LoopsOf. -/
import Derived.Test.YtnabeibnaoahmaaDoorMgLoopHpBlkMem2
import Derived.Test.YtnabeibnaoahmaaDoorMgStandsComes2
import Derived.Test.YtnabeibnaoahmaaDoorBlocksOf
import Derived.Test.YtnabeibnaoahmaaDoorSure
set_option linter.unusedSimpArgs false
set_option linter.unusedVariables false
namespace Go.Proofs.YtnabeibnaoahmaaDoor
open Go.RowKit Plain64
attribute [local irreducible] wpList Code.wp Oper.wp
set_option maxRecDepth 100000 in
set_option maxHeartbeats 4000000 in
theorem LoopsOf_any (p : Prg) (u : Value) (fn : Int) (w : World) (hp : Lay.rep w (Lt w.heap.size) p [u]) :
    Calls Tryd.prog 23 #[.agg #[u], .int .i64 fn] w fun e w' => ∃ v, e = .returned (.tuple #[v, .int .i64 (loopsAns p fn).2]) ∧ Lay.rep w' (Fresh w w') (loopsAns p fn).1 [v] ∧ Below w.heap.size w w' := by
  have HR := Lib.hid hp
  have HH := True.intro
  clear hp
  obtain ⟨i_int, hi_int, hz_int, hs_int, hy_int⟩ := info_parts info_int
  obtain ⟨i_ints, hi_ints, hz_ints, hs_ints, hy_ints⟩ := info_parts info_ints
  have HP := Lib.hid (Hp.start w)
  by_cases hz : proven p = 0
  · have hpf := proven_prgL hz
    have ok := okP_of hpf
    by_cases hfn : 0 ≤ fn ∧ fn < p.funcs.length
    · obtain ⟨f1, f2⟩ := hfn
      obtain ⟨k, hk⟩ := Int.eq_ofNat_of_zero_le f1
      have hkl : k < p.funcs.length := by omega
      obtain ⟨f, hf⟩ : ∃ f, p.funcs[k] = f := ⟨_, rfl⟩
      have hfm : f ∈ p.funcs := hf ▸ List.getElem_mem hkl
      have hfk : p.funcs[k]? = some f := by rw [← hf, List.getElem?_eq_getElem hkl]
      have HANS := Lib.hid (show loopsAns p fn = (loopsL f (headsL f).length, 0) by rw [hk]; exact loops_in hz hfk)
      have HBA := Lib.hid (show blocksAns p fn = (blksL f, 0) by rw [hk]; exact blocks_in hz hfk)
      have HAA := Lib.hid (show aboveAns p fn = (abvL f, 0) by rw [hk]; exact above_in hz hfk)
      have HOF := Lib.hid (ok.fns f hfm)
      have HEE := Lib.hid (proven_ends hz hfm)
      obtain ⟨m, hmm⟩ : ∃ m, (headsL f).length = m := ⟨_, rfl⟩
      have hmp : 0 < m := hmm ▸ headsL_pos HOF.out
      have hml : m ≤ 40 := by have h1 := headsL_len f; have h2 := HOF.out.len.2; omega
      have hbl : (blksL f).length = m := by rw [blksL_len, hmm]
      have HM := Lib.hid hmm
      clear hz hpf hf hfm hfk hmm f1 f2 hk hkl ok
      rw [HANS.out]
      go_enter Tryd.func23, Tryd.ntmps23
      go_upto_region 4 with (first | (refine wpList_box_hp (o := ⟨some 2, _, _, _, _, _⟩) rfl _ _ rfl HP.out [_] rfl ?_; clear HP; intro g2 w2 HP; replace HP := Lib.hid HP) | (refine wpList_ldR0 rfl 24 _ rfl HP.out rfl Tryd.underlying24 rfl (by kernel_rfl) ?_) | (go_at_call 13; refine (BlocksOf_any p _ fn _ (HP.out.rep (F := ⟨w, Lt w.heap.size⟩) (by simp) HR.out)).mono ?_; rintro e w3 ⟨v3, rfl, hv3, hb⟩; replace HP := Lib.hid (HP.out.call hb); have HV3 := Lib.hid hv3; clear hb hv3; rw [HBA.out] at HV3 ⊢))
      obtain ⟨A3, c3, rfl, hc3, hm3, hx3⟩ := rep_bks_at HV3.out
      unfold maxLen at hm3
      rw [hbl] at HV3 hc3 ⊢
      obtain ⟨G3, HP, HS3⟩ : ∃ G : Fro, Hid (Hp w [G, ⟨w, Lt w.heap.size⟩] [.blk g2 24 [u]] _) ∧ Hid (Lay.rep G.w G.S (blksL f) [.slice A3 m c3]) := ⟨_, HP, HV3⟩
      have HX := Lib.hid (show ∀ k, k < m → ∃ (a : Addr) (u z : Value), A3 = some a ∧ G3.S a.block ∧ At G3.w (a.add (k * 4)) [.int .i64 (blkOf f k).frm, .int .i64 (blkOf f k).upto, u, z] ∧ Lay.rep G3.w G3.S (nxtB f k m) [u] from fun k hk => by
        obtain ⟨A', c', e', -, -, hx⟩ := rep_bks_at HS3.out
        obtain ⟨a, u, z, h1, h2, h3, h4, _⟩ := hx k (by omega)
        rw [blksL_get (by omega)] at h3 h4
        exact ⟨a, u, z, (Value.slice.inj e').1.trans h1, h2, h3, by rw [← HM.out]; exact h4⟩)
      clear HV3 hx3
      obtain ⟨Gr0, hp9, hri⟩ := HP.out.rowsStart
      have HRI0 := Lib.hid hri
      replace HP := Lib.hid (hp9.nil 25 1)
      clear hp9 hri hbl
      go_wp2
      go_loopw [8, 9] (fun o i wr => ∃ (q : Nat) (ov : Value) (xss : List (List Int)) (vs : List Value) (Gr : Fro), q ≤ m ∧ i = .int .i64 q ∧ ov = o ∧ xss.length ≤ 40 * q ∧ Hid (xss = loopsL f q) ∧ Hid (RowsIn w Gr xss vs) ∧ Hid (Hp w [Gr, G3, ⟨w, Lt w.heap.size⟩] [.row ov 25 1 xss.length vs, .blk g2 24 [u]] wr)) (fun _ i _ => m - (intOf i).toNat)
      case atStart => exact ⟨0, _, [], [], Gr0, by omega, rfl, rfl, by simp, Lib.hid rfl, HRI0, HP⟩
      case round =>
        clear HP HRI0
        obtain ⟨q, ov, xss, vs, Gr, hq9, rfl, rfl, hxl, HXS, HRI, HP⟩ := hrel
        obtain ⟨wo, rfl⟩ : ∃ wo : World, wo = wr := ⟨_, rfl⟩
        by_cases hq : q < m
        · have hq2 : (q : Int) < (m : Int) := by omega
          obtain ⟨a1, u1, z1, rfl, hab, hat, hnx⟩ := HX.out q hq
          obtain ⟨nx, hnxe⟩ : ∃ nx, nxtB f q m = nx := ⟨_, rfl⟩
          have HNE := Lib.hid (show ∀ x ∈ nx, ∃ k : Nat, k < m ∧ x = k ∧ edgeB f q k = true from fun x hx => mem_nxtB.1 (hnxe ▸ hx))
          have hnl : nx.length ≤ m := hnxe ▸ nxtB_len f q m
          have HLS := Lib.hid (show loopsL f (q + 1) = loopsL f q ++ loopsAt f q nx by rw [loopsL, HM.out, hnxe])
          rw [hnxe] at hnx
          obtain ⟨An, cn, rfl, hcn, hmn, hxn⟩ := rep_ints_at hnx
          unfold maxLen at hmn
          have HXN := Lib.hid hxn
          have HATI := Lib.hid (show At G3.w (a1.add (q * 4)) [.int .i64 (blkOf f q).frm, .int .i64 (blkOf f q).upto, .slice An nx.length cn, z1] ∧ G3.S (a1.add (q * 4)).block from ⟨hat, by rw [block_of_add]; exact hab⟩)
          clear hnx hxn hat hab hnxe
          go_wp2
          go_loopw [8, 10] (fun o i wr => ∃ (j : Nat) (ov : Value) (xss : List (List Int)) (vs : List Value) (Gr : Fro), j ≤ nx.length ∧ i = .int .i64 j ∧ ov = o ∧ xss.length ≤ 40 * q + j ∧ Hid (xss = loopsL f q ++ loopsAt f q (nx.take j)) ∧ Hid (RowsIn w Gr xss vs) ∧ Hid (Hp w [Gr, G3, ⟨w, Lt w.heap.size⟩] [.row ov 25 1 xss.length vs, .blk g2 24 [u]] wr)) (fun _ i _ => nx.length - (intOf i).toNat)
          case atStart => exact ⟨0, ov, xss, vs, Gr, by omega, rfl, rfl, by omega, Lib.hid (by rw [HXS.out]; simp [loopsAt]), HRI, HP⟩
          case round =>
            clear HP HRI HXS hxl
            obtain ⟨j, ov, xss, vs, Gr, hj9, rfl, rfl, hxl, HXS, HRI, HP⟩ := hrel
            obtain ⟨wj, rfl⟩ : ∃ wi : World, wi = wr := ⟨_, rfl⟩
            have qn := (HP.out.at_ (F := G3) (by simp) HATI.out.1 HATI.out.2).fld 1 rfl
            by_cases hj : j < nx.length
            · have hj2 : (j : Int) < (nx.length : Int) := by omega
              obtain ⟨a2, rfl, hab2, hcl⟩ := HXN.out j hj
              obtain ⟨n, hn⟩ : ∃ n, nx[j] = n := ⟨_, rfl⟩
              obtain ⟨k, hk, rfl, -⟩ := HNE.out n (hn ▸ List.getElem_mem hj)
              rw [hn] at hcl
              have hki : (k : Int) < (m : Int) := by omega
              have HTK := Lib.hid (show loopsL f q ++ loopsAt f q (nx.take (j + 1)) = xss ++ if stB f k q then [rowB f k q] else [] by
                rw [List.take_add_one, List.getElem?_eq_getElem hj, hn]
                show loopsL f q ++ loopsAt f q (nx.take j ++ [(k : Int)]) = _
                rw [loopsAt_snoc, HXS.out, List.append_assoc])
              clear hn hab2
              obtain ⟨sb, hsb⟩ : ∃ sb, stB f k q = sb := ⟨_, rfl⟩
              have HSTB := Lib.hid hsb
              rw [hsb] at HTK
              clear hsb
              have qc := (HP.out.alike (F := G3) (by simp) (a2.add j) (by rw [block_of_add]; exact (HXN.out j hj).elim fun a h => by rw [Option.some.inj h.1]; exact h.2.1)).trans hcl
              clear hcl
              cases sb with
              | false =>
                have HXN2 := Lib.hid (show xss = loopsL f q ++ loopsAt f q (nx.take (j + 1)) by rw [HTK.out]; simp)
                go_wp2_with (first | (go_at_call 52; refine (standsAbove_any f _ HOF.out _ k q m HM.out hk hq _ (HP.out.rep (F := G3) (by simp) HS3.out)).mono ?_; rintro e w9 ⟨rfl, hb9⟩; replace HP := Lib.hid (HP.out.call0 hb9); clear hb9; rw [HSTB.out]))
                go_roundw
                case rel => exact ⟨j + 1, ov, xss, vs, Gr, by omega, by go_num, rfl, by omega, HXN2, HRI, HP⟩
                case measure => simp [intOf]; omega
              | true =>
                have HXN2 := Lib.hid (show xss ++ [rowB f k q] = loopsL f q ++ loopsAt f q (nx.take (j + 1)) by rw [HTK.out]; simp)
                go_upto_region 14 with (first | (go_at_call 52; refine (standsAbove_any f _ HOF.out _ k q m HM.out hk hq _ (HP.out.rep (F := G3) (by simp) HS3.out)).mono ?_; rintro e w9 ⟨rfl, hb9⟩; replace HP := Lib.hid (HP.out.call0 hb9); clear hb9; rw [HSTB.out]) | (refine wpList_ints_hp rfl 25 3 1 _ rfl HP.out Tryd.underlying25 [_] rfl (by kernel_rfl) ?_; clear HP; intro gi wi HP; replace HP := Lib.hid HP))
                have HP3 : Hid (Hp w [Gr, G3, ⟨w, Lt w.heap.size⟩] [.row (.slice (some ⟨gi, 0, none⟩) 1 1) 3 1 1 (((k : Int) :: inL f k q 0).map (Value.int .i64)), .row ov 25 1 xss.length vs, .blk g2 24 [u]] _) := Lib.hid (HP.out.rowOf (A := []) rfl (by unfold maxLen; decide))
                clear HP
                go_wp2
                go_loopw [12, 13] (fun o i wr => ∃ (b g cp : Nat) (xs : List Int), b ≤ m ∧ i = .int .i64 b ∧ o = .slice (some ⟨g, 0, none⟩) xs.length cp ∧ xs.length ≤ b + 1 ∧ Hid (xs = (k : Int) :: inL f k q b) ∧ Hid (Hp w [Gr, G3, ⟨w, Lt w.heap.size⟩] [.row (.slice (some ⟨g, 0, none⟩) xs.length cp) 3 1 xs.length (xs.map (Value.int .i64)), .row ov 25 1 xss.length vs, .blk g2 24 [u]] wr)) (fun _ i _ => m - (intOf i).toNat)
                case atStart => exact ⟨0, gi, 1, [(k : Int)], by omega, rfl, rfl, by simp, Lib.hid rfl, HP3⟩
                case round =>
                  clear HP3
                  obtain ⟨b, g1, cp1, xs, hb9, rfl, rfl, hxl2, HXB, HP⟩ := hrel
                  obtain ⟨wk, rfl⟩ : ∃ wk : World, wk = wr := ⟨_, rfl⟩
                  obtain ⟨hcp1, hcp2⟩ := HP.out.rowCap (.head _)
                  unfold maxLen at hcp2
                  by_cases hb : b < m
                  · have hbi : (b : Int) < (m : Int) := by omega
                    have HIS := Lib.hid (inL_succ f k q b)
                    by_cases hbk : b = k
                    · have hb1 : ((b : Int) != (k : Int)) = false := by simp; omega
                      have hb2 : (b != k) = false := by simpa using hbk
                      have HXN := Lib.hid (show xs = (k : Int) :: inL f k q (b + 1) by rw [HIS.out, hb2, HXB.out]; simp)
                      clear hbk
                      go_wp2
                      go_roundw
                      case rel => exact ⟨b + 1, g1, cp1, xs, by omega, by go_num, rfl, by omega, HXN, HP⟩
                      case measure => simp [intOf]; omega
                    · have hb1 : ((b : Int) != (k : Int)) = true := by simp; omega
                      have hb2 : (b != k) = true := by simpa using hbk
                      obtain ⟨rb, hrb⟩ : ∃ rb, rvB f k q b = rb := ⟨_, rfl⟩
                      rw [hrb, hb2] at HIS
                      have HRV := Lib.hid hrb
                      clear hrb hbk
                      cases rb with
                      | false =>
                        have HXN := Lib.hid (show xs = (k : Int) :: inL f k q (b + 1) by rw [HIS.out, HXB.out]; simp)
                        go_wp2_with (first | (go_at_call 53; refine (comesTo_any f _ HOF.out _ b q k m HM.out hb hq hk _ (HP.out.rep (F := G3) (by simp) HS3.out)).mono ?_; rintro e w9 ⟨rfl, hb9⟩; replace HP := Lib.hid (HP.out.call0 hb9); clear hb9; rw [HRV.out]))
                        go_roundw
                        case rel => exact ⟨b + 1, g1, cp1, xs, by omega, by go_num, rfl, by omega, HXN, HP⟩
                        case measure => simp [intOf]; omega
                      | true =>
                        have HXN := Lib.hid (show xs ++ [(b : Int)] = (k : Int) :: inL f k q (b + 1) by rw [HIS.out, HXB.out]; simp)
                        go_wp2_with (first | (go_at_call 53; refine (comesTo_any f _ HOF.out _ b q k m HM.out hb hq hk _ (HP.out.rep (F := G3) (by simp) HS3.out)).mono ?_; rintro e w9 ⟨rfl, hb9⟩; replace HP := Lib.hid (HP.out.call0 hb9); clear hb9; rw [HRV.out]) | (refine wpList_ints_hp rfl 25 3 1 _ rfl HP.out Tryd.underlying25 [_] rfl (by kernel_rfl) ?_; clear HP; intro gi wi HP; replace HP := Lib.hid HP) | (at_builtin; refine wpList_apg0 rfl _ _ 25 rfl i_int (.int .i64 0) Tryd.underlying25 hi_int hz_int hs_int rfl (by decide) hy_int (xs.length + 1) rfl HP.out rfl rfl rfl (by simp [Value.oneCell']) (by unfold maxLen; omega) (by omega) (by omega) ?_; clear HP; intro gap cap wap HP; replace HP := Lib.hid HP))
                        rw [show List.map (Value.int .i64) xs ++ List.map (Value.int .i64) [(b : Int)] = List.map (Value.int .i64) (xs ++ [(b : Int)]) by simp] at HP
                        have hl1 : xs.length + 1 = (xs ++ [(b : Int)]).length := by simp
                        rw [hl1] at HP ⊢
                        go_roundw
                        case rel => exact ⟨b + 1, gap, cap, xs ++ [(b : Int)], by omega, by go_num, rfl, by simp; omega, HXN, HP⟩
                        case measure => simp [intOf]; omega
                  · obtain rfl : b = m := by omega
                    have HE := Lib.hid (show xs = rowB f k q by rw [HXB.out]; unfold rowB; rw [HM.out])
                    obtain ⟨G', hp9, hri⟩ := HP.out.freezeRow HRI.out
                    rw [show xss ++ [xs] = xss ++ [rowB f k q] by rw [HE.out]] at hri
                    have HRJ := Lib.hid hri
                    replace HP := Lib.hid hp9
                    clear hp9 hri
                    go_wp2_with (first | (refine wpList_slice_hp rfl 50 25 1 _ rfl HP.out Tryd.underlying50 #[.slice (some ⟨g1, 0, none⟩) xs.length cp1] (by kernel_rfl) ?_; clear HP; intro gi wi HP; replace HP := Lib.hid HP) | (at_builtin; refine wpList_app0 rfl _ _ 50 rfl i_ints (.slice none 0 0) Tryd.underlying50 hi_ints hz_ints hs_ints rfl (by decide) hy_ints (xss.length + 1) rfl HP.out rfl rfl rfl (by simp [Value.oneCell']) (by unfold maxLen; omega) (by omega) ?_; clear HP; intro A' c' wap HP; replace HP := Lib.hid HP))
                    have hl1 : xss.length + 1 = (xss ++ [rowB f k q]).length := by simp
                    rw [hl1] at HP ⊢
                    go_roundw
                    case rel => exact ⟨j + 1, _, xss ++ [rowB f k q], vs ++ [.slice (some ⟨g1, 0, none⟩) xs.length cp1], G', by omega, by go_num, rfl, by simp; omega, HXN2, HRJ, HP⟩
                    case measure => simp [intOf]; omega
            · obtain rfl : j = nx.length := by omega
              have HXN2 := Lib.hid (show xss = loopsL f (q + 1) by rw [HLS.out, HXS.out, List.take_length])
              go_wp2
              go_roundw
              case rel => exact ⟨q + 1, ov, xss, vs, Gr, by omega, by go_num, rfl, by omega, HXN2, HRI, HP⟩
              case measure => simp [intOf]; omega
        · obtain rfl : q = m := by omega
          have HE := Lib.hid (show xss = loopsL f (headsL f).length by rw [HM.out]; exact HXS.out)
          go_wp2
          (try simp only [Exit.inBlock, Exit.then])
          refine bodyPost_ret (results_tmp2 (by rfl) _ _ _) (by rfl) ?_
          refine ⟨_, rfl, ?_, HP.out.below⟩
          simp only
          rw [← HE.out]
          exact HP.out.rowRows (F := Gr) (.head _) (.head _) HRI.out.1 HRI.out.2
    · have HANS := Lib.hid (loops_out hz (fn := fn) hfn)
      have HBA := Lib.hid (blocks_out hz (fn := fn) hfn)
      clear hz hpf hfn
      rw [HANS.out]
      go_enter Tryd.func23, Tryd.ntmps23
      go_wp2_with (first | (refine wpList_box_hp (o := ⟨some 2, _, _, _, _, _⟩) rfl _ _ rfl HP.out [_] rfl ?_; clear HP; intro g2 w2 HP; replace HP := Lib.hid HP) | (refine wpList_ldR0 rfl 24 _ rfl HP.out rfl Tryd.underlying24 rfl (by kernel_rfl) ?_) | (go_at_call 13; refine (BlocksOf_any p _ fn _ (HP.out.rep (F := ⟨w, Lt w.heap.size⟩) (by simp) HR.out)).mono ?_; rintro e w3 ⟨v3, rfl, hv3, hb⟩; replace HP := Lib.hid (HP.out.call hb); have HV3 := Lib.hid hv3; clear hb hv3; rw [HBA.out] at HV3 ⊢))
      (try simp only [Exit.inBlock, Exit.then])
      refine bodyPost_ret (results_tmp2 (by rfl) _ _ _) (by rfl) ?_
      exact ⟨_, rfl, rep_rows_nil, HP.out.below⟩
  · have HANS := Lib.hid (loops_bad hz fn)
    have hba := blocks_bad hz fn
    obtain ⟨e0, he0⟩ : ∃ e0, proven p = e0 := ⟨_, rfl⟩
    rw [he0] at hz HANS hba
    have HBA := Lib.hid hba
    have hzb : (e0 != 0) = true := by simpa using hz
    clear he0 hz hba
    rw [HANS.out]
    go_enter Tryd.func23, Tryd.ntmps23
    go_wp2_with (first | (refine wpList_box_hp (o := ⟨some 2, _, _, _, _, _⟩) rfl _ _ rfl HP.out [_] rfl ?_; clear HP; intro g2 w2 HP; replace HP := Lib.hid HP) | (refine wpList_ldR0 rfl 24 _ rfl HP.out rfl Tryd.underlying24 rfl (by kernel_rfl) ?_) | (go_at_call 13; refine (BlocksOf_any p _ fn _ (HP.out.rep (F := ⟨w, Lt w.heap.size⟩) (by simp) HR.out)).mono ?_; rintro e w3 ⟨v3, rfl, hv3, hb⟩; replace HP := Lib.hid (HP.out.call hb); have HV3 := Lib.hid hv3; clear hb hv3; rw [HBA.out] at HV3 ⊢))
    (try simp only [Exit.inBlock, Exit.then])
    refine bodyPost_ret (results_tmp2 (by rfl) _ _ _) (by rfl) ?_
    exact ⟨_, rfl, rep_rows_nil, HP.out.below⟩
end Go.Proofs.YtnabeibnaoahmaaDoor
