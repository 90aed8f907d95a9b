/- flow.Loops. -/
import Derived.Test.YtnabeibnaoahmaaDoorMgLoopHpBlkMem2
import Derived.Test.YtnabeibnaoahmaaDoorMgStandsComes2
import Derived.Test.YtnabeibnaoahmaaDoorLoop
import Derived.Test.YtnabeibnaoahmaaDoorAbove
set_option linter.unusedSimpArgs false
set_option linter.unusedVariables false
namespace Go.Proofs.YtnabeibnaoahmaaDoor
open Go.RowKit Plain64
attribute [local irreducible] wpList Code.wp Oper.wp
set_option maxRecDepth 100000 in
set_option maxHeartbeats 4000000 in
theorem Loops_any (p : Prg) (u : Value) (fn : Int) (w : World) (hp : Lay.rep w (Lt w.heap.size) p [u]) (hh : Has w) :
    Calls Tryd.prog 22 #[.agg #[u], .int .i64 fn] w fun e w' => ∃ v, e = .returned (.tuple #[v, .int .i64 (loopsAns p fn).2]) ∧ Lay.rep w' (Fresh w w') (loopsAns p fn).1 [v] ∧ Below w.heap.size w w' := by
  have HR := Lib.hid hp
  have HH := Lib.hid hh
  clear hp hh
  obtain ⟨i_int, hi_int, hz_int, hs_int, hy_int⟩ := info_parts info_int
  obtain ⟨i_ints, hi_ints, hz_ints, hs_ints, hy_ints⟩ := info_parts info_ints
  have HP := Lib.hid (Hp.start w)
  by_cases hz : proven p = 0
  · have hpf := proven_prgL hz
    have ok := okP_of hpf
    by_cases hfn : 0 ≤ fn ∧ fn < p.funcs.length
    · obtain ⟨f1, f2⟩ := hfn
      obtain ⟨k, hk⟩ := Int.eq_ofNat_of_zero_le f1
      have hkl : k < p.funcs.length := by omega
      obtain ⟨f, hf⟩ : ∃ f, p.funcs[k] = f := ⟨_, rfl⟩
      have hfm : f ∈ p.funcs := hf ▸ List.getElem_mem hkl
      have hfk : p.funcs[k]? = some f := by rw [← hf, List.getElem?_eq_getElem hkl]
      have HANS := Lib.hid (show loopsAns p fn = (loopsL f (headsL f).length, 0) by rw [hk]; exact loops_in hz hfk)
      have HBA := Lib.hid (show blocksAns p fn = (blksL f, 0) by rw [hk]; exact blocks_in hz hfk)
      have HAA := Lib.hid (show aboveAns p fn = (abvL f, 0) by rw [hk]; exact above_in hz hfk)
      have HOF := Lib.hid (ok.fns f hfm)
      have HEE := Lib.hid (proven_ends hz hfm)
      obtain ⟨m, hmm⟩ : ∃ m, (headsL f).length = m := ⟨_, rfl⟩
      have hmp : 0 < m := hmm ▸ headsL_pos HOF.out
      have hml : m ≤ 40 := by have h1 := headsL_len f; have h2 := HOF.out.len.2; omega
      have hbl : (blksL f).length = m := by rw [blksL_len, hmm]
      have HM := Lib.hid hmm
      clear hz hpf hf hfm hfk hmm f1 f2 hk hkl ok
      rw [HANS.out]
      go_enter Tryd.func22, Tryd.ntmps22
      go_upto_region 4 with (first | (refine wpList_box_hp (o := ⟨some 2, _, _, _, _, _⟩) rfl _ _ rfl HP.out [_] rfl ?_; clear HP; intro g2 w2 HP; replace HP := Lib.hid HP) | (refine wpList_ldR0 rfl 24 _ rfl HP.out rfl Tryd.underlying24 rfl (by kernel_rfl) ?_) | (go_at_call 12; refine (Blocks_any p _ fn _ (HP.out.rep (F := ⟨w, Lt w.heap.size⟩) (by simp) HR.out) (HH.out.keep HP.out.below rfl)).mono ?_; rintro e w3 ⟨v3, rfl, hv3, hb⟩; replace HP := Lib.hid (HP.out.call hb); have HV3 := Lib.hid hv3; clear hb hv3; rw [HBA.out] at HV3 ⊢))
      obtain ⟨A3, c3, rfl, hc3, hm3, hx3⟩ := rep_bks_at HV3.out
      unfold maxLen at hm3
      rw [hbl] at HV3 hc3 ⊢
      have HP5 := HP
      clear HP
      obtain ⟨G3, HP, HS3⟩ : ∃ G : Fro, Hid (Hp w [G, ⟨w, Lt w.heap.size⟩] [.blk g2 24 [u]] _) ∧ Hid (Lay.rep G.w G.S (blksL f) [.slice A3 m c3]) := ⟨_, HP5, HV3⟩
      clear HP5
      have HX := Lib.hid (show ∀ k, k < m → ∃ (a : Addr) (u z : Value), A3 = some a ∧ G3.S a.block ∧ At G3.w (a.add (k * 4)) [.int .i64 (blkOf f k).frm, .int .i64 (blkOf f k).upto, u, z] ∧ Lay.rep G3.w G3.S (nxtB f k m) [u] ∧ ∃ Az nz cz, z = .slice Az nz cz from fun k hk => by
        obtain ⟨A', c', e', -, -, hx⟩ := rep_bks_at HS3.out
        obtain ⟨a, u, z, h1, h2, h3, h4, h5⟩ := hx k (by omega)
        obtain ⟨Az, cz, ez, -⟩ := rep_ints_at h5
        rw [blksL_get (by omega)] at h3 h4
        exact ⟨a, u, z, (Value.slice.inj e').1.trans h1, h2, h3, by rw [← HM.out]; exact h4, _, _, _, ez⟩)
      clear HV3 hx3
      go_upto_region 5 with (first | (refine wpList_ldR0 rfl 24 _ rfl HP.out rfl Tryd.underlying24 rfl (by kernel_rfl) ?_) | (refine wpList_ldR1 rfl 24 _ rfl HP.out rfl Tryd.underlying24 rfl (by kernel_rfl) ?_) | (refine wpList_alloc_hp (o := ⟨some 8, _, _, _, _, _⟩) rfl _ rfl HP.out (.slice none 0 0) (by kernel_rfl) [_] rfl ?_; clear HP; intro g8 w8 HP; replace HP := Lib.hid HP) | (refine wpList_st0 rfl 25 _ _ rfl HP.out rfl rfl (by simp) rfl rfl (by kernel_rfl) ?_; clear HP; intro wst HP; replace HP := Lib.hid HP) | (go_at_call 20; refine (Above_any p _ fn _ (HP.out.rep (F := ⟨w, Lt w.heap.size⟩) (by simp) HR.out) (HH.out.keep HP.out.below rfl)).mono ?_; rintro e w4 ⟨v4, rfl, hv4, hb⟩; replace HP := Lib.hid (HP.out.call hb); rw [HAA.out] at hv4 ⊢; have HV4 := Lib.hid hv4; obtain ⟨A4, c4, rfl, -, -, -⟩ := rep_ints_at hv4; clear hb hv4))
      have HP5 := HP
      clear HP
      obtain ⟨Ga, HP, HAV⟩ : ∃ G : Fro, Hid (Hp w [G, G3, ⟨w, Lt w.heap.size⟩] [.blk g8 25 [.slice A4 (abvL f).length c4], .blk g2 24 [u]] _) ∧ Hid (Lay.rep G.w G.S (abvL f) [.slice A4 (abvL f).length c4]) := ⟨_, HP5, HV4⟩
      clear HP5
      obtain ⟨Gr0, hp9, hri⟩ := HP.out.rowsStart
      have HRI0 := Lib.hid hri
      replace HP := Lib.hid (hp9.nil 25 1)
      clear hp9 hri hbl HV4
      go_wp2
      go_loopw [11, 34] (fun o i wr => ∃ (q : Nat) (ov : Value) (xss : List (List Int)) (vs : List Value) (Gr : Fro), q ≤ m ∧ i = .int .i64 q ∧ ov = o ∧ xss.length ≤ 40 * q ∧ Hid (xss = loopsL f q) ∧ Hid (RowsIn w Gr xss vs) ∧ Hid (Hp w [Gr, Ga, G3, ⟨w, Lt w.heap.size⟩] [.row ov 25 1 xss.length vs, .blk g8 25 [.slice A4 (abvL f).length c4], .blk g2 24 [u]] wr)) (fun _ i _ => m - (intOf i).toNat)
      case atStart => exact ⟨0, _, [], [], Gr0, by omega, rfl, rfl, by simp, Lib.hid rfl, HRI0, HP⟩
      case round =>
        clear HP HRI0
        obtain ⟨q, ov, xss, vs, Gr, hq9, rfl, rfl, hxl, HXS, HRI, HP⟩ := hrel
        obtain ⟨wo, rfl⟩ : ∃ wo : World, wo = wr := ⟨_, rfl⟩
        by_cases hq : q < m
        · have hq2 : (q : Int) < (m : Int) := by omega
          obtain ⟨a1, u1, z1, rfl, hab, hat, hnx, Az, nz, cz, rfl⟩ := HX.out q hq
          obtain ⟨nx, hnxe⟩ : ∃ nx, nxtB f q m = nx := ⟨_, rfl⟩
          have HNE := Lib.hid (show ∀ x ∈ nx, ∃ k : Nat, k < m ∧ x = k ∧ edgeB f q k = true from fun x hx => mem_nxtB.1 (hnxe ▸ hx))
          have hnl : nx.length ≤ m := hnxe ▸ nxtB_len f q m
          have HLS := Lib.hid (show loopsL f (q + 1) = loopsL f q ++ loopsAt f q nx by rw [loopsL, HM.out, hnxe])
          rw [hnxe] at hnx
          obtain ⟨An, cn, rfl, hcn, hmn, hxn⟩ := rep_ints_at hnx
          unfold maxLen at hmn
          have HXN := Lib.hid hxn
          have HATI := Lib.hid (show At G3.w (a1.add (q * 4)) [.int .i64 (blkOf f q).frm, .int .i64 (blkOf f q).upto, .slice An nx.length cn, .slice Az nz cz] ∧ G3.S (a1.add (q * 4)).block from ⟨hat, by rw [block_of_add]; exact hab⟩)
          clear hnx hxn hat hab hnxe
          go_wp2_with (first | (refine wpList_alloc_hp (o := ⟨some 13, _, _, _, _, _⟩) rfl _ rfl HP.out (.agg #[.int .i64 0, .int .i64 0, .slice none 0 0, .slice none 0 0]) (by kernel_rfl) [_, _, _, _] rfl ?_; clear HP; intro g13 w13 HP; replace HP := Lib.hid HP) | (refine wpList_load_at rfl 71 _ rfl _ rfl _ _ (HP.out.at_ (F := G3) (by simp) HATI.out.1 HATI.out.2) Tryd.underlying71 rfl (by kernel_rfl) ?_) | (refine wpList_stR0 rfl 71 _ _ rfl HP.out rfl (cs' := [.int .i64 (blkOf f q).frm, .int .i64 (blkOf f q).upto, .slice An nx.length cn, .slice Az nz cz]) rfl rfl (by simp [Value.oneCell']) (by kernel_rfl) ?_; clear HP; intro wst HP; replace HP := Lib.hid HP) | (refine wpList_ld0 rfl 25 _ rfl HP.out rfl rfl Tryd.underlying25 rfl ?_))
          replace HP := Lib.hid (Hp.drop (A := []) HP.out)
          simp only [List.nil_append] at HP
          go_loopw [11, 42] (fun o i wr => ∃ (j : Nat) (ov : Value) (xss : List (List Int)) (vs : List Value) (Gr : Fro), j ≤ nx.length ∧ i = .int .i64 j ∧ ov = o ∧ xss.length ≤ 40 * q + j ∧ Hid (xss = loopsL f q ++ loopsAt f q (nx.take j)) ∧ Hid (RowsIn w Gr xss vs) ∧ Hid (Hp w [Gr, Ga, G3, ⟨w, Lt w.heap.size⟩] [.row ov 25 1 xss.length vs, .blk g8 25 [.slice A4 (abvL f).length c4], .blk g2 24 [u]] wr)) (fun _ i _ => nx.length - (intOf i).toNat)
          case atStart => exact ⟨0, ov, xss, vs, Gr, by omega, rfl, rfl, by omega, Lib.hid (by rw [HXS.out]; simp [loopsAt]), HRI, HP⟩
          case round =>
            clear HP HRI HXS hxl
            obtain ⟨j, ov, xss, vs, Gr, hj9, rfl, rfl, hxl, HXS, HRI, HP⟩ := hrel
            obtain ⟨wj, rfl⟩ : ∃ wi : World, wi = wr := ⟨_, rfl⟩
            by_cases hj : j < nx.length
            · have hj2 : (j : Int) < (nx.length : Int) := by omega
              obtain ⟨a2, rfl, hab2, hcl⟩ := HXN.out j hj
              obtain ⟨n, hn⟩ : ∃ n, nx[j] = n := ⟨_, rfl⟩
              obtain ⟨k, hk, rfl, -⟩ := HNE.out n (hn ▸ List.getElem_mem hj)
              rw [hn] at hcl
              have hki : (k : Int) < (m : Int) := by omega
              have HTK := Lib.hid (show loopsL f q ++ loopsAt f q (nx.take (j + 1)) = xss ++ if stB f k q then [rowB f k q] else [] by
                rw [List.take_add_one, List.getElem?_eq_getElem hj, hn]
                show loopsL f q ++ loopsAt f q (nx.take j ++ [(k : Int)]) = _
                rw [loopsAt_snoc, HXS.out, List.append_assoc])
              clear hn hab2
              obtain ⟨sb, hsb⟩ : ∃ sb, stB f k q = sb := ⟨_, rfl⟩
              have HSTB := Lib.hid hsb
              rw [hsb] at HTK
              clear hsb
              have qc := (HP.out.alike (F := G3) (by simp) (a2.add j) (by rw [block_of_add]; exact (HXN.out j hj).elim fun a h => by rw [Option.some.inj h.1]; exact h.2.1)).trans hcl
              clear hcl
              cases sb with
              | false =>
                have HXN2 := Lib.hid (show xss = loopsL f q ++ loopsAt f q (nx.take (j + 1)) by rw [HTK.out]; simp)
                go_wp2_with (first | (go_at_call 50; refine (stands_any f _ HOF.out HEE.out k q m HM.out hk hq g8 _ _ (HP.out.cell (.tail _ (.head _)) 0 _ rfl) (HP.out.rep (F := Ga) (by simp) HAV.out)).mono ?_; rintro e w9 ⟨rfl, hb9⟩; replace HP := Lib.hid (HP.out.call0 hb9); clear hb9; rw [HSTB.out]))
                go_roundw
                case rel => exact ⟨j + 1, ov, xss, vs, Gr, by omega, by go_num, rfl, by omega, HXN2, HRI, HP⟩
                case measure => simp [intOf]; omega
              | true =>
                have HXN2 := Lib.hid (show xss ++ [rowB f k q] = loopsL f q ++ loopsAt f q (nx.take (j + 1)) by rw [HTK.out]; simp)
                go_wp2_with (first | (go_at_call 50; refine (stands_any f _ HOF.out HEE.out k q m HM.out hk hq g8 _ _ (HP.out.cell (.tail _ (.head _)) 0 _ rfl) (HP.out.rep (F := Ga) (by simp) HAV.out)).mono ?_; rintro e w9 ⟨rfl, hb9⟩; replace HP := Lib.hid (HP.out.call0 hb9); clear hb9; rw [HSTB.out]) | (go_at_call 51; refine (loop_any f _ HOF.out _ k q m HM.out hk hq _ (HP.out.rep (F := G3) (by simp) HS3.out)).mono ?_; rintro e w9 ⟨u9, rfl, hu9, hb9⟩; obtain ⟨A9, c9, rfl, -, -, -⟩ := rep_ints_at hu9; obtain ⟨G', hp9, hri⟩ := (HP.out.call hb9).joinRow hu9 (fun b hb => Nat.le_trans HP.out.size hb.1) HRI.out; replace HP := Lib.hid hp9; have HRJ := Lib.hid hri; clear hu9 hb9 hp9 hri) | (refine wpList_slice_hp rfl 50 25 1 _ rfl HP.out Tryd.underlying50 #[.slice A9 (rowB f k q).length c9] (by kernel_rfl) ?_; clear HP; intro gi wi HP; replace HP := Lib.hid HP) | (at_builtin; refine wpList_app0 rfl _ _ 50 rfl i_ints (.slice none 0 0) Tryd.underlying50 hi_ints hz_ints hs_ints rfl (by decide) hy_ints (xss.length + 1) rfl HP.out rfl rfl rfl (by simp [Value.oneCell']) (by unfold maxLen; omega) (by omega) ?_; clear HP; intro A' c' wap HP; replace HP := Lib.hid HP))
                have hl1 : xss.length + 1 = (xss ++ [rowB f k q]).length := by simp
                rw [hl1] at HP ⊢
                go_roundw
                case rel => exact ⟨j + 1, _, xss ++ [rowB f k q], vs ++ [.slice A9 (rowB f k q).length c9], G', by omega, by go_num, rfl, by simp; omega, HXN2, HRJ, HP⟩
                case measure => simp [intOf]; omega
            · obtain rfl : j = nx.length := by omega
              have HXN2 := Lib.hid (show xss = loopsL f (q + 1) by rw [HLS.out, HXS.out, List.take_length])
              go_wp2
              go_roundw
              case rel => exact ⟨q + 1, ov, xss, vs, Gr, by omega, by go_num, rfl, by omega, HXN2, HRI, HP⟩
              case measure => simp [intOf]; omega
        · obtain rfl : q = m := by omega
          have HE := Lib.hid (show xss = loopsL f (headsL f).length by rw [HM.out]; exact HXS.out)
          go_wp2
          (try simp only [Exit.inBlock, Exit.then])
          refine bodyPost_ret (results_tmp2 (by rfl) _ _ _) (by rfl) ?_
          refine ⟨_, rfl, ?_, HP.out.below⟩
          simp only
          rw [← HE.out]
          exact HP.out.rowRows (F := Gr) (.head _) (.head _) HRI.out.1 HRI.out.2
    · have HANS := Lib.hid (loops_out hz (fn := fn) hfn)
      have HBA := Lib.hid (blocks_out hz (fn := fn) hfn)
      clear hz hpf hfn
      rw [HANS.out]
      go_enter Tryd.func22, Tryd.ntmps22
      go_wp2_with (first | (refine wpList_box_hp (o := ⟨some 2, _, _, _, _, _⟩) rfl _ _ rfl HP.out [_] rfl ?_; clear HP; intro g2 w2 HP; replace HP := Lib.hid HP) | (refine wpList_ldR0 rfl 24 _ rfl HP.out rfl Tryd.underlying24 rfl (by kernel_rfl) ?_) | (go_at_call 12; refine (Blocks_any p _ fn _ (HP.out.rep (F := ⟨w, Lt w.heap.size⟩) (by simp) HR.out) (HH.out.keep HP.out.below rfl)).mono ?_; rintro e w3 ⟨v3, rfl, hv3, hb⟩; replace HP := Lib.hid (HP.out.call hb); have HV3 := Lib.hid hv3; clear hb hv3; rw [HBA.out] at HV3 ⊢))
      (try simp only [Exit.inBlock, Exit.then])
      refine bodyPost_ret (results_tmp2 (by rfl) _ _ _) (by rfl) ?_
      exact ⟨_, rfl, rep_rows_nil, HP.out.below⟩
  · have HANS := Lib.hid (loops_bad hz fn)
    have hba := blocks_bad hz fn
    obtain ⟨e0, he0⟩ : ∃ e0, proven p = e0 := ⟨_, rfl⟩
    rw [he0] at hz HANS hba
    have HBA := Lib.hid hba
    have hzb : (e0 != 0) = true := by simpa using hz
    clear he0 hz hba
    rw [HANS.out]
    go_enter Tryd.func22, Tryd.ntmps22
    go_wp2_with (first | (refine wpList_box_hp (o := ⟨some 2, _, _, _, _, _⟩) rfl _ _ rfl HP.out [_] rfl ?_; clear HP; intro g2 w2 HP; replace HP := Lib.hid HP) | (refine wpList_ldR0 rfl 24 _ rfl HP.out rfl Tryd.underlying24 rfl (by kernel_rfl) ?_) | (go_at_call 12; refine (Blocks_any p _ fn _ (HP.out.rep (F := ⟨w, Lt w.heap.size⟩) (by simp) HR.out) (HH.out.keep HP.out.below rfl)).mono ?_; rintro e w3 ⟨v3, rfl, hv3, hb⟩; replace HP := Lib.hid (HP.out.call hb); have HV3 := Lib.hid hv3; clear hb hv3; rw [HBA.out] at HV3 ⊢))
    (try simp only [Exit.inBlock, Exit.then])
    refine bodyPost_ret (results_tmp2 (by rfl) _ _ _) (by rfl) ?_
    exact ⟨_, rfl, rep_rows_nil, HP.out.below⟩
end Go.Proofs.YtnabeibnaoahmaaDoor
