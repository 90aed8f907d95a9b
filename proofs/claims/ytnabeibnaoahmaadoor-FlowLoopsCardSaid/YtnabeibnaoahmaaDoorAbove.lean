/- flow.Above. -/
import Derived.Test.YtnabeibnaoahmaaDoorMgAbvLawNear2
import Derived.Test.YtnabeibnaoahmaaDoorBlocks
import Derived.Test.YtnabeibnaoahmaaDoorWithout
set_option linter.unusedSimpArgs false
set_option linter.unusedVariables false
namespace Go.Proofs.YtnabeibnaoahmaaDoor
open Go.RowKit Plain64
attribute [local irreducible] wpList Code.wp Oper.wp
theorem info_uint64 : (Tryd.prog.info? 86).map (fun i => (i.zero, i.size, i.bytes)) = some (some (.int .u64 0), 1, 8) := by kernel_rfl
abbrev uL (zs : List Nat) : List Value := zs.map fun z : Nat => Value.int .u64 (z : Int)
theorem uL_set (zs : List Nat) (k n : Nat) {v : Int} (hv : v = (n : Int)) : (uL zs).set k (.int .u64 v) = uL (zs.set k n) := by
  subst hv; exact (List.map_set ..).symm
theorem uL_get {zs : List Nat} {k : Nat} (h : k < zs.length) : (uL zs)[k]? = some (.int .u64 ((zs.getD k 0 : Nat) : Int)) := by
  unfold uL
  rw [List.getElem?_map, List.getD_eq_getElem?_getD, List.getElem?_eq_getElem h]; rfl
theorem mem_prvB {f : Fun} {i n : Nat} {x : Int} : x ∈ prvB f i n ↔ ∃ k : Nat, k < n ∧ x = k ∧ edgeB f k i = true := by
  unfold prvB
  rw [List.mem_map]
  constructor
  · rintro ⟨k, hk, rfl⟩
    obtain ⟨h1, h2⟩ := List.mem_filter.1 hk
    exact ⟨k, List.mem_range.1 h1, rfl, h2⟩
  · rintro ⟨k, h1, rfl, h2⟩
    exact ⟨k, List.mem_filter.2 ⟨List.mem_range.2 h1, h2⟩, rfl⟩
set_option maxRecDepth 100000 in
set_option maxHeartbeats 4000000 in
theorem Above_any (p : Prg) (u : Value) (fn : Int) (w : World) (hp : Lay.rep w (Lt w.heap.size) p [u]) (hh : Has w) :
    Calls Tryd.prog 20 #[.agg #[u], .int .i64 fn] w fun e w' => ∃ v, e = .returned (.tuple #[v, .int .i64 (aboveAns p fn).2]) ∧ Lay.rep w' (Fresh w w') (aboveAns p fn).1 [v] ∧ Below w.heap.size w w' := by
  have HR := Lib.hid hp
  have HH := Lib.hid hh
  clear hp hh
  obtain ⟨i_int, hi_int, hz_int, hs_int, hy_int⟩ := info_parts info_int
  obtain ⟨i_uint64, hi_uint64, hz_uint64, hs_uint64, hy_uint64⟩ := info_parts info_uint64
  have HP := Lib.hid (Hp.start w)
  by_cases hz : proven p = 0
  · have hpf := proven_prgL hz
    have ok := okP_of hpf
    by_cases hfn : 0 ≤ fn ∧ fn < p.funcs.length
    · obtain ⟨f1, f2⟩ := hfn
      obtain ⟨k, hk⟩ := Int.eq_ofNat_of_zero_le f1
      have hkl : k < p.funcs.length := by omega
      obtain ⟨f, hf⟩ : ∃ f, p.funcs[k] = f := ⟨_, rfl⟩
      have hfm : f ∈ p.funcs := hf ▸ List.getElem_mem hkl
      have hfk : p.funcs[k]? = some f := by rw [← hf, List.getElem?_eq_getElem hkl]
      have HANS := Lib.hid (show aboveAns p fn = (abvL f, 0) by rw [hk]; exact above_in hz hfk)
      have HBA := Lib.hid (show blocksAns p fn = (blksL f, 0) by rw [hk]; exact blocks_in hz hfk)
      have HOF := Lib.hid (ok.fns f hfm)
      have HEE := Lib.hid (proven_ends hz hfm)
      obtain ⟨m, hmm⟩ : ∃ m, (headsL f).length = m := ⟨_, rfl⟩
      have hmp : 0 < m := hmm ▸ headsL_pos HOF.out
      have hml : m ≤ 40 := by have h1 := headsL_len f; have h2 := HOF.out.len.2; omega
      have hbl : (blksL f).length = m := by rw [blksL_len, hmm]
      have HM := Lib.hid hmm
      clear hz hpf hf hfm hfk hmm f1 f2 hk hkl ok
      have hp1 : 2 ^ m ≤ 1099511627776 := by have := Nat.pow_le_pow_right (n := 2) (show 0 < 2 by decide) hml; simpa using this
      have hp0 : 0 < 2 ^ m := Nat.pow_pos (by decide)
      have hp2 : (((2 : Nat) ^ m : Nat) : Int) = (2 : Int) ^ m := by simp
      have HW1 := Lib.hid (show IntKind.u64.wrap ((2 : Int) ^ m) = (((2 : Nat) ^ m : Nat) : Int) by rw [← hp2]; exact IntWalk.u64_in _ ⟨Int.natCast_nonneg _, by omega⟩)
      have HW2 := Lib.hid (show IntKind.u64.wrap (IntKind.u64.wrap ((2 : Int) ^ m) - 1) = ((2 ^ m - 1 : Nat) : Int) by rw [HW1.out, IntWalk.u64_in _ ⟨by omega, by omega⟩]; omega)
      clear hp2
      rw [HANS.out]
      go_enter Tryd.func20, Tryd.ntmps20
      go_upto_region 4 with (first | (refine wpList_box_hp (o := ⟨some 2, _, _, _, _, _⟩) rfl _ _ rfl HP.out [_] rfl ?_; clear HP; intro g2 w2 HP; replace HP := Lib.hid HP) | (refine wpList_ldR0 rfl 24 _ rfl HP.out rfl Tryd.underlying24 rfl (by kernel_rfl) ?_) | (go_at_call 12; refine (Blocks_any p _ fn _ (HP.out.rep (F := ⟨w, Lt w.heap.size⟩) (by simp) HR.out) (HH.out.keep HP.out.below rfl)).mono ?_; rintro e w3 ⟨v3, rfl, hv3, hb⟩; replace HP := Lib.hid (HP.out.call hb); have HV3 := Lib.hid hv3; clear hb hv3; rw [HBA.out] at HV3 ⊢))
      obtain ⟨A3, c3, rfl, hc3, hm3, -⟩ := rep_bks_at HV3.out
      unfold maxLen at hm3
      rw [hbl] at HV3 hc3 ⊢
      obtain ⟨G3, HP, HS3⟩ : ∃ G : Fro, Hid (Hp w [G, ⟨w, Lt w.heap.size⟩] [.blk g2 24 [u]] _) ∧ Hid (Lay.rep G.w G.S (blksL f) [.slice A3 m c3]) := ⟨_, HP, HV3⟩
      clear HV3 hbl
      go_upto_region 5 with (first | (refine wpList_make_hp (o := ⟨some 28, _, _, _, _, _⟩) rfl _ _ _ rfl _ i_uint64 (.int .u64 0) Tryd.underlying85 hi_uint64 hz_uint64 rfl hs_uint64 m rfl rfl (by rw [hy_uint64]; omega) (by unfold maxLen; omega) HP.out ?_; clear HP; intro gz wz0 HP; replace HP := Lib.hid HP))
      replace HP := Lib.hid (show Hp w [G3, ⟨w, Lt w.heap.size⟩] [.blk gz 86 (uL (List.replicate m 0)), .blk g2 24 [u]] _ by unfold uL; rw [List.map_replicate]; exact HP.out)
      go_wp2
      go_loopw [31] (fun iv wr => ∃ (q : Nat) (zs : List Nat), q ≤ m ∧ iv = .int .i64 q ∧ Hid (zs.length = m ∧ ∀ k, k < q → zs[k]? = some (2 ^ m - 1)) ∧ Hid (Hp w [G3, ⟨w, Lt w.heap.size⟩] [.blk gz 86 (uL zs), .blk g2 24 [u]] wr)) (fun iv _ => m - (intOf iv).toNat)
      case atStart => exact ⟨0, _, by omega, rfl, Lib.hid ⟨List.length_replicate .., fun k hk => by omega⟩, HP⟩
      case round =>
        clear HP
        obtain ⟨q, zs, hq9, rfl, HZS, HP⟩ := hrel
        obtain ⟨wo, rfl⟩ : ∃ wo : World, wo = wr := ⟨_, rfl⟩
        by_cases hq : q < m
        · have hq2 : (q : Int) < (m : Int) := by omega
          have hzl : zs.length = m := HZS.out.1
          go_wp2_with (first | (refine wpList_st0 rfl 86 _ _ rfl HP.out rfl rfl (by rw [List.length_map, hzl]; exact hq) rfl (uL_set zs q (2 ^ m - 1) HW2.out) (by kernel_rfl) ?_; clear HP; intro wst HP; replace HP := Lib.hid HP))
          go_roundw
          case rel => exact ⟨q + 1, zs.set q (2 ^ m - 1), by omega, by go_num, Lib.hid ⟨by rw [List.length_set]; exact hzl, fun k hk => by
            by_cases e : q = k
            · subst e; exact List.getElem?_set_self (by omega)
            · rw [List.getElem?_set_ne e]; exact HZS.out.2 k (by omega)⟩, HP⟩
          case measure => simp [intOf]; omega
        · obtain rfl : q = m := by omega
          have HZE := Lib.hid (show zs = List.replicate q (2 ^ q - 1) by
            apply List.ext_getElem?
            intro k
            by_cases hk : k < q
            · rw [HZS.out.2 k hk, List.getElem?_replicate, if_pos hk]
            · rw [List.getElem?_eq_none (by rw [HZS.out.1]; omega), List.getElem?_eq_none (by simp; omega)])
          rw [HZE.out] at HP
          have hmp2 : (0 : Int) < (q : Int) := by omega
          go_upto_region 11 with (first | (refine wpList_st0 rfl 86 _ _ rfl HP.out rfl rfl (by simp; omega) rfl (uL_set _ 0 1 rfl) (by kernel_rfl) ?_; clear HP; intro wst HP; replace HP := Lib.hid HP))
          have HI0 := Lib.hid (show AInv f ((List.replicate q (2 ^ q - 1)).set 0 1) by have h := AInv.start (f := f) HOF.out; rw [HM.out] at h; exact h)
          obtain ⟨zs0, hzs0⟩ : ∃ zs0, (List.replicate q (2 ^ q - 1)).set 0 1 = zs0 := ⟨_, rfl⟩
          rw [hzs0] at HP HI0
          clear hzs0 HZS HZE
          go_wp2
          go_loopg [10] (2 * zs0.sum + 1) (fun k' v wr => ∃ (b : Bool) (zs : List Nat), v = .bool b ∧ Hid (AInv f zs ∧ (b = false → ∀ i, 0 < i → i < q → AClosed f zs i) ∧ k' = 2 * zs.sum + b.toNat) ∧ Hid (Hp w [G3, ⟨w, Lt w.heap.size⟩] [.blk gz 86 (uL zs), .blk g2 24 [u]] wr))
          case atStart => exact ⟨true, zs0, rfl, Lib.hid ⟨HI0.out, fun e => (by cases e), rfl⟩, HP⟩
          case round =>
            clear HP HI0
            obtain ⟨b, zs, rfl, HB, HP⟩ := hrel
            obtain ⟨wr1, rfl⟩ : ∃ wo : World, wo = wr := ⟨_, rfl⟩
            cases b with
            | true =>
              go_wp2
              go_loopw [10, 11] (fun v iv wr => ∃ (b' : Bool) (zs' : List Nat) (i : Nat), 1 ≤ i ∧ i ≤ q ∧ v = .bool b' ∧ iv = .int .i64 i ∧ Hid (AInv f zs' ∧ (b' = false → zs' = zs) ∧ (b' = true → zs'.sum + 1 ≤ zs.sum)) ∧ Hid (b' = false → ∀ k, 0 < k → k < i → AClosed f zs' k) ∧ Hid (Hp w [G3, ⟨w, Lt w.heap.size⟩] [.blk gz 86 (uL zs'), .blk g2 24 [u]] wr)) (fun _ iv _ => q - (intOf iv).toNat)
              case atStart => exact ⟨false, zs, 1, by omega, by omega, rfl, rfl, Lib.hid ⟨HB.out.1, fun _ => rfl, fun e => (by cases e)⟩, Lib.hid (fun _ k h1 h2 => by omega), HP⟩
              case round =>
                clear HP
                obtain ⟨b', zs', i, hi1, hi9, rfl, rfl, HRN, HCQ, HP⟩ := hrel
                obtain ⟨wi, rfl⟩ : ∃ wi : World, wi = wr := ⟨_, rfl⟩
                have hzl : zs'.length = q := by rw [HRN.out.1.len, HM.out]
                by_cases hi : i < q
                · have hi2 : (i : Int) < (q : Int) := by omega
                  have hx3 : ∃ (a : Addr) (u z : Value), A3 = some a ∧ G3.S a.block ∧ At G3.w (a.add (i * 4)) [.int .i64 (blkOf f i).frm, .int .i64 (blkOf f i).upto, u, z] ∧ Lay.rep G3.w G3.S (prvB f i q) [z] := by
                    obtain ⟨A', c', e', -, -, hx⟩ := rep_bks_at HS3.out
                    have hbl : (blksL f).length = q := by rw [blksL_len, HM.out]
                    obtain ⟨a, u, z, h1, h2, h3, _, h5⟩ := hx i (by omega)
                    rw [blksL_get (by omega)] at h3 h5
                    have e2 : A3 = A' := (Value.slice.inj e').1
                    refine ⟨a, u, z, e2.trans h1, h2, h3, ?_⟩
                    have e3 : (blkOf f i).prv = prvB f i q := by unfold blkOf preB; rw [if_neg (by omega), List.nil_append, HM.out]
                    rw [e3] at h5; exact h5
                  obtain ⟨a1, u1, z1, hA3, hab, hat, hpv⟩ := hx3
                  subst hA3
                  obtain ⟨pl, hple⟩ : ∃ pl, prvB f i q = pl := ⟨_, rfl⟩
                  have HNE := Lib.hid (show ∀ x ∈ pl, ∃ k : Nat, k < q ∧ x = k ∧ edgeB f k i = true from fun x hx => mem_prvB.1 (hple ▸ hx))
                  have HNI := Lib.hid (show ∀ k : Nat, k < q → edgeB f k i = true → (k : Int) ∈ pl from fun k h1 h2 => hple ▸ mem_prvB.2 ⟨k, h1, rfl, h2⟩)
                  have hpl : pl.length ≤ q := hple ▸ prvB_len f i q
                  rw [hple] at hpv
                  have HPV := Lib.hid hpv
                  obtain ⟨An, cn, rfl, hcn, hmn, -⟩ := rep_ints_at hpv
                  unfold maxLen at hmn
                  have qn := (HP.out.at_ (F := G3) (by simp) hat (by rw [block_of_add]; exact hab)).fld 2 rfl
                  clear hat hab hple hpv
                  go_wp2
                  clear qn
                  go_loopw [12, 61] (fun xv iv wr => ∃ (j X : Nat), j ≤ pl.length ∧ iv = .int .i64 j ∧ xv = .int .u64 (X : Int) ∧ X < 2 ^ q ∧ Hid (∀ k, k < q → (X.testBit k = true ↔ ∀ n ∈ pl.take j, (zs'.getD n.toNat 0).testBit k = true)) ∧ Hid (Hp w [G3, ⟨w, Lt w.heap.size⟩] [.blk gz 86 (uL zs'), .blk g2 24 [u]] wr)) (fun _ iv _ => pl.length - (intOf iv).toNat)
                  case atStart => exact ⟨0, 2 ^ q - 1, by omega, rfl, (by first | rfl | exact congrArg _ HW2.out), by omega, Lib.hid (fun k hk => by rw [ones_bit, decide_eq_true hk]; simp), HP⟩
                  case round =>
                    clear HP
                    obtain ⟨j, X, hj9, rfl, rfl, hX, HXB, HP⟩ := hrel
                    obtain ⟨wj, rfl⟩ : ∃ wi : World, wi = wr := ⟨_, rfl⟩
                    by_cases hj : j < pl.length
                    · have hj2 : (j : Int) < (pl.length : Int) := by omega
                      obtain ⟨A10, c10, e10, -, -, hx10⟩ := rep_ints_at (HP.out.rep (F := G3) (by simp) HPV.out)
                      obtain ⟨a9, rfl, -, hcl⟩ := hx10 j hj
                      clear hx10
                      obtain rfl : An = some a9 := (Value.slice.inj e10).1
                      clear e10
                      obtain ⟨n, hn⟩ : ∃ n, pl[j] = n := ⟨_, rfl⟩
                      obtain ⟨kb, hkb, rfl, -⟩ := HNE.out n (hn ▸ List.getElem_mem hj)
                      rw [hn] at hcl
                      have HTK := Lib.hid (show pl.take (j + 1) = pl.take j ++ [(kb : Int)] by rw [List.take_add_one, List.getElem?_eq_getElem hj, hn]; rfl)
                      have hkb2 : (kb : Int) < (q : Int) := by omega
                      have qz := HP.out.cell (.head _) kb _ (uL_get (zs := zs') (k := kb) (by omega))
                      obtain ⟨zb, hzb⟩ : ∃ zb, zs'.getD kb 0 = zb := ⟨_, rfl⟩
                      rw [hzb] at qz
                      have hzbl : zb < 2 ^ q := by
                        rw [← hzb, List.getD_eq_getElem?_getD, List.getElem?_eq_getElem (by omega)]
                        have := HRN.out.1.lt _ (List.getElem_mem (show kb < zs'.length by omega))
                        rw [HM.out] at this; exact this
                      have HAND := Lib.hid (bits_and_u64_nat X zb (by omega) (by omega))
                      have HX2 := Lib.hid (show ∀ k, k < q → ((X &&& zb).testBit k = true ↔ ∀ n ∈ pl.take (j + 1), (zs'.getD n.toNat 0).testBit k = true) from fun k hk => by
                        rw [Nat.testBit_and, Bool.and_eq_true, HXB.out k hk, HTK.out]
                        constructor
                        · rintro ⟨h1, h2⟩ n hn
                          rcases List.mem_append.1 hn with h | h
                          · exact h1 n h
                          · rw [List.mem_singleton.1 h, Int.toNat_natCast, hzb]; exact h2
                        · intro h
                          refine ⟨fun n hn => h n (by simp [hn]), ?_⟩
                          have := h (kb : Int) (by simp)
                          rwa [Int.toNat_natCast, hzb] at this)
                      have hXl : X &&& zb < 2 ^ q := Nat.lt_of_le_of_lt Nat.and_le_left hX
                      clear hn hzb
                      go_wp2
                      go_roundw
                      case rel => exact ⟨j + 1, X &&& zb, by omega, by go_num, (by first | exact congrArg _ HAND.out | (rw [HAND.out])), hXl, HX2, HP⟩
                      case measure => simp [intOf]; omega
                    · obtain rfl : j = pl.length := by omega
                      have hil : 2 ^ i < 2 ^ q := Nat.pow_lt_pow_right (by decide) hi
                      have hp2 : (((2 : Nat) ^ i : Nat) : Int) = (2 : Int) ^ i := by simp
                      have hwi : IntKind.u64.wrap ((2 : Int) ^ i) = (((2 : Nat) ^ i : Nat) : Int) := by rw [← hp2]; exact IntWalk.u64_in _ ⟨Int.natCast_nonneg _, by omega⟩
                      obtain ⟨Y, hY⟩ : ∃ Y, X ||| 2 ^ i = Y := ⟨_, rfl⟩
                      have HOR := Lib.hid (show bits .or .u64 (X : Int) (IntKind.u64.wrap ((2 : Int) ^ i)) = (Y : Int) by rw [hwi, bits_or_u64_nat X (2 ^ i) (by omega) (by omega), hY])
                      have hYl : Y < 2 ^ q := hY ▸ Nat.or_lt_two_pow hX hil
                      have HYB := Lib.hid (show ∀ k, k < (headsL f).length → (Y.testBit k = true ↔ nbit f zs' i k) from fun k hk => by
                        rw [HM.out] at hk
                        rw [← hY, Nat.testBit_or, Bool.or_eq_true, HXB.out k hk, List.take_length, Nat.testBit_two_pow, decide_eq_true_iff]
                        unfold nbit
                        rw [HM.out]
                        constructor
                        · rintro (h | h)
                          · refine .inr fun b hb he => ?_
                            have := h (b : Int) (HNI.out b hb he)
                            rwa [Int.toNat_natCast] at this
                          · exact .inl h.symm
                        · rintro (h | h)
                          · exact .inr h.symm
                          · refine .inl fun n hn => ?_
                            obtain ⟨b, hb, rfl, he⟩ := HNE.out n hn
                            rw [Int.toNat_natCast]; exact h b hb he)
                      have qz := HP.out.cell (.head _) i _ (uL_get (zs := zs') (k := i) (by omega))
                      obtain ⟨zi, hzi⟩ : ∃ zi, zs'.getD i 0 = zi := ⟨_, rfl⟩
                      rw [hzi] at qz
                      have HZI0 := Lib.hid hzi
                      clear hp2 hwi hY hzi
                      go_upto_region 24 with fail
                      rw [HOR.out]
                      by_cases hne : Y = zi
                      · have hb1 : ((Y : Int) != (zi : Int)) = false := by simp; omega
                        have hb2 : (Y != zi) = false := by simpa using hne
                        have HCL := Lib.hid (show b' = false → ∀ k, 0 < k → k < i + 1 → AClosed f zs' k from fun e k h1 h2 => by
                          by_cases e3 : k = i
                          · subst e3
                            intro g hg hbit
                            rw [HZI0.out, ← hne] at hbit
                            exact (HYB.out g hg).1 hbit
                          · exact HCQ.out e k h1 (by omega))
                        clear hne
                        go_wp2
                        go_roundw
                        case rel => exact ⟨b', zs', i + 1, by omega, by omega, rfl, by go_num, HRN, HCL, HP⟩
                        case measure => simp [intOf]; omega
                      · have hb1 : ((Y : Int) != (zi : Int)) = true := by simp; omega
                        have hb2 : (Y != zi) = true := by simpa using hne
                        have HUP := Lib.hid (HRN.out.1.upd (i := i) (x := Y) (by omega) (by rw [HM.out]; exact hi) (by rw [HM.out]; exact hYl) HYB.out (by rw [HZI0.out]; exact hne))
                        have HSM := Lib.hid (show (zs'.set i Y).sum + 1 ≤ zs.sum by
                          have h1 := sum_set HUP.out.2
                          cases b' with
                          | false => rw [HRN.out.2.1 rfl] at h1 ⊢; exact h1
                          | true => have := HRN.out.2.2 rfl; omega)
                        clear hne
                        go_wp2_with (first | (refine wpList_st0 rfl 86 _ _ rfl HP.out rfl rfl (by rw [List.length_map]; omega) rfl (uL_set zs' i Y rfl) (by kernel_rfl) ?_; clear HP; intro wst HP; replace HP := Lib.hid HP))
                        go_roundw
                        case rel => exact ⟨true, zs'.set i Y, i + 1, by omega, by omega, rfl, by go_num, Lib.hid ⟨HUP.out.1, fun e => (by cases e), fun _ => HSM.out⟩, Lib.hid (fun e => by cases e), HP⟩
                        case measure => simp [intOf]; omega
                · obtain rfl : i = q := by omega
                  have HBB := HB.out
                  go_wp2
                  go_roundg (2 * zs'.sum + b'.toNat)
                  case measure =>
                    have h1 := HBB.2.2
                    rw [h1]
                    cases b'
                    · have := HRN.out.2.1 rfl
                      rw [this]; simp
                    · have := HRN.out.2.2 rfl
                      simp; omega
                  case rel => exact ⟨b', zs', rfl, Lib.hid ⟨HRN.out.1, HCQ.out, rfl⟩, HP⟩
            | false =>
              have hzl : zs.length = q := by rw [HB.out.1.len, HM.out]
              have HIV := Lib.hid HB.out.1
              have HZI := Lib.hid (show ∀ i k, i < (headsL f).length → k < (headsL f).length → ((zs.getD i 0).testBit k = true ↔ ¬ RA (EB f) k i) from fun i k h1 h2 => HB.out.1.done (fun j hj hjl => HB.out.2.1 rfl j hj (by rw [← HM.out]; exact hjl)) h1 h2)
              clear HB
              go_upto_region 28 with (first | (refine wpList_make_hp (o := ⟨some 88, _, _, _, _, _⟩) rfl _ _ _ rfl _ i_int (.int .i64 0) Tryd.underlying25 hi_int hz_int rfl hs_int q rfl rfl (by rw [hy_int]; omega) (by unfold maxLen; omega) HP.out ?_; clear HP; intro go wo0 HP; replace HP := Lib.hid HP))
              rw [← List.map_replicate] at HP
              go_upto_region 29 with (first | (refine wpList_st0 rfl 3 _ _ rfl HP.out rfl rfl (by simp; omega) rfl (List.map_set ..).symm (by kernel_rfl) ?_; clear HP; intro wst HP; replace HP := Lib.hid HP))
              go_wp2
              go_loopw [16] (fun iv wr => ∃ (i : Nat) (os : List Int), 1 ≤ i ∧ i ≤ q ∧ iv = .int .i64 i ∧ Hid (os.length = q ∧ ∀ x, x < i → os[x]? = some (abvZ f x)) ∧ Hid (Hp w [G3, ⟨w, Lt w.heap.size⟩] [.blk go 3 (os.map (Value.int .i64)), .blk gz 86 (uL zs), .blk g2 24 [u]] wr)) (fun iv _ => q - (intOf iv).toNat)
              case atStart => exact ⟨1, _, by omega, by omega, rfl, Lib.hid ⟨by simp, fun x hx => by
                obtain rfl : x = 0 := by omega
                rw [List.getElem?_set_self (by simpa using hmp), abvZ_zero]⟩, HP⟩
              case round =>
                clear HP
                obtain ⟨i, os, hi0, hi9, rfl, HOS, HP⟩ := hrel
                obtain ⟨wi, rfl⟩ : ∃ wi : World, wi = wr := ⟨_, rfl⟩
                by_cases hi : i < q
                · have hi2 : (i : Int) < (q : Int) := by omega
                  have hol : os.length = q := HOS.out.1
                  go_wp2_with (first | (go_at_call 48; refine (nearest_any f _ HOF.out HEE.out zs HIV.out HZI.out gz i q HM.out hi0 hi _ (fun k hk => HP.out.cell (.tail _ (.head _)) k _ (uL_get (by rw [hzl]; exact hk)))).mono ?_; rintro e w9 ⟨⟨ka, hka, rfl, habv⟩, hb⟩; replace HP := Lib.hid (HP.out.call0 hb); have HABV := Lib.hid habv; clear hb habv) | (refine wpList_st0 rfl 3 _ _ rfl HP.out rfl rfl (by rw [List.length_map, hol]; exact hi) rfl (List.map_set ..).symm (by kernel_rfl) ?_; clear HP; intro wst HP; replace HP := Lib.hid HP))
                  go_roundw
                  case rel => exact ⟨i + 1, os.set i (ka : Int), by omega, by omega, by go_num, Lib.hid ⟨by rw [List.length_set]; exact hol, fun x hx => by
                    by_cases e : i = x
                    · subst e
                      rw [List.getElem?_set_self (by omega), abvZ_eq HOF.out HEE.out (by omega) HABV.out (by rw [HM.out]; exact hka)]
                    · rw [List.getElem?_set_ne e]; exact HOS.out.2 x (by omega)⟩, HP⟩
                  case measure => simp [intOf]; omega
                · obtain rfl : i = q := by omega
                  have HEQ := Lib.hid (show os = abvL f by
                    apply List.ext_getElem?
                    intro x
                    unfold abvL
                    rw [List.getElem?_map, HM.out]
                    by_cases hx : x < i
                    · rw [List.getElem?_range hx, HOS.out.2 x hx]; rfl
                    · rw [List.getElem?_eq_none (by rw [HOS.out.1]; omega), List.getElem?_eq_none (by simp; omega)]; rfl)
                  have hol : os.length = i := HOS.out.1
                  go_wp2
                  (try simp only [Exit.inBlock, Exit.then])
                  refine bodyPost_ret (results_tmp2 (by rfl) _ _ _) (by rfl) ?_
                  refine ⟨_, rfl, ?_, HP.out.below⟩
                  simp only
                  rw [← HEQ.out]
                  exact HP.out.ints (.head _) rfl hol.symm (by unfold maxLen; omega)
    · have HANS := Lib.hid (above_out hz (fn := fn) hfn)
      have HBA := Lib.hid (blocks_out hz (fn := fn) hfn)
      clear hz hpf hfn
      rw [HANS.out]
      go_enter Tryd.func20, Tryd.ntmps20
      go_wp2_with (first | (refine wpList_box_hp (o := ⟨some 2, _, _, _, _, _⟩) rfl _ _ rfl HP.out [_] rfl ?_; clear HP; intro g2 w2 HP; replace HP := Lib.hid HP) | (refine wpList_ldR0 rfl 24 _ rfl HP.out rfl Tryd.underlying24 rfl (by kernel_rfl) ?_) | (go_at_call 12; refine (Blocks_any p _ fn _ (HP.out.rep (F := ⟨w, Lt w.heap.size⟩) (by simp) HR.out) (HH.out.keep HP.out.below rfl)).mono ?_; rintro e w3 ⟨v3, rfl, hv3, hb⟩; replace HP := Lib.hid (HP.out.call hb); have HV3 := Lib.hid hv3; clear hb hv3; rw [HBA.out] at HV3 ⊢))
      (try simp only [Exit.inBlock, Exit.then])
      refine bodyPost_ret (results_tmp2 (by rfl) _ _ _) (by rfl) ?_
      exact ⟨_, rfl, rep_ints_nil, HP.out.below⟩
  · have HANS := Lib.hid (above_bad hz fn)
    have hba := blocks_bad hz fn
    obtain ⟨e0, he0⟩ : ∃ e0, proven p = e0 := ⟨_, rfl⟩
    rw [he0] at hz HANS hba
    have HBA := Lib.hid hba
    have hzb : (e0 != 0) = true := by simpa using hz
    clear he0 hz hba
    rw [HANS.out]
    go_enter Tryd.func20, Tryd.ntmps20
    go_wp2_with (first | (refine wpList_box_hp (o := ⟨some 2, _, _, _, _, _⟩) rfl _ _ rfl HP.out [_] rfl ?_; clear HP; intro g2 w2 HP; replace HP := Lib.hid HP) | (refine wpList_ldR0 rfl 24 _ rfl HP.out rfl Tryd.underlying24 rfl (by kernel_rfl) ?_) | (go_at_call 12; refine (Blocks_any p _ fn _ (HP.out.rep (F := ⟨w, Lt w.heap.size⟩) (by simp) HR.out) (HH.out.keep HP.out.below rfl)).mono ?_; rintro e w3 ⟨v3, rfl, hv3, hb⟩; replace HP := Lib.hid (HP.out.call hb); have HV3 := Lib.hid hv3; clear hb hv3; rw [HBA.out] at HV3 ⊢))
    (try simp only [Exit.inBlock, Exit.then])
    refine bodyPost_ret (results_tmp2 (by rfl) _ _ _) (by rfl) ?_
    exact ⟨_, rfl, rep_ints_nil, HP.out.below⟩
end Go.Proofs.YtnabeibnaoahmaaDoor
