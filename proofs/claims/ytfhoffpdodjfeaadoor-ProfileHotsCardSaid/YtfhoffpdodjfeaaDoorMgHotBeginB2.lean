/- tierline/profile.Hot. ref.Begun. -/
import Derived.Test.YtfhoffpdodjfeaaDoorMgHotLawCopy2
import Derived.Test.YtfhoffpdodjfeaaDoorMgSameIntsSameLists2
import Derived.Test.YtfhoffpdodjfeaaDoorProf
import Derived.Test.YtfhoffpdodjfeaaDoorBeginA
import Derived.Test.YtfhoffpdodjfeaaDoorProvenC
set_option linter.unusedSimpArgs false
set_option linter.unusedVariables false
namespace Go.Proofs.YtfhoffpdodjfeaaDoor
open Go.RowKit Plain64
attribute [local irreducible] wpList Code.wp Oper.wp
set_option maxRecDepth 100000 in
set_option maxHeartbeats 4000000 in
theorem Hot_any (p : Prg) (v : Value) (xs ys : List Int) (u1 u2 : Value) (fuel : Int) (w : World) (hp : Lay.rep w (Lt w.heap.size) p [v]) (hx : Lay.rep w (Lt w.heap.size) xs [u1]) (hy : Lay.rep w (Lt w.heap.size) ys [u2]) (him : ∀ f ∈ p.funcs, ∀ x ∈ f.code, I64 x.imm) (hxi : ∀ x ∈ xs, I64 x) (hyi : ∀ y ∈ ys, I64 y) (hh : Has w) :
    Calls Tryd.prog 42 #[.agg #[v], u1, u2, .int .i64 fuel] w fun r w' => ∃ b m : Int, r = .returned (.tuple #[.int .i64 b, .int .i64 m, .int .i64 (countsAns p xs ys fuel).2]) ∧ hotP (countsAns p xs ys fuel).1 (countsAns p xs ys fuel).2 b m ∧ Below w.heap.size w w' := by
  have HR := Lib.hid hp
  have HX := Lib.hid hx
  have HY := Lib.hid hy
  have HH := Lib.hid hh
  have HIM := Lib.hid him
  have HXI := Lib.hid hxi
  have HYI := Lib.hid hyi
  clear hp hx hy hh him hxi hyi
  have HP := Lib.hid (Hp.start w)
  by_cases hz : (countsAns p xs ys fuel).2 = 0
  · obtain ⟨k1, k2, k3⟩ := counts_ok hz
    obtain ⟨l, hl⟩ : ∃ l, (countsAns p xs ys fuel).1 = l := ⟨_, rfl⟩
    rw [hl] at k1 k2 k3
    have HL := Lib.hid hl
    have HZ := Lib.hid hz
    have HK := Lib.hid k3
    have hsl : (sumsL l).length = l.length := List.length_map ..
    clear k3 hz hl
    go_enter Tryd.func42, Tryd.ntmps42
    go_upto_region 2 with (first | (refine wpList_box_hp (o := ⟨some 4, _, _, _, _, _⟩) rfl _ _ rfl HP.out [_] rfl ?_; clear HP; intro g4 w4 HP; replace HP := Lib.hid HP) | (refine wpList_ldR0 rfl 24 _ rfl HP.out rfl Tryd.underlying24 rfl (by kernel_rfl) ?_) | (go_at_call 39; refine (Counts_any p _ xs ys _ _ fuel _ (HP.out.rep (F := ⟨w, Lt w.heap.size⟩) (by simp) HR.out) (HP.out.rep (F := ⟨w, Lt w.heap.size⟩) (by simp) HX.out) (HP.out.rep (F := ⟨w, Lt w.heap.size⟩) (by simp) HY.out) HIM.out HXI.out HYI.out (HH.out.keep HP.out.below rfl)).mono ?_; rintro r1 w5 ⟨v4, rfl, hv, hb⟩; rw [HZ.out]; replace HP := Lib.hid (HP.out.call hb); have HV4 := Lib.hid hv; clear hb hv))
    rw [HL.out] at HV4
    obtain ⟨G, HP, HV⟩ : ∃ G : Fro, Hid (Hp w [G, { w := w, S := Lt w.heap.size }] [.blk g4 24 [v]] _) ∧ Hid (Lay.rep G.w G.S l [v4]) := ⟨_, HP, HV4⟩
    clear HV4
    obtain ⟨A4, c4, rfl, hc4, hm4, hx4⟩ := rep_rows_at HV.out
    unfold maxLen at hm4
    have HX4 := Lib.hid hx4
    clear hx4 HV
    go_wp2
    go_loopw [13, 14, 33] (fun b m i wr => ∃ (q : Nat) (B M : Int), q ≤ l.length ∧ i = .int .i64 q ∧ b = .int .i64 B ∧ m = .int .i64 M ∧ Hid (HotUp (sumsL l) q B M) ∧ Hid (Hp w [G, { w := w, S := Lt w.heap.size }] [.blk g4 24 [v]] wr)) (fun _ _ i _ => l.length - (intOf i).toNat)
    case atStart => exact ⟨0, 0, -1, by omega, rfl, rfl, rfl, Lib.hid (HotUp.start _), HP⟩
    case round =>
      clear HP
      obtain ⟨q, B, M, hq, rfl, rfl, rfl, HH1, HP⟩ := hrel
      obtain ⟨wk, rfl⟩ : ∃ wk : World, wk = wr := ⟨_, rfl⟩
      by_cases hlt : q < l.length
      · have hlt2 : (q : Int) < (l.length : Int) := by omega
        obtain ⟨ad, u, rfl, hab, hcl, hru⟩ := HX4.out q hlt
        obtain ⟨zs, hzs⟩ : ∃ zs, l[q] = zs := ⟨_, rfl⟩
        rw [hzs] at hru
        have HSM := Lib.hid (HK.out zs (hzs ▸ List.getElem_mem hlt))
        have HSG := Lib.hid (sumsL_get (l := l) (i := q) (xs := zs) (by rw [← hzs]; exact List.getElem?_eq_getElem hlt))
        obtain ⟨A5, c5, rfl, hc5, hm5, hx5⟩ := rep_ints_at hru
        unfold maxLen at hm5
        have hzl := HSM.out.1
        have HX5 := Lib.hid hx5
        have HAB := Lib.hid hab
        have HCL := Lib.hid hcl
        have qa := (HP.out.alike (F := G) (.head _) (ad.add q) (by rw [block_of_add]; exact HAB.out)).trans HCL.out
        clear hx5 hru hzs hab hcl
        go_wp2
        clear qa
        go_loopw [17, 40] (fun n i wr => ∃ j : Nat, j ≤ zs.length ∧ i = .int .i64 j ∧ n = .int .i64 ((zs.take j).sum) ∧ Hid (Hp w [G, { w := w, S := Lt w.heap.size }] [.blk g4 24 [v]] wr)) (fun _ i _ => zs.length - (intOf i).toNat)
        case atStart => exact ⟨0, by omega, rfl, rfl, HP⟩
        case round =>
          clear HP
          obtain ⟨j, hj, rfl, rfl, HP⟩ := hrel
          obtain ⟨wk2, rfl⟩ : ∃ wk : World, wk = wr := ⟨_, rfl⟩
          by_cases hjl : j < zs.length
          · have hjl2 : (j : Int) < (zs.length : Int) := by omega
            obtain ⟨ad5, rfl, hab5, hcl5⟩ := HX5.out j hjl
            have q5 := (HP.out.alike (F := G) (.head _) (ad5.add j) (by rw [block_of_add]; exact hab5)).trans hcl5
            have HSN := Lib.hid (sum_snoc (xs := zs) (k := j) (x := zs[j]) (List.getElem?_eq_getElem hjl))
            obtain ⟨y, hy⟩ : ∃ y, zs[j] = y := ⟨_, rfl⟩
            obtain ⟨S, hS⟩ : ∃ S, (zs.take j).sum = S := ⟨_, rfl⟩
            rw [hy, hS] at HSN
            rw [hy] at q5
            have hb1 := HSM.out.sum (j + 1)
            rw [HSN.out] at hb1
            have hw1 : IntKind.i64.wrap (S + y) = S + y := by rw [IntKind.wrap_i64]; omega
            rw [hS]
            clear hab5 hcl5 hy hS hb1
            go_wp2
            go_roundw
            case rel => exact ⟨j + 1, by omega, by go_num, by first | (rw [HSN.out]; done) | (rw [HSN.out]; exact congrArg _ hw1), HP⟩
            case measure => simp [intOf]; omega
          · obtain rfl : j = zs.length := by omega
            rw [List.take_length]
            have hs0 := HSM.out.sum zs.length
            rw [List.take_length] at hs0
            obtain ⟨S, hS⟩ : ∃ S, zs.sum = S := ⟨_, rfl⟩
            rw [hS] at hs0 HSG ⊢
            clear hS
            by_cases hms : M < S
            · go_wp2
              go_roundw
              case rel => exact ⟨q + 1, q, S, by omega, by go_num, rfl, rfl, Lib.hid (HH1.out.yes HSG.out hs0.1 hms), HP⟩
              case measure => simp [intOf]; omega
            · go_wp2
              go_roundw
              case rel => exact ⟨q + 1, B, M, by omega, by go_num, rfl, rfl, Lib.hid (HH1.out.no HSG.out hs0.1 hms), HP⟩
              case measure => simp [intOf]; omega
      · obtain rfl : q = l.length := by omega
        have HD := Lib.hid ((show HotUp (sumsL l) (sumsL l).length B M by rw [hsl]; exact HH1.out).done (by rw [hsl]; exact k1))
        go_wp2
        (try simp only [Exit.inBlock, Exit.then])
        rw [HZ.out, HL.out]
        refine bodyPost_ret (results_tmp3 (by rfl) _ _ _) (by rfl) ⟨B, M, rfl, by unfold hotP; rw [if_pos rfl]; exact HD.out, HP.out.below⟩
  · have HL := Lib.hid (counts_bad hz)
    obtain ⟨e0, he0⟩ : ∃ e0, (countsAns p xs ys fuel).2 = e0 := ⟨_, rfl⟩
    rw [he0] at hz
    have HZ := Lib.hid he0
    have HZ0 := Lib.hid hz
    have hzb : (e0 != 0) = true := by simpa using hz
    clear he0 hz
    go_enter Tryd.func42, Tryd.ntmps42
    go_wp2_with (first | (refine wpList_box_hp (o := ⟨some 4, _, _, _, _, _⟩) rfl _ _ rfl HP.out [_] rfl ?_; clear HP; intro g4 w4 HP; replace HP := Lib.hid HP) | (refine wpList_ldR0 rfl 24 _ rfl HP.out rfl Tryd.underlying24 rfl (by kernel_rfl) ?_) | (go_at_call 39; refine (Counts_any p _ xs ys _ _ fuel _ (HP.out.rep (F := ⟨w, Lt w.heap.size⟩) (by simp) HR.out) (HP.out.rep (F := ⟨w, Lt w.heap.size⟩) (by simp) HX.out) (HP.out.rep (F := ⟨w, Lt w.heap.size⟩) (by simp) HY.out) HIM.out HXI.out HYI.out (HH.out.keep HP.out.below rfl)).mono ?_; rintro r1 w5 ⟨v4, rfl, hv, hb⟩; rw [HZ.out]; replace HP := Lib.hid (HP.out.call hb); have HV4 := Lib.hid hv; clear hb hv))
    (try simp only [Exit.inBlock, Exit.then])
    rw [HZ.out]
    refine bodyPost_ret (results_tmp3 (by rfl) _ _ _) (by rfl) ⟨0, 0, rfl, by unfold hotP; rw [if_neg HZ0.out]; exact ⟨rfl, rfl⟩, HP.out.below⟩
end Go.Proofs.YtfhoffpdodjfeaaDoor
namespace Go.Proofs.YtfhoffpdodjfeaaDoor
open Go.RowKit Plain64
attribute [local irreducible] wpList Code.wp Oper.wp
theorem beg_set (xs : List Int) (h : xs.length ≤ 2) (k : Nat) (hk : k < xs.length) : (frmCells (begF (xs.take k))).set (2 + k) (iV xs[k]) = frmCells (begF (xs.take (k + 1))) := by
  match xs, h, k, hk with
  | [x0], _, 0, _ => rfl
  | [x0, x1], _, 0, _ => rfl
  | [x0, x1], _, 1, _ => rfl
theorem frm_len (x : Frm) : (frmCells x).length = 14 := rfl
set_option maxRecDepth 10000 in
set_option maxHeartbeats 4000000 in
theorem Begun_any (p : Prg) (v : Value) (xs ys : List Int) (u1 u2 : Value) (fuel : Int) (w : World) (hp : Lay.rep w (Lt w.heap.size) p [v]) (hx : Lay.rep w (Lt w.heap.size) xs [u1]) (hy : Lay.rep w (Lt w.heap.size) ys [u2]) :
    Calls Tryd.prog 17 #[.agg #[v], u1, u2, .int .i64 fuel] w fun r w' => ∃ u e a, r = .returned (.tuple #[.agg (staCells (begunAns p xs ys fuel).1 u e a).toArray, .int .i64 (begunAns p xs ys fuel).2]) ∧ Lay.rep w' (Fresh w w') (begunAns p xs ys fuel).1.frames [u] ∧ Lay.rep w' (Fresh w w') (begunAns p xs ys fuel).1.events [e] ∧ Lay.rep w' (Fresh w w') (begunAns p xs ys fuel).1.answers [a] ∧ Below w.heap.size w w' := by
  obtain ⟨A, c, rfl, hc, hm, hx'⟩ := rep_prg_at hp
  obtain ⟨A1, c1, rfl, hc1, hm1, hx1⟩ := rep_ints_at hx
  obtain ⟨A2, c2, rfl, hc2, hm2, hx2⟩ := rep_ints_at hy
  unfold maxLen at hm hm1 hm2
  have HX := Lib.hid hx'
  have HX1 := Lib.hid hx1
  have HX2 := Lib.hid hx2
  have HR := Lib.hid hp
  have HRX := Lib.hid hx
  have HRY := Lib.hid hy
  clear hx' hp hx hy hx1 hx2
  have HP := Lib.hid (Hp.start w)
  by_cases hz : proven p = 0
  · have HZ := Lib.hid hz
    clear hz
    go_enter Tryd.func17, Tryd.ntmps17
    go_upto_region 2 with (first | (refine wpList_alloc_hp (o := ⟨some 8, _, _, _, _, _⟩) rfl _ rfl HP.out (.agg #[.int .i64 0, .int .i64 0, .slice none 0 0, .int .i64 0, .int .i64 0, .int .i64 0, .int .i64 0, .int .i64 0, .int .i64 0, .int .i64 0, .int .i64 0, .int .i64 0, .int .i64 0, .int .i64 0, .int .i64 0, .int .i64 0, .int .i64 0, .int .i64 0, .int .i64 0, .int .i64 0, .slice none 0 0, .slice none 0 0]) (by kernel_rfl) [_, _, _, _, _, _, _, _, _, _, _, _, _, _, _, _, _, _, _, _, _, _] rfl ?_; clear HP; intro g8 w8 HP; replace HP := Lib.hid HP) | (refine wpList_box_hp (o := ⟨some 4, _, _, _, _, _⟩) rfl _ _ rfl HP.out [_] rfl ?_; clear HP; intro g4 w4 HP; replace HP := Lib.hid HP) | (refine wpList_ldR0 rfl 24 _ rfl HP.out rfl Tryd.underlying24 rfl (by kernel_rfl) ?_) | (refine wpList_ldR1 rfl 24 _ rfl HP.out rfl Tryd.underlying24 rfl (by kernel_rfl) ?_) | (go_at_call 46; refine (Proven_any p _ _ (HP.out.rep (F := ⟨w, Lt w.heap.size⟩) (by simp) HR.out)).mono ?_; rintro e w4 ⟨rfl, hb⟩; replace HP := Lib.hid (HP.out.call0 hb); clear hb; rw [HZ.out]))
    obtain ⟨n1, n2⟩ := (okP_of (proven_prg HZ.out)).len
    obtain ⟨ad, vc, rfl, hab, hat, hcode⟩ := HX.out 0 (by omega)
    obtain ⟨f0, hf0⟩ : ∃ f0, p.funcs[0] = f0 := ⟨_, rfl⟩
    have HF0 := Lib.hid hf0
    have HOF := Lib.hid ((okP_of (proven_prg HZ.out)).fns f0 (hf0 ▸ List.getElem_mem _))
    obtain ⟨p1, p2, p3⟩ := HOF.out.params
    have HFG := Lib.hid (show ((p.funcs[0]?).map Fun.params).getD 0 = f0.params by rw [List.getElem?_eq_getElem (by omega), hf0]; rfl)
    rw [hf0] at hat
    clear hf0 hcode
    have hfs := HP.out.cell (.tail _ (.head _)) 0 _ rfl
    have hpar := (HP.out.at_ (F := ⟨w, Lt w.heap.size⟩) (.head _) hat (by rw [block_of_add]; exact hab)).fld0 rfl
    have h00 : ad.add (0 * 3) = ad := by rw [Nat.zero_mul]; simp [Addr.add]
    rw [h00] at hpar
    clear hat hab h00
    by_cases h1 : (xs.length : Int) = f0.params
    · have hb1 : ((xs.length : Int) != f0.params) = false := by simpa using h1
      have H1 := Lib.hid h1
      clear h1
      by_cases h2 : ys.length ≤ 100
      · have hb2 : decide (100 < (ys.length : Int)) = false := decide_eq_false (by omega)
        by_cases h3 : 0 ≤ fuel ∧ fuel ≤ 10000
        · have HANS := Lib.hid (show begunAns p xs ys fuel = (begS xs ys fuel, 0) by
            unfold begunAns
            rw [if_neg (by simpa using HZ.out), if_neg (by rw [HFG.out]; exact fun h => h.elim (fun h => h H1.out) (fun h => by omega)), if_neg (by omega)])
          obtain ⟨h3, h4⟩ := h3
          have hl3 : xs.length ≤ 2 := by have := H1.out; omega
          go_wp2_with (first | (refine wpList_alloc_hp (o := ⟨some 11, _, _, _, _, _⟩) rfl _ rfl HP.out (.agg #[.int .i64 0, .int .i64 0, .int .i64 0, .int .i64 0, .int .i64 0, .int .i64 0, .int .i64 0, .int .i64 0, .int .i64 0, .int .i64 0, .int .i64 0, .int .i64 0, .int .i64 0, .int .i64 0]) (by kernel_rfl) [_, _, _, _, _, _, _, _, _, _, _, _, _, _] rfl ?_; clear HP; intro g11 w11 HP; replace HP := Lib.hid HP) | (refine wpList_stR0 rfl 75 _ _ rfl HP.out rfl (cs' := [_, _, _, _, _, _, _, _, _, _, _, _, _, _]) rfl rfl (by simp [Value.oneCell']) (by kernel_rfl) ?_; clear HP; intro wst HP; replace HP := Lib.hid HP) | (go_at_call 47; refine (In_any _ _ _ _).mono ?_; rintro e w' ⟨rfl, rfl⟩))
          go_loopw [12] (fun i wr => ∃ k : Nat, k ≤ xs.length ∧ i = .int .i64 k ∧ Hid (Hp w [{ w := w, S := Lt w.heap.size }] [Res.blk g11 75 (frmCells (begF (xs.take k))), Res.blk g8 29 [iV 0, iV 0, .slice none 0 0, iV 0, iV 0, iV 0, iV 0, iV 0, iV 0, iV 0, iV 0, iV 0, iV 0, iV 0, iV 0, iV 0, iV 0, iV 0, iV 0, iV 0, .slice none 0 0, .slice none 0 0], Res.blk g4 24 [.slice (some ad) p.funcs.length c]] wr)) (fun i _ => xs.length - (intOf i).toNat)
          case atStart => exact ⟨0, by omega, rfl, HP⟩
          case round =>
          clear HP hfs hpar
          obtain ⟨k, hk, rfl, HP⟩ := hrel
          obtain ⟨wo, rfl⟩ : ∃ wo : World, wo = wr := ⟨_, rfl⟩
          by_cases hlt : k < xs.length
          · obtain ⟨a, rfl, hab, hca⟩ := HX1.out k hlt
            have hcw := (HP.out.alike (F := ⟨w, Lt w.heap.size⟩) (.head _) (a.add k) (by rw [block_of_add]; exact hab)).trans hca
            have HBS := Lib.hid (beg_set xs hl3 k hlt)
            obtain ⟨y, hy⟩ : ∃ y, xs[k] = y := ⟨_, rfl⟩
            rw [hy] at hcw HBS
            have HBD := Lib.hid (show 2 + k < (frmCells (begF (xs.take k))).length by rw [frm_len]; omega)
            have hlt2 : (k : Int) < (xs.length : Int) := by omega
            clear hca hy
            go_wp2_with (first | (refine wpList_st0 rfl 3 _ _ rfl HP.out rfl rfl HBD.out rfl HBS.out (by kernel_rfl) ?_; clear HP; intro wst HP; replace HP := Lib.hid HP))
            go_roundw
            case rel => exact ⟨k + 1, by omega, by go_num, HP⟩
            case measure => simp [intOf]; omega
          obtain rfl : k = xs.length := by omega
          rw [List.take_of_length_le (Nat.le_refl _)] at HP
          go_upto_region 13 with fail
          (try simp only [Act.put, List.setIfInBounds_toArray, List.set_cons_zero, List.set_cons_succ])
          obtain ⟨x, hxf⟩ : ∃ x, begF xs = x := ⟨_, rfl⟩
          rw [hxf] at HP
          have HXF := Lib.hid hxf
          clear hxf
          have HP0 := Lib.hid HP.out.drew
          clear HP
          refine wp_region_held_drew (S := fun w' => At w' ⟨g11, 0, none⟩ (frmCells x)) (by kernel_rfl) (HP0.out.blkAt (.head _) 0) (fun hHeld => ?_)
          have HS0 := Lib.hid hHeld
          clear hHeld
          refine wpAnyH_row (i := 0) rfl (by kernel_rfl) (by kernel_rfl) (by kernel_rfl) (fun _ _ _ _ h => h) rfl 75 _ rfl _ rfl _ _ (fun _ h => h) Tryd.underlying75 rfl (by kernel_rfl) HS0.out ?_
          (try simp only [Act.put, List.setIfInBounds_toArray, List.set_cons_zero, List.set_cons_succ])
          refine wpAnyH_move (i := 2) rfl (by kernel_rfl) (by kernel_rfl) (by kernel_rfl) (fun _ _ _ _ h => h) rfl _ rfl _ rfl HS0.out ?_
          (try simp only [Act.put, List.setIfInBounds_toArray, List.set_cons_zero, List.set_cons_succ])
          refine wpAnyH_move (i := 3) rfl (by kernel_rfl) (by kernel_rfl) (by kernel_rfl) (fun _ _ _ _ h => h) rfl _ rfl _ rfl HS0.out ?_
          (try simp only [Act.put, List.setIfInBounds_toArray, List.set_cons_zero, List.set_cons_succ])
          refine wpAnyH_ready (rs := [1, 4]) (by kernel_rfl) (by simp) ?_
          refine AllReadyH.cons rfl (fun K hK => ?_) (AllReadyH.cons rfl (fun K hK => ?_) AllReadyH.nil)
          · refine wanted_only rfl ?_
            refine wpList_slice_hp rfl 26 75 1 _ rfl HP0.out Tryd.underlying26 (frmCells x).toArray (by kernel_rfl) ?_
            intro gi wi HP
            have HP1 := Lib.hid HP
            clear HP
            refine wpList_nil ?_
            refine hK.out _ _ (HP1.out.blkAt (.tail _ (.head _)) 0) (fun hHeld => ?_)
            clear hK K hHeld HP0
            (try simp only [Act.put, List.setIfInBounds_toArray, List.set_cons_zero, List.set_cons_succ])
            refine wpAnyH_ready (rs := [4]) (by kernel_rfl) (by simp) ?_
            refine AllReadyH.cons rfl (fun K hK => ?_) AllReadyH.nil
            go_simp
            go_wp2_with (go_at_call 48; refine (Numbers_any ys _ _ (HP1.out.rep (F := ⟨w, Lt w.heap.size⟩) (by simp) HRY.out) (by omega)).mono ?_; rintro r1 w5 ⟨v5, rfl, hv5, hb5⟩; have HP2 := Lib.hid (HP1.out.call hb5); have HSZ := Lib.hid HP1.out.size; obtain ⟨A5, c5, rfl, hc5, hm5, -⟩ := rep_ints_at hv5; have HV5 := Lib.hid hv5; clear hb5 hv5)
            refine hK.out _ _ (HP2.out.blkAt (.tail _ (.head _)) 0) (fun hHeld => ?_)
            clear hK K hHeld HP1
            refine wpAnyH_ready (rs := [5]) (by kernel_rfl) (by simp) ?_
            refine AllReadyH.cons rfl (fun K hK => ?_) AllReadyH.nil
            go_simp
            refine hK.out _ _ (HP2.out.blkAt (.tail _ (.head _)) 0) (fun hHeld => ?_)
            clear hK K hHeld
            refine wpAnyH_ready (rs := [6]) (by kernel_rfl) (by simp) ?_
            refine AllReadyH.cons rfl (fun K hK => ?_) AllReadyH.nil
            refine wanted_only rfl ?_
            refine wpList_stR2 rfl 29 _ _ rfl HP2.out rfl (cs' := staCells (begS xs ys fuel) (.slice (some ⟨gi, 0, none⟩) 1 1) (.slice none 0 0) (.slice A5 ys.length c5)) rfl rfl (by simp [staCells, Value.oneCell']) (by kernel_rfl) ?_
            intro wst HP3
            have HP := Lib.hid HP3
            clear HP3 HP2
            refine wpList_nil ?_
            refine hK.out _ _ (HP.out.blkAt (.tail _ (.head _)) 0) (fun hHeld => ?_)
            clear hK K hHeld
            refine wpAnyH_ready (rs := [7]) (by kernel_rfl) (by simp) ?_
            refine AllReadyH.cons rfl (fun K hK => ?_) AllReadyH.nil
            go_simp
            refine hK.out _ _ (HP.out.blkAt (.tail _ (.head _)) 0) (fun hHeld => ?_)
            clear hK K hHeld
            refine wpAnyH_done (by kernel_rfl) ?_ _
            go_wp2
            rw [HANS.out]
            refine bodyPost_ret (results_cell_row_tmp rfl _ _ g8 29 (staCells (begS xs ys fuel) (.slice (some ⟨gi, 0, none⟩) 1 1) (.slice none 0 0) (.slice A5 ys.length c5)).toArray (0, 0) _ rfl (HP.out.blk (.tail _ (.tail _ (.head _)))) Tryd.underlying29 rfl (by kernel_rfl)) rfl ⟨_, _, _, rfl, ?_, rep_ints_nil, ?_, HP.out.below⟩
            · have HPr := Hp.rowOf (A := []) (n := 1) (sz := 14) HP.out rfl (by unfold maxLen; decide)
              exact HPr.rowFrames (.head _) (by rw [← HXF.out]; simp [begS])
            · exact HP.out.repMore (.head _) HV5.out (fun b hb => ⟨Nat.le_trans HSZ.out hb.1, (HP.out.fro _ (.head _) b hb).1⟩)
          · go_simp
            go_wp2_with (go_at_call 48; refine (Numbers_any ys _ _ (HP0.out.rep (F := ⟨w, Lt w.heap.size⟩) (by simp) HRY.out) (by omega)).mono ?_; rintro r1 w5 ⟨v5, rfl, hv5, hb5⟩; have HP1 := Lib.hid (HP0.out.call hb5); have HSZ := Lib.hid HP0.out.size; obtain ⟨A5, c5, rfl, hc5, hm5, -⟩ := rep_ints_at hv5; have HV5 := Lib.hid hv5; clear hb5 hv5)
            refine hK.out _ _ (HP1.out.blkAt (.head _) 0) (fun hHeld => ?_)
            clear hK K hHeld HP0
            refine wpAnyH_ready (rs := [1]) (by kernel_rfl) (by simp) ?_
            refine AllReadyH.cons rfl (fun K hK => ?_) AllReadyH.nil
            refine wanted_only rfl ?_
            refine wpList_slice_hp rfl 26 75 1 _ rfl HP1.out Tryd.underlying26 (frmCells x).toArray (by kernel_rfl) ?_
            intro gi wi HP
            have HP2 := Lib.hid HP
            clear HP
            refine wpList_nil ?_
            refine hK.out _ _ (HP2.out.blkAt (.tail _ (.head _)) 0) (fun hHeld => ?_)
            clear hK K hHeld HP1
            (try simp only [Act.put, List.setIfInBounds_toArray, List.set_cons_zero, List.set_cons_succ])
            refine wpAnyH_ready (rs := [5]) (by kernel_rfl) (by simp) ?_
            refine AllReadyH.cons rfl (fun K hK => ?_) AllReadyH.nil
            go_simp
            refine hK.out _ _ (HP2.out.blkAt (.tail _ (.head _)) 0) (fun hHeld => ?_)
            clear hK K hHeld
            refine wpAnyH_ready (rs := [6]) (by kernel_rfl) (by simp) ?_
            refine AllReadyH.cons rfl (fun K hK => ?_) AllReadyH.nil
            refine wanted_only rfl ?_
            refine wpList_stR2 rfl 29 _ _ rfl HP2.out rfl (cs' := staCells (begS xs ys fuel) (.slice (some ⟨gi, 0, none⟩) 1 1) (.slice none 0 0) (.slice A5 ys.length c5)) rfl rfl (by simp [staCells, Value.oneCell']) (by kernel_rfl) ?_
            intro wst HP3
            have HP := Lib.hid HP3
            clear HP3 HP2
            refine wpList_nil ?_
            refine hK.out _ _ (HP.out.blkAt (.tail _ (.head _)) 0) (fun hHeld => ?_)
            clear hK K hHeld
            refine wpAnyH_ready (rs := [7]) (by kernel_rfl) (by simp) ?_
            refine AllReadyH.cons rfl (fun K hK => ?_) AllReadyH.nil
            go_simp
            refine hK.out _ _ (HP.out.blkAt (.tail _ (.head _)) 0) (fun hHeld => ?_)
            clear hK K hHeld
            refine wpAnyH_done (by kernel_rfl) ?_ _
            go_wp2
            rw [HANS.out]
            refine bodyPost_ret (results_cell_row_tmp rfl _ _ g8 29 (staCells (begS xs ys fuel) (.slice (some ⟨gi, 0, none⟩) 1 1) (.slice none 0 0) (.slice A5 ys.length c5)).toArray (0, 0) _ rfl (HP.out.blk (.tail _ (.tail _ (.head _)))) Tryd.underlying29 rfl (by kernel_rfl)) rfl ⟨_, _, _, rfl, ?_, rep_ints_nil, ?_, HP.out.below⟩
            · have HPr := Hp.rowOf (A := []) (n := 1) (sz := 14) HP.out rfl (by unfold maxLen; decide)
              exact HPr.rowFrames (.head _) (by rw [← HXF.out]; simp [begS])
            · exact HP.out.repMore (.head _) HV5.out (fun b hb => ⟨Nat.le_trans HSZ.out hb.1, (HP.out.fro _ (.head _) b hb).1⟩)
        · have HANS := Lib.hid (show begunAns p xs ys fuel = (zeroS, 2) by
            unfold begunAns
            rw [if_neg (by simpa using HZ.out), if_neg (by rw [HFG.out]; exact fun h => h.elim (fun h => h H1.out) (fun h => by omega)), if_pos (by omega)])
          have HD := Lib.hid (show (decide (0 ≤ fuel) && decide (fuel ≤ 10000)) = false by simp; omega)
          clear h3
          go_wp2_with (first | (go_at_call 47; refine (calls_value (In_any _ _ _ _) (congrArg Value.bool HD.out)).mono ?_; rintro e w' ⟨rfl, rfl⟩) | (refine wpList_stR0 rfl 29 _ _ rfl HP.out rfl (cs' := staCells zeroS (.slice none 0 0) (.slice none 0 0) (.slice none 0 0)) rfl rfl (by simp [staCells, Value.oneCell']) (by kernel_rfl) ?_; clear HP; intro wst HP; replace HP := Lib.hid HP) | (refine wpList_stR1 rfl 29 _ _ rfl HP.out rfl (cs' := staCells zeroS (.slice none 0 0) (.slice none 0 0) (.slice none 0 0)) rfl rfl (by simp [staCells, Value.oneCell']) (by kernel_rfl) ?_; clear HP; intro wst HP; replace HP := Lib.hid HP))
          rw [HANS.out]
          refine bodyPost_ret (results_cell_row_tmp rfl _ _ g8 29 (staCells zeroS (.slice none 0 0) (.slice none 0 0) (.slice none 0 0)).toArray (0, 0) _ rfl (HP.out.blk (.head _)) Tryd.underlying29 rfl (by kernel_rfl)) rfl ⟨_, _, _, rfl, rep_frames_nil, rep_ints_nil, rep_ints_nil, HP.out.below⟩
      · have HANS := Lib.hid (show begunAns p xs ys fuel = (zeroS, 1) by
          unfold begunAns
          rw [if_neg (by simpa using HZ.out), if_pos (.inr (by omega))])
        have hb2 : decide (100 < (ys.length : Int)) = true := decide_eq_true (by omega)
        clear h2
        go_wp2_with (first | (refine wpList_stR0 rfl 29 _ _ rfl HP.out rfl (cs' := staCells zeroS (.slice none 0 0) (.slice none 0 0) (.slice none 0 0)) rfl rfl (by simp [staCells, Value.oneCell']) (by kernel_rfl) ?_; clear HP; intro wst HP; replace HP := Lib.hid HP) | (refine wpList_stR1 rfl 29 _ _ rfl HP.out rfl (cs' := staCells zeroS (.slice none 0 0) (.slice none 0 0) (.slice none 0 0)) rfl rfl (by simp [staCells, Value.oneCell']) (by kernel_rfl) ?_; clear HP; intro wst HP; replace HP := Lib.hid HP))
        rw [HANS.out]
        refine bodyPost_ret (results_cell_row_tmp rfl _ _ g8 29 (staCells zeroS (.slice none 0 0) (.slice none 0 0) (.slice none 0 0)).toArray (0, 0) _ rfl (HP.out.blk (.head _)) Tryd.underlying29 rfl (by kernel_rfl)) rfl ⟨_, _, _, rfl, rep_frames_nil, rep_ints_nil, rep_ints_nil, HP.out.below⟩
    · have HANS := Lib.hid (show begunAns p xs ys fuel = (zeroS, 1) by
        unfold begunAns
        rw [if_neg (by simpa using HZ.out), if_pos (.inl (by rw [HFG.out]; exact h1))])
      have hb1 : ((xs.length : Int) != f0.params) = true := by simpa using h1
      clear h1
      go_wp2_with (first | (refine wpList_stR0 rfl 29 _ _ rfl HP.out rfl (cs' := staCells zeroS (.slice none 0 0) (.slice none 0 0) (.slice none 0 0)) rfl rfl (by simp [staCells, Value.oneCell']) (by kernel_rfl) ?_; clear HP; intro wst HP; replace HP := Lib.hid HP) | (refine wpList_stR1 rfl 29 _ _ rfl HP.out rfl (cs' := staCells zeroS (.slice none 0 0) (.slice none 0 0) (.slice none 0 0)) rfl rfl (by simp [staCells, Value.oneCell']) (by kernel_rfl) ?_; clear HP; intro wst HP; replace HP := Lib.hid HP))
      rw [HANS.out]
      refine bodyPost_ret (results_cell_row_tmp rfl _ _ g8 29 (staCells zeroS (.slice none 0 0) (.slice none 0 0) (.slice none 0 0)).toArray (0, 0) _ rfl (HP.out.blk (.head _)) Tryd.underlying29 rfl (by kernel_rfl)) rfl ⟨_, _, _, rfl, rep_frames_nil, rep_ints_nil, rep_ints_nil, HP.out.below⟩
  · have hans : begunAns p xs ys fuel = (zeroS, proven p) := by unfold begunAns; rw [if_pos hz]
    obtain ⟨e0, he0⟩ : ∃ e0, proven p = e0 := ⟨_, rfl⟩
    rw [he0] at hz hans
    have HANS := Lib.hid hans
    have HE0 := Lib.hid he0
    have hzb : (e0 != 0) = true := by simpa using hz
    clear he0 hz hans
    go_enter Tryd.func17, Tryd.ntmps17
    go_wp2_with (first | (refine wpList_stR0 rfl 29 _ _ rfl HP.out rfl (cs' := staCells zeroS (.slice none 0 0) (.slice none 0 0) (.slice none 0 0)) rfl rfl (by simp [staCells, Value.oneCell']) (by kernel_rfl) ?_; clear HP; intro wst HP; replace HP := Lib.hid HP) | (refine wpList_stR1 rfl 29 _ _ rfl HP.out rfl (cs' := staCells zeroS (.slice none 0 0) (.slice none 0 0) (.slice none 0 0)) rfl rfl (by simp [staCells, Value.oneCell']) (by kernel_rfl) ?_; clear HP; intro wst HP; replace HP := Lib.hid HP) | (refine wpList_alloc_hp (o := ⟨some 8, _, _, _, _, _⟩) rfl _ rfl HP.out (.agg #[.int .i64 0, .int .i64 0, .slice none 0 0, .int .i64 0, .int .i64 0, .int .i64 0, .int .i64 0, .int .i64 0, .int .i64 0, .int .i64 0, .int .i64 0, .int .i64 0, .int .i64 0, .int .i64 0, .int .i64 0, .int .i64 0, .int .i64 0, .int .i64 0, .int .i64 0, .int .i64 0, .slice none 0 0, .slice none 0 0]) (by kernel_rfl) [_, _, _, _, _, _, _, _, _, _, _, _, _, _, _, _, _, _, _, _, _, _] rfl ?_; clear HP; intro g8 w8 HP; replace HP := Lib.hid HP) | (refine wpList_box_hp (o := ⟨some 4, _, _, _, _, _⟩) rfl _ _ rfl HP.out [_] rfl ?_; clear HP; intro g4 w4 HP; replace HP := Lib.hid HP) | (refine wpList_ldR0 rfl 24 _ rfl HP.out rfl Tryd.underlying24 rfl (by kernel_rfl) ?_) | (refine wpList_ldR1 rfl 24 _ rfl HP.out rfl Tryd.underlying24 rfl (by kernel_rfl) ?_) | (go_at_call 46; refine (Proven_any p _ _ (HP.out.rep (F := ⟨w, Lt w.heap.size⟩) (by simp) HR.out)).mono ?_; rintro e w4 ⟨rfl, hb⟩; replace HP := Lib.hid (HP.out.call0 hb); clear hb; rw [HE0.out]))
    rw [HANS.out]
    refine bodyPost_ret (results_cell_row_tmp rfl _ _ g8 29 (staCells zeroS (.slice none 0 0) (.slice none 0 0) (.slice none 0 0)).toArray (0, 0) _ rfl (HP.out.blk (.head _)) Tryd.underlying29 rfl (by kernel_rfl)) rfl ⟨_, _, _, rfl, rep_frames_nil, rep_ints_nil, rep_ints_nil, HP.out.below⟩
end Go.Proofs.YtfhoffpdodjfeaaDoor
