/- tierline/tierlineref.HotOf. -/
import Derived.Test.YtfhoffpdodjfeaaDoorMgHotLawCopy2
import Derived.Test.YtfhoffpdodjfeaaDoorMgSameIntsSameLists2
import Derived.Test.YtfhoffpdodjfeaaDoorProfOf
set_option linter.unusedSimpArgs false
set_option linter.unusedVariables false
namespace Go.Proofs.YtfhoffpdodjfeaaDoor
open Go.RowKit Plain64
attribute [local irreducible] wpList Code.wp Oper.wp
set_option maxRecDepth 100000 in
set_option maxHeartbeats 4000000 in
theorem HotOf_any (p : Prg) (v : Value) (xs ys : List Int) (u1 u2 : Value) (fuel : Int) (w : World) (hp : Lay.rep w (Lt w.heap.size) p [v]) (hx : Lay.rep w (Lt w.heap.size) xs [u1]) (hy : Lay.rep w (Lt w.heap.size) ys [u2]) (him : ∀ f ∈ p.funcs, ∀ x ∈ f.code, I64 x.imm) (hxi : ∀ x ∈ xs, I64 x) (hyi : ∀ y ∈ ys, I64 y) :
    Calls Tryd.prog 43 #[.agg #[v], u1, u2, .int .i64 fuel] w fun r w' => ∃ b m : Int, r = .returned (.tuple #[.int .i64 b, .int .i64 m, .int .i64 (countsAns p xs ys fuel).2]) ∧ hotP (countsAns p xs ys fuel).1 (countsAns p xs ys fuel).2 b m ∧ Below w.heap.size w w' := by
  have HR := Lib.hid hp
  have HX := Lib.hid hx
  have HY := Lib.hid hy
  have HIM := Lib.hid him
  have HXI := Lib.hid hxi
  have HYI := Lib.hid hyi
  clear hp hx hy him hxi hyi
  have HP := Lib.hid (Hp.start w)
  by_cases hz : (countsAns p xs ys fuel).2 = 0
  · obtain ⟨k1, k2, k3⟩ := counts_ok hz
    obtain ⟨l, hl⟩ : ∃ l, (countsAns p xs ys fuel).1 = l := ⟨_, rfl⟩
    rw [hl] at k1 k2 k3
    have HL := Lib.hid hl
    have HZ := Lib.hid hz
    have HK := Lib.hid k3
    have hsl : (sumsL l).length = l.length := List.length_map ..
    clear k3 hz hl
    go_enter Tryd.func43, Tryd.ntmps43
    go_upto_region 2 with (first | (refine wpList_box_hp (o := ⟨some 4, _, _, _, _, _⟩) rfl _ _ rfl HP.out [_] rfl ?_; clear HP; intro g4 w4 HP; replace HP := Lib.hid HP) | (refine wpList_ldR0 rfl 24 _ rfl HP.out rfl Tryd.underlying24 rfl (by kernel_rfl) ?_) | (go_at_call 40; refine (CountsOf_any p _ xs ys _ _ fuel _ (HP.out.rep (F := ⟨w, Lt w.heap.size⟩) (by simp) HR.out) (HP.out.rep (F := ⟨w, Lt w.heap.size⟩) (by simp) HX.out) (HP.out.rep (F := ⟨w, Lt w.heap.size⟩) (by simp) HY.out) HIM.out HXI.out HYI.out).mono ?_; rintro r1 w5 ⟨v4, rfl, hv, hb⟩; rw [HZ.out]; replace HP := Lib.hid (HP.out.call hb); have HV4 := Lib.hid hv; clear hb hv))
    rw [HL.out] at HV4
    obtain ⟨G, HP, HV⟩ : ∃ G : Fro, Hid (Hp w [G, { w := w, S := Lt w.heap.size }] [.blk g4 24 [v]] _) ∧ Hid (Lay.rep G.w G.S l [v4]) := ⟨_, HP, HV4⟩
    clear HV4
    obtain ⟨A4, c4, rfl, hc4, hm4, hx4⟩ := rep_rows_at HV.out
    unfold maxLen at hm4
    have HX4 := Lib.hid hx4
    clear hx4 HV
    have hwl : IntKind.i64.wrap ((l.length : Int) - 1) = (l.length : Int) - 1 := by rw [IntKind.wrap_i64]; omega
    go_wp2
    go_loopw [13, 14, 15] (fun b m i wr => ∃ (q : Nat) (B M I : Int), q ≤ l.length ∧ i = .int .i64 I ∧ I = (q : Int) - 1 ∧ b = .int .i64 B ∧ m = .int .i64 M ∧ Hid (HotDn (sumsL l) q B M) ∧ Hid (Hp w [G, { w := w, S := Lt w.heap.size }] [.blk g4 24 [v]] wr)) (fun _ _ i _ => (intOf i + 1).toNat)
    case atStart => exact ⟨l.length, (l.length : Int) - 1, 0, (l.length : Int) - 1, by omega, (by first | rfl | exact congrArg _ hwl), rfl, (by first | rfl | exact congrArg _ hwl), rfl, Lib.hid (by have := HotDn.start (sumsL l); rw [hsl] at this; exact this), HP⟩
    case round =>
      clear HP
      obtain ⟨q, B, M, I0, hq, rfl, hI, rfl, rfl, HH1, HP⟩ := hrel
      obtain ⟨wk, rfl⟩ : ∃ wk : World, wk = wr := ⟨_, rfl⟩
      cases q with
      | succ q =>
        obtain rfl : I0 = (q : Int) := by omega
        have hlt : q < l.length := by omega
        have hlt2 : (q : Int) < (l.length : Int) := by omega
        clear hI
        obtain ⟨ad, u, rfl, hab, hcl, hru⟩ := HX4.out q hlt
        obtain ⟨zs, hzs⟩ : ∃ zs, l[q] = zs := ⟨_, rfl⟩
        rw [hzs] at hru
        have HSM := Lib.hid (HK.out zs (hzs ▸ List.getElem_mem hlt))
        have HSG := Lib.hid (sumsL_get (l := l) (i := q) (xs := zs) (by rw [← hzs]; exact List.getElem?_eq_getElem hlt))
        obtain ⟨A5, c5, rfl, hc5, hm5, hx5⟩ := rep_ints_at hru
        unfold maxLen at hm5
        have hzl := HSM.out.1
        have HX5 := Lib.hid hx5
        have HAB := Lib.hid hab
        have HCL := Lib.hid hcl
        have qa := (HP.out.alike (F := G) (.head _) (ad.add q) (by rw [block_of_add]; exact HAB.out)).trans HCL.out
        clear hx5 hru hzs hab hcl
        go_wp2
        clear qa
        go_loopw [16, 17] (fun n i wr => ∃ j : Nat, j ≤ zs.length ∧ i = .int .i64 j ∧ n = .int .i64 ((zs.take j).sum) ∧ Hid (Hp w [G, { w := w, S := Lt w.heap.size }] [.blk g4 24 [v]] wr)) (fun _ i _ => zs.length - (intOf i).toNat)
        case atStart => exact ⟨0, by omega, rfl, rfl, HP⟩
        case round =>
          clear HP
          obtain ⟨j, hj, rfl, rfl, HP⟩ := hrel
          obtain ⟨wk2, rfl⟩ : ∃ wk : World, wk = wr := ⟨_, rfl⟩
          have qa := (HP.out.alike (F := G) (.head _) (ad.add q) (by rw [block_of_add]; exact HAB.out)).trans HCL.out
          by_cases hjl : j < zs.length
          · have hjl2 : (j : Int) < (zs.length : Int) := by omega
            obtain ⟨ad5, rfl, hab5, hcl5⟩ := HX5.out j hjl
            have q5 := (HP.out.alike (F := G) (.head _) (ad5.add j) (by rw [block_of_add]; exact hab5)).trans hcl5
            have HSN := Lib.hid (sum_snoc (xs := zs) (k := j) (x := zs[j]) (List.getElem?_eq_getElem hjl))
            obtain ⟨y, hy⟩ : ∃ y, zs[j] = y := ⟨_, rfl⟩
            obtain ⟨S, hS⟩ : ∃ S, (zs.take j).sum = S := ⟨_, rfl⟩
            rw [hy, hS] at HSN
            rw [hy] at q5
            have hb1 := HSM.out.sum (j + 1)
            rw [HSN.out] at hb1
            have hw1 : IntKind.i64.wrap (S + y) = S + y := by rw [IntKind.wrap_i64]; omega
            rw [hS]
            clear hab5 hcl5 hy hS hb1
            go_wp2
            go_roundw
            case rel => exact ⟨j + 1, by omega, by go_num, by first | (rw [HSN.out]; done) | (rw [HSN.out]; exact congrArg _ hw1), HP⟩
            case measure => simp [intOf]; omega
          · obtain rfl : j = zs.length := by omega
            rw [List.take_length]
            have hs0 := HSM.out.sum zs.length
            rw [List.take_length] at hs0
            obtain ⟨S, hS⟩ : ∃ S, zs.sum = S := ⟨_, rfl⟩
            rw [hS] at hs0 HSG ⊢
            clear hS
            by_cases hms : M ≤ S
            · go_wp2
              go_roundw
              case rel => exact ⟨q, q, S, _, by omega, rfl, by first | rfl | (rw [IntKind.wrap_i64]; omega), rfl, rfl, Lib.hid (HH1.out.yes HSG.out hms), HP⟩
              case measure => first | (simp [intOf]; done) | (simp [intOf]; omega) | (simp [intOf]; rw [IntKind.wrap_i64]; omega)
            · go_wp2
              go_roundw
              case rel => exact ⟨q, B, M, _, by omega, rfl, by first | rfl | (rw [IntKind.wrap_i64]; omega), rfl, rfl, Lib.hid (HH1.out.no HSG.out hs0.1 hms), HP⟩
              case measure => first | (simp [intOf]; done) | (simp [intOf]; omega) | (simp [intOf]; rw [IntKind.wrap_i64]; omega)
      | zero =>
        obtain rfl : I0 = -1 := by omega
        clear hI
        have HD := Lib.hid (HH1.out.done (by rw [hsl]; exact k1))
        go_wp2
        (try simp only [Exit.inBlock, Exit.then])
        rw [HZ.out, HL.out]
        refine bodyPost_ret (results_tmp3 (by rfl) _ _ _) (by rfl) ⟨B, M, rfl, by unfold hotP; rw [if_pos rfl]; exact HD.out, HP.out.below⟩
  · have HL := Lib.hid (counts_bad hz)
    obtain ⟨e0, he0⟩ : ∃ e0, (countsAns p xs ys fuel).2 = e0 := ⟨_, rfl⟩
    rw [he0] at hz
    have HZ := Lib.hid he0
    have HZ0 := Lib.hid hz
    have hzb : (e0 != 0) = true := by simpa using hz
    clear he0 hz
    go_enter Tryd.func43, Tryd.ntmps43
    go_wp2_with (first | (refine wpList_box_hp (o := ⟨some 4, _, _, _, _, _⟩) rfl _ _ rfl HP.out [_] rfl ?_; clear HP; intro g4 w4 HP; replace HP := Lib.hid HP) | (refine wpList_ldR0 rfl 24 _ rfl HP.out rfl Tryd.underlying24 rfl (by kernel_rfl) ?_) | (go_at_call 40; refine (CountsOf_any p _ xs ys _ _ fuel _ (HP.out.rep (F := ⟨w, Lt w.heap.size⟩) (by simp) HR.out) (HP.out.rep (F := ⟨w, Lt w.heap.size⟩) (by simp) HX.out) (HP.out.rep (F := ⟨w, Lt w.heap.size⟩) (by simp) HY.out) HIM.out HXI.out HYI.out).mono ?_; rintro r1 w5 ⟨v4, rfl, hv, hb⟩; rw [HZ.out]; replace HP := Lib.hid (HP.out.call hb); have HV4 := Lib.hid hv; clear hb hv))
    (try simp only [Exit.inBlock, Exit.then])
    rw [HZ.out]
    refine bodyPost_ret (results_tmp3 (by rfl) _ _ _) (by rfl) ⟨0, 0, rfl, by unfold hotP; rw [if_neg HZ0.out]; exact ⟨rfl, rfl⟩, HP.out.below⟩
end Go.Proofs.YtfhoffpdodjfeaaDoor
