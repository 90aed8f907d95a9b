/- ref.Proven. -/
import Derived.Test.YtnabeibnaoahmaaDoorMgSureTSureSProvenProvenB4
set_option linter.unusedSimpArgs false
set_option linter.unusedVariables false
namespace Go.Proofs.YtnabeibnaoahmaaDoor
open Go.RowKit Plain64
attribute [local irreducible] wpList Code.wp Oper.wp
set_option maxRecDepth 10000 in
set_option maxHeartbeats 2000000 in
theorem Proven_any (p : Prg) (u : Value) (w : World) (hp : Lay.rep w (Lt w.heap.size) p [u]) :
    Calls Tryd.prog 60 #[.agg #[u]] w fun e w' => e = .returned (.int .i64 (proven p)) ∧ Below w.heap.size w w' := by
  obtain ⟨A, c, rfl, hc, hm, hx⟩ := rep_prg_at hp
  unfold maxLen at hm
  have HX := Lib.hid hx
  have HR := Lib.hid hp
  clear hx hp
  have HP := Lib.hid (Hp.start w)
  by_cases hz : prgFault p = 0
  · have ok := okP_of hz
    have HOK := Lib.hid ok
    obtain ⟨n1, n2⟩ := ok.len
    clear ok
    have HZ := Lib.hid hz
    clear hz
    go_enter Tryd.func60, Tryd.ntmps60
    go_wp2_with (first | (refine wpList_box_hp (o := ⟨some 1, _, _, _, _, _⟩) rfl _ _ rfl HP.out [_] rfl ?_; clear HP; intro g1 w1 HP; replace HP := Lib.hid HP) | (refine wpList_ldR0 rfl 24 _ rfl HP.out rfl Tryd.underlying24 rfl (by kernel_rfl) ?_) | (refine wpList_ld0 rfl 22 _ rfl HP.out rfl rfl Tryd.underlying22 rfl ?_) | (go_at_call 75; refine (progFault_any p _ _ (HP.out.rep (F := ⟨w, Lt w.heap.size⟩) (by simp) HR.out)).mono ?_; rintro e w4 ⟨rfl, hb⟩; replace HP := Lib.hid (HP.out.call0 hb); clear hb; rw [HZ.out]))
    go_loopw [4] (fun i wr => ∃ (k : Nat), k ≤ p.funcs.length ∧ i = .int .i64 k ∧ Hid (∀ f ∈ p.funcs.take k, provenF p f = 0) ∧ Hid (Hp w [{ w := w, S := Lt w.heap.size }] [Res.blk g1 24 [Value.slice A p.funcs.length c]] wr)) (fun i _ => p.funcs.length - (intOf i).toNat)
    case atStart => exact ⟨0, by omega, rfl, Lib.hid (fun f hf => by simp at hf), HP⟩
    case round =>
      clear HP
      obtain ⟨k, hk, rfl, HU, HP⟩ := hrel
      obtain ⟨wo, rfl⟩ : ∃ wo : World, wo = wr := ⟨_, rfl⟩
      by_cases hlt : k < p.funcs.length
      · have hlt2 : (k : Int) < (p.funcs.length : Int) := by omega
        obtain ⟨ad, v, rfl, hab, hat, hcode⟩ := HX.out k hlt
        have HBAD := Lib.hid (proven_at HZ.out k hlt HU.out)
        obtain ⟨f, hf⟩ : ∃ f, p.funcs[k] = f := ⟨_, rfl⟩
        rw [hf] at hat hcode HBAD
        have HF := Lib.hid (show p.funcs[k]? = some f by rw [← hf, List.getElem?_eq_getElem hlt])
        have HOF := Lib.hid (HOK.out.fns f (hf ▸ List.getElem_mem hlt))
        clear hf
        have HC := Lib.hid hcode
        obtain ⟨A2, c2, rfl, hc2, hm2, hx2⟩ := rep_code hcode
        unfold maxLen at hm2
        have HX2 := Lib.hid hx2
        have HAT := Lib.hid hat
        clear hat hx2 hcode
        obtain ⟨l1, l2⟩ := HOF.out.len
        go_upto_region 9 with (first | (refine wpList_ld0 rfl 22 _ rfl HP.out rfl rfl Tryd.underlying22 rfl ?_) | (refine wpList_ld1 rfl 22 _ rfl HP.out rfl rfl Tryd.underlying22 rfl ?_) | (refine wpList_load_at rfl 57 _ rfl _ rfl _ _ (HP.out.at_ (F := ⟨w, Lt w.heap.size⟩) (by simp) HAT.out (by rw [block_of_add]; exact hab)) Tryd.underlying57 rfl (by kernel_rfl) ?_) | (refine wpList_alloc_hp (o := ⟨some 5, _, _, _, _, _⟩) rfl _ rfl HP.out (.agg #[.int .i64 0, .int .i64 0, .slice none 0 0]) (by kernel_rfl) [_, _, _] rfl ?_; clear HP; intro g5 w5 HP; replace HP := Lib.hid HP) | (refine wpList_stR0 rfl 57 _ _ rfl HP.out rfl (cs' := [_, _, _]) rfl rfl (by simp [Value.oneCell']) (by kernel_rfl) ?_; clear HP; intro wst HP; replace HP := Lib.hid HP) | (refine wpList_ldR0 rfl 57 _ rfl HP.out rfl Tryd.underlying57 rfl (by kernel_rfl) ?_) | (refine wpList_ldR1 rfl 57 _ rfl HP.out rfl Tryd.underlying57 rfl (by kernel_rfl) ?_) | (go_at_call 30; refine (sureOf_any f _ _ _ (HP.out.rep (F := ⟨w, Lt w.heap.size⟩) (by simp) HC.out) HOF.out).mono ?_; rintro e w5 ⟨u5, rfl, hu5, hb5⟩; replace HP := Lib.hid (HP.out.call hb5); obtain ⟨A5, c5, rfl, hc5, hm5, hx5⟩ := rep_ints_at hu5; obtain ⟨a5, rfl, _, _⟩ := hx5 0 (by rw [sureL_len]; omega); obtain ⟨-, -, -, hy5⟩ := rep_ints_some hu5; have HX5 := Lib.hid hy5; clear hu5 hx5 hy5 hb5))
        have hsl := sureL_len f
        rw [hsl] at hc5
        unfold maxLen at hm5
        simp only [hsl]
        clear hsl
        (try simp only [Act.put, List.setIfInBounds_toArray, List.set_cons_zero, List.set_cons_succ])
        go_wp2_with fail
        go_hide hQ
        go_loopw [7] (fun i wr => ∃ (j : Nat), j ≤ f.code.length ∧ i = .int .i64 j ∧ Hid (∀ q, q < j → unsetAt p f q = false) ∧ Hid (Hp w [{ w := w5, S := Fresh wst w5 }, { w := w, S := Lt w.heap.size }] [Res.blk g5 57 [Value.int IntKind.i64 f.params, Value.int IntKind.i64 f.regs, Value.slice A2 f.code.length c2], Res.blk g1 24 [Value.slice (some ad) p.funcs.length c]] wr)) (fun i _ => f.code.length - (intOf i).toNat)
        case atStart => exact ⟨0, by omega, rfl, Lib.hid (fun q hq => by omega), HP⟩
        case round =>
          clear HP
          obtain ⟨j, hj, rfl, HN, HP⟩ := hrel
          obtain ⟨wk, rfl⟩ : ∃ wk : World, wk = wr := ⟨_, rfl⟩
          by_cases hjl : j < f.code.length
          · have hjl2 : (j : Int) < (f.code.length : Int) := by omega
            obtain ⟨a2, rfl, hab2, hat2⟩ := HX2.out j hjl
            obtain ⟨x, hx⟩ : ∃ x, f.code[j] = x := ⟨_, rfl⟩
            rw [hx] at hat2
            have HATI := Lib.hid (HP.out.at_ (F := ⟨w, Lt w.heap.size⟩) (.tail _ (.head _)) hat2 (by rw [block_of_add]; exact hab2))
            have HATP : Hid (At wk ⟨g1, 0, none⟩ [.slice (some ad) p.funcs.length c]) := Lib.hid (HP.out.blkAt (.tail _ (.head _)) 0)
            have HXS := Lib.hid (show f.code[j]? = some x by rw [← hx, List.getElem?_eq_getElem hjl])
            have HOI := Lib.hid (HOF.out.ins x (hx ▸ List.getElem_mem hjl))
            clear hx hat2
            obtain ⟨s, hs⟩ : ∃ s, (sureL f)[j]? = some s := ⟨_, List.getElem?_eq_getElem (by rw [sureL_len]; omega)⟩
            have hsr := sureL_range (List.mem_of_getElem? hs)
            obtain ⟨s1, s2⟩ := hsr
            obtain ⟨hsb, hsc⟩ := HX5.out j s hs
            have HSC := Lib.hid hsc
            have HUN := Lib.hid (unsetAt_eq (p := p) HXS.out hs)
            clear hs hsc
            go_upto_region 12 with (first | (refine wpList_ld0 rfl 55 _ rfl HP.out rfl rfl Tryd.underlying55 rfl ?_) | (refine wpList_ld1 rfl 55 _ rfl HP.out rfl rfl Tryd.underlying55 rfl ?_))
            have hcf3 : ({ wk with drawn := wk.drawn + 1 } : World).cell? ⟨g5, 2, none⟩ = some (.slice (some a2) f.code.length c2) := HP.out.cell (.head _) 2 _ rfl
            have hcf2 : wk.cell? ⟨g5, 2, none⟩ = some (.slice (some a2) f.code.length c2) := HP.out.cell (.head _) 2 _ rfl
            refine wp_region_still_tail 6 (by kernel_rfl) (by kernel_rfl) ?_
            simp only [List.take_succ_cons, List.take_zero, List.drop_succ_cons, List.drop_zero]
            repeat (first | (refine wpStill_load_at rfl 65 _ rfl _ rfl _ _ (At.drew HATI.out) Tryd.underlying65 rfl (by kernel_rfl) ?_) | (refine wpStill_load_at rfl 24 _ rfl _ rfl _ _ (At.drew HATP.out) Tryd.underlying24 rfl (by kernel_rfl) ?_) | still_step)
            try refine wpStill_nil ?_
            clear hcf3 hcf2
            have HP0 := Lib.hid HP.out.drew
            go_upto_region 13 with (first | (go_at_call 31; refine (readsOf_any p _ x f.code.length _ (HP0.out.rep (F := ⟨w, Lt w.heap.size⟩) (.tail _ (.head _)) HR.out) HOK.out HOI.out).mono ?_; rintro e w6 ⟨v6, rfl, hv6, hb⟩; replace HP := Lib.hid (HP0.out.call hb); clear hb; obtain ⟨A6, c6, rfl, hc6, hm6, hx6⟩ := rep_ints_at hv6; unfold maxLen at hm6; have HX6 := Lib.hid hx6; clear hv6 hx6))
            have hin := readsL_in p x HOI.out
            have hl2 := readsL_len p x
            obtain ⟨l, hl⟩ : ∃ l, readsL p x = l := ⟨_, rfl⟩
            rw [hl] at hin hl2 HUN HX6 hc6
            have HL := Lib.hid hl
            have HIN := Lib.hid hin
            simp only [hl]
            clear hl hin
            have HSW := Lib.hid ((HP.out.alike (F := ⟨w5, Fresh wst w5⟩) (.tail _ (.head _)) (a5.add j) (by rw [block_of_add]; exact hsb)).trans HSC.out)
            (try simp only [Act.put, List.setIfInBounds_toArray, List.set_cons_zero, List.set_cons_succ])
            go_wp2_with fail
            go_hide hQ2
            go_loopw [9] (fun i wr => ∃ (t n : Nat), t ≤ l.length ∧ i = .int .i64 t ∧ Hid (∀ r ∈ l.take t, s < 0 ∨ bitZ s r.toNat = true) ∧ wr = w6.drewN n) (fun i _ => l.length - (intOf i).toNat)
            case atStart => exact ⟨0, 0, by omega, rfl, Lib.hid (fun r hr => by simp at hr), rfl⟩
            case round =>
              obtain ⟨t, n, ht, rfl, HB, rfl⟩ := hrel
              by_cases htl : t < l.length
              · have htl2 : (t : Int) < (l.length : Int) := by omega
                obtain ⟨a6, rfl, hab6, hc6'⟩ := HX6.out t htl
                have hr := HIN.out _ (List.getElem_mem htl)
                obtain ⟨r, hr0⟩ : ∃ r, l[t] = r := ⟨_, rfl⟩
                rw [hr0] at hr hc6'
                have HLT := Lib.hid (show l[t]? = some r by rw [← hr0, List.getElem?_eq_getElem htl])
                obtain ⟨y, rfl⟩ := Int.eq_ofNat_of_zero_le hr.1
                have hsw := HSW.out
                have hj3 : (j : Int) < (f.code.length : Int) + 1 := by omega
                clear hr0
                go_upto_region 16 with fail
                by_cases hs0 : 0 ≤ s
                · obtain ⟨bb, hbb⟩ : ∃ bb, bitZ s y = bb := ⟨_, rfl⟩
                  have HBB := Lib.hid hbb
                  have HS0 := Lib.hid hs0
                  clear hbb
                  go_quiet ((go_at_call 47; exact quiet_add_left (calls_value (hasBit_any s y (by omega) ⟨by omega, by omega⟩ _) (congrArg Value.bool HBB.out))))
                  cases bb
                  · have HBF : Hid (provenF p f = 6) := Lib.hid (provenF_bad hjl (by
                      rw [HUN.out]; unfold unsetB; rw [decide_eq_true HS0.out, Bool.true_and]
                      exact List.any_eq_true.2 ⟨_, List.mem_of_getElem? HLT.out, by rw [Int.toNat_natCast, HBB.out]; rfl⟩))
                    have HB6 := Lib.hid ((HBAD.out (by rw [HBF.out]; decide)).trans HBF.out)
                    go_wp2_with fail
                    subst hQ2
                    go_wp2_with fail
                    subst hQ
                    go_wp2_with fail
                    go_ret
                    exact ⟨ret_int HB6.out.symm, ((HP.out.drewN _).drewN _).below⟩
                  · go_wp2_with fail
                    go_roundw
                    case rel =>
                      refine ⟨t + 1, n + nq, by omega, by go_num, Lib.hid fun r hr => ?_, rfl⟩
                      rw [List.take_add_one, HLT.out] at hr
                      rcases List.mem_append.1 hr with hr | hr
                      · exact HB.out r hr
                      · obtain rfl : r = (y : Int) := by simpa using hr
                        exact .inr (by rw [Int.toNat_natCast]; exact HBB.out)
                    case measure => simp [intOf]; omega
                · have hs1 : s < 0 := by omega
                  have hsd : decide (0 ≤ s) = false := decide_eq_false (by omega)
                  clear hs0
                  go_quiet (fail)
                  go_wp2_with fail
                  go_roundw
                  case rel => exact ⟨t + 1, n + nq, by omega, by go_num, Lib.hid fun r hr => .inl hs1, rfl⟩
                  case measure => simp [intOf]; omega
              · obtain rfl : t = l.length := by omega
                have HUK : Hid (unsetAt p f j = false) := Lib.hid (by
                  rw [HUN.out]; unfold unsetB
                  by_cases hs0 : 0 ≤ s
                  · rw [decide_eq_true hs0, Bool.true_and, List.any_eq_false]
                    intro r hr
                    have := (HB.out r (by rw [List.take_of_length_le (Nat.le_refl _)]; exact hr)).resolve_left (by omega)
                    rw [this]; decide
                  · rw [decide_eq_false hs0]; rfl)
                go_wp2_with fail
                subst hQ2
                go_wp2_with fail
                go_roundw
                case rel =>
                  refine ⟨j + 1, by omega, by go_num, Lib.hid fun q hq => ?_, Lib.hid ((HP.out.drewN n).froDrop)⟩
                  by_cases e : q = j
                  · rw [e]; exact HUK.out
                  · exact HN.out q (by omega)
                case measure => simp [intOf]; omega
          · obtain rfl : j = f.code.length := by omega
            obtain ⟨s, hs⟩ : ∃ s, (sureL f)[f.code.length]? = some s := ⟨_, List.getElem?_eq_getElem (by rw [sureL_len]; omega)⟩
            obtain ⟨hsb, hsc⟩ := HX5.out _ s hs
            have HSW := Lib.hid ((HP.out.alike (F := ⟨w5, Fresh wst w5⟩) (.head _) (a5.add f.code.length) (by rw [block_of_add]; exact hsb)).trans hsc)
            have HEND := Lib.hid (endsAt_eq hs)
            clear hs hsc
            have hcl := HP.out.cell (.head _) 2 _ rfl
            have hsw := HSW.out
            by_cases hs0 : 0 ≤ s
            · have HS0 := Lib.hid hs0
              have HBF : Hid (provenF p f = 7) := Lib.hid (by rw [provenF_good HN.out, HEND.out, decide_eq_true HS0.out]; rfl)
              have HB6 := Lib.hid ((HBAD.out (by rw [HBF.out]; decide)).trans HBF.out)
              go_wp2_with fail
              subst hQ
              go_wp2_with fail
              go_ret
              exact ⟨ret_int HB6.out.symm, HP.out.below⟩
            · have hsd : decide (0 ≤ s) = false := decide_eq_false hs0
              have HS0 := Lib.hid hsd
              have hs1 : s < 0 := by omega
              clear hs0
              go_wp2_with fail
              subst hQ
              go_wp2_with fail
              go_roundw
              case rel =>
                refine ⟨k + 1, by omega, by go_num, Lib.hid fun g hg => ?_, Lib.hid (Hp.drop (A := []) HP.out.froDrop)⟩
                rw [List.take_add_one, HF.out] at hg
                rcases List.mem_append.1 hg with hg | hg
                · exact HU.out g hg
                · obtain rfl : g = f := by simpa using hg
                  rw [provenF_good HN.out, HEND.out, HS0.out]; rfl
              case measure => simp [intOf]; omega
      · obtain rfl : k = p.funcs.length := by omega
        have HALL := Lib.hid (proven_all HZ.out (by have := HU.out; rwa [List.take_of_length_le (Nat.le_refl _)] at this))
        go_wp2_with (first | (refine wpList_ld0 rfl 22 _ rfl HP.out rfl rfl Tryd.underlying22 rfl ?_))
        go_ret
        exact ⟨ret_int HALL.out.symm, HP.out.below⟩
  · have HANS := Lib.hid (proven_bad hz)
    obtain ⟨e0, he0⟩ : ∃ e0, prgFault p = e0 := ⟨_, rfl⟩
    rw [he0] at hz HANS
    have HE0 := Lib.hid he0
    have hzb : (e0 != 0) = true := by simpa using hz
    clear he0 hz
    go_enter Tryd.func60, Tryd.ntmps60
    go_wp2_with (first | (refine wpList_box_hp (o := ⟨some 1, _, _, _, _, _⟩) rfl _ _ rfl HP.out [_] rfl ?_; clear HP; intro g1 w1 HP; replace HP := Lib.hid HP) | (refine wpList_ldR0 rfl 24 _ rfl HP.out rfl Tryd.underlying24 rfl (by kernel_rfl) ?_) | (go_at_call 75; refine (progFault_any p _ _ (HP.out.rep (F := ⟨w, Lt w.heap.size⟩) (by simp) HR.out)).mono ?_; rintro e w4 ⟨rfl, hb⟩; replace HP := Lib.hid (HP.out.call0 hb); clear hb; rw [HE0.out]))
    go_ret
    exact ⟨ret_int HANS.out.symm, HP.out.below⟩
end Go.Proofs.YtnabeibnaoahmaaDoor
