/- step.Check. -/
import Derived.Test.YtigbdlcjnnphbaaDoorMgBitsReadsStateLawWrapS4
import Derived.Test.YtigbdlcjnnphbaaDoorMgStateNextLaw2
import Derived.Test.YtigbdlcjnnphbaaDoorMgSureTProvenProvenB3
set_option linter.unusedSimpArgs false
set_option linter.unusedVariables false
namespace Go.Proofs.YtigbdlcjnnphbaaDoor
open Go.RowKit Plain64
attribute [local irreducible] wpList Code.wp Oper.wp
set_option maxRecDepth 10000 in
set_option maxHeartbeats 40000000 in
theorem stepCheck_any (p : Prg) (v : Value) (s : Sta) (u e a : Value) (w : World) (hp : Lay.rep w (Lt w.heap.size) p [v]) (hf : Lay.rep w (Lt w.heap.size) s.frames [u]) (he : Lay.rep w (Lt w.heap.size) s.events [e]) (ha : Lay.rep w (Lt w.heap.size) s.answers [a]) (hh : Has w) :
    Calls Tryd.prog 10 #[.agg #[v], .agg (staCells s u e a).toArray] w fun r w' => r = .returned (.int .i64 (stateFault p s)) ∧ Below w.heap.size w w' := by
  obtain ⟨A, c, rfl, hc, hm, hx⟩ := rep_prg_at hp
  obtain ⟨A2, c2, rfl, hc2, hm2, hx2⟩ := rep_frames_at hf
  obtain ⟨A3, c3, rfl, hc3, hm3, -⟩ := rep_ints_at ha
  unfold maxLen at hm hm2 hm3
  have HX := Lib.hid hx
  have HX2 := Lib.hid hx2
  have HR := Lib.hid hp
  have HH := Lib.hid hh
  clear hx hx2 hp hh hf ha he
  unfold staCells
  have HP := Lib.hid (Hp.start w)
  by_cases hz : proven p = 0
  · have HZ := Lib.hid hz
    clear hz
    go_enter Tryd.func10, Tryd.ntmps10
    go_upto_region 2 with (first | (refine wpList_box_hp (o := ⟨some 2, _, _, _, _, _⟩) rfl _ _ rfl HP.out [_] rfl ?_; clear HP; intro g2 w2 HP; replace HP := Lib.hid HP) | (refine wpList_box_hp (o := ⟨some 3, _, _, _, _, _⟩) rfl _ _ rfl HP.out [_, _, _, _, _, _, _, _, _, _, _, _, _, _, _, _, _, _, _, _, _, _] rfl ?_; clear HP; intro g3 w3 HP; replace HP := Lib.hid HP) | (refine wpList_ldR0 rfl 24 _ rfl HP.out rfl Tryd.underlying24 rfl (by kernel_rfl) ?_) | (refine wpList_ldR1 rfl 24 _ rfl HP.out rfl Tryd.underlying24 rfl (by kernel_rfl) ?_) | (go_at_call 18; refine (proofCheck_any p _ _ (HP.out.rep (F := ⟨w, Lt w.heap.size⟩) (by simp) HR.out) (HH.out.keep HP.out.below rfl)).mono ?_; rintro e w4 ⟨rfl, hb⟩; replace HP := Lib.hid (HP.out.call0 hb); clear hb; rw [HZ.out]))
    have hc0 := HP.out.cell (.head _) 0 _ rfl
    have hc1 := HP.out.cell (.head _) 1 _ rfl
    have hcf := HP.out.cell (.head _) 2 _ rfl
    have hcu := HP.out.cell (.head _) 19 _ rfl
    have hca := HP.out.cell (.head _) 21 _ rfl
    have hcp := HP.out.cell (.tail _ (.head _)) 0 _ rfl
    rcases head_cases s with ⟨hok, a1, a2, a3, a4, a5, a6, a7⟩ | a1 | ⟨a1, a2⟩ | ⟨a1, a2, a3⟩ | ⟨a1, a2, a3, a4⟩ | ⟨a1, a2, a3, a4, a5⟩ | ⟨a1, a2, a3, a4, a5, a6⟩ | ⟨a1, a2, a3, a4, a5, a6, a7, a8⟩ | ⟨a1, a2, a3, a4, a5, a6, a7, a8, a9⟩ | ⟨a1, a2, a3, a4, a5, a6, a7, a8⟩
    case inl =>
      have HOK2 := Lib.hid hok
      have HPR := Lib.hid (okP_of (proven_prg HZ.out))
      obtain ⟨n1, n2⟩ := HPR.out.len
      clear hok
      have e1 : decide (s.status < 0) = false := decide_eq_false (by omega)
      have e2 : decide (5 < s.status) = false := decide_eq_false (by omega)
      have e3 : decide (s.fuel < 0) = false := decide_eq_false (by omega)
      have e4 : decide (10000 < s.fuel) = false := decide_eq_false (by omega)
      have e5 : decide (8 < (s.frames.length : Int)) = false := decide_eq_false (by omega)
      have e6 : decide (100 < (s.answers.length : Int)) = false := decide_eq_false (by omega)
      rcases a7 with ⟨a7, a8⟩ | ⟨a7, a9, a8⟩
      · have b7 : (s.status != 1) = false := by rw [bne, a7]; rfl
        go_wp2_with fail
        have hl0 : (s.frames.length : Int) = 0 := by simpa using a8
        have HL0 := Lib.hid (show s.frames = [] by have : s.frames.length = 0 := by omega
                                                   exact List.length_eq_zero_iff.1 this)
        go_loopw [65] (fun i wr => i = .int .i64 0 ∧ Hid (Hp w [{ w := w, S := Lt w.heap.size }] [Res.blk g3 29 (staCells s (.slice A2 s.frames.length c2) e (.slice A3 s.answers.length c3)), Res.blk g2 24 [Value.slice A p.funcs.length c]] wr)) (fun i _ => 0)
        case atStart => exact ⟨rfl, HP⟩
        case round =>
          clear HP
          obtain ⟨rfl, HP⟩ := hrel
          have HB := Lib.hid (sf_ok HZ.out HOK2.out (FramesOk.mk (p := p) (by rw [HL0.out]; exact fun f hf => (by cases hf)) (by rw [HL0.out]; exact fun i f g h => (by simp at h))))
          go_wp2_with fail
          go_ret
          exact ⟨ret_int HB.out.symm, HP.out.below⟩
      · have b7 : (s.status != 1) = true := by rw [bne, a7]; rfl
        have b9 : (s.value != 0) = false := by rw [bne, a9]; rfl
        go_wp2_with fail
        go_loopw [65] (fun i wr => ∃ (k : Nat), k ≤ s.frames.length ∧ i = .int .i64 k ∧ Hid (∀ f ∈ s.frames.take k, ownF p f) ∧ Hid (∀ (i : Nat) f g, i < k → s.frames[i]? = some f → s.frames[i + 1]? = some g → linkF p f g) ∧ Hid (Hp w [{ w := w, S := Lt w.heap.size }] [Res.blk g3 29 (staCells s (.slice A2 s.frames.length c2) e (.slice A3 s.answers.length c3)), Res.blk g2 24 [Value.slice A p.funcs.length c]] wr)) (fun i _ => s.frames.length - (intOf i).toNat)
        case atStart => exact ⟨0, by omega, rfl, Lib.hid (fun f hf => by simp at hf), Lib.hid (fun i f g h => by omega), HP⟩
        case round =>
          clear HP hc0 hc1 hcf hcu hca hcp e1 e2 e3 e4 e5 e6 b7 b9 a1 a2 a3 a4 a6 a7 a8 a9
          obtain ⟨k, hk, rfl, HOW, HLK, HP⟩ := hrel
          obtain ⟨wo, rfl⟩ : ∃ wo : World, wo = wr := ⟨_, rfl⟩
          by_cases hlt : k < s.frames.length
          · have hlt2 : (k : Int) < (s.frames.length : Int) := by omega
            obtain ⟨a2', rfl, hab, hat⟩ := HX2.out k hlt
            obtain ⟨x, hx⟩ : ∃ x, s.frames[k] = x := ⟨_, rfl⟩
            rw [hx] at hat
            have HXK := Lib.hid (show s.frames[k]? = some x by rw [← hx, List.getElem?_eq_getElem hlt])
            unfold frmCells at hat
            have HAT := Lib.hid (HP.out.at_ (F := ⟨w, Lt w.heap.size⟩) (.head _) hat (by rw [block_of_add]; exact hab))
            clear hx hat
            go_upto_region 11 with (first | (refine wpList_load_at rfl 42 _ rfl _ rfl _ _ HAT.out Tryd.underlying42 rfl (by kernel_rfl) ?_) | (refine wpList_alloc_hp (o := ⟨some 7, _, _, _, _, _⟩) rfl _ rfl HP.out (.agg #[.int .i64 0, .int .i64 0, .int .i64 0, .int .i64 0, .int .i64 0, .int .i64 0, .int .i64 0, .int .i64 0, .int .i64 0, .int .i64 0, .int .i64 0, .int .i64 0, .int .i64 0, .int .i64 0]) (by kernel_rfl) [_, _, _, _, _, _, _, _, _, _, _, _, _, _] rfl ?_; clear HP; intro g7 w7 HP; replace HP := Lib.hid HP) | (refine wpList_stR0 rfl 42 _ _ rfl HP.out rfl (cs' := [_, _, _, _, _, _, _, _, _, _, _, _, _, _]) rfl rfl (by simp [Value.oneCell']) (by kernel_rfl) ?_; clear HP; intro wst HP; replace HP := Lib.hid HP))
            (try simp only [Act.put, List.setIfInBounds_toArray, List.set_cons_zero, List.set_cons_succ])
            have hcfn := HP.out.cell (.head _) 0 _ rfl
            have hcpc := HP.out.cell (.head _) 1 _ rfl
            have hcf := HP.out.cell (.tail _ (.head _)) 2 _ rfl
            have hcp := HP.out.cell (.tail _ (.tail _ (.head _))) 0 _ rfl
            have hxm := List.mem_of_getElem? HXK.out
            by_cases hfn : 0 ≤ x.fn ∧ x.fn < p.funcs.length
            · obtain ⟨f1, f2⟩ := hfn
              obtain ⟨n, hn⟩ := Int.eq_ofNat_of_zero_le f1
              have hnl : n < p.funcs.length := by omega
              obtain ⟨ad, v, rfl, hab3, hat3, hcode⟩ := HX.out n hnl
              obtain ⟨f0, hf0⟩ : ∃ f0, p.funcs[n] = f0 := ⟨_, rfl⟩
              rw [hf0] at hat3 hcode
              have HF := Lib.hid (show p.funcs[n]? = some f0 by rw [← hf0, List.getElem?_eq_getElem hnl])
              have HFC := Lib.hid (show codeOf p x.fn = f0.code by rw [hn]; exact codeOf_eq HF.out)
              obtain ⟨A4, c4, rfl, hc4, hm4, hx4⟩ := rep_code hcode
              unfold maxLen at hm4
              have HX4 := Lib.hid hx4
              have hcl := (HP.out.at_ (F := ⟨w, Lt w.heap.size⟩) (.head _) hat3 (by rw [block_of_add]; exact hab3)).fld 1 rfl
              have HN := Lib.hid hn
              rw [hn] at hcfn f1 f2
              clear hf0 hat3 hcode hx4 hn
              by_cases hpc : 0 ≤ x.pc ∧ x.pc < f0.code.length
              · obtain ⟨q1, q2⟩ := hpc
                obtain ⟨j, hj⟩ := Int.eq_ofNat_of_zero_le q1
                have hjl : j < f0.code.length := by omega
                obtain ⟨a4, rfl, hab4, hat4⟩ := HX4.out j hjl
                obtain ⟨y, hy⟩ : ∃ y, f0.code[j] = y := ⟨_, rfl⟩
                rw [hy] at hat4
                have HY := Lib.hid (insAt_eq HN.out hj HF.out (show f0.code[j]? = some y by rw [← hy, List.getElem?_eq_getElem hjl]))
                have hata := HP.out.at_ (F := ⟨w, Lt w.heap.size⟩) (.head _) hat4 (by rw [block_of_add]; exact hab4)
                have hyop := hata.fld0 rfl
                have hyim := hata.fld 3 rfl
                have HOWN := Lib.hid (show ownF p x from ⟨by rw [HN.out]; omega, by rw [HN.out]; omega, by omega, by rw [HFC.out]; omega⟩)
                have HJ := Lib.hid hj
                rw [hj] at hcpc q1 q2
                have HXM := Lib.hid hxm
                clear hy hat4 hata hj hxm
                go_upto_region 14 with fail
                have hstep : ∀ f ∈ s.frames.take (k + 1), ownF p f := fun f hf => by
                  rw [List.take_add_one, HXK.out] at hf
                  rcases List.mem_append.1 hf with hf | hf
                  · exact HOW.out f hf
                  · obtain rfl : f = x := by simpa using hf
                    exact HOWN.out
                have HSTEP := Lib.hid hstep
                clear hstep
                obtain ⟨k1, hk1⟩ : ∃ k1, k + 1 = k1 := ⟨_, rfl⟩
                have HW1 := Lib.hid (wrapI_succ k k1 hk1 (by omega))
                have HW2 := Lib.hid (wrap64_succ k k1 hk1 (by omega))
                have HK1 := Lib.hid hk1
                by_cases hnx : k + 1 < s.frames.length
                · rw [hk1] at hnx
                  have hnx2 : (k1 : Int) < (s.frames.length : Int) := by omega
                  have hnx3 : (0 : Int) ≤ (k1 : Int) := by omega
                  obtain ⟨a5', ha5, hab5, hat5⟩ := HX2.out k1 hnx
                  cases ha5
                  obtain ⟨g, hg⟩ : ∃ g, s.frames[k1] = g := ⟨_, rfl⟩
                  rw [hg] at hat5
                  have HG := Lib.hid (show s.frames[k1]? = some g by rw [← hg, List.getElem?_eq_getElem hnx])
                  unfold frmCells at hat5
                  have hd1 : decide ((j : Int) < 0) = false := decide_eq_false (by omega)
                  have hd2 : decide (f0.code.length ≤ j) = false := decide_eq_false (by omega)
                  have hd3 : decide (k1 < s.frames.length) = true := decide_eq_true (by omega)
                  have hgn := (HP.out.at_ (F := ⟨w, Lt w.heap.size⟩) (.head _) hat5 (by rw [block_of_add]; exact hab5)).fld0 rfl
                  have HGK : Hid (s.frames[k + 1]? = some g) := Lib.hid (by rw [hk1]; exact HG.out)
                  clear hg hat5 hk1
                  by_cases hop : y.op = 17
                  · have hopb : (y.op != 17) = false := by simpa using hop
                    have HOP := Lib.hid hop
                    clear hop
                    by_cases him : y.imm = g.fn
                    · have himb : (y.imm != g.fn) = false := by simpa using him
                      have HIM := Lib.hid him
                      clear him
                      have hw1 := HW1.out
                      have hw2 := HW2.out
                      go_quiet (fail)
                      clear hw1 hw2
                      go_wp2_with fail
                      go_roundw
                      case rel =>
                        refine ⟨k + 1, by omega, by go_num, HSTEP, Lib.hid fun i f g' hi hf hg' => ?_, Lib.hid (Hp.drop (A := []) (HP.out.drewN nq))⟩
                        by_cases e : i = k
                        · subst e
                          rw [HXK.out] at hf; cases hf
                          rw [HGK.out] at hg'; cases hg'
                          exact ⟨by rw [HY.out]; exact HOP.out, by rw [HY.out]; exact HIM.out⟩
                        · exact HLK.out i f g' (by omega) hf hg'
                      case measure => simp [intOf]; omega
                    · have himb : (y.imm != g.fn) = true := by simpa using him
                      have HB := Lib.hid (sf_frames HZ.out (s := s) (fun h => by have := (h.link k x g HXK.out HGK.out).2; rw [HY.out] at this; exact him this))
                      clear him
                      have hw1 := HW1.out
                      have hw2 := HW2.out
                      go_quiet (fail)
                      clear hw1 hw2
                      go_wp2_with fail
                      go_ret
                      exact ⟨ret_int HB.out.symm, (HP.out.drewN _).below⟩
                  · have hopc : (y.op = 17) = False := eq_false hop
                    have HB := Lib.hid (sf_frames HZ.out (s := s) (fun h => by have := (h.link k x g HXK.out HGK.out).1; rw [HY.out] at this; exact hop this))
                    clear hop
                    have hw1 := HW1.out
                    have hw2 := HW2.out
                    go_quiet (fail)
                    clear hw1 hw2
                    go_wp2_with fail
                    go_ret
                    exact ⟨ret_int HB.out.symm, (HP.out.drewN _).below⟩
                · have hnx2 : (s.frames.length : Int) ≤ (k1 : Int) := by omega
                  have hd1 : decide ((j : Int) < 0) = false := decide_eq_false (by omega)
                  have hd2 : decide (f0.code.length ≤ j) = false := decide_eq_false (by omega)
                  have hd3 : decide (k1 < s.frames.length) = false := decide_eq_false (by omega)
                  have hd4 : decide ((k1 : Int) < (s.frames.length : Int)) = false := decide_eq_false (by omega)
                  have hd5 : decide ((f0.code.length : Int) ≤ (j : Int)) = false := decide_eq_false (by omega)
                  have HNX := Lib.hid hnx
                  have HLT := Lib.hid hlt
                  have HA5 := Lib.hid a5
                  clear hnx hk1 hnx2 q1 q2 hjl f1 f2 hnl hlt2 hlt a5 n1 n2 hk
                  have hw1 := HW1.out
                  have hw2 := HW2.out
                  go_quiet (fail)
                  clear hw1 hw2
                  have hlt := HLT.out
                  have a5 := HA5.out
                  go_wp2_with fail
                  go_roundw
                  case rel =>
                    refine ⟨k + 1, by omega, by go_num, HSTEP, Lib.hid fun i f g' hi hf hg' => ?_, Lib.hid (Hp.drop (A := []) (HP.out.drewN nq))⟩
                    have := (List.getElem?_eq_some_iff.1 hg').1
                    have := HNX.out
                    exact HLK.out i f g' (by omega) hf hg'
                  case measure => simp [intOf]; omega
              · have HB := Lib.hid (sf_frames HZ.out (s := s) (fun h => by have := h.own x hxm; unfold ownF at this; rw [HFC.out] at this; omega))
                clear hxm
                have hq : x.pc < 0 ∨ (0 ≤ x.pc ∧ (f0.code.length : Int) ≤ x.pc) := by omega
                clear hpc
                rcases hq with q1 | ⟨q1, q2⟩
                · go_upto_region 14 with fail
                  have hv1 : decide (x.pc < 0) = true := decide_eq_true q1
                  clear q1
                  go_quiet (fail)
                  go_wp2_with fail
                  go_ret
                  exact ⟨ret_int HB.out.symm, (HP.out.drewN _).below⟩
                · go_upto_region 14 with fail
                  have hv1 : decide (x.pc < 0) = false := decide_eq_false (by omega)
                  have hv2 : decide ((f0.code.length : Int) ≤ x.pc) = true := decide_eq_true q2
                  clear q1 q2
                  go_quiet (fail)
                  go_wp2_with fail
                  go_ret
                  exact ⟨ret_int HB.out.symm, (HP.out.drewN _).below⟩
            · have HB := Lib.hid (sf_frames HZ.out (s := s) (fun h => by have := h.own x hxm; unfold ownF at this; omega))
              clear hxm
              have hq : x.fn < 0 ∨ (0 ≤ x.fn ∧ (p.funcs.length : Int) ≤ x.fn) := by omega
              clear hfn
              rcases hq with q1 | ⟨q1, q2⟩
              all_goals
                go_wp2_with fail
                go_ret
                exact ⟨ret_int HB.out.symm, HP.out.below⟩
          · obtain rfl : k = s.frames.length := by omega
            have HB := Lib.hid (sf_ok HZ.out HOK2.out ⟨by have := HOW.out; rwa [List.take_of_length_le (Nat.le_refl _)] at this, fun i f g h h' => HLK.out i f g (List.getElem?_eq_some_iff.1 h).1 h h'⟩)
            go_wp2_with fail
            go_ret
            exact ⟨ret_int HB.out.symm, HP.out.below⟩
    all_goals
      (try have b7 : (s.status != 1) = true := by rw [bne, a7]; rfl)
      (try have b8 : (s.value != 0) = true := by rw [bne, a8]; rfl)
      have HB := Lib.hid (sf_head HZ.out (s := s) (head_not (by (first | omega | simp only [*, true_and, and_self, true_or, or_true]))))
      go_wp2_with fail
      all_goals
        go_ret
        exact ⟨ret_int HB.out.symm, HP.out.below⟩
  · have HB := Lib.hid (sf_bad (s := s) hz)
    obtain ⟨e0, he0⟩ : ∃ e0, proven p = e0 := ⟨_, rfl⟩
    rw [he0] at hz HB
    have HE0 := Lib.hid he0
    have hzb : (e0 != 0) = true := by simpa using hz
    clear he0 hz
    go_enter Tryd.func10, Tryd.ntmps10
    go_wp2_with (first | (refine wpList_box_hp (o := ⟨some 2, _, _, _, _, _⟩) rfl _ _ rfl HP.out [_] rfl ?_; clear HP; intro g2 w2 HP; replace HP := Lib.hid HP) | (refine wpList_box_hp (o := ⟨some 3, _, _, _, _, _⟩) rfl _ _ rfl HP.out [_, _, _, _, _, _, _, _, _, _, _, _, _, _, _, _, _, _, _, _, _, _] rfl ?_; clear HP; intro g3 w3 HP; replace HP := Lib.hid HP) | (refine wpList_ldR0 rfl 24 _ rfl HP.out rfl Tryd.underlying24 rfl (by kernel_rfl) ?_) | (refine wpList_ldR1 rfl 24 _ rfl HP.out rfl Tryd.underlying24 rfl (by kernel_rfl) ?_) | (go_at_call 18; refine (proofCheck_any p _ _ (HP.out.rep (F := ⟨w, Lt w.heap.size⟩) (by simp) HR.out) (HH.out.keep HP.out.below rfl)).mono ?_; rintro e w4 ⟨rfl, hb⟩; replace HP := Lib.hid (HP.out.call0 hb); clear hb; rw [HE0.out]))
    go_ret
    exact ⟨ret_int HB.out.symm, HP.out.below⟩
end Go.Proofs.YtigbdlcjnnphbaaDoor
