/- ref.StateFault. -/
import Derived.Test.YtigbdlcjnnphbaaDoorMgBitsReadsStateLawWrapS4
import Derived.Test.YtigbdlcjnnphbaaDoorMgStateNextLaw2
import Derived.Test.YtigbdlcjnnphbaaDoorMgSureSProvenC2
import Derived.Deep.RegionHeld
set_option linter.unusedSimpArgs false
set_option linter.unusedVariables false
namespace Go.Proofs.YtigbdlcjnnphbaaDoor
open Go.RowKit Plain64
attribute [local irreducible] wpList Code.wp Oper.wp
set_option maxRecDepth 10000 in
set_option maxHeartbeats 2000000 in
theorem stateFault_any (p : Prg) (v : Value) (s : Sta) (u e a : Value) (w : World) (hp : Lay.rep w (Lt w.heap.size) p [v]) (hf : Lay.rep w (Lt w.heap.size) s.frames [u]) (he : Lay.rep w (Lt w.heap.size) s.events [e]) (ha : Lay.rep w (Lt w.heap.size) s.answers [a]) :
    Calls Tryd.prog 13 #[.agg #[v], .agg (staCells s u e a).toArray] w fun r w' => r = .returned (.int .i64 (stateFault p s)) ∧ Below w.heap.size w w' := by
  obtain ⟨A, c, rfl, hc, hm, hx⟩ := rep_prg_at hp
  obtain ⟨A2, c2, rfl, hc2, hm2, hx2⟩ := rep_frames_at hf
  obtain ⟨A3, c3, rfl, hc3, hm3, -⟩ := rep_ints_at ha
  unfold maxLen at hm hm2 hm3
  have HX := Lib.hid hx
  have HX2 := Lib.hid hx2
  have HR := Lib.hid hp
  clear hx hx2 hp hf ha he
  unfold staCells
  have HP := Lib.hid (Hp.start w)
  by_cases hz : proven p = 0
  · have HZ := Lib.hid hz
    clear hz
    go_enter Tryd.func13, Tryd.ntmps13
    go_upto_region 2 with (first | (refine wpList_box_hp (o := ⟨some 2, _, _, _, _, _⟩) rfl _ _ rfl HP.out [_] rfl ?_; clear HP; intro g2 w2 HP; replace HP := Lib.hid HP) | (refine wpList_box_hp (o := ⟨some 3, _, _, _, _, _⟩) rfl _ _ rfl HP.out [_, _, _, _, _, _, _, _, _, _, _, _, _, _, _, _, _, _, _, _, _, _] rfl ?_; clear HP; intro g3 w3 HP; replace HP := Lib.hid HP) | (refine wpList_ldR0 rfl 24 _ rfl HP.out rfl Tryd.underlying24 rfl (by kernel_rfl) ?_) | (refine wpList_ldR1 rfl 24 _ rfl HP.out rfl Tryd.underlying24 rfl (by kernel_rfl) ?_) | (go_at_call 24; refine (Proven_any p _ _ (HP.out.rep (F := ⟨w, Lt w.heap.size⟩) (by simp) HR.out)).mono ?_; rintro e w4 ⟨rfl, hb⟩; replace HP := Lib.hid (HP.out.call0 hb); clear hb; rw [HZ.out]))
    have hc0 := HP.out.cell (.head _) 0 _ rfl
    have hc1 := HP.out.cell (.head _) 1 _ rfl
    have hcf := HP.out.cell (.head _) 2 _ rfl
    have hcu := HP.out.cell (.head _) 19 _ rfl
    have hca := HP.out.cell (.head _) 21 _ rfl
    have hcp := HP.out.cell (.tail _ (.head _)) 0 _ rfl
    rcases head_cases s with ⟨hok, a1, a2, a3, a4, a5, a6, a7⟩ | a1 | ⟨a1, a2⟩ | ⟨a1, a2, a3⟩ | ⟨a1, a2, a3, a4⟩ | ⟨a1, a2, a3, a4, a5⟩ | ⟨a1, a2, a3, a4, a5, a6⟩ | ⟨a1, a2, a3, a4, a5, a6, a7, a8⟩ | ⟨a1, a2, a3, a4, a5, a6, a7, a8, a9⟩ | ⟨a1, a2, a3, a4, a5, a6, a7, a8⟩
    case inl =>
      have HOK2 := Lib.hid hok
      have HPR := Lib.hid (okP_of (proven_prg HZ.out))
      obtain ⟨n1, n2⟩ := HPR.out.len
      clear hok
      rcases a7 with ⟨a7, a8⟩ | ⟨a7, a9, a8⟩
      · have b7 : (s.status != 1) = false := by rw [bne, a7]; rfl
        have hl0 : (s.frames.length : Int) = 0 := by simpa using a8
        have HL0 := Lib.hid (show s.frames = [] by have : s.frames.length = 0 := by omega
                                                   exact List.length_eq_zero_iff.1 this)
        go_wp2_with (first | (go_at_call 25; refine (In_any _ _ _ _).mono ?_; rintro e w' ⟨rfl, rfl⟩))
        go_loopw [6] (fun i wr => i = .int .i64 0 ∧ Hid (Hp w [{ w := w, S := Lt w.heap.size }] [Res.blk g3 29 (staCells s (.slice A2 s.frames.length c2) e (.slice A3 s.answers.length c3)), Res.blk g2 24 [Value.slice A p.funcs.length c]] wr)) (fun i _ => 0)
        case atStart => exact ⟨rfl, HP⟩
        case round =>
          clear HP hcf
          obtain ⟨rfl, HP⟩ := hrel
          have HB := Lib.hid (sf_ok HZ.out HOK2.out (FramesOk.mk (p := p) (by rw [HL0.out]; exact fun f hf => (by cases hf)) (by rw [HL0.out]; exact fun i f g h => (by simp at h))))
          have hcf := HP.out.cell (.head _) 2 _ rfl
          go_wp2_with fail
          go_ret
          exact ⟨ret_int HB.out.symm, HP.out.below⟩
      · have b7 : (s.status != 1) = true := by rw [bne, a7]; rfl
        have b9 : (s.value != 0) = false := by rw [bne, a9]; rfl
        have hl0 : decide (0 < (s.frames.length : Int)) = true := by rw [beq_eq_false_iff_ne] at a8; simp; omega
        go_wp2_with (first | (go_at_call 25; refine (In_any _ _ _ _).mono ?_; rintro e w' ⟨rfl, rfl⟩))
        clear hl0 hc0 hc1 hcf hcu hca hcp b7 b9
        go_loopw [6] (fun i wr => ∃ (k : Nat), k ≤ s.frames.length ∧ i = .int .i64 k ∧ Hid (∀ f ∈ s.frames.take k, ownF p f) ∧ Hid (∀ (i : Nat) f g, i + 1 < k → s.frames[i]? = some f → s.frames[i + 1]? = some g → linkF p f g) ∧ Hid (Hp w [{ w := w, S := Lt w.heap.size }] [Res.blk g3 29 (staCells s (.slice A2 s.frames.length c2) e (.slice A3 s.answers.length c3)), Res.blk g2 24 [Value.slice A p.funcs.length c]] wr)) (fun i _ => s.frames.length - (intOf i).toNat)
        case atStart => exact ⟨0, by omega, rfl, Lib.hid (fun f hf => by simp at hf), Lib.hid (fun i f g h => by omega), HP⟩
        case round =>
          clear HP
          obtain ⟨k, hk, rfl, HOW, HLK, HP⟩ := hrel
          obtain ⟨wo, rfl⟩ : ∃ wo : World, wo = wr := ⟨_, rfl⟩
          by_cases hlt : k < s.frames.length
          · have hlt2 : (k : Int) < (s.frames.length : Int) := by omega
            obtain ⟨a2', rfl, hab, hat⟩ := HX2.out k hlt
            obtain ⟨x, hx⟩ : ∃ x, s.frames[k] = x := ⟨_, rfl⟩
            rw [hx] at hat
            have HXK := Lib.hid (show s.frames[k]? = some x by rw [← hx, List.getElem?_eq_getElem hlt])
            unfold frmCells at hat
            have HAT := Lib.hid (HP.out.at_ (F := ⟨w, Lt w.heap.size⟩) (.head _) hat (by rw [block_of_add]; exact hab))
            clear hx hat
            go_upto_region 12 with (first | (refine wpList_ld0 rfl 25 _ rfl HP.out rfl rfl Tryd.underlying25 rfl ?_) | (refine wpList_load_at rfl 42 _ rfl _ rfl _ _ HAT.out Tryd.underlying42 rfl (by kernel_rfl) ?_) | (refine wpList_alloc_hp (o := ⟨some 7, _, _, _, _, _⟩) rfl _ rfl HP.out (.agg #[.int .i64 0, .int .i64 0, .int .i64 0, .int .i64 0, .int .i64 0, .int .i64 0, .int .i64 0, .int .i64 0, .int .i64 0, .int .i64 0, .int .i64 0, .int .i64 0, .int .i64 0, .int .i64 0]) (by kernel_rfl) [_, _, _, _, _, _, _, _, _, _, _, _, _, _] rfl ?_; clear HP; intro g7 w7 HP; replace HP := Lib.hid HP) | (refine wpList_stR0 rfl 42 _ _ rfl HP.out rfl (cs' := [_, _, _, _, _, _, _, _, _, _, _, _, _, _]) rfl rfl (by simp [Value.oneCell']) (by kernel_rfl) ?_; clear HP; intro wst HP; replace HP := Lib.hid HP))
            (try simp only [Act.put, List.setIfInBounds_toArray, List.set_cons_zero, List.set_cons_succ])
            clear a1 a2 a3 a4 a6 a7 a8 a9
            have hcfn := HP.out.cell (.head _) 0 _ rfl
            have hcpc := HP.out.cell (.head _) 1 _ rfl
            have hcf := HP.out.cell (.tail _ (.head _)) 2 _ rfl
            have hcp := HP.out.cell (.tail _ (.tail _ (.head _))) 0 _ rfl
            have hxm := List.mem_of_getElem? HXK.out
            by_cases hfn : 0 ≤ x.fn ∧ x.fn < p.funcs.length
            · obtain ⟨f1, f2⟩ := hfn
              obtain ⟨n, hn⟩ := Int.eq_ofNat_of_zero_le f1
              have hnl : n < p.funcs.length := by omega
              obtain ⟨ad, v, rfl, hab3, hat3, hcode⟩ := HX.out n hnl
              obtain ⟨f0, hf0⟩ : ∃ f0, p.funcs[n] = f0 := ⟨_, rfl⟩
              rw [hf0] at hat3 hcode
              have HF := Lib.hid (show p.funcs[n]? = some f0 by rw [← hf0, List.getElem?_eq_getElem hnl])
              have HFC := Lib.hid (show codeOf p x.fn = f0.code by rw [hn]; exact codeOf_eq HF.out)
              obtain ⟨A4, c4, rfl, hc4, hm4, hx4⟩ := rep_code hcode
              unfold maxLen at hm4
              have HX4 := Lib.hid hx4
              have hl4 := (HPR.out.fns f0 (List.mem_of_getElem? HF.out)).len
              obtain ⟨l1, l2⟩ := hl4
              have hcl := (HP.out.at_ (F := ⟨w, Lt w.heap.size⟩) (.head _) hat3 (by rw [block_of_add]; exact hab3)).fld 1 rfl
              have HN := Lib.hid hn
              rw [hn] at hcfn f1 f2
              have d1 : decide ((n : Int) ≤ (p.funcs.length : Int) - 1) = true := by simp; omega
              clear hf0 hat3 hcode hx4 hn
              by_cases hpc : 0 ≤ x.pc ∧ x.pc < f0.code.length
              · obtain ⟨q1, q2⟩ := hpc
                have d2 : decide (x.pc ≤ (f0.code.length : Int) - 1) = true := by simp; omega
                have HOWN := Lib.hid (show ownF p x from ⟨by rw [HN.out]; omega, by rw [HN.out]; omega, by omega, by rw [HFC.out]; omega⟩)
                clear hxm
                have hstep : ∀ f ∈ s.frames.take (k + 1), ownF p f := fun f hf => by
                  rw [List.take_add_one, HXK.out] at hf
                  rcases List.mem_append.1 hf with hf | hf
                  · exact HOW.out f hf
                  · obtain rfl : f = x := by simpa using hf
                    exact HOWN.out
                have HSTEP := Lib.hid hstep
                clear hstep
                go_upto_region 12 with fail
                go_quiet ((go_at_call 25; exact quiet_left (In_any _ _ _ _)))
                by_cases hk0 : k = 0
                · subst hk0
                  go_wp2_with fail
                  go_roundw
                  case rel => exact ⟨1, by omega, by go_num, HSTEP, Lib.hid (fun i f g h => by omega), Lib.hid (Hp.drop (A := []) (HP.out.drewN nq))⟩
                  case measure => simp [intOf]; omega
                · obtain ⟨k0, hk1⟩ : ∃ k0, k = k0 + 1 := ⟨k - 1, by omega⟩
                  have hkl : k0 < s.frames.length := by omega
                  have hkm : (k : Int) - 1 = (k0 : Int) := by omega
                  have hkp : 0 < k := by omega
                  have hkpI : (0 : Int) < (k : Int) := by omega
                  have hkl2 : (k0 : Int) < (s.frames.length : Int) := by omega
                  have HK1 := Lib.hid hk1
                  clear hk0 hk1
                  obtain ⟨a5, ha5, hab5, hat5⟩ := HX2.out k0 hkl
                  cases ha5
                  obtain ⟨g, hg⟩ : ∃ g, s.frames[k0] = g := ⟨_, rfl⟩
                  rw [hg] at hat5
                  have HG := Lib.hid (show s.frames[k0]? = some g by rw [← hg, List.getElem?_eq_getElem hkl])
                  unfold frmCells at hat5
                  replace HP := Lib.hid (HP.out.drewN nq)
                  have HATG := Lib.hid (HP.out.at_ (F := ⟨w, Lt w.heap.size⟩) (.head _) hat5 (by rw [block_of_add]; exact hab5))
                  clear hg hat5
                  clear hcfn hcpc hcf hcp hcl d1 d2
                  go_upto_region 16 with (first | (refine wpList_ld0 rfl 25 _ rfl HP.out rfl rfl Tryd.underlying25 rfl ?_) | (refine wpList_ld1 rfl 25 _ rfl HP.out rfl rfl Tryd.underlying25 rfl ?_) | (refine wpList_load_at rfl 42 _ rfl _ rfl _ _ HATG.out Tryd.underlying42 rfl (by kernel_rfl) ?_) | (refine wpList_alloc_hp (o := ⟨some 8, _, _, _, _, _⟩) rfl _ rfl HP.out (.agg #[.int .i64 0, .int .i64 0, .int .i64 0, .int .i64 0, .int .i64 0, .int .i64 0, .int .i64 0, .int .i64 0, .int .i64 0, .int .i64 0, .int .i64 0, .int .i64 0, .int .i64 0, .int .i64 0]) (by kernel_rfl) [_, _, _, _, _, _, _, _, _, _, _, _, _, _] rfl ?_; clear HP; intro g8 w8 HP; replace HP := Lib.hid HP) | (refine wpList_stR0 rfl 42 _ _ rfl HP.out rfl (cs' := [_, _, _, _, _, _, _, _, _, _, _, _, _, _]) rfl rfl (by simp [Value.oneCell']) (by kernel_rfl) ?_; clear HP; intro wst HP; replace HP := Lib.hid HP))
                  (try simp only [Act.put, List.setIfInBounds_toArray, List.set_cons_zero, List.set_cons_succ])
                  have hgown := HOW.out g (List.mem_of_getElem? (i := k0) (by rw [List.getElem?_take, if_pos (by have := HK1.out; omega)]; exact HG.out))
                  obtain ⟨o1, o2, o3, o4⟩ := hgown
                  obtain ⟨n', hn'⟩ := Int.eq_ofNat_of_zero_le o1
                  have hnl' : n' < p.funcs.length := by omega
                  obtain ⟨ad', v', had', hab3', hat3', hcode'⟩ := HX.out n' hnl'
                  cases had'
                  obtain ⟨f1, hf1⟩ : ∃ f1, p.funcs[n'] = f1 := ⟨_, rfl⟩
                  rw [hf1] at hat3' hcode'
                  have HF' := Lib.hid (show p.funcs[n']? = some f1 by rw [← hf1, List.getElem?_eq_getElem hnl'])
                  rw [hn', codeOf_eq HF'.out] at o4
                  obtain ⟨A6, c6, rfl, hc6, hm6, hx6⟩ := rep_code hcode'
                  unfold maxLen at hm6
                  obtain ⟨j', hj'⟩ := Int.eq_ofNat_of_zero_le o3
                  have hjl' : j' < f1.code.length := by omega
                  obtain ⟨a6, rfl, hab6, hat6⟩ := hx6 j' hjl'
                  obtain ⟨y, hy⟩ : ∃ y, f1.code[j'] = y := ⟨_, rfl⟩
                  rw [hy] at hat6
                  have HY := Lib.hid (insAt_eq hn' hj' HF'.out (show f1.code[j']? = some y by rw [← hy, List.getElem?_eq_getElem hjl']))
                  have HP0 := Lib.hid HP.out.drew
                  have hata := HP0.out.at_ (F := ⟨w, Lt w.heap.size⟩) (.head _) hat6 (by rw [block_of_add]; exact hab6)
                  have HATA := Lib.hid hata
                  have HAT6 := Lib.hid hat6
                  have HAT3 := Lib.hid hat3'
                  have hab6' : Lt w.heap.size (a6.add (j' * 5)).block := by rw [block_of_add]; exact hab6
                  have hab3'' : Lt w.heap.size (ad.add (n' * 3)).block := by rw [block_of_add]; exact hab3'
                  have HCL := Lib.hid ((HP0.out.at_ (F := ⟨w, Lt w.heap.size⟩) (.head _) hat3' (by rw [block_of_add]; exact hab3')).fld 1 rfl)
                  have hnI : (n' : Int) < (p.funcs.length : Int) := by omega
                  have hjI : (j' : Int) < (f1.code.length : Int) := by omega
                  rw [hn', hj'] at HP0 HP
                  clear hf1 hat3' hcode' hx6 hy hat6 hata hn' hj' o1 o2 o3 o4
                  go_region_held (fun w' => w'.cell? ⟨g2, 0, none⟩ = some (.slice (some ad) p.funcs.length c) ∧ w'.cell? ⟨g8, 0, none⟩ = some (iV n') ∧ w'.cell? ⟨g8, 1, none⟩ = some (iV j') ∧ w'.cell? ⟨(ad.add (n' * 3)).block, (ad.add (n' * 3)).off + (1 + 1), none⟩ = some (.slice (some a6) f1.code.length c6) ∧ w'.cell? (a6.add (j' * 5)) = some (iV y.op) ∧ w'.cell? ⟨(a6.add (j' * 5)).block, (a6.add (j' * 5)).off + (0 + 1), none⟩ = some (iV y.dst) ∧ w'.cell? ⟨(a6.add (j' * 5)).block, (a6.add (j' * 5)).off + (1 + 1), none⟩ = some (iV y.a) ∧ w'.cell? ⟨(a6.add (j' * 5)).block, (a6.add (j' * 5)).off + (2 + 1), none⟩ = some (iV y.b) ∧ w'.cell? ⟨(a6.add (j' * 5)).block, (a6.add (j' * 5)).off + (3 + 1), none⟩ = some (iV y.imm)) (first | exact ⟨HP0.out.cell (.tail _ (.tail _ (.tail _ (.head _)))) 0 _ rfl, HP0.out.cell (.head _) 0 _ rfl, HP0.out.cell (.head _) 1 _ rfl, HCL.out, HATA.out.fld0 rfl, HATA.out.fld 0 rfl, HATA.out.fld 1 rfl, HATA.out.fld 2 rfl, HATA.out.fld 3 rfl⟩ | (have H := HP0.out.alloc #[Value.int .i64 0, Value.int .i64 0, Value.int .i64 0, Value.int .i64 0, Value.int .i64 0] 53; have H1 := H.at_ (F := ⟨w, Lt w.heap.size⟩) (.head _) HAT6.out hab6'; have H2 := H.at_ (F := ⟨w, Lt w.heap.size⟩) (.head _) HAT3.out hab3''; exact ⟨H.cell (.tail _ (.tail _ (.tail _ (.tail _ (.head _))))) 0 _ rfl, H.cell (.tail _ (.head _)) 0 _ rfl, H.cell (.tail _ (.head _)) 1 _ rfl, H2.fld 1 rfl, H1.fld0 rfl, H1.fld 0 rfl, H1.fld 1 rfl, H1.fld 2 rfl, H1.fld 3 rfl⟩) | (have H := HP0.out.alloc #[Value.int .i64 y.op, Value.int .i64 y.dst, Value.int .i64 y.a, Value.int .i64 y.b, Value.int .i64 y.imm] 53; have H1 := H.at_ (F := ⟨w, Lt w.heap.size⟩) (.head _) HAT6.out hab6'; have H2 := H.at_ (F := ⟨w, Lt w.heap.size⟩) (.head _) HAT3.out hab3''; exact ⟨H.cell (.tail _ (.tail _ (.tail _ (.tail _ (.head _))))) 0 _ rfl, H.cell (.tail _ (.head _)) 0 _ rfl, H.cell (.tail _ (.head _)) 1 _ rfl, H2.fld 1 rfl, H1.fld0 rfl, H1.fld 0 rfl, H1.fld 1 rfl, H1.fld 2 rfl, H1.fld 3 rfl⟩)) (fail)
                  have HPX := HP0.out.alloc #[Value.int .i64 y.op, Value.int .i64 y.dst, Value.int .i64 y.a, Value.int .i64 y.b, Value.int .i64 y.imm] 53
                  obtain ⟨wz, hwz, HPZ⟩ := (⟨_, rfl, HPX⟩ : ∃ wz, (wst.alloc (.cells #[Value.int .i64 y.op, Value.int .i64 y.dst, Value.int .i64 y.a, Value.int .i64 y.b, Value.int .i64 y.imm] 53)).drew = wz ∧ Hp w _ _ wz)
                  rw [hwz]
                  replace HPZ := Lib.hid HPZ
                  clear hwz HPX
                  obtain ⟨gz, hgz⟩ : ∃ gz, wst.heap.size = gz := ⟨_, rfl⟩
                  rw [hgz]
                  have hz0 : wz.cell? ⟨gz, 0, none⟩ = some (iV y.op) := by rw [← hgz]; exact HPZ.out.cell (.head _) 0 _ rfl
                  have hz4 : wz.cell? ⟨gz, 4, none⟩ = some (iV y.imm) := by rw [← hgz]; exact HPZ.out.cell (.head _) 4 _ rfl
                  have hz7 := HPZ.out.cell (.tail _ (.tail _ (.head _))) 0 _ rfl
                  have HN2 := Lib.hid hgz
                  clear hgz
                  by_cases hop : y.op = 17
                  · have hopb : (y.op != 17) = false := by simpa using hop
                    have HOP := Lib.hid hop
                    clear hop
                    by_cases him : y.imm = x.fn
                    · have himb : (y.imm != x.fn) = false := by simpa using him
                      have HIM := Lib.hid him
                      clear him
                      go_wp2_with fail
                      go_roundw
                      case rel =>
                        refine ⟨k + 1, by omega, by go_num, HSTEP, Lib.hid fun i f g' hi hf hg' => ?_, Lib.hid (Hp.drop (A := []) (Hp.drop (A := []) (Hp.drop (A := []) HPZ.out)))⟩
                        have hkk := HK1.out
                        by_cases e : i = k0
                        · subst e
                          rw [HG.out] at hf; cases hf
                          rw [← hkk, HXK.out] at hg'; cases hg'
                          exact ⟨by rw [HY.out]; exact HOP.out, by rw [HY.out]; exact HIM.out⟩
                        · exact HLK.out i f g' (by omega) hf hg'
                      case measure => simp [intOf]; omega
                    · have himb : (y.imm != x.fn) = true := by simpa using him
                      have HB := Lib.hid (sf_frames HZ.out (s := s) (fun h => by have := (h.link k0 g x HG.out (by rw [← HK1.out]; exact HXK.out)).2; rw [HY.out] at this; exact him this))
                      clear him
                      go_wp2_with fail
                      go_ret
                      exact ⟨ret_int HB.out.symm, HPZ.out.below⟩
                  · have hopb : (y.op != 17) = true := by simpa using hop
                    have HB := Lib.hid (sf_frames HZ.out (s := s) (fun h => by have := (h.link k0 g x HG.out (by rw [← HK1.out]; exact HXK.out)).1; rw [HY.out] at this; exact hop this))
                    clear hop
                    go_wp2_with fail
                    go_ret
                    exact ⟨ret_int HB.out.symm, HPZ.out.below⟩
              · have HB := Lib.hid (sf_frames HZ.out (s := s) (fun h => by have := h.own x hxm; unfold ownF at this; rw [HFC.out] at this; omega))
                clear hxm
                have hq : x.pc < 0 ∨ (0 ≤ x.pc ∧ (f0.code.length : Int) ≤ x.pc) := by omega
                clear hpc
                rcases hq with q1 | ⟨q1, q2⟩
                · have d2 : decide (0 ≤ x.pc) = false := by simp; omega
                  go_upto_region 12 with fail
                  go_quiet ((go_at_call 25; exact quiet_left (In_any _ _ _ _)))
                  go_wp2_with fail
                  go_ret
                  exact ⟨ret_int HB.out.symm, (HP.out.drewN _).below⟩
                · have d2 : decide (x.pc ≤ (f0.code.length : Int) - 1) = false := by simp; omega
                  go_upto_region 12 with fail
                  go_quiet ((go_at_call 25; exact quiet_left (In_any _ _ _ _)))
                  go_wp2_with fail
                  go_ret
                  exact ⟨ret_int HB.out.symm, (HP.out.drewN _).below⟩
            · have HB := Lib.hid (sf_frames HZ.out (s := s) (fun h => by have := h.own x hxm; unfold ownF at this; omega))
              clear hxm
              have hq : x.fn < 0 ∨ (0 ≤ x.fn ∧ (p.funcs.length : Int) ≤ x.fn) := by omega
              clear hfn
              rcases hq with q1 | ⟨q1, q2⟩
              · have d2 : decide (0 ≤ x.fn) = false := by simp; omega
                go_upto_region 12 with fail
                go_quiet ((go_at_call 25; exact quiet_left (In_any _ _ _ _)))
                go_wp2_with fail
                go_ret
                exact ⟨ret_int HB.out.symm, (HP.out.drewN _).below⟩
              · have d2 : decide (x.fn ≤ (p.funcs.length : Int) - 1) = false := by simp; omega
                go_upto_region 12 with fail
                go_quiet ((go_at_call 25; exact quiet_left (In_any _ _ _ _)))
                go_wp2_with fail
                go_ret
                exact ⟨ret_int HB.out.symm, (HP.out.drewN _).below⟩
          · obtain rfl : k = s.frames.length := by omega
            have HB := Lib.hid (sf_ok HZ.out HOK2.out ⟨by have := HOW.out; rwa [List.take_of_length_le (Nat.le_refl _)] at this, fun i f g h h' => HLK.out i f g (List.getElem?_eq_some_iff.1 h').1 h h'⟩)
            have hcf := HP.out.cell (.head _) 2 _ rfl
            go_wp2_with fail
            go_ret
            exact ⟨ret_int HB.out.symm, HP.out.below⟩
    all_goals
      (try have b7 : (s.status != 1) = true := by rw [bne, a7]; rfl)
      (try have b7 : (s.status != 1) = false := by rw [bne, a7]; rfl)
      (try have b8 : (s.value != 0) = true := by rw [bne, a8]; rfl)
      (try have b8 : (s.value != 0) = false := by rw [bne, a8]; rfl)
      (try have b9 : 0 < s.frames.length := by rw [beq_eq_false_iff_ne] at a8; omega)
      (try have b9 : decide (0 < (s.frames.length : Int)) = false := by rw [beq_iff_eq] at a9; simp; omega)
      have HB := Lib.hid (sf_head HZ.out (s := s) (head_not (by (first | omega | simp only [*, true_and, and_self, true_or, or_true]))))
      first
        | (go_wp2_with (first | (go_at_call 25; refine (In_any _ _ _ _).mono ?_; rintro e w' ⟨rfl, rfl⟩)); all_goals (go_ret; exact ⟨ret_int HB.out.symm, HP.out.below⟩))
        | (cases hlb : ((s.frames.length : Int) == 0)
           all_goals
             go_wp2_with (first | (go_at_call 25; refine (In_any _ _ _ _).mono ?_; rintro e w' ⟨rfl, rfl⟩))
             go_ret
             exact ⟨ret_int HB.out.symm, HP.out.below⟩)
  · have HB := Lib.hid (sf_bad (s := s) hz)
    obtain ⟨e0, he0⟩ : ∃ e0, proven p = e0 := ⟨_, rfl⟩
    rw [he0] at hz HB
    have HE0 := Lib.hid he0
    have hzb : (e0 != 0) = true := by simpa using hz
    clear he0 hz
    go_enter Tryd.func13, Tryd.ntmps13
    go_wp2_with (first | (refine wpList_box_hp (o := ⟨some 2, _, _, _, _, _⟩) rfl _ _ rfl HP.out [_] rfl ?_; clear HP; intro g2 w2 HP; replace HP := Lib.hid HP) | (refine wpList_box_hp (o := ⟨some 3, _, _, _, _, _⟩) rfl _ _ rfl HP.out [_, _, _, _, _, _, _, _, _, _, _, _, _, _, _, _, _, _, _, _, _, _] rfl ?_; clear HP; intro g3 w3 HP; replace HP := Lib.hid HP) | (refine wpList_ldR0 rfl 24 _ rfl HP.out rfl Tryd.underlying24 rfl (by kernel_rfl) ?_) | (refine wpList_ldR1 rfl 24 _ rfl HP.out rfl Tryd.underlying24 rfl (by kernel_rfl) ?_) | (go_at_call 24; refine (Proven_any p _ _ (HP.out.rep (F := ⟨w, Lt w.heap.size⟩) (by simp) HR.out)).mono ?_; rintro e w4 ⟨rfl, hb⟩; replace HP := Lib.hid (HP.out.call0 hb); clear hb; rw [HE0.out]))
    go_ret
    exact ⟨ret_int HB.out.symm, HP.out.below⟩
end Go.Proofs.YtigbdlcjnnphbaaDoor
