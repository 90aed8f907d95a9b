/- ref.Trimmed. -/
import Derived.Test.YtfhoffpdodjfeaaDoorTrimPA
import Derived.Test.YtfhoffpdodjfeaaDoorTrimCalleds
import Derived.Test.YtfhoffpdodjfeaaDoorHeldB
set_option linter.unusedSimpArgs false
set_option linter.unusedVariables false
namespace Go.Proofs.YtfhoffpdodjfeaaDoor
open Go.RowKit Plain64
attribute [local irreducible] wpList Code.wp Oper.wp
set_option maxRecDepth 10000 in
set_option maxHeartbeats 4000000 in
theorem Trimmed_any (p : Prg) (u : Value) (w : World) (hp : Lay.rep w (Lt w.heap.size) p [u]) :
    Calls Tryd.prog 29 #[.agg #[u]] w fun r w' => ∃ v, r = .returned (.tuple #[.agg #[v], .int .i64 (trimAns p).2]) ∧ Lay.rep w' (Fresh w w') (trimAns p).1 [v] ∧ Below w.heap.size w w' := by
  obtain ⟨A, c, rfl, hc, hm, hx⟩ := rep_prg_at hp
  unfold maxLen at hm
  have HX := Lib.hid hx
  have HR := Lib.hid hp
  clear hx hp
  have HP := Lib.hid (Hp.start w)
  by_cases hz : proven p = 0
  · have HZ := Lib.hid hz
    have HZ1 := Lib.hid (proven_prg' hz)
    obtain ⟨n1, n2⟩ := (okP_of HZ1.out).len
    have HANS := Lib.hid (show trimAns p = (⟨trimL p p.funcs.length⟩, 0) by unfold trimAns; rw [if_neg (by simpa using hz)])
    clear hz
    go_enter Tryd.func29, Tryd.ntmps29
    go_wp2_with (first | (refine wpList_box_hp (o := ⟨some 1, _, _, _, _, _⟩) rfl _ _ rfl HP.out [_] rfl ?_; clear HP; intro g1 w1 HP; replace HP := Lib.hid HP) | (refine wpList_alloc_hp (o := ⟨some 2, _, _, _, _, _⟩) rfl _ rfl HP.out (.agg #[.slice none 0 0]) (by kernel_rfl) [_] rfl ?_; clear HP; intro g2 w2 HP; replace HP := Lib.hid HP) | (refine wpList_alloc_hp (o := ⟨some 6, _, _, _, _, _⟩) rfl _ rfl HP.out (.agg #[.slice none 0 0]) (by kernel_rfl) [_] rfl ?_; clear HP; intro g6 w6 HP; replace HP := Lib.hid HP) | (refine wpList_alloc_hp (o := ⟨some 7, _, _, _, _, _⟩) rfl _ rfl HP.out (.agg #[.slice none 0 0]) (by kernel_rfl) [_] rfl ?_; clear HP; intro g7 w7 HP; replace HP := Lib.hid HP) | (refine wpList_ldR0 rfl 24 _ rfl HP.out rfl Tryd.underlying24 rfl (by kernel_rfl) ?_) | (refine wpList_ldR1 rfl 24 _ rfl HP.out rfl Tryd.underlying24 rfl (by kernel_rfl) ?_) | (refine wpList_ldR2 rfl 24 _ rfl HP.out rfl Tryd.underlying24 rfl (by kernel_rfl) ?_) | (go_at_call 26; refine (CalledOf_any p _ _ (HP.out.rep (F := ⟨w, Lt w.heap.size⟩) (by simp) HR.out) HZ.out).mono ?_; rintro e w5 ⟨v5, rfl, hv5, hb5⟩; replace HP := Lib.hid (HP.out.call hb5); obtain ⟨A5, c5, rfl, hc5, hm5, hx5⟩ := rep_bools_at hv5; unfold maxLen at hm5; have HX5 := Lib.hid hx5; clear hv5 hx5 hb5))
    have HC : Hid (∀ q, q < p.funcs.length → ∃ a : Addr, A5 = some a ∧ Fresh w2 w5 a.block ∧ w5.cell? (a.add q) = some (.bool (calledB p q))) := Lib.hid (fun q hq => by
      obtain ⟨a, h1, h2, h3⟩ := HX5.out q (by rw [calledL_len]; exact hq)
      refine ⟨a, h1, h2, ?_⟩
      rw [h3]
      congr 2
      have := calledB_at hq
      exact (List.getElem?_eq_some_iff.1 this).2)
    rw [calledL_len] at hc5
    rw [calledL_len]
    clear HX5
    have HPn := Lib.hid ((HP.out.froNone).nil 72 3)
    clear HP
    go_loopw [7] (fun i wr => ∃ (q2 : Nat) (A' : Option Addr) (c' : Nat) (vs : List Value) (wf : World) (Sf : Nat → Prop), q2 ≤ p.funcs.length ∧ i = .int .i64 q2 ∧ Hid (FunsAt ⟨wf, Sf⟩ (trimL p q2) vs ∧ ∀ b, Sf b → w.heap.size ≤ b) ∧ Hid (Hp w [{ w := wf, S := Sf }, { w := w5, S := Fresh w2 w5 }, { w := w, S := Lt w.heap.size }] [Res.row (.slice A' (trimL p q2).length c') 72 3 (trimL p q2).length (((trimL p q2).zip vs).flatMap funEnc), Res.blk g6 24 [.slice A' (trimL p q2).length c'], Res.blk g2 24 [.slice none 0 0], Res.blk g1 24 [.slice A p.funcs.length c]] wr)) (fun i _ => p.funcs.length - (intOf i).toNat)
    case atStart => exact ⟨0, none, 0, [], _, fun _ => False, by omega, rfl, Lib.hid ⟨FunsAt.nil _, fun b hb => hb.elim⟩, HPn⟩
    case round =>
      clear HPn
      obtain ⟨q2, A', c', vs, wf, Sf, hq2, rfl, HV, HP⟩ := hrel
      obtain ⟨wq, rfl⟩ : ∃ wq : World, wq = wr := ⟨_, rfl⟩
      obtain ⟨m, hm⟩ : ∃ m, (trimL p q2).length = m := ⟨_, rfl⟩
      have hml := trimL_len p q2
      rw [hm] at hml HP
      have HM := Lib.hid hm
      clear hm
      by_cases hlt2 : q2 < p.funcs.length
      · obtain ⟨ad, v, rfl, hab, hat, hcode⟩ := HX.out q2 hlt2
        obtain ⟨f, hf⟩ : ∃ f, p.funcs[q2] = f := ⟨_, rfl⟩
        rw [hf] at hat hcode
        have HFK := Lib.hid (show p.funcs[q2]? = some f by rw [← hf, List.getElem?_eq_getElem hlt2])
        have HWA := Lib.hid (whereAns_in HZ.out HFK.out)
        have HOF := Lib.hid ((okP_of HZ1.out).fns f (List.mem_of_getElem? HFK.out))
        obtain ⟨l1, l2⟩ := HOF.out.len
        obtain ⟨A2, c2, rfl, hc2, hm2, hx2⟩ := rep_code hcode
        unfold maxLen at hm2
        have HX2 := Lib.hid hx2
        have HAT := Lib.hid hat
        have HAB := Lib.hid hab
        have hlt3 : (q2 : Int) < (p.funcs.length : Int) := by omega
        clear hf hat hcode hx2 hab
        obtain ⟨a5, rfl, hab5, hc5'⟩ := HC.out q2 hlt2
        have hcb := (HP.out.alike (F := ⟨w5, Fresh w2 w5⟩) (by simp) (a5.add q2) (by rw [block_of_add]; exact hab5)).trans hc5'
        obtain ⟨b, hb⟩ : ∃ b, calledB p q2 = b := ⟨_, rfl⟩
        rw [hb] at hcb
        have HB := Lib.hid hb
        clear hb hab5 hc5'
        cases b
        · go_wp2_with (first | (refine wpList_ld0 rfl 22 _ rfl HP.out rfl rfl Tryd.underlying22 rfl ?_) | (refine wpList_ld1 rfl 22 _ rfl HP.out rfl rfl Tryd.underlying22 rfl ?_) | (refine wpList_ld2 rfl 22 _ rfl HP.out rfl rfl Tryd.underlying22 rfl ?_) | (refine wpList_ld3 rfl 22 _ rfl HP.out rfl rfl Tryd.underlying22 rfl ?_))
          go_roundw
          case rel => exact ⟨q2 + 1, A', c', vs, wf, Sf, by omega, by go_num, Lib.hid (by rw [trimL_no HB.out]; exact HV.out), Lib.hid (by rw [trimL_no HB.out, HM.out]; exact HP.out)⟩
          case measure => simp [intOf]; omega
        · go_upto_region 10 with (first | (refine wpList_ld0 rfl 22 _ rfl HP.out rfl rfl Tryd.underlying22 rfl ?_) | (refine wpList_ld1 rfl 22 _ rfl HP.out rfl rfl Tryd.underlying22 rfl ?_) | (refine wpList_ld2 rfl 22 _ rfl HP.out rfl rfl Tryd.underlying22 rfl ?_) | (refine wpList_ld3 rfl 22 _ rfl HP.out rfl rfl Tryd.underlying22 rfl ?_) | (refine wpList_ldR0 rfl 24 _ rfl HP.out rfl Tryd.underlying24 rfl (by kernel_rfl) ?_) | (refine wpList_ldR1 rfl 24 _ rfl HP.out rfl Tryd.underlying24 rfl (by kernel_rfl) ?_) | (refine wpList_ldR2 rfl 24 _ rfl HP.out rfl Tryd.underlying24 rfl (by kernel_rfl) ?_) | (refine wpList_ldR3 rfl 24 _ rfl HP.out rfl Tryd.underlying24 rfl (by kernel_rfl) ?_) | (refine wpList_ldR4 rfl 24 _ rfl HP.out rfl Tryd.underlying24 rfl (by kernel_rfl) ?_) | (go_at_call 20; refine (WhereOf_any p _ (q2 : Int) _ (HP.out.rep (F := ⟨w, Lt w.heap.size⟩) (by simp) HR.out)).mono ?_; rintro e w6 ⟨v6, rfl, hv6, hb6⟩; replace HP := Lib.hid (HP.out.call hb6); rw [HWA.out] at hv6; rw [HWA.out]; obtain ⟨A6, c6, rfl, hc6, hm6, hx6⟩ := rep_ints_at hv6; unfold maxLen at hm6; have HX6 := Lib.hid hx6; clear hv6 hx6 hb6))
          replace HP := Lib.hid HP.out.drew
          clear hcb
          refine wp_region_held_drew (S := fun w' => w'.cell? ⟨g1, 0, none⟩ = some (.slice (some ad) p.funcs.length c) ∧ w'.cell? (ad.add (q2 * 3)) = some (.int .i64 f.params) ∧ w'.cell? ⟨(ad.add (q2 * 3)).block, (ad.add (q2 * 3)).off + (0 + 1), none⟩ = some (.int .i64 f.regs)) (by kernel_rfl) ⟨HP.out.cell (.tail _ (.tail _ (.tail _ (.head _)))) 0 _ rfl, (HP.out.at_ (F := ⟨w, Lt w.heap.size⟩) (by simp) HAT.out (by rw [block_of_add]; exact HAB.out)).fld0 rfl, (HP.out.at_ (F := ⟨w, Lt w.heap.size⟩) (by simp) HAT.out (by rw [block_of_add]; exact HAB.out)).fld 0 rfl⟩ (fun hHeld => ?_)
          have HS0 := Lib.hid hHeld
          clear hHeld
          refine wpAnyH_take (i := 0) (v := .pointer (some ⟨g1, 0, none⟩)) rfl (by kernel_rfl) (by kernel_rfl) (by kernel_rfl) (fun _ _ _ h => h) (.inl ⟨by simp [Region.wanted], fun w' hw => ?_⟩) HS0.out ?_
          · obtain ⟨k1, k2, k3⟩ := hw
            go_simp
          (try simp only [List.getElem_toArray, List.getElem_cons_succ, List.getElem_cons_zero, Act.put, List.setIfInBounds_toArray, List.set_cons_zero, List.set_cons_succ])
          refine wpAnyH_take (i := 1) (v := .slice (some ad) p.funcs.length c) rfl (by kernel_rfl) (by kernel_rfl) (by kernel_rfl) (fun _ _ _ h => h) (.inl ⟨by simp [Region.wanted], fun w' hw => ?_⟩) HS0.out ?_
          · obtain ⟨k1, k2, k3⟩ := hw
            go_simp
          (try simp only [List.getElem_toArray, List.getElem_cons_succ, List.getElem_cons_zero, Act.put, List.setIfInBounds_toArray, List.set_cons_zero, List.set_cons_succ])
          refine wpAnyH_take (i := 2) (v := .int .i64 q2) rfl (by kernel_rfl) (by kernel_rfl) (by kernel_rfl) (fun _ _ _ h => h) (.inl ⟨by simp [Region.wanted], fun w' hw => ?_⟩) HS0.out ?_
          · obtain ⟨k1, k2, k3⟩ := hw
            go_simp
          (try simp only [List.getElem_toArray, List.getElem_cons_succ, List.getElem_cons_zero, Act.put, List.setIfInBounds_toArray, List.set_cons_zero, List.set_cons_succ])
          refine wpAnyH_take (i := 3) (v := .pointer (some (ad.add (q2 * 3)))) rfl (by kernel_rfl) (by kernel_rfl) (by kernel_rfl) (fun _ _ _ h => h) (.inl ⟨by simp [Region.wanted], fun w' hw => ?_⟩) HS0.out ?_
          · obtain ⟨k1, k2, k3⟩ := hw
            go_simp
          (try simp only [List.getElem_toArray, List.getElem_cons_succ, List.getElem_cons_zero, Act.put, List.setIfInBounds_toArray, List.set_cons_zero, List.set_cons_succ])
          refine wpAnyH_take (i := 4) (v := .pointer (some (ad.add (q2 * 3)))) rfl (by kernel_rfl) (by kernel_rfl) (by kernel_rfl) (fun _ _ _ h => h) (.inl ⟨by simp [Region.wanted], fun w' hw => ?_⟩) HS0.out ?_
          · obtain ⟨k1, k2, k3⟩ := hw
            go_simp
          (try simp only [List.getElem_toArray, List.getElem_cons_succ, List.getElem_cons_zero, Act.put, List.setIfInBounds_toArray, List.set_cons_zero, List.set_cons_succ])
          refine wpAnyH_take (i := 5) (v := .int .i64 f.params) rfl (by kernel_rfl) (by kernel_rfl) (by kernel_rfl) (fun _ _ _ h => h) (.inl ⟨by simp [Region.wanted], fun w' hw => ?_⟩) HS0.out ?_
          · obtain ⟨k1, k2, k3⟩ := hw
            go_simp
          (try simp only [List.getElem_toArray, List.getElem_cons_succ, List.getElem_cons_zero, Act.put, List.setIfInBounds_toArray, List.set_cons_zero, List.set_cons_succ])
          refine wpAnyH_take (i := 6) (v := .pointer (some ⟨g1, 0, none⟩)) rfl (by kernel_rfl) (by kernel_rfl) (by kernel_rfl) (fun _ _ _ h => h) (.inl ⟨by simp [Region.wanted], fun w' hw => ?_⟩) HS0.out ?_
          · obtain ⟨k1, k2, k3⟩ := hw
            go_simp
          (try simp only [List.getElem_toArray, List.getElem_cons_succ, List.getElem_cons_zero, Act.put, List.setIfInBounds_toArray, List.set_cons_zero, List.set_cons_succ])
          refine wpAnyH_take (i := 7) (v := .slice (some ad) p.funcs.length c) rfl (by kernel_rfl) (by kernel_rfl) (by kernel_rfl) (fun _ _ _ h => h) (.inl ⟨by simp [Region.wanted], fun w' hw => ?_⟩) HS0.out ?_
          · obtain ⟨k1, k2, k3⟩ := hw
            go_simp
          (try simp only [List.getElem_toArray, List.getElem_cons_succ, List.getElem_cons_zero, Act.put, List.setIfInBounds_toArray, List.set_cons_zero, List.set_cons_succ])
          refine wpAnyH_take (i := 8) (v := .int .i64 q2) rfl (by kernel_rfl) (by kernel_rfl) (by kernel_rfl) (fun _ _ _ h => h) (.inl ⟨by simp [Region.wanted], fun w' hw => ?_⟩) HS0.out ?_
          · obtain ⟨k1, k2, k3⟩ := hw
            go_simp
          (try simp only [List.getElem_toArray, List.getElem_cons_succ, List.getElem_cons_zero, Act.put, List.setIfInBounds_toArray, List.set_cons_zero, List.set_cons_succ])
          refine wpAnyH_take (i := 9) (v := .pointer (some (ad.add (q2 * 3)))) rfl (by kernel_rfl) (by kernel_rfl) (by kernel_rfl) (fun _ _ _ h => h) (.inl ⟨by simp [Region.wanted], fun w' hw => ?_⟩) HS0.out ?_
          · obtain ⟨k1, k2, k3⟩ := hw
            go_simp
          (try simp only [List.getElem_toArray, List.getElem_cons_succ, List.getElem_cons_zero, Act.put, List.setIfInBounds_toArray, List.set_cons_zero, List.set_cons_succ])
          refine wpAnyH_take (i := 10) (v := .pointer (some ⟨(ad.add (q2 * 3)).block, (ad.add (q2 * 3)).off + 1, none⟩)) rfl (by kernel_rfl) (by kernel_rfl) (by kernel_rfl) (fun _ _ _ h => h) (.inl ⟨by simp [Region.wanted], fun w' hw => ?_⟩) HS0.out ?_
          · obtain ⟨k1, k2, k3⟩ := hw
            go_simp
          (try simp only [List.getElem_toArray, List.getElem_cons_succ, List.getElem_cons_zero, Act.put, List.setIfInBounds_toArray, List.set_cons_zero, List.set_cons_succ])
          refine wpAnyH_take (i := 11) (v := .int .i64 f.regs) rfl (by kernel_rfl) (by kernel_rfl) (by kernel_rfl) (fun _ _ _ h => h) (.inl ⟨by simp [Region.wanted], fun w' hw => ?_⟩) HS0.out ?_
          · obtain ⟨k1, k2, k3⟩ := hw
            go_simp
          (try simp only [List.getElem_toArray, List.getElem_cons_succ, List.getElem_cons_zero, Act.put, List.setIfInBounds_toArray, List.set_cons_zero, List.set_cons_succ])
          refine wpAnyH_take (i := 12) (v := .agg #[.int .i64 f.params, .int .i64 f.regs, .slice none 0 0]) rfl (by kernel_rfl) (by kernel_rfl) (by kernel_rfl) (fun _ _ _ h => h) (.inl ⟨by simp [Region.wanted], fun w' hw => ?_⟩) HS0.out ?_
          · obtain ⟨k1, k2, k3⟩ := hw
            go_simp
          (try simp only [List.getElem_toArray, List.getElem_cons_succ, List.getElem_cons_zero, Act.put, List.setIfInBounds_toArray, List.set_cons_zero, List.set_cons_succ])
          refine wpAnyH_ready (rs := [13]) (by kernel_rfl) (by simp) ?_
          refine AllReadyH.cons rfl (fun K hK => ?_) AllReadyH.nil
          refine wanted_only rfl ?_
          refine wpList_alloc_hp (o := ⟨some 10, _, _, _, _, _⟩) rfl _ rfl HP.out (.agg #[.int .i64 0, .int .i64 0, .slice none 0 0]) (by kernel_rfl) [_, _, _] rfl ?_
          clear HP
          intro g10 w10 HP
          replace HP := Lib.hid HP
          refine wpList_nil ?_
          refine hK.out _ _ ⟨HP.out.cell (.tail _ (.tail _ (.tail _ (.tail _ (.head _))))) 0 _ rfl, (HP.out.at_ (F := ⟨w, Lt w.heap.size⟩) (by simp) HAT.out (by rw [block_of_add]; exact HAB.out)).fld0 rfl, (HP.out.at_ (F := ⟨w, Lt w.heap.size⟩) (by simp) HAT.out (by rw [block_of_add]; exact HAB.out)).fld 0 rfl⟩ (fun hHeld => ?_)
          clear hK K hHeld
          (try simp only [List.getElem_toArray, List.getElem_cons_succ, List.getElem_cons_zero, Act.put, List.setIfInBounds_toArray, List.set_cons_zero, List.set_cons_succ])
          refine wpAnyH_ready (rs := [14]) (by kernel_rfl) (by simp) ?_
          refine AllReadyH.cons rfl (fun K hK => ?_) AllReadyH.nil
          refine wanted_only rfl ?_
          refine wpList_stR0 rfl 72 _ _ rfl HP.out rfl (cs' := [.int .i64 f.params, .int .i64 f.regs, .slice none 0 0]) rfl rfl (by simp [Value.oneCell']) (by kernel_rfl) ?_
          clear HP
          intro wst HP
          replace HP := Lib.hid HP
          refine wpList_nil ?_
          refine hK.out _ _ ⟨HP.out.cell (.tail _ (.tail _ (.tail _ (.tail _ (.head _))))) 0 _ rfl, (HP.out.at_ (F := ⟨w, Lt w.heap.size⟩) (by simp) HAT.out (by rw [block_of_add]; exact HAB.out)).fld0 rfl, (HP.out.at_ (F := ⟨w, Lt w.heap.size⟩) (by simp) HAT.out (by rw [block_of_add]; exact HAB.out)).fld 0 rfl⟩ (fun hHeld => ?_)
          clear hK K hHeld HS0
          refine wpAnyH_done (by kernel_rfl) ?_ _
          go_wp2
          (try simp only [Act.put, List.setIfInBounds_toArray, List.set_cons_zero, List.set_cons_succ])
          rw [whereL_len] at hc6
          rw [whereL_len]
          have HW6 : Hid (∀ q, q < f.code.length → ∃ a : Addr, A6 = some a ∧ Fresh wq w6 a.block ∧ w6.cell? (a.add q) = some (.int .i64 (whereZ f q))) := Lib.hid (fun q hq => by
            obtain ⟨a, h1, h2, h3⟩ := HX6.out q (by rw [whereL_len]; exact hq)
            refine ⟨a, h1, h2, ?_⟩
            rw [h3]
            congr 2
            simp [whereL])
          clear HX6
          have HPn := Lib.hid (HP.out.nil 85 5)
          clear HP
          obtain ⟨i_Ins, hi_Ins, hz_Ins, hs_Ins, hy_Ins⟩ := info_parts info_ins
          go_hide hQ
          go_loopw [11] (fun i wr => ∃ (j : Nat) (A3 : Option Addr) (c3 : Nat), j ≤ f.code.length ∧ i = .int .i64 j ∧ Hid (Hp w [{ w := w6, S := Fresh wq w6 }, { w := wf, S := Sf }, { w := w5, S := Fresh w2 w5 }, { w := w, S := Lt w.heap.size }] [Res.row (.slice A3 (trimC p f j).length c3) 85 5 (trimC p f j).length ((trimC p f j).flatMap insEnc), Res.blk g10 72 [.int .i64 f.params, .int .i64 f.regs, .slice A3 (trimC p f j).length c3], Res.row (.slice A' m c') 72 3 m (((trimL p q2).zip vs).flatMap funEnc), Res.blk g6 24 [.slice A' m c'], Res.blk g2 24 [.slice none 0 0], Res.blk g1 24 [.slice (some ad) p.funcs.length c]] wr)) (fun i _ => f.code.length - (intOf i).toNat)
          case atStart => exact ⟨0, none, 0, by omega, rfl, HPn⟩
          case round =>
            clear HPn
            obtain ⟨j, A3, c3, hj, rfl, HP⟩ := hrel
            obtain ⟨wk, rfl⟩ : ∃ wk : World, wk = wr := ⟨_, rfl⟩
            obtain ⟨n, hnl⟩ : ∃ n, (trimC p f j).length = n := ⟨_, rfl⟩
            have hnj := trimC_len p f j
            rw [hnl] at hnj HP
            have HNL := Lib.hid hnl
            clear hnl
            by_cases hjl : j < f.code.length
            · obtain ⟨a4, rfl, hab4, hat4⟩ := HX2.out j hjl
              obtain ⟨x, hx⟩ : ∃ x, f.code[j] = x := ⟨_, rfl⟩
              rw [hx] at hat4
              have HXS := Lib.hid (show f.code[j]? = some x by rw [← hx, List.getElem?_eq_getElem hjl])
              have HOI := Lib.hid (HOF.out.ins x (hx ▸ List.getElem_mem hjl))
              have HAT4 := Lib.hid hat4
              have hjl2 : (j : Int) < (f.code.length : Int) := by omega
              have hcl := (HP.out.at_ (F := ⟨w, Lt w.heap.size⟩) (by simp) HAT.out (by rw [block_of_add]; exact HAB.out)).fld 1 rfl
              clear hx hat4
              go_upto_region 15 with (first | (refine wpList_ld0 rfl 22 _ rfl HP.out rfl rfl Tryd.underlying22 rfl ?_) | (refine wpList_ld1 rfl 22 _ rfl HP.out rfl rfl Tryd.underlying22 rfl ?_) | (refine wpList_ld2 rfl 22 _ rfl HP.out rfl rfl Tryd.underlying22 rfl ?_) | (refine wpList_ld3 rfl 22 _ rfl HP.out rfl rfl Tryd.underlying22 rfl ?_) | (refine wpList_ld4 rfl 22 _ rfl HP.out rfl rfl Tryd.underlying22 rfl ?_) | (refine wpList_ld5 rfl 22 _ rfl HP.out rfl rfl Tryd.underlying22 rfl ?_) | (refine wpList_ld6 rfl 22 _ rfl HP.out rfl rfl Tryd.underlying22 rfl ?_) | (refine wpList_load_at rfl 85 _ rfl _ rfl _ _ (HP.out.at_ (F := ⟨w, Lt w.heap.size⟩) (by simp) HAT4.out (by rw [block_of_add]; exact hab4)) Tryd.underlying85 rfl (by kernel_rfl) ?_) | (refine wpList_alloc_hp (o := ⟨some 12, _, _, _, _, _⟩) rfl _ rfl HP.out (.agg #[.int .i64 0, .int .i64 0, .int .i64 0, .int .i64 0, .int .i64 0]) (by kernel_rfl) [_, _, _, _, _] rfl ?_; clear HP; intro g12 w12 HP; replace HP := Lib.hid HP) | (refine wpList_stR0 rfl 85 _ _ rfl HP.out rfl (cs' := [_, _, _, _, _]) rfl rfl (by simp [Value.oneCell']) (by kernel_rfl) ?_; clear HP; intro wst HP; replace HP := Lib.hid HP))
              (try simp only [Act.put, List.setIfInBounds_toArray, List.set_cons_zero, List.set_cons_succ])
              clear hcl
              obtain ⟨a6, rfl, hab6, hc6'⟩ := HW6.out j hjl
              have hcw := (HP.out.alike (F := ⟨w6, Fresh wq w6⟩) (.head _) (a6.add j) (by rw [block_of_add]; exact hab6)).trans hc6'
              obtain ⟨b, hb⟩ : ∃ b, wayB f j = b := ⟨_, rfl⟩
              have HWB := Lib.hid hb
              clear hc6' hab6 hb
              cases b
              · rw [whereZ_no HWB.out] at hcw
                go_wp2_with fail
                go_roundw
                case rel => exact ⟨j + 1, A3, c3, by omega, by go_num, Lib.hid (by rw [trimC_no HWB.out, HNL.out]; exact Hp.drop (A := []) HP.out)⟩
                case measure => simp [intOf]; omega
              · rw [whereZ_yes HWB.out] at hcw
                have hop := HP.out.cell (.head _) 0 _ rfl
                by_cases h15 : x.op = 15 ∨ x.op = 16
                · obtain ⟨t0, t1⟩ := HOI.out.tgt h15
                  obtain ⟨t, ht⟩ := Int.eq_ofNat_of_zero_le t0
                  have HTI := Lib.hid (show trimI p f x = { x with imm := whereZ f t } by unfold trimI; rw [if_pos h15, ht, Int.toNat_natCast])
                  rw [ht] at HP t0 t1
                  obtain ⟨a7, ha7, hab7, hc7⟩ := HW6.out t (by omega)
                  cases ha7
                  have hct := (HP.out.alike (F := ⟨w6, Fresh wq w6⟩) (.head _) (a6.add t) (by rw [block_of_add]; exact hab7)).trans hc7
                  obtain ⟨z, hz⟩ : ∃ z, whereZ f t = z := ⟨_, rfl⟩
                  rw [hz] at hct HTI
                  have him := HP.out.cell (.head _) 4 _ rfl
                  clear hc7 hab7 hz ht
                  rcases h15 with h15 | h15
                  all_goals
                    have HH15 := Lib.hid h15
                    rw [h15] at hop
                    go_wp2_with (first | (refine wpList_st0 rfl 3 _ _ rfl HP.out rfl rfl (by simp) rfl rfl (by kernel_rfl) ?_; clear HP; intro wst HP; replace HP := Lib.hid HP) | (refine wpList_ld0 rfl 3 _ rfl HP.out rfl (v := .int .i64 x.op) rfl Tryd.underlying3 rfl ?_; rw [HH15.out]) | (refine wpList_ld0 rfl 70 _ rfl HP.out rfl rfl Tryd.underlying70 rfl ?_) | (refine wpList_ld1 rfl 70 _ rfl HP.out rfl rfl Tryd.underlying70 rfl ?_) | (refine wpList_ld2 rfl 70 _ rfl HP.out rfl rfl Tryd.underlying70 rfl ?_) | (refine wpList_ldR0 rfl 85 _ rfl HP.out rfl Tryd.underlying85 rfl (by kernel_rfl) ?_) | (refine wpList_slice_hp rfl 70 85 1 _ rfl HP.out Tryd.underlying70 #[.int .i64 x.op, .int .i64 x.dst, .int .i64 x.a, .int .i64 x.b, .int .i64 z] (by kernel_rfl) ?_; clear HP; intro gi wi HP; replace HP := Lib.hid HP) | (at_builtin; refine wpList_app1 rfl _ _ 70 rfl i_Ins (.agg #[.int .i64 0, .int .i64 0, .int .i64 0, .int .i64 0, .int .i64 0]) Tryd.underlying70 hi_Ins hz_Ins hs_Ins rfl (by decide) hy_Ins (n + 1) (by omega) HP.out rfl rfl rfl (by simp [Value.oneCell']) (by unfold maxLen; omega) (by omega) ?_; clear HP; intro A4 c4 wap HP; replace HP := Lib.hid HP) | (refine wpList_st0 rfl 70 _ _ rfl HP.out rfl rfl (by simp) rfl rfl (by kernel_rfl) ?_; clear HP; intro wst HP; replace HP := Lib.hid HP) | (refine wpList_st1 rfl 70 _ _ rfl HP.out rfl rfl (by simp) rfl rfl (by kernel_rfl) ?_; clear HP; intro wst HP; replace HP := Lib.hid HP) | (refine wpList_st2 rfl 70 _ _ rfl HP.out rfl rfl (by simp) rfl rfl (by kernel_rfl) ?_; clear HP; intro wst HP; replace HP := Lib.hid HP))
                    go_roundw
                    case rel => exact ⟨j + 1, A4, c4, by omega, by go_num, Lib.hid (by
                        rw [trimC_yes HWB.out HXS.out, HTI.out, List.length_append, HNL.out, List.flatMap_append]
                        exact Hp.drop (A := []) HP.out)⟩
                    case measure => simp [intOf]; omega
                · by_cases h17 : x.op = 17
                  · obtain ⟨t0, t1⟩ := HOI.out.cal h17
                    obtain ⟨t, ht⟩ := Int.eq_ofNat_of_zero_le t0
                    have HTI := Lib.hid (show trimI p f x = { x with imm := (numC p t : Int) } by unfold trimI; rw [if_neg h15, if_pos h17, ht, Int.toNat_natCast])
                    rw [ht] at HP t0 t1
                    have him := HP.out.cell (.head _) 4 _ rfl
                    rw [h17] at hop
                    clear ht
                    go_wp2_with fail
                    clear him hop hcw
                    go_hide hQ2
                    go_loopw [13, 14] (fun n' k' wr => ∃ r : Nat, r ≤ t ∧ n' = .int .i64 (numC p r : Nat) ∧ k' = .int .i64 r ∧ Hid (Hp w [{ w := w6, S := Fresh wq w6 }, { w := wf, S := Sf }, { w := w5, S := Fresh w2 w5 }, { w := w, S := Lt w.heap.size }] [Res.blk g12 85 [.int .i64 x.op, .int .i64 x.dst, .int .i64 x.a, .int .i64 x.b, .int .i64 t], Res.row (.slice A3 n c3) 85 5 n ((trimC p f j).flatMap insEnc), Res.blk g10 72 [.int .i64 f.params, .int .i64 f.regs, .slice A3 n c3], Res.row (.slice A' m c') 72 3 m (((trimL p q2).zip vs).flatMap funEnc), Res.blk g6 24 [.slice A' m c'], Res.blk g2 24 [.slice none 0 0], Res.blk g1 24 [.slice (some ad) p.funcs.length c]] wr)) (fun _ k' _ => t - (intOf k').toNat)
                    case atStart => exact ⟨0, by omega, rfl, rfl, HP⟩
                    case round =>
                      clear HP
                      obtain ⟨r, hr, rfl, rfl, HP⟩ := hrel
                      obtain ⟨wm, rfl⟩ : ∃ wm : World, wm = wr := ⟨_, rfl⟩
                      have hnc := numC_le p r
                      have HCS := Lib.hid (show numC p (r + 1) = numC p r + (calledB p r).toNat from rfl)
                      obtain ⟨y, hy⟩ : ∃ y, numC p r = y := ⟨_, rfl⟩
                      rw [hy] at hnc HCS
                      rw [hy]
                      have HY := Lib.hid hy
                      have him := HP.out.cell (.head _) 4 _ rfl
                      clear hy
                      by_cases hrt : r < t
                      · obtain ⟨a8, ha8, hab8, hc8⟩ := HC.out r (by omega)
                        cases ha8
                        have hcr := (HP.out.alike (F := ⟨w5, Fresh w2 w5⟩) (by simp) (a5.add r) (by rw [block_of_add]; exact hab8)).trans hc8
                        obtain ⟨br, hbr⟩ : ∃ br, calledB p r = br := ⟨_, rfl⟩
                        rw [hbr] at hcr HCS
                        have hrl : (r : Int) < (p.funcs.length : Int) := by omega
                        have hrt2 : (r : Int) < (t : Int) := by omega
                        clear hc8 hab8 hbr
                        cases br
                        all_goals
                          go_wp2_with fail
                          go_roundw
                          case rel => exact ⟨r + 1, by omega, by rw [HCS.out]; go_num, by go_num, HP⟩
                          case measure => simp [intOf]; omega
                      · obtain rfl : r = t := by omega
                        obtain ⟨z, hz⟩ : ∃ z, (numC p r : Int) = z := ⟨_, rfl⟩
                        rw [hz] at HTI
                        have hyz : (y : Int) = z := by rw [← HY.out]; exact hz
                        have HYZ := Lib.hid hyz
                        clear hz hyz
                        go_wp2_with fail
                        subst hQ2
                        rw [HYZ.out]
                        clear him
                        go_wp2_with (first | (refine wpList_st0 rfl 3 _ _ rfl HP.out rfl rfl (by simp) rfl rfl (by kernel_rfl) ?_; clear HP; intro wst HP; replace HP := Lib.hid HP) | (refine wpList_ld0 rfl 70 _ rfl HP.out rfl rfl Tryd.underlying70 rfl ?_) | (refine wpList_ld1 rfl 70 _ rfl HP.out rfl rfl Tryd.underlying70 rfl ?_) | (refine wpList_ld2 rfl 70 _ rfl HP.out rfl rfl Tryd.underlying70 rfl ?_) | (refine wpList_ldR0 rfl 85 _ rfl HP.out rfl Tryd.underlying85 rfl (by kernel_rfl) ?_) | (refine wpList_slice_hp rfl 70 85 1 _ rfl HP.out Tryd.underlying70 #[.int .i64 x.op, .int .i64 x.dst, .int .i64 x.a, .int .i64 x.b, .int .i64 z] (by kernel_rfl) ?_; clear HP; intro gi wi HP; replace HP := Lib.hid HP) | (at_builtin; refine wpList_app1 rfl _ _ 70 rfl i_Ins (.agg #[.int .i64 0, .int .i64 0, .int .i64 0, .int .i64 0, .int .i64 0]) Tryd.underlying70 hi_Ins hz_Ins hs_Ins rfl (by decide) hy_Ins (n + 1) (by omega) HP.out rfl rfl rfl (by simp [Value.oneCell']) (by unfold maxLen; omega) (by omega) ?_; clear HP; intro A4 c4 wap HP; replace HP := Lib.hid HP) | (refine wpList_st0 rfl 70 _ _ rfl HP.out rfl rfl (by simp) rfl rfl (by kernel_rfl) ?_; clear HP; intro wst HP; replace HP := Lib.hid HP) | (refine wpList_st1 rfl 70 _ _ rfl HP.out rfl rfl (by simp) rfl rfl (by kernel_rfl) ?_; clear HP; intro wst HP; replace HP := Lib.hid HP) | (refine wpList_st2 rfl 70 _ _ rfl HP.out rfl rfl (by simp) rfl rfl (by kernel_rfl) ?_; clear HP; intro wst HP; replace HP := Lib.hid HP))
                        go_roundw
                        case rel => exact ⟨j + 1, A4, c4, by omega, by go_num, Lib.hid (by
                            rw [trimC_yes HWB.out HXS.out, HTI.out, List.length_append, HNL.out, List.flatMap_append]
                            exact Hp.drop (A := []) HP.out)⟩
                        case measure => simp [intOf]; omega
                  · have HTI := Lib.hid (show trimI p f x = x by unfold trimI; rw [if_neg h15, if_neg h17])
                    have b15 : (x.op == 15) = false := by rw [beq_eq_false_iff_ne]; exact fun h => h15 (.inl h)
                    have b16 : (x.op == 16) = false := by rw [beq_eq_false_iff_ne]; exact fun h => h15 (.inr h)
                    have b17 : (x.op == 17) = false := by rw [beq_eq_false_iff_ne]; exact h17
                    clear h15 h17
                    go_wp2_with (first | (refine wpList_ld0 rfl 70 _ rfl HP.out rfl rfl Tryd.underlying70 rfl ?_) | (refine wpList_ld1 rfl 70 _ rfl HP.out rfl rfl Tryd.underlying70 rfl ?_) | (refine wpList_ld2 rfl 70 _ rfl HP.out rfl rfl Tryd.underlying70 rfl ?_) | (refine wpList_ldR0 rfl 85 _ rfl HP.out rfl Tryd.underlying85 rfl (by kernel_rfl) ?_) | (refine wpList_slice_hp rfl 70 85 1 _ rfl HP.out Tryd.underlying70 #[.int .i64 x.op, .int .i64 x.dst, .int .i64 x.a, .int .i64 x.b, .int .i64 x.imm] (by kernel_rfl) ?_; clear HP; intro gi wi HP; replace HP := Lib.hid HP) | (at_builtin; refine wpList_app1 rfl _ _ 70 rfl i_Ins (.agg #[.int .i64 0, .int .i64 0, .int .i64 0, .int .i64 0, .int .i64 0]) Tryd.underlying70 hi_Ins hz_Ins hs_Ins rfl (by decide) hy_Ins (n + 1) (by omega) HP.out rfl rfl rfl (by simp [Value.oneCell']) (by unfold maxLen; omega) (by omega) ?_; clear HP; intro A4 c4 wap HP; replace HP := Lib.hid HP) | (refine wpList_st0 rfl 70 _ _ rfl HP.out rfl rfl (by simp) rfl rfl (by kernel_rfl) ?_; clear HP; intro wst HP; replace HP := Lib.hid HP) | (refine wpList_st1 rfl 70 _ _ rfl HP.out rfl rfl (by simp) rfl rfl (by kernel_rfl) ?_; clear HP; intro wst HP; replace HP := Lib.hid HP) | (refine wpList_st2 rfl 70 _ _ rfl HP.out rfl rfl (by simp) rfl rfl (by kernel_rfl) ?_; clear HP; intro wst HP; replace HP := Lib.hid HP))
                    go_roundw
                    case rel => exact ⟨j + 1, A4, c4, by omega, by go_num, Lib.hid (by
                        rw [trimC_yes HWB.out HXS.out, HTI.out, List.length_append, HNL.out, List.flatMap_append]
                        exact Hp.drop (A := []) HP.out)⟩
                    case measure => simp [intOf]; omega
            · obtain rfl : j = f.code.length := by omega
              have HLV := Lib.hid HV.out.1.len
              have HZIP := Lib.hid (show ((trimL p q2 ++ [trimF p f]).zip (vs ++ [.slice A3 n c3])).flatMap funEnc = ((trimL p q2).zip vs).flatMap funEnc ++ [.int .i64 f.params, .int .i64 f.regs, .slice A3 n c3] by
                rw [List.zip_append HLV.out.symm, List.flatMap_append]; rfl)
              go_wp2_with fail
              subst hQ
              obtain ⟨i_Fun, hi_Fun, hz_Fun, hs_Fun, hy_Fun⟩ := info_parts info_fun
              go_wp2_with (first | (refine wpList_ld0 rfl 22 _ rfl HP.out rfl rfl Tryd.underlying22 rfl ?_) | (refine wpList_ld1 rfl 22 _ rfl HP.out rfl rfl Tryd.underlying22 rfl ?_) | (refine wpList_ld2 rfl 22 _ rfl HP.out rfl rfl Tryd.underlying22 rfl ?_) | (refine wpList_ld3 rfl 22 _ rfl HP.out rfl rfl Tryd.underlying22 rfl ?_) | (refine wpList_ld4 rfl 22 _ rfl HP.out rfl rfl Tryd.underlying22 rfl ?_) | (refine wpList_ldR0 rfl 72 _ rfl HP.out rfl Tryd.underlying72 rfl (by kernel_rfl) ?_) | (refine wpList_ldR1 rfl 72 _ rfl HP.out rfl Tryd.underlying72 rfl (by kernel_rfl) ?_) | (refine wpList_slice_hp rfl 22 72 1 _ rfl HP.out Tryd.underlying22 #[.int .i64 f.params, .int .i64 f.regs, .slice A3 n c3] (by kernel_rfl) ?_; clear HP; intro gi wi HP; replace HP := Lib.hid HP) | (at_builtin; refine wpList_app2 rfl _ _ 22 rfl i_Fun (.agg #[.int .i64 0, .int .i64 0, .slice none 0 0]) Tryd.underlying22 hi_Fun hz_Fun hs_Fun rfl (by decide) hy_Fun (m + 1) (by omega) HP.out rfl rfl rfl (by simp [Value.oneCell']) (by unfold maxLen; omega) (by omega) ?_; clear HP; intro A4 c4 wap HP; replace HP := Lib.hid HP) | (refine wpList_st0 rfl 22 _ _ rfl HP.out rfl rfl (by simp) rfl rfl (by kernel_rfl) ?_; clear HP; intro wst HP; replace HP := Lib.hid HP) | (refine wpList_st1 rfl 22 _ _ rfl HP.out rfl rfl (by simp) rfl rfl (by kernel_rfl) ?_; clear HP; intro wst HP; replace HP := Lib.hid HP) | (refine wpList_st2 rfl 22 _ _ rfl HP.out rfl rfl (by simp) rfl rfl (by kernel_rfl) ?_; clear HP; intro wst HP; replace HP := Lib.hid HP) | (refine wpList_st3 rfl 22 _ _ rfl HP.out rfl rfl (by simp) rfl rfl (by kernel_rfl) ?_; clear HP; intro wst HP; replace HP := Lib.hid HP) | (refine wpList_st4 rfl 22 _ _ rfl HP.out rfl rfl (by simp) rfl rfl (by kernel_rfl) ?_; clear HP; intro wst HP; replace HP := Lib.hid HP))
              go_roundw
              case rel =>
                have H := HP.out.froDrop
                have hr := Hp.rowOwn insEnc 5 rfl (by decide) (fun _ => rfl) (fun _ _ _ => rep_ins.2 rfl) H (.head _) rfl
                have hs := FunsAt.snoc (A := []) HV.out.1 H (f := trimF p f) hr
                have hz := Hp.drop (A := []) (Hp.freeze (A := []) H)
                have hS : ∀ b, (Sf b ∨ (Res.row (.slice A3 n c3) 85 5 n ((trimC p f f.code.length).flatMap insEnc)).foot = some b) → w.heap.size ≤ b := fun b hb => Or.elim hb (HV.out.2 b) (fun h => ((H.own _ (.head _)).2 b h).1)
                refine ⟨q2 + 1, A4, c4, vs ++ [.slice A3 n c3], _, fun b => Sf b ∨ (Res.row (.slice A3 n c3) 85 5 n ((trimC p f f.code.length).flatMap insEnc)).foot = some b, by omega, by go_num, Lib.hid ⟨by rw [trimL_yes HB.out HFK.out]; exact hs, hS⟩, Lib.hid ?_⟩
                rw [trimL_yes HB.out HFK.out, List.length_append, HM.out, HZIP.out]
                exact hz
              case measure => simp [intOf]; omega
      · obtain rfl : q2 = p.funcs.length := by omega
        go_wp2_with (first | (refine wpList_ld0 rfl 22 _ rfl HP.out rfl rfl Tryd.underlying22 rfl ?_) | (refine wpList_ld1 rfl 22 _ rfl HP.out rfl rfl Tryd.underlying22 rfl ?_) | (refine wpList_ld2 rfl 22 _ rfl HP.out rfl rfl Tryd.underlying22 rfl ?_) | (refine wpList_ld3 rfl 22 _ rfl HP.out rfl rfl Tryd.underlying22 rfl ?_) | (refine wpList_ldR0 rfl 24 _ rfl HP.out rfl Tryd.underlying24 rfl (by kernel_rfl) ?_) | (refine wpList_ldR1 rfl 24 _ rfl HP.out rfl Tryd.underlying24 rfl (by kernel_rfl) ?_) | (refine wpList_ldR2 rfl 24 _ rfl HP.out rfl Tryd.underlying24 rfl (by kernel_rfl) ?_) | (refine wpList_ldR3 rfl 24 _ rfl HP.out rfl Tryd.underlying24 rfl (by kernel_rfl) ?_) | (refine wpList_ldR4 rfl 24 _ rfl HP.out rfl Tryd.underlying24 rfl (by kernel_rfl) ?_) | (refine wpList_ldR5 rfl 24 _ rfl HP.out rfl Tryd.underlying24 rfl (by kernel_rfl) ?_) | (refine wpList_stR0 rfl 24 _ _ rfl HP.out rfl (cs' := [_]) rfl rfl (by simp [Value.oneCell']) (by kernel_rfl) ?_; clear HP; intro wst HP; replace HP := Lib.hid HP) | (refine wpList_stR1 rfl 24 _ _ rfl HP.out rfl (cs' := [_]) rfl rfl (by simp [Value.oneCell']) (by kernel_rfl) ?_; clear HP; intro wst HP; replace HP := Lib.hid HP) | (refine wpList_stR2 rfl 24 _ _ rfl HP.out rfl (cs' := [_]) rfl rfl (by simp [Value.oneCell']) (by kernel_rfl) ?_; clear HP; intro wst HP; replace HP := Lib.hid HP) | (refine wpList_stR3 rfl 24 _ _ rfl HP.out rfl (cs' := [_]) rfl rfl (by simp [Value.oneCell']) (by kernel_rfl) ?_; clear HP; intro wst HP; replace HP := Lib.hid HP) | (refine wpList_stR4 rfl 24 _ _ rfl HP.out rfl (cs' := [_]) rfl rfl (by simp [Value.oneCell']) (by kernel_rfl) ?_; clear HP; intro wst HP; replace HP := Lib.hid HP) | (refine wpList_stR5 rfl 24 _ _ rfl HP.out rfl (cs' := [_]) rfl rfl (by simp [Value.oneCell']) (by kernel_rfl) ?_; clear HP; intro wst HP; replace HP := Lib.hid HP))
        refine bodyPost_ret (results_cell_two rfl _ _ g2 24 #[.slice A' m c'] (0, 0) _ rfl (HP.out.blk (.tail _ (.tail _ (.head _)))) Tryd.underlying24 rfl (by kernel_rfl)) rfl ⟨_, by rw [HANS.out]; rfl, ?_, HP.out.below⟩
        rw [HANS.out]
        exact rep_prg.2 (HP.out.rowFuns (.head _) rfl HV.out.1 HV.out.2)
  · have hans : trimAns p = (⟨[]⟩, proven p) := by unfold trimAns; rw [if_pos hz]
    have hca := calledAns_bad hz
    obtain ⟨e0, he0⟩ : ∃ e0, proven p = e0 := ⟨_, rfl⟩
    rw [he0] at hz hans hca
    have HANS := Lib.hid hans
    have HCA := Lib.hid hca
    have hzb : (e0 != 0) = true := by simpa using hz
    clear he0 hz hans hca
    go_enter Tryd.func29, Tryd.ntmps29
    go_wp2_with (first | (refine wpList_box_hp (o := ⟨some 1, _, _, _, _, _⟩) rfl _ _ rfl HP.out [_] rfl ?_; clear HP; intro g1 w1 HP; replace HP := Lib.hid HP) | (refine wpList_alloc_hp (o := ⟨some 2, _, _, _, _, _⟩) rfl _ rfl HP.out (.agg #[.slice none 0 0]) (by kernel_rfl) [_] rfl ?_; clear HP; intro g2 w2 HP; replace HP := Lib.hid HP) | (refine wpList_ldR0 rfl 24 _ rfl HP.out rfl Tryd.underlying24 rfl (by kernel_rfl) ?_) | (refine wpList_ldR1 rfl 24 _ rfl HP.out rfl Tryd.underlying24 rfl (by kernel_rfl) ?_) | (refine wpList_ldR2 rfl 24 _ rfl HP.out rfl Tryd.underlying24 rfl (by kernel_rfl) ?_) | (refine wpList_stR0 rfl 24 _ _ rfl HP.out rfl (cs' := [_]) rfl rfl (by simp [Value.oneCell']) (by kernel_rfl) ?_; clear HP; intro wst HP; replace HP := Lib.hid HP) | (refine wpList_stR1 rfl 24 _ _ rfl HP.out rfl (cs' := [_]) rfl rfl (by simp [Value.oneCell']) (by kernel_rfl) ?_; clear HP; intro wst HP; replace HP := Lib.hid HP) | (refine wpList_stR2 rfl 24 _ _ rfl HP.out rfl (cs' := [_]) rfl rfl (by simp [Value.oneCell']) (by kernel_rfl) ?_; clear HP; intro wst HP; replace HP := Lib.hid HP) | (go_at_call 26; refine (CalledOf2_any p _ _ (HP.out.rep (F := ⟨w, Lt w.heap.size⟩) (by simp) HR.out)).mono ?_; rintro e w5 ⟨v5, rfl, hv5, hb5⟩; replace HP := Lib.hid (HP.out.call0 hb5); rw [HCA.out]; clear hv5 hb5))
    refine bodyPost_ret (results_cell_two rfl _ _ g2 24 #[.slice none 0 0] (0, 0) _ rfl (HP.out.blk (.head _)) Tryd.underlying24 rfl (by kernel_rfl)) rfl ⟨_, by rw [HANS.out]; rfl, ?_, HP.out.below⟩
    rw [HANS.out]
    exact rep_prg.2 ⟨none, 0, rfl, Nat.le_refl _, by unfold maxLen; omega, fun k x h => by simp at h⟩
end Go.Proofs.YtfhoffpdodjfeaaDoor
