/- tierline/tiers.Tidy. -/
import Derived.Test.YtigbdlcjnnphbaaDoorWalk0
import Derived.Test.YtigbdlcjnnphbaaDoorLive
import Derived.Test.YtigbdlcjnnphbaaDoorMgPrNestNestB3
import Derived.Test.YtigbdlcjnnphbaaDoorStill
import Derived.Test.YtigbdlcjnnphbaaDoorMgSureSProvenC2
set_option linter.unusedSimpArgs false
set_option linter.unusedVariables false
namespace Go.Proofs.YtigbdlcjnnphbaaDoor
open Go.RowKit Plain64
attribute [local irreducible] wpList Code.wp Oper.wp
set_option maxRecDepth 100000 in
set_option maxHeartbeats 10000000 in
theorem Tidy_any (p : Prg) (v : Value) (s : Sta) (u e a : Value) (w : World) (hp : Lay.rep w (Lt w.heap.size) p [v]) (hf : Lay.rep w (Lt w.heap.size) s.frames [u]) (he : Lay.rep w (Lt w.heap.size) s.events [e]) (ha : Lay.rep w (Lt w.heap.size) s.answers [a]) (hle : s.events.length ≤ 17592186044000) (hh : Has w) :
    Calls Tryd.prog 5 #[.agg #[v], .agg (staCells s u e a).toArray] w fun r w' => ∃ u' e' a', r = .returned (.tuple #[.agg (staCells (tidyAns p s).1 u' e' a').toArray, .int .i64 (tidyAns p s).2]) ∧ Lay.rep w' (Fresh w w') (tidyAns p s).1.frames [u'] ∧ Lay.rep w' (Fresh w w') (tidyAns p s).1.events [e'] ∧ Lay.rep w' (Fresh w w') (tidyAns p s).1.answers [a'] ∧ Below w.heap.size w w' := by
  obtain ⟨A, cP, rfl, hc, hm, -⟩ := rep_prg_at hp
  obtain ⟨A2, c2, rfl, hc2, hm2, -⟩ := rep_frames_at hf
  obtain ⟨AE, ce, rfl, hce, hme, -⟩ := rep_ints_at he
  obtain ⟨AA, ca, rfl, hca, hma, -⟩ := rep_ints_at ha
  unfold maxLen at hm hm2 hme hma
  have HR := Lib.hid hp
  have HF := Lib.hid hf
  have HE := Lib.hid he
  have HA := Lib.hid ha
  have HH := Lib.hid hh
  clear hp hf he ha hh
  have HP := Lib.hid (Hp.start w)
  by_cases hz : stateFault p s = 0
  · have hlf : s.frames.length ≤ 1256584717421 := by have := (sf_zero hz).2.1.frames; omega
    have hla : s.answers.length ≤ 17592186044000 := by have := (sf_zero hz).2.1.answers; omega
    have hl8 := (sf_zero hz).2.1.frames
    have HZ := Lib.hid hz
    have HAN := Lib.hid (tidy_ok hz)
    have HOW := Lib.hid (sf_zero hz).2.2.own
    have HPV := Lib.hid (sf_zero hz).1
    clear hz
    go_enter Tryd.func5, Tryd.ntmps5
    go_upto_region 5 with (first | (refine wpList_box_hp (o := ⟨some 2, _, _, _, _, _⟩) rfl _ _ rfl HP.out [_] rfl ?_; clear HP; intro g2 w2 HP; replace HP := Lib.hid HP) | (refine wpList_box_hp (o := ⟨some 3, _, _, _, _, _⟩) rfl _ _ rfl HP.out (staCells s (.slice A2 s.frames.length c2) (.slice AE s.events.length ce) (.slice AA s.answers.length ca)) rfl ?_; clear HP; intro g3 w3 HP; replace HP := Lib.hid HP) | (refine wpList_alloc_hp (o := ⟨some 4, _, _, _, _, _⟩) rfl _ rfl HP.out (.agg (staCells zeroS (.slice none 0 0) (.slice none 0 0) (.slice none 0 0)).toArray) (by kernel_rfl) (staCells zeroS (.slice none 0 0) (.slice none 0 0) (.slice none 0 0)) rfl ?_; clear HP; intro g4 w4 HP; replace HP := Lib.hid HP) | (refine wpList_ldR2 rfl 24 _ rfl HP.out rfl Tryd.underlying24 rfl (by kernel_rfl) ?_) | (refine wpList_ldR1 rfl 29 _ rfl HP.out rfl Tryd.underlying29 rfl (by kernel_rfl) ?_) | (go_at_call 10; refine (stepCheck_any p _ s _ _ _ _ (HP.out.rep (F := ⟨w, Lt w.heap.size⟩) (by simp) HR.out) (HP.out.rep (F := ⟨w, Lt w.heap.size⟩) (by simp) HF.out) (HP.out.rep (F := ⟨w, Lt w.heap.size⟩) (by simp) HE.out) (HP.out.rep (F := ⟨w, Lt w.heap.size⟩) (by simp) HA.out) (HH.out.keep HP.out.below rfl)).mono ?_; rintro r1 w5 ⟨rfl, hb⟩; replace HP := Lib.hid (HP.out.call0 hb); clear hb; rw [HZ.out]) | (go_at_call 11; refine (Walk0_any p _ s _ _ _ _ (HP.out.rep (F := ⟨w, Lt w.heap.size⟩) (by simp) HR.out) (HP.out.rep (F := ⟨w, Lt w.heap.size⟩) (by simp) HF.out) (HP.out.rep (F := ⟨w, Lt w.heap.size⟩) (by simp) HE.out) (HP.out.rep (F := ⟨w, Lt w.heap.size⟩) (by simp) HA.out) HZ.out hle (HH.out.keep HP.out.below rfl)).mono ?_; rintro r2 w6 ⟨u5, e5, a5, rfl, hb5⟩; replace HP := Lib.hid (by simpa only [List.cons_append, List.nil_append] using HP.out.takeEnd hb5); clear hb5) | (refine wpList_alloc_hp (o := ⟨some 7, _, _, _, _, _⟩) rfl _ rfl HP.out (.agg (staCells zeroS (.slice none 0 0) (.slice none 0 0) (.slice none 0 0)).toArray) (by kernel_rfl) (staCells zeroS (.slice none 0 0) (.slice none 0 0) (.slice none 0 0)) rfl ?_; clear HP; intro g7 w7 HP; replace HP := Lib.hid HP) | (refine wpList_stR0 rfl 29 _ _ rfl HP.out rfl (cs' := staCells s u5 e5 a5) rfl rfl (sta_one0 (HP.out.rowOne0 _ (.tail _ (.tail _ (.tail _ (.tail _ (.head _)))))) (HP.out.rowOne0 _ (.tail _ (.tail _ (.tail _ (.tail _ (.tail _ (.head _))))))) (HP.out.rowOne0 _ (.tail _ (.tail _ (.tail _ (.tail _ (.tail _ (.tail _ (.head _))))))))) (by kernel_rfl) ?_; clear HP; intro wst HP; replace HP := Lib.hid HP))
    obtain ⟨A5, c5, rfl, h5⟩ := HP.out.rowShape (.tail _ (.tail _ (.tail _ (.tail _ (.head _)))))
    go_wp2_with (first | (refine wpList_ld0 rfl 25 _ rfl HP.out rfl rfl Tryd.underlying25 rfl ?_))
    go_loopw [30] (fun i wr => ∃ (k : Nat) (Gs : List Fro), k ≤ s.frames.length ∧ i = .int .i64 k ∧ Hid (⟨w, Lt w.heap.size⟩ ∈ Gs) ∧ Hid (Hp w Gs [.blk g7 29 (staCells s (.slice A5 s.frames.length c5) e5 a5), .blk g4 29 (staCells zeroS (.slice none 0 0) (.slice none 0 0) (.slice none 0 0)), .blk g3 29 (staCells s (.slice A2 s.frames.length c2) (.slice AE s.events.length ce) (.slice AA s.answers.length ca)), .blk g2 24 [.slice A p.funcs.length cP], .row (.slice A5 s.frames.length c5) 42 14 s.frames.length (((s.frames.take k).map (tidyF p) ++ s.frames.drop k).flatMap frmCells), .row e5 3 1 s.events.length (s.events.map (Value.int .i64)), .row a5 3 1 s.answers.length (s.answers.map (Value.int .i64))] wr)) (fun i _ => s.frames.length - (intOf i).toNat)
    case atStart => exact ⟨0, [⟨w, Lt w.heap.size⟩], by omega, rfl, Lib.hid (.head _), by rw [List.take_zero, List.drop_zero, List.map_nil, List.nil_append]; exact HP⟩
    case round =>
      clear HP
      obtain ⟨k, Gs, hk, rfl, HGS, HP⟩ := hrel
      replace HP := Lib.hid (HP.out.froKeep (Fs' := [⟨w, Lt w.heap.size⟩]) (fun F hF => List.mem_singleton.1 hF ▸ HGS.out))
      obtain ⟨wo, rfl⟩ : ∃ wo : World, wo = wr := ⟨_, rfl⟩
      by_cases hlt : k < s.frames.length
      · have hlt2 : (k : Int) < (s.frames.length : Int) := by omega
        obtain ⟨gF, hgF⟩ := h5 (by omega)
        subst hgF
        obtain ⟨f, hfk⟩ : ∃ f, s.frames[k] = f := ⟨_, rfl⟩
        obtain ⟨j, hj, hjl, hzr⟩ := own_live HPV.out (HOW.out f (hfk ▸ List.getElem_mem hlt))
        obtain ⟨l, hl⟩ : ∃ l, (liveAns p f.fn).1 = l := ⟨_, rfl⟩
        obtain ⟨z, hzz⟩ : ∃ z, l.getD j 0 = z := ⟨_, rfl⟩
        rw [hl] at hjl hzr
        rw [hzz] at hzr
        have HTF := Lib.hid (show keepK z f 12 = tidyF p f by unfold tidyF liveZ; rw [hl, hj, Int.toNat_natCast, hzz])
        have HLJ := Lib.hid (show l[j] = z by rw [← hzz, List.getD_eq_getElem?_getD, List.getElem?_eq_getElem hjl]; rfl)
        have HL := Lib.hid hl
        have HJ := Lib.hid hj
        have hq : ((s.frames.take k).map (tidyF p)).length = k := by rw [List.length_map, List.length_take]; omega
        have HQ := Lib.hid hq
        have HNX := Lib.hid (frms_next (p := p) hlt)
        rw [hfk] at HNX
        rw [frms_step hlt, hfk, List.flatMap_append, List.flatMap_cons] at HP
        have hj2 : (j : Int) < (l.length : Int) := by omega
        clear hfk hl hzz hj hq
        go_upto_region 9 with (first | (refine wpList_ld0 rfl 25 _ rfl HP.out rfl rfl Tryd.underlying25 rfl ?_))
        replace HP := Lib.hid HP.out.drew
        have HFNC := Lib.hid (show (((s.frames.take k).map (tidyF p)).flatMap frmCells ++ (frmCells f ++ (s.frames.drop (k + 1)).flatMap frmCells))[k * 14]? = some (.int .i64 f.fn) from (mid_at HQ.out (by omega) (Nat.add_zero _).symm).trans rfl)
        refine wp_region_held_drew (S := fun w' => At w' ⟨g2, 0, none⟩ [.slice A p.funcs.length cP] ∧ w'.cell? ⟨gF, k * 14, none⟩ = some (.int .i64 f.fn)) (by kernel_rfl) ⟨HP.out.blkAt (.tail _ (.tail _ (.tail _ (.head _)))) 0, HP.out.rowCell (g := gF) (.tail _ (.tail _ (.tail _ (.tail _ (.head _))))) (k * 14) _ HFNC.out⟩ (fun hHeld => ?_)
        have HS0 := Lib.hid hHeld
        clear hHeld
        (try simp only [Act.put, List.setIfInBounds_toArray, List.set_cons_zero, List.set_cons_succ])
        refine wpAnyH_row (i := 0) rfl (by kernel_rfl) (by kernel_rfl) (by kernel_rfl) (fun _ _ _ _ h => h) rfl 24 _ rfl _ rfl _ _ (fun _ h => h.1) Tryd.underlying24 rfl (by kernel_rfl) HS0.out ?_
        (try simp only [List.getElem_toArray, List.getElem_cons_succ, List.getElem_cons_zero, Act.put, List.setIfInBounds_toArray, List.set_cons_zero, List.set_cons_succ])
        refine wpAnyH_take (i := 1) (v := ?_) rfl (by kernel_rfl) (by kernel_rfl) (by kernel_rfl) (fun _ _ _ h => h) (.inl ⟨by simp [Region.wanted], ?_⟩) HS0.out ?_
        rotate_left
        · intro w' hw
          obtain ⟨k0, k1⟩ := hw
          go_simp
          (try with_reducible rfl)
        (try simp only [List.getElem_toArray, List.getElem_cons_succ, List.getElem_cons_zero, Act.put, List.setIfInBounds_toArray, List.set_cons_zero, List.set_cons_succ])
        refine wpAnyH_take (i := 2) (v := ?_) rfl (by kernel_rfl) (by kernel_rfl) (by kernel_rfl) (fun _ _ _ h => h) (.inl ⟨by simp [Region.wanted], ?_⟩) HS0.out ?_
        rotate_left
        · intro w' hw
          obtain ⟨k0, k1⟩ := hw
          go_simp
          (try with_reducible rfl)
        (try simp only [List.getElem_toArray, List.getElem_cons_succ, List.getElem_cons_zero, Act.put, List.setIfInBounds_toArray, List.set_cons_zero, List.set_cons_succ])
        refine wpAnyH_take (i := 3) (v := ?_) rfl (by kernel_rfl) (by kernel_rfl) (by kernel_rfl) (fun _ _ _ h => h) (.inl ⟨by simp [Region.wanted], ?_⟩) HS0.out ?_
        rotate_left
        · intro w' hw
          obtain ⟨k0, k1⟩ := hw
          go_simp
          (try with_reducible rfl)
        (try simp only [List.getElem_toArray, List.getElem_cons_succ, List.getElem_cons_zero, Act.put, List.setIfInBounds_toArray, List.set_cons_zero, List.set_cons_succ])
        refine wpAnyH_take (i := 4) (v := ?_) rfl (by kernel_rfl) (by kernel_rfl) (by kernel_rfl) (fun _ _ _ h => h) (.inl ⟨by simp [Region.wanted], ?_⟩) HS0.out ?_
        rotate_left
        · intro w' hw
          obtain ⟨k0, k1⟩ := hw
          go_simp
          (try with_reducible rfl)
        (try simp only [List.getElem_toArray, List.getElem_cons_succ, List.getElem_cons_zero, Act.put, List.setIfInBounds_toArray, List.set_cons_zero, List.set_cons_succ])
        refine wpAnyH_ready (rs := [5]) (by kernel_rfl) (by simp) ?_
        refine AllReadyH.cons rfl (fun K hK => ?_) AllReadyH.nil
        go_simp
        refine (Live_any p _ f.fn _ (HP.out.rep (F := ⟨w, Lt w.heap.size⟩) (by simp) HR.out) (HH.out.keep HP.out.below rfl)).mono ?_
        rintro r3 w7 ⟨v5, rfl, hv5, hb⟩
        replace HP := Lib.hid (HP.out.call hb)
        have HV5 := Lib.hid hv5
        clear hb hv5
        dsimp only
        refine hK.out _ _ ⟨HP.out.blkAt (.tail _ (.tail _ (.tail _ (.head _)))) 0, HP.out.rowCell (g := gF) (.tail _ (.tail _ (.tail _ (.tail _ (.head _))))) (k * 14) _ HFNC.out⟩ (fun hHeld => ?_)
        replace HS0 := Lib.hid hHeld
        clear hK K hHeld
        (try simp only [List.getElem_toArray, List.getElem_cons_succ, List.getElem_cons_zero, Act.put, List.setIfInBounds_toArray, List.set_cons_zero, List.set_cons_succ])
        refine wpAnyH_take (i := 6) (v := ?_) rfl (by kernel_rfl) (by kernel_rfl) (by kernel_rfl) (fun _ _ _ h => h) (.inl ⟨by simp [Region.wanted], ?_⟩) HS0.out ?_
        rotate_left
        · intro w' hw
          obtain ⟨k0, k1⟩ := hw
          go_simp
          (try with_reducible rfl)
        (try simp only [List.getElem_toArray, List.getElem_cons_succ, List.getElem_cons_zero, Act.put, List.setIfInBounds_toArray, List.set_cons_zero, List.set_cons_succ])
        refine wpAnyH_take (i := 7) (v := ?_) rfl (by kernel_rfl) (by kernel_rfl) (by kernel_rfl) (fun _ _ _ h => h) (.inl ⟨by simp [Region.wanted], ?_⟩) HS0.out ?_
        rotate_left
        · intro w' hw
          obtain ⟨k0, k1⟩ := hw
          go_simp
          (try with_reducible rfl)
        (try simp only [List.getElem_toArray, List.getElem_cons_succ, List.getElem_cons_zero, Act.put, List.setIfInBounds_toArray, List.set_cons_zero, List.set_cons_succ])
        refine wpAnyH_take (i := 8) (v := ?_) rfl (by kernel_rfl) (by kernel_rfl) (by kernel_rfl) (fun _ _ _ h => h) (.inl ⟨by simp [Region.wanted], ?_⟩) HS0.out ?_
        rotate_left
        · intro w' hw
          obtain ⟨k0, k1⟩ := hw
          go_simp
          (try with_reducible rfl)
        (try simp only [List.getElem_toArray, List.getElem_cons_succ, List.getElem_cons_zero, Act.put, List.setIfInBounds_toArray, List.set_cons_zero, List.set_cons_succ])
        refine wpAnyH_ready (rs := [9]) (by kernel_rfl) (by simp) ?_
        refine AllReadyH.cons rfl (fun K hK => ?_) AllReadyH.nil
        go_simp
        refine hK.out _ _ ⟨HP.out.blkAt (.tail _ (.tail _ (.tail _ (.head _)))) 0, HP.out.rowCell (g := gF) (.tail _ (.tail _ (.tail _ (.tail _ (.head _))))) (k * 14) _ HFNC.out⟩ (fun hHeld => ?_)
        replace HS0 := Lib.hid hHeld
        clear hK K hHeld
        (try simp only [List.getElem_toArray, List.getElem_cons_succ, List.getElem_cons_zero, Act.put, List.setIfInBounds_toArray, List.set_cons_zero, List.set_cons_succ])
        refine wpAnyH_ready (rs := [10]) (by kernel_rfl) (by simp) ?_
        refine AllReadyH.cons rfl (fun K hK => ?_) AllReadyH.nil
        go_simp
        refine hK.out _ _ ⟨HP.out.blkAt (.tail _ (.tail _ (.tail _ (.head _)))) 0, HP.out.rowCell (g := gF) (.tail _ (.tail _ (.tail _ (.tail _ (.head _))))) (k * 14) _ HFNC.out⟩ (fun hHeld => ?_)
        clear hK K hHeld
        (try simp only [List.getElem_toArray, List.getElem_cons_succ, List.getElem_cons_zero, Act.put, List.setIfInBounds_toArray, List.set_cons_zero, List.set_cons_succ])
        refine wpAnyH_done (by kernel_rfl) ?_ _
        (try simp only [List.getElem_toArray, List.getElem_cons_succ, List.getElem_cons_zero, Act.put, List.setIfInBounds_toArray, List.set_cons_zero, List.set_cons_succ])
        clear HS0 HFNC
        rw [HL.out] at HV5
        obtain ⟨A8, c8, rfl, hc8, hm8, -⟩ := rep_ints_at HV5.out
        unfold maxLen at hm8
        obtain ⟨G5, HP, HS5⟩ : ∃ G : Fro, Hid (Hp w [G, ⟨w, Lt w.heap.size⟩] [.blk g7 29 (staCells s (.slice (some ⟨gF, 0, none⟩) s.frames.length c5) e5 a5), .blk g4 29 (staCells zeroS (.slice none 0 0) (.slice none 0 0) (.slice none 0 0)), .blk g3 29 (staCells s (.slice A2 s.frames.length c2) (.slice AE s.events.length ce) (.slice AA s.answers.length ca)), .blk g2 24 [.slice A p.funcs.length cP], .row (.slice (some ⟨gF, 0, none⟩) s.frames.length c5) 42 14 s.frames.length (((s.frames.take k).map (tidyF p)).flatMap frmCells ++ (frmCells (keepK z f 0) ++ (s.frames.drop (k + 1)).flatMap frmCells)), .row e5 3 1 s.events.length (s.events.map (Value.int .i64)), .row a5 3 1 s.answers.length (s.answers.map (Value.int .i64))] _) ∧ Hid (Lay.rep G.w G.S l [.slice A8 l.length c8]) := ⟨_, HP, HV5⟩
        clear HV5
        obtain ⟨A9, c9, e9, -, -, hx9⟩ := rep_ints_at (HP.out.rep (F := G5) (by simp) HS5.out)
        obtain ⟨a8, rfl, -, -⟩ := hx9 j hjl
        clear hx9
        obtain rfl : A8 = some a8 := (Value.slice.inj e9).1
        clear e9
        go_wp2
        go_loopw [46] (fun i wr => ∃ r : Nat, r ≤ 12 ∧ i = .int .i64 r ∧ Hid (Hp w [G5, ⟨w, Lt w.heap.size⟩] [.blk g7 29 (staCells s (.slice (some ⟨gF, 0, none⟩) s.frames.length c5) e5 a5), .blk g4 29 (staCells zeroS (.slice none 0 0) (.slice none 0 0) (.slice none 0 0)), .blk g3 29 (staCells s (.slice A2 s.frames.length c2) (.slice AE s.events.length ce) (.slice AA s.answers.length ca)), .blk g2 24 [.slice A p.funcs.length cP], .row (.slice (some ⟨gF, 0, none⟩) s.frames.length c5) 42 14 s.frames.length (((s.frames.take k).map (tidyF p)).flatMap frmCells ++ (frmCells (keepK z f r) ++ (s.frames.drop (k + 1)).flatMap frmCells)), .row e5 3 1 s.events.length (s.events.map (Value.int .i64)), .row a5 3 1 s.answers.length (s.answers.map (Value.int .i64))] wr)) (fun i _ => 12 - (intOf i).toNat)
        case atStart => exact ⟨0, by omega, rfl, HP⟩
        case round =>
          clear HP
          obtain ⟨r, hr, rfl, HP⟩ := hrel
          obtain ⟨wo2, rfl⟩ : ∃ wo : World, wo = wr := ⟨_, rfl⟩
          by_cases hlt3 : r < 12
          · have hr2 : (r : Int) < 12 := by omega
            have hr0 : (0 : Int) ≤ (r : Int) := by omega
            obtain ⟨A10, c10, e10, -, -, hx10⟩ := rep_ints_at (HP.out.rep (F := G5) (by simp) HS5.out)
            obtain ⟨a10, rfl, -, hcl⟩ := hx10 j hjl
            clear hx10
            obtain rfl : a8 = a10 := Option.some.inj (Value.slice.inj e10).1
            clear e10
            rw [HLJ.out] at hcl
            have qc := HP.out.rowCell (g := gF) (.tail _ (.tail _ (.tail _ (.tail _ (.head _))))) (k * 14 + 1) _ ((mid_at HQ.out (by omega) rfl).trans (show (frmCells (keepK z f r))[1]? = some (.int .i64 (j : Int)) by show some (iV (keepK z f r).pc) = _; rw [(keepK_rest z f r).2, HJ.out]))
            by_cases h0 : 0 ≤ z
            · have t5 : decide (z < 0) = false := decide_eq_false (by omega)
              obtain ⟨x, hx⟩ : ∃ x, z / 2 ^ r = x := ⟨_, rfl⟩
              have hsh : Op.shift .shr .i64 z .i64 (r : Int) = pure (.int .i64 x) := by
                rw [shift_shr_any _ _ _ _ (by omega), Nat.min_eq_left (by simp [IntKind.bits]; omega), Int.toNat_natCast, hx]
              obtain ⟨y, hy⟩ : ∃ y, bits .and .i64 x 1 = y := ⟨_, rfl⟩
              obtain ⟨bt, hbt⟩ : ∃ bt, bitZ z r = bt := ⟨_, rfl⟩
              have hyb : (y == 1) = bt := by rw [← hbt, ← hy, Plain64.and1, bitZ, hx]; rfl
              have hy01 : y = 0 ∨ y = 1 := by rw [← hy, Plain64.and1]; omega
              have hyb0 : (y == 0) = !bt := by rw [← hyb]; rcases hy01 with h | h <;> rw [h] <;> rfl
              have HKB := Lib.hid (show keepB z r = bt by unfold keepB; rw [hbt, decide_eq_true h0]; rfl)
              clear hbt hyb hy01
              cases bt with
              | false =>
                have hyb1 : (y == 0) = true := hyb0
                clear hyb0
                go_wp2_with (first | (refine wpList_stW4 rfl 3 _ _ rfl HP.out rfl rfl (mid_lt HQ.out (by omega)) rfl (mid_set (d := r) HQ.out hlt3 (by omega) _) (by kernel_rfl) ?_; clear HP; intro wst HP; replace HP := Lib.hid HP))
                go_roundw
                case rel => exact ⟨r + 1, by omega, by go_num, Lib.hid (by rw [keepK_no HKB.out]; exact HP.out)⟩
                case measure => simp [intOf]; omega
              | true =>
                have hyb1 : (y == 0) = false := hyb0
                clear hyb0
                go_wp2
                go_roundw
                case rel => exact ⟨r + 1, by omega, by go_num, Lib.hid (by rw [keepK_yes HKB.out]; exact HP.out)⟩
                case measure => simp [intOf]; omega
            · have t5 : decide (z < 0) = true := decide_eq_true (by omega)
              have HKB := Lib.hid (show keepB z r = false by unfold keepB; rw [decide_eq_false h0]; rfl)
              go_wp2_with (first | (refine wpList_stW4 rfl 3 _ _ rfl HP.out rfl rfl (mid_lt HQ.out (by omega)) rfl (mid_set (d := r) HQ.out hlt3 (by omega) _) (by kernel_rfl) ?_; clear HP; intro wst HP; replace HP := Lib.hid HP))
              go_roundw
              case rel => exact ⟨r + 1, by omega, by go_num, Lib.hid (by rw [keepK_no HKB.out]; exact HP.out)⟩
              case measure => simp [intOf]; omega
          · obtain rfl : r = 12 := by omega
            simp only [show ((12 : Nat) : Int) = 12 from rfl]
            rw [HTF.out] at HP
            go_wp2
            go_roundw
            case rel => exact ⟨k + 1, [G5, ⟨w, Lt w.heap.size⟩], by omega, by go_num, Lib.hid (.tail _ (.head _)), by rw [HNX.out, List.flatMap_append, List.flatMap_cons]; exact HP⟩
            case measure => simp [intOf]; omega
      · obtain rfl : k = s.frames.length := by omega
        rw [List.take_length, List.drop_length, List.append_nil] at HP
        go_wp2_with (first | (refine wpList_ld0 rfl 25 _ rfl HP.out rfl rfl Tryd.underlying25 rfl ?_) | (refine wpList_ldR0 rfl 29 _ rfl HP.out rfl Tryd.underlying29 rfl (by kernel_rfl) ?_) | (refine wpList_stR1 rfl 29 _ _ rfl HP.out rfl (cs' := staCells s (.slice A5 s.frames.length c5) e5 a5) rfl rfl (sta_one0 (HP.out.rowOne0 _ (.tail _ (.tail _ (.tail _ (.tail _ (.head _)))))) (HP.out.rowOne0 _ (.tail _ (.tail _ (.tail _ (.tail _ (.tail _ (.head _))))))) (HP.out.rowOne0 _ (.tail _ (.tail _ (.tail _ (.tail _ (.tail _ (.tail _ (.head _))))))))) (by kernel_rfl) ?_; clear HP; intro wst HP; replace HP := Lib.hid HP))
        (try simp only [Exit.inBlock, Exit.then])
        rw [HAN.out]
        refine bodyPost_ret (results_cell_row_tmp2 (by rfl) _ _ g4 29 (staCells s (.slice A5 s.frames.length c5) e5 a5).toArray (0, 0) _ (by rfl) (HP.out.blk (.tail _ (.head _))) Tryd.underlying29 rfl (by kernel_rfl)) (by rfl) ?_
        exact ⟨_, _, _, rfl, by have h := HP.out.rowFrames (xs := s.frames.map (tidyF p)) (n := s.frames.length) (.tail _ (.tail _ (.tail _ (.tail _ (.head _))))) rfl; exact h, HP.out.rowInts (.tail _ (.tail _ (.tail _ (.tail _ (.tail _ (.head _)))))) rfl, HP.out.rowInts (.tail _ (.tail _ (.tail _ (.tail _ (.tail _ (.tail _ (.head _))))))) rfl, HP.out.below⟩
  · have hb2 := tidy_bad hz
    obtain ⟨e0, he0⟩ : ∃ e0, stateFault p s = e0 := ⟨_, rfl⟩
    rw [he0] at hz hb2
    have HAN := Lib.hid hb2
    have HZ := Lib.hid he0
    have hzb : (e0 != 0) = true := by simpa using hz
    clear hb2 he0 hz
    go_enter Tryd.func5, Tryd.ntmps5
    go_wp2_with (first | (refine wpList_box_hp (o := ⟨some 2, _, _, _, _, _⟩) rfl _ _ rfl HP.out [_] rfl ?_; clear HP; intro g2 w2 HP; replace HP := Lib.hid HP) | (refine wpList_box_hp (o := ⟨some 3, _, _, _, _, _⟩) rfl _ _ rfl HP.out (staCells s (.slice A2 s.frames.length c2) (.slice AE s.events.length ce) (.slice AA s.answers.length ca)) rfl ?_; clear HP; intro g3 w3 HP; replace HP := Lib.hid HP) | (refine wpList_alloc_hp (o := ⟨some 4, _, _, _, _, _⟩) rfl _ rfl HP.out (.agg (staCells zeroS (.slice none 0 0) (.slice none 0 0) (.slice none 0 0)).toArray) (by kernel_rfl) (staCells zeroS (.slice none 0 0) (.slice none 0 0) (.slice none 0 0)) rfl ?_; clear HP; intro g4 w4 HP; replace HP := Lib.hid HP) | (refine wpList_ldR2 rfl 24 _ rfl HP.out rfl Tryd.underlying24 rfl (by kernel_rfl) ?_) | (refine wpList_ldR1 rfl 29 _ rfl HP.out rfl Tryd.underlying29 rfl (by kernel_rfl) ?_) | (go_at_call 10; refine (stepCheck_any p _ s _ _ _ _ (HP.out.rep (F := ⟨w, Lt w.heap.size⟩) (by simp) HR.out) (HP.out.rep (F := ⟨w, Lt w.heap.size⟩) (by simp) HF.out) (HP.out.rep (F := ⟨w, Lt w.heap.size⟩) (by simp) HE.out) (HP.out.rep (F := ⟨w, Lt w.heap.size⟩) (by simp) HA.out) (HH.out.keep HP.out.below rfl)).mono ?_; rintro r1 w5 ⟨rfl, hb⟩; replace HP := Lib.hid (HP.out.call0 hb); clear hb; rw [HZ.out]) | (refine wpList_stR0 rfl 29 _ _ rfl HP.out rfl (cs' := (staCells zeroS (.slice none 0 0) (.slice none 0 0) (.slice none 0 0))) rfl rfl (by simp [staCells, Value.oneCell']) (by kernel_rfl) ?_; clear HP; intro wst HP; replace HP := Lib.hid HP))
    (try simp only [Exit.inBlock, Exit.then])
    rw [HAN.out]
    refine bodyPost_ret (results_cell_row_tmp2 (by rfl) _ _ g4 29 (staCells zeroS (.slice none 0 0) (.slice none 0 0) (.slice none 0 0)).toArray (0, 0) _ (by rfl) (HP.out.blk (.head _)) Tryd.underlying29 rfl (by kernel_rfl)) (by rfl) ?_
    exact ⟨_, _, _, rfl, rep_frames_nil0, rep_ints_nil, rep_ints_nil, HP.out.below⟩
end Go.Proofs.YtigbdlcjnnphbaaDoor
