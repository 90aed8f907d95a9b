/- ref.stepped. -/
import Derived.Test.YtceilfmfidmfpaaDoorMgEngEngRStepdL3
import Derived.Test.YtceilfmfidmfpaaDoorMgCopyReads2MdAMdBMdCMdDMdEStates8
set_option linter.unusedSimpArgs false
set_option linter.unusedVariables false
namespace Go.Proofs.YtceilfmfidmfpaaDoor
open Go.RowKit Plain64
attribute [local irreducible] wpList Code.wp Oper.wp
set_option maxRecDepth 100000 in
set_option maxHeartbeats 40000000 in
theorem stepped_B (p : Prg) (v : Value) (s : Sta) (fs : List Frm) (f : Frm) (hfr : s.frames = fs ++ [f]) (u e a : Value) (w : World) (hp : Lay.rep w (Lt w.heap.size) p [v]) (hf : Lay.rep w (Lt w.heap.size) s.frames [u]) (he : Lay.rep w (Lt w.heap.size) s.events [e]) (ha : Lay.rep w (Lt w.heap.size) s.answers [a])
    (hl : s.frames.length ≤ 8) (hla : s.answers.length ≤ 17592186043999) (hle : s.events.length ≤ 17592186043999) (hfu : 0 ≤ s.fuel ∧ s.fuel ≤ 10000) (ok : OkP p) (own : ∀ g ∈ s.frames, ownF p g) (hi : ∀ i, I64 (f.rg i)) (hsel : (insAt p f).op = 18 ∨ (insAt p f).op = 19) :
    Calls Tryd.prog 20 #[.agg #[v], .agg (staCells s u e a).toArray] w fun r w' => ∃ u' e' a', r = .returned (.agg (staCells (nextOf p s fs f) u' e' a').toArray) ∧ Hp w [⟨w, Lt w.heap.size⟩] (ownS (nextOf p s fs f) u' e' a') w' := by
  have hof : ownF p f := own f (by rw [hfr]; simp)
  obtain ⟨aP, ac, cP, k, j, l, cc, x0, x1, rfl, hfk, hfj, hkl, hjl, hSa, hSc, hat1, hat2, -, hl40, oki⟩ := ins_at hp ok hof
  obtain ⟨A2, c2, rfl, hc2, hm2, -⟩ := rep_frames_at hf
  obtain ⟨AE, ce, rfl, hce, hme, -⟩ := rep_ints_at he
  obtain ⟨AA, ca, rfl, hca, hma, -⟩ := rep_ints_at ha
  unfold maxLen at hm2 hme hma
  obtain ⟨x, hx⟩ : ∃ x, insAt p f = x := ⟨_, rfl⟩
  rw [hx] at hat2 oki hsel
  have HSL := Lib.hid hsel
  clear hsel
  obtain ⟨d, hd⟩ : ∃ d : Nat, x.dst = d := ⟨x.dst.toNat, by have := oki.dst; omega⟩
  obtain ⟨ia, hia⟩ : ∃ d : Nat, x.a = d := ⟨x.a.toNat, by have := oki.a; omega⟩
  obtain ⟨ib, hib⟩ : ∃ d : Nat, x.b = d := ⟨x.b.toNat, by have := oki.b; omega⟩
  have hd11 : d ≤ 11 := by have := oki.dst; omega
  have ha11 : ia ≤ 11 := by have := oki.a; omega
  have hb11 : ib ≤ 11 := by have := oki.b; omega
  obtain ⟨q, hq⟩ : ∃ q, fs.length = q := ⟨_, rfl⟩
  have hlq : s.frames.length = q + 1 := by rw [hfr, List.length_append, hq]; rfl
  obtain ⟨va, hva⟩ : ∃ a, f.rg ia = a := ⟨_, rfl⟩
  obtain ⟨vb, hvb⟩ : ∃ b, f.rg ib = b := ⟨_, rfl⟩
  have HIA := Lib.hid (show I64 va by rw [← hva]; exact hi ia)
  have HIB := Lib.hid (show I64 vb by rw [← hvb]; exact hi ib)
  rw [hd, hia, hib] at hat2
  rw [hlq] at hl hc2
  have HQ := Lib.hid hq
  have HLQ := Lib.hid hlq
  have HAT1 := Lib.hid hat1
  have HAT2 := Lib.hid hat2
  have HOK := Lib.hid oki
  have HFK := Lib.hid hfk
  have HFJ := Lib.hid hfj
  have HX := Lib.hid hx
  have HFR := Lib.hid hfr
  have HPR := Lib.hid hp
  have HF := Lib.hid hf
  have HE := Lib.hid he
  have HA := Lib.hid ha
  have HOW := Lib.hid own
  have HD := Lib.hid (And.intro hd (And.intro hia hib))
  have HV := Lib.hid (And.intro hva hvb)
  have HL8 := Lib.hid (show s.frames.length ≤ 1256584717421 by omega)
  have HLA := Lib.hid (show s.answers.length ≤ 17592186044000 by omega)
  have HLE := Lib.hid (show s.events.length ≤ 17592186044000 by omega)
  clear hat1 hat2 oki hfk hfj hx hfr hd hia hib hva hvb hp ha hf he hof own hq hlq hi
  obtain ⟨i_int, hi_int, hz_int, hs_int, hy_int⟩ := info_parts info_int
  obtain ⟨i_Frm, hi_Frm, hz_Frm, hs_Frm, hy_Frm⟩ := info_parts info_Frm
  have HP := Lib.hid (Hp.start w)
  unfold staCells
  go_enter Tryd.func20, Tryd.ntmps20
  go_upto_region 2 with (first | (refine wpList_alloc_hp (o := ⟨some 4, _, _, _, _, _⟩) rfl _ rfl HP.out (.agg #[.int .i64 0, .int .i64 0, .slice none 0 0, .int .i64 0, .int .i64 0, .int .i64 0, .int .i64 0, .int .i64 0, .int .i64 0, .int .i64 0, .int .i64 0, .int .i64 0, .int .i64 0, .int .i64 0, .int .i64 0, .int .i64 0, .int .i64 0, .int .i64 0, .int .i64 0, .int .i64 0, .slice none 0 0, .slice none 0 0]) (by kernel_rfl) [_, _, _, _, _, _, _, _, _, _, _, _, _, _, _, _, _, _, _, _, _, _] rfl ?_; clear HP; intro g4 w4 HP; replace HP := Lib.hid HP) | (refine wpList_alloc_hp (o := ⟨some 5, _, _, _, _, _⟩) rfl _ rfl HP.out (.agg #[.int .i64 0, .int .i64 0, .slice none 0 0, .int .i64 0, .int .i64 0, .int .i64 0, .int .i64 0, .int .i64 0, .int .i64 0, .int .i64 0, .int .i64 0, .int .i64 0, .int .i64 0, .int .i64 0, .int .i64 0, .int .i64 0, .int .i64 0, .int .i64 0, .int .i64 0, .int .i64 0, .slice none 0 0, .slice none 0 0]) (by kernel_rfl) [_, _, _, _, _, _, _, _, _, _, _, _, _, _, _, _, _, _, _, _, _, _] rfl ?_; clear HP; intro g5 w5 HP; replace HP := Lib.hid HP) | (refine wpList_box_hp (o := ⟨some 2, _, _, _, _, _⟩) rfl _ _ rfl HP.out [_] rfl ?_; clear HP; intro g2 w2 HP; replace HP := Lib.hid HP) | (refine wpList_box_hp (o := ⟨some 3, _, _, _, _, _⟩) rfl _ _ rfl HP.out [_, _, _, _, _, _, _, _, _, _, _, _, _, _, _, _, _, _, _, _, _, _] rfl ?_; clear HP; intro g3 w3 HP; replace HP := Lib.hid HP) | (refine wpList_ldR0 rfl 29 _ rfl HP.out rfl Tryd.underlying29 rfl (by kernel_rfl) ?_) | (refine wpList_ldR1 rfl 29 _ rfl HP.out rfl Tryd.underlying29 rfl (by kernel_rfl) ?_) | (refine wpList_ldR2 rfl 29 _ rfl HP.out rfl Tryd.underlying29 rfl (by kernel_rfl) ?_) | (go_at_call 9; refine (StateCopy_own s _ _ _ _ (HP.out.rep (F := ⟨w, Lt w.heap.size⟩) (by simp) HF.out) (HP.out.rep (F := ⟨w, Lt w.heap.size⟩) (by simp) HE.out) (HP.out.rep (F := ⟨w, Lt w.heap.size⟩) (by simp) HA.out) HL8.out HLE.out HLA.out).mono ?_; rintro r5 w5 ⟨u5, e5, a5, rfl, hb5⟩; obtain ⟨gF, cF, rfl⟩ := hb5.rowSome (v := u5) (.head _) (by rw [HLQ.out]; omega); obtain ⟨_, _, e9, hcF, hmF, -⟩ := rep_frames_at (hb5.rowFrames (.head _) rfl); cases e9; obtain ⟨A6, c6, rfl, hc6, hm6, -⟩ := rep_ints_at (hb5.rowInts (.tail _ (.head _)) rfl); obtain ⟨A7, c7, rfl, hc7, hm7, -⟩ := rep_ints_at (hb5.rowInts (.tail _ (.tail _ (.head _))) rfl); replace HP := Lib.hid (by simpa only [List.cons_append, List.nil_append] using HP.out.takeEnd hb5); clear hb5) | (refine wpList_stR0 rfl 29 _ _ rfl HP.out rfl (cs' := staCells s (.slice (some ⟨gF, 0, none⟩) s.frames.length cF) (.slice A6 s.events.length c6) (.slice A7 s.answers.length c7)) rfl rfl (by simp [staCells, Value.oneCell']) (by kernel_rfl) ?_; clear HP; intro wst HP; replace HP := Lib.hid HP))
  unfold maxLen at hmF hm6 hm7
  rw [HLQ.out] at hcF
  replace HP := Lib.hid (show Hp w [⟨w, Lt w.heap.size⟩] [.blk g5 29 (staCells s (.slice (some ⟨gF, 0, none⟩) (q + 1) cF) (.slice A6 s.events.length c6) (.slice A7 s.answers.length c7)), .blk g4 29 _, .blk g3 29 (staCells s (.slice A2 (q + 1) c2) (.slice AE s.events.length ce) (.slice AA s.answers.length ca)), .blk g2 24 _, .row (.slice (some ⟨gF, 0, none⟩) (q + 1) cF) 39 14 (q + 1) (fs.flatMap frmCells ++ frmCells f), .row (.slice A6 s.events.length c6) 3 1 s.events.length (s.events.map (Value.int .i64)), .row (.slice A7 s.answers.length c7) 3 1 s.answers.length (s.answers.map (Value.int .i64))] _ by
    have := HP.out
    unfold ownS at this
    rw [HLQ.out, HFR.out, frms_snoc] at this
    exact this)
  replace HP := Lib.hid (Hp.pull (A := [_, _]) HP.out)
  replace HP := Lib.hid (Hp.pull (A := [_, _]) HP.out)
  replace HP := Lib.hid (Hp.pull (A := [_, _, _, _, _, _]) HP.out)
  replace HP := Lib.hid (Hp.pull (A := [_, _, _, _, _, _]) HP.out)
  replace HP := Lib.hid (Hp.pull (A := [_, _, _, _, _]) HP.out)
  replace HP := Lib.hid (Hp.pull (A := [_, _, _, _, _, _]) HP.out)
  replace HP := Lib.hid (Hp.pull (A := [_, _, _, _, _, _]) HP.out)
  simp only [List.cons_append, List.nil_append] at HP
  unfold staCells at HP
  by_cases hf0 : s.fuel = 0
  · have HN := Lib.hid (show nextOf p s fs f = { s with status := 2 } by unfold nextOf; rw [if_pos hf0])
    go_wp2_with (first | (refine wpList_ld0 rfl 3 _ rfl HP.out rfl rfl Tryd.underlying3 rfl ?_) | (refine wpList_ld1 rfl 3 _ rfl HP.out rfl rfl Tryd.underlying3 rfl ?_) | (refine wpList_ld2 rfl 3 _ rfl HP.out rfl rfl Tryd.underlying3 rfl ?_) | (refine wpList_ld3 rfl 3 _ rfl HP.out rfl rfl Tryd.underlying3 rfl ?_) | (refine wpList_ld4 rfl 3 _ rfl HP.out rfl rfl Tryd.underlying3 rfl ?_) | (refine wpList_ld5 rfl 3 _ rfl HP.out rfl rfl Tryd.underlying3 rfl ?_) | (refine wpList_ld6 rfl 3 _ rfl HP.out rfl rfl Tryd.underlying3 rfl ?_) | (refine wpList_st0 rfl 3 _ _ rfl HP.out rfl rfl (by simp) rfl rfl (by kernel_rfl) ?_; clear HP; intro wst HP; replace HP := Lib.hid HP) | (refine wpList_ldR0 rfl 29 _ rfl HP.out rfl Tryd.underlying29 rfl (by kernel_rfl) ?_) | (refine wpList_stR5 rfl 29 _ _ rfl HP.out rfl (cs' := staCells { s with status := 2 } (.slice (some ⟨gF, 0, none⟩) (q + 1) cF) (.slice A6 s.events.length c6) (.slice A7 s.answers.length c7)) rfl rfl (by simp [staCells, Value.oneCell']) (by kernel_rfl) ?_; clear HP; intro wst HP; replace HP := Lib.hid HP))
    refine bodyPost_ret (results_cell_row rfl _ _ g4 29 (staCells { s with status := 2 } (.slice (some ⟨gF, 0, none⟩) (q + 1) cF) (.slice A6 s.events.length c6) (.slice A7 s.answers.length c7)).toArray (0, 0) _ rfl (HP.out.blk (.tail _ (.tail _ (.tail _ (.tail _ (.tail _ (.head _))))))) Tryd.underlying29 rfl (by kernel_rfl)) rfl ⟨.slice (some ⟨gF, 0, none⟩) (q + 1) cF, .slice A6 s.events.length c6, .slice A7 s.answers.length c7, by rw [HN.out]; rfl, ?_⟩
    rw [HN.out]
    exact st_done HLQ.out (by rw [HFR.out]; exact frms_snoc _ _) rfl rfl rfl rfl (HP.out.sub (.cons _ (.cons_cons _ (.cons _ (.cons_cons _ (.cons_cons _ (.cons _ (.cons _ .slnil))))))))
  · have HFZ := Lib.hid hf0
    have hfb : (s.fuel == 0) = false := by rw [beq_eq_false_iff_ne]; exact hf0
    clear hf0
    go_upto_region 7 with (first | (refine wpList_ld0 rfl 3 _ rfl HP.out rfl rfl Tryd.underlying3 rfl ?_) | (refine wpList_ld1 rfl 3 _ rfl HP.out rfl rfl Tryd.underlying3 rfl ?_) | (refine wpList_ld2 rfl 3 _ rfl HP.out rfl rfl Tryd.underlying3 rfl ?_) | (refine wpList_ld3 rfl 3 _ rfl HP.out rfl rfl Tryd.underlying3 rfl ?_) | (refine wpList_ld4 rfl 3 _ rfl HP.out rfl rfl Tryd.underlying3 rfl ?_) | (refine wpList_ld5 rfl 3 _ rfl HP.out rfl rfl Tryd.underlying3 rfl ?_) | (refine wpList_ld6 rfl 3 _ rfl HP.out rfl rfl Tryd.underlying3 rfl ?_) | (refine wpList_ld0 rfl 25 _ rfl HP.out rfl rfl Tryd.underlying25 rfl ?_) | (refine wpList_ld1 rfl 25 _ rfl HP.out rfl rfl Tryd.underlying25 rfl ?_) | (refine wpList_ld2 rfl 25 _ rfl HP.out rfl rfl Tryd.underlying25 rfl ?_) | (refine wpList_ld3 rfl 25 _ rfl HP.out rfl rfl Tryd.underlying25 rfl ?_) | (refine wpList_ld4 rfl 25 _ rfl HP.out rfl rfl Tryd.underlying25 rfl ?_) | (refine wpList_ld5 rfl 25 _ rfl HP.out rfl rfl Tryd.underlying25 rfl ?_) | (refine wpList_ld6 rfl 25 _ rfl HP.out rfl rfl Tryd.underlying25 rfl ?_))
    replace HP := Lib.hid HP.out.drew
    refine wp_region_held_drew (S := fun w' => w'.cell? ⟨g2, 0, none⟩ = some (.slice (some aP) p.funcs.length cP) ∧ w'.cell? ⟨gF, q * 14, none⟩ = some (.int .i64 k) ∧ w'.cell? ⟨gF, q * 14 + 1, none⟩ = some (.int .i64 j) ∧ w'.cell? ⟨(aP.add (k * 3)).block, (aP.add (k * 3)).off + (1 + 1), none⟩ = some (.slice (some ac) l cc) ∧ At w' (ac.add (j * 5)) [iV x.op, iV d, iV ia, iV ib, iV x.imm]) (by kernel_rfl) ⟨HP.out.cell (.tail _ (.tail _ (.head _))) 0 _ rfl, (HP.out.rowCell (g := gF) (.tail _ (.head _)) (q * 14) _ (frms_fn HQ.out rfl)).trans (by rw [HFK.out]), (HP.out.rowCell (g := gF) (.tail _ (.head _)) (q * 14 + 1) _ (frms_pcAt HQ.out rfl)).trans (by rw [HFJ.out]), (HP.out.at_ (F := ⟨w, Lt w.heap.size⟩) (.head _) HAT1.out (by rw [block_of_add]; exact hSa)).fld 1 rfl, HP.out.at_ (F := ⟨w, Lt w.heap.size⟩) (.head _) HAT2.out (by rw [block_of_add]; exact hSc)⟩ (fun hHeld => ?_)
    have HS0 := Lib.hid hHeld
    clear hHeld
    (try simp only [Act.put, List.setIfInBounds_toArray, List.set_cons_zero, List.set_cons_succ])
    refine wpAnyH_take (i := 0) (v := ?_) rfl (by kernel_rfl) (by kernel_rfl) (by kernel_rfl) (fun _ _ _ h => h) (.inl ⟨by simp [Region.wanted], ?_⟩) HS0.out ?_
    rotate_left
    · intro w' hw
      obtain ⟨k0, k1, k2, k3, k4⟩ := hw
      go_simp
      (try with_reducible rfl)
    (try simp only [List.getElem_toArray, List.getElem_cons_succ, List.getElem_cons_zero, Act.put, List.setIfInBounds_toArray, List.set_cons_zero, List.set_cons_succ])
    refine wpAnyH_take (i := 1) (v := ?_) rfl (by kernel_rfl) (by kernel_rfl) (by kernel_rfl) (fun _ _ _ h => h) (.inl ⟨by simp [Region.wanted], ?_⟩) HS0.out ?_
    rotate_left
    · intro w' hw
      obtain ⟨k0, k1, k2, k3, k4⟩ := hw
      go_simp
      (try with_reducible rfl)
    (try simp only [List.getElem_toArray, List.getElem_cons_succ, List.getElem_cons_zero, Act.put, List.setIfInBounds_toArray, List.set_cons_zero, List.set_cons_succ])
    refine wpAnyH_take (i := 2) (v := ?_) rfl (by kernel_rfl) (by kernel_rfl) (by kernel_rfl) (fun _ _ _ h => h) (.inl ⟨by simp [Region.wanted], ?_⟩) HS0.out ?_
    rotate_left
    · intro w' hw
      obtain ⟨k0, k1, k2, k3, k4⟩ := hw
      go_simp
      (try with_reducible rfl)
    (try simp only [List.getElem_toArray, List.getElem_cons_succ, List.getElem_cons_zero, Act.put, List.setIfInBounds_toArray, List.set_cons_zero, List.set_cons_succ])
    refine wpAnyH_take (i := 3) (v := ?_) rfl (by kernel_rfl) (by kernel_rfl) (by kernel_rfl) (fun _ _ _ h => h) (.inl ⟨by simp [Region.wanted], ?_⟩) HS0.out ?_
    rotate_left
    · intro w' hw
      obtain ⟨k0, k1, k2, k3, k4⟩ := hw
      go_simp
      (try with_reducible rfl)
    (try simp only [List.getElem_toArray, List.getElem_cons_succ, List.getElem_cons_zero, Act.put, List.setIfInBounds_toArray, List.set_cons_zero, List.set_cons_succ])
    refine wpAnyH_take (i := 4) (v := ?_) rfl (by kernel_rfl) (by kernel_rfl) (by kernel_rfl) (fun _ _ _ h => h) (.inl ⟨by simp [Region.wanted], ?_⟩) HS0.out ?_
    rotate_left
    · intro w' hw
      obtain ⟨k0, k1, k2, k3, k4⟩ := hw
      go_simp
      (try with_reducible rfl)
    (try simp only [List.getElem_toArray, List.getElem_cons_succ, List.getElem_cons_zero, Act.put, List.setIfInBounds_toArray, List.set_cons_zero, List.set_cons_succ])
    refine wpAnyH_take (i := 5) (v := ?_) rfl (by kernel_rfl) (by kernel_rfl) (by kernel_rfl) (fun _ _ _ h => h) (.inl ⟨by simp [Region.wanted], ?_⟩) HS0.out ?_
    rotate_left
    · intro w' hw
      obtain ⟨k0, k1, k2, k3, k4⟩ := hw
      go_simp
      (try with_reducible rfl)
    (try simp only [List.getElem_toArray, List.getElem_cons_succ, List.getElem_cons_zero, Act.put, List.setIfInBounds_toArray, List.set_cons_zero, List.set_cons_succ])
    refine wpAnyH_take (i := 6) (v := ?_) rfl (by kernel_rfl) (by kernel_rfl) (by kernel_rfl) (fun _ _ _ h => h) (.inl ⟨by simp [Region.wanted], ?_⟩) HS0.out ?_
    rotate_left
    · intro w' hw
      obtain ⟨k0, k1, k2, k3, k4⟩ := hw
      go_simp
      (try with_reducible rfl)
    (try simp only [List.getElem_toArray, List.getElem_cons_succ, List.getElem_cons_zero, Act.put, List.setIfInBounds_toArray, List.set_cons_zero, List.set_cons_succ])
    refine wpAnyH_take (i := 7) (v := ?_) rfl (by kernel_rfl) (by kernel_rfl) (by kernel_rfl) (fun _ _ _ h => h) (.inl ⟨by simp [Region.wanted], ?_⟩) HS0.out ?_
    rotate_left
    · intro w' hw
      obtain ⟨k0, k1, k2, k3, k4⟩ := hw
      go_simp
      (try with_reducible rfl)
    (try simp only [List.getElem_toArray, List.getElem_cons_succ, List.getElem_cons_zero, Act.put, List.setIfInBounds_toArray, List.set_cons_zero, List.set_cons_succ])
    refine wpAnyH_take (i := 8) (v := ?_) rfl (by kernel_rfl) (by kernel_rfl) (by kernel_rfl) (fun _ _ _ h => h) (.inl ⟨by simp [Region.wanted], ?_⟩) HS0.out ?_
    rotate_left
    · intro w' hw
      obtain ⟨k0, k1, k2, k3, k4⟩ := hw
      go_simp
      (try with_reducible rfl)
    (try simp only [List.getElem_toArray, List.getElem_cons_succ, List.getElem_cons_zero, Act.put, List.setIfInBounds_toArray, List.set_cons_zero, List.set_cons_succ])
    refine wpAnyH_take (i := 9) (v := ?_) rfl (by kernel_rfl) (by kernel_rfl) (by kernel_rfl) (fun _ _ _ h => h) (.inl ⟨by simp [Region.wanted], ?_⟩) HS0.out ?_
    rotate_left
    · intro w' hw
      obtain ⟨k0, k1, k2, k3, k4⟩ := hw
      go_simp
      (try with_reducible rfl)
    (try simp only [List.getElem_toArray, List.getElem_cons_succ, List.getElem_cons_zero, Act.put, List.setIfInBounds_toArray, List.set_cons_zero, List.set_cons_succ])
    refine wpAnyH_take (i := 10) (v := ?_) rfl (by kernel_rfl) (by kernel_rfl) (by kernel_rfl) (fun _ _ _ h => h) (.inl ⟨by simp [Region.wanted], ?_⟩) HS0.out ?_
    rotate_left
    · intro w' hw
      obtain ⟨k0, k1, k2, k3, k4⟩ := hw
      go_simp
      (try with_reducible rfl)
    (try simp only [List.getElem_toArray, List.getElem_cons_succ, List.getElem_cons_zero, Act.put, List.setIfInBounds_toArray, List.set_cons_zero, List.set_cons_succ])
    refine wpAnyH_take (i := 11) (v := ?_) rfl (by kernel_rfl) (by kernel_rfl) (by kernel_rfl) (fun _ _ _ h => h) (.inl ⟨by simp [Region.wanted], ?_⟩) HS0.out ?_
    rotate_left
    · intro w' hw
      obtain ⟨k0, k1, k2, k3, k4⟩ := hw
      go_simp
      (try with_reducible rfl)
    (try simp only [List.getElem_toArray, List.getElem_cons_succ, List.getElem_cons_zero, Act.put, List.setIfInBounds_toArray, List.set_cons_zero, List.set_cons_succ])
    refine wpAnyH_take (i := 12) (v := ?_) rfl (by kernel_rfl) (by kernel_rfl) (by kernel_rfl) (fun _ _ _ h => h) (.inl ⟨by simp [Region.wanted], ?_⟩) HS0.out ?_
    rotate_left
    · intro w' hw
      obtain ⟨k0, k1, k2, k3, k4⟩ := hw
      go_simp
      (try with_reducible rfl)
    (try simp only [List.getElem_toArray, List.getElem_cons_succ, List.getElem_cons_zero, Act.put, List.setIfInBounds_toArray, List.set_cons_zero, List.set_cons_succ])
    refine wpAnyH_take (i := 13) (v := ?_) rfl (by kernel_rfl) (by kernel_rfl) (by kernel_rfl) (fun _ _ _ h => h) (.inl ⟨by simp [Region.wanted], ?_⟩) HS0.out ?_
    rotate_left
    · intro w' hw
      obtain ⟨k0, k1, k2, k3, k4⟩ := hw
      go_simp
      (try with_reducible rfl)
    (try simp only [List.getElem_toArray, List.getElem_cons_succ, List.getElem_cons_zero, Act.put, List.setIfInBounds_toArray, List.set_cons_zero, List.set_cons_succ])
    refine wpAnyH_row (i := 14) rfl (by kernel_rfl) (by kernel_rfl) (by kernel_rfl) (fun _ _ _ _ h => h) rfl 56 _ rfl _ rfl _ _ (fun _ h => h.2.2.2.2) Tryd.underlying56 rfl (by kernel_rfl) HS0.out ?_
    (try simp only [List.getElem_toArray, List.getElem_cons_succ, List.getElem_cons_zero, Act.put, List.setIfInBounds_toArray, List.set_cons_zero, List.set_cons_succ])
    refine wpAnyH_ready (rs := [15]) (by kernel_rfl) (by simp) ?_
    refine AllReadyH.cons rfl (fun K hK => ?_) AllReadyH.nil
    refine wanted_only rfl ?_
    (refine wpList_alloc_hp (o := ⟨some 8, _, _, _, _, _⟩) rfl _ rfl HP.out (.agg #[.int .i64 0, .int .i64 0, .int .i64 0, .int .i64 0, .int .i64 0]) (by kernel_rfl) [_, _, _, _, _] rfl ?_; clear HP; intro g8 w8 HP; replace HP := Lib.hid HP)
    refine wpList_nil ?_
    refine hK.out _ _ ⟨HP.out.cell (.tail _ (.tail _ (.tail _ (.head _)))) 0 _ rfl, (HP.out.rowCell (g := gF) (.tail _ (.tail _ (.head _))) (q * 14) _ (frms_fn HQ.out rfl)).trans (by rw [HFK.out]), (HP.out.rowCell (g := gF) (.tail _ (.tail _ (.head _))) (q * 14 + 1) _ (frms_pcAt HQ.out rfl)).trans (by rw [HFJ.out]), (HP.out.at_ (F := ⟨w, Lt w.heap.size⟩) (.head _) HAT1.out (by rw [block_of_add]; exact hSa)).fld 1 rfl, HP.out.at_ (F := ⟨w, Lt w.heap.size⟩) (.head _) HAT2.out (by rw [block_of_add]; exact hSc)⟩ (fun hHeld => ?_)
    clear hK K hHeld
    (try simp only [List.getElem_toArray, List.getElem_cons_succ, List.getElem_cons_zero, Act.put, List.setIfInBounds_toArray, List.set_cons_zero, List.set_cons_succ])
    refine wpAnyH_ready (rs := [16]) (by kernel_rfl) (by simp) ?_
    refine AllReadyH.cons rfl (fun K hK => ?_) AllReadyH.nil
    refine wanted_only rfl ?_
    (first | (refine wpList_stR0 rfl 56 _ _ rfl HP.out rfl (cs' := [_, _, _, _, _]) rfl rfl (by simp [Value.oneCell']) (by kernel_rfl) ?_; clear HP; intro wst HP; replace HP := Lib.hid HP))
    refine wpList_nil ?_
    refine hK.out _ _ ⟨HP.out.cell (.tail _ (.tail _ (.tail _ (.head _)))) 0 _ rfl, (HP.out.rowCell (g := gF) (.tail _ (.tail _ (.head _))) (q * 14) _ (frms_fn HQ.out rfl)).trans (by rw [HFK.out]), (HP.out.rowCell (g := gF) (.tail _ (.tail _ (.head _))) (q * 14 + 1) _ (frms_pcAt HQ.out rfl)).trans (by rw [HFJ.out]), (HP.out.at_ (F := ⟨w, Lt w.heap.size⟩) (.head _) HAT1.out (by rw [block_of_add]; exact hSa)).fld 1 rfl, HP.out.at_ (F := ⟨w, Lt w.heap.size⟩) (.head _) HAT2.out (by rw [block_of_add]; exact hSc)⟩ (fun hHeld => ?_)
    clear hK K hHeld HS0
    refine wpAnyH_done (by kernel_rfl) ?_ _
    (try simp only [List.getElem_toArray, List.getElem_cons_succ, List.getElem_cons_zero, Act.put, List.setIfInBounds_toArray, List.set_cons_zero, List.set_cons_succ])
    go_upto_region 8 with (fail)
    have c1 := HP.out.cell (.head _) 2 _ rfl
    have c3 := (HP.out.rowCell (g := gF) (.tail _ (.tail _ (.head _))) (q * 14 + 2 + ia) _ (frms_rg (d := ia) HQ.out (by omega) (by omega))).trans (by rw [HV.out.1])
    go_quiet (fail)
    replace HP := Lib.hid (HP.out.drewN nq)
    clear c1 c3
    generalize wst.drewN nq = wx at HP ⊢
    go_upto_region 9 with (fail)
    have c2' := HP.out.cell (.head _) 3 _ rfl
    have c4 := (HP.out.rowCell (g := gF) (.tail _ (.tail _ (.head _))) (q * 14 + 2 + ib) _ (frms_rg (d := ib) HQ.out (by omega) (by omega))).trans (by rw [HV.out.2])
    go_quiet (fail)
    replace HP := Lib.hid (HP.out.drewN nq)
    clear c2' c4
    generalize wx.drewN nq = wy at HP ⊢
    obtain ⟨op, hop⟩ : ∃ o, x.op = o := ⟨_, rfl⟩
    obtain ⟨im, him⟩ : ∃ o, x.imm = o := ⟨_, rfl⟩
    have HOP := Lib.hid (And.intro hop him)
    rw [hop, him] at HP
    have ho19 : 1 ≤ op ∧ op ≤ 19 := by rw [← hop]; exact HOK.out.op
    have HSEL := Lib.hid (show op = 18 ∨ op = 19 by rw [← hop]; exact HSL.out)
    clear hop him
    have hwf : wrap64 (s.fuel - 1) = s.fuel - 1 := by unfold wrap64; omega
    have hwp : wrap64 (f.pc + 1) = f.pc + 1 := by rw [HFJ.out]; unfold wrap64; omega
    have HWF := Lib.hid hwf
    have HWP := Lib.hid hwp
    clear hwf hwp
    obtain ⟨n, hn⟩ : ∃ n, pureV op va vb im = n := ⟨_, rfl⟩
    have HNV := Lib.hid hn
    clear hn
    have HOQ := Lib.hid (And.intro hc2 hcF)
    have cg := HP.out.cell (.head _) 0 _ rfl
    cases hpb : pureB op vb with
    | true =>
      exfalso
      unfold pureB at hpb
      simp only [Bool.and_eq_true, decide_eq_true_eq] at hpb
      have := HSEL.out
      omega
    | false =>
      have hcs : (op = 5 ∧ vb = 0) ∨ op = 13 ∨ op = 14 ∨ op = 15 ∨ op = 16 ∨ op = 17 ∨ op = 18 ∨ op = 19 := by
        by_cases h13 : 13 ≤ op
        · omega
        · left
          unfold pureB at hpb
          rw [decide_eq_true ho19.1, decide_eq_true (show op ≤ 12 by omega)] at hpb
          simpa using hpb
      rcases hcs with ⟨rfl, rfl⟩ | rfl | rfl | rfl | rfl | rfl | rfl | rfl
      · exfalso; have := HSEL.out; omega
      · exfalso; have := HSEL.out; omega
      · exfalso; have := HSEL.out; omega
      · exfalso; have := HSEL.out; omega
      · exfalso; have := HSEL.out; omega
      · exfalso; have := HSEL.out; omega
      · cases hs : s.answers with
        | nil =>
          have HN := Lib.hid (show nextOf p s fs f = { s with frames := fs ++ [⟨f.fn, wrap64 (f.pc + 1), f.regs.setIfInBounds d 0⟩], events := s.events ++ [va], answers := [], fuel := s.fuel - 1 } by
            unfold nextOf putF goF
            rw [if_neg HFZ.out, HX.out, HOP.out.1, HOP.out.2, HD.out.2.2, HD.out.2.1, HD.out.1]
            simp only [Int.toNat_natCast, HV.out.1, HV.out.2, hpb, HNV.out, Bool.false_eq_true, if_false, if_true]
            rw [HWP.out, hs]
            rfl)
          clear hpb
          have HS := Lib.hid hs
          have hal : s.answers.length = 0 := by rw [hs]; rfl
          have hal1 : decide (0 < s.answers.length) = false := decide_eq_false (by omega)
          have hal2 : decide ((0 : Int) < (s.answers.length : Int)) = false := decide_eq_false (by omega)
          clear hs hal
          go_upto_region 37 with (first | (refine wpList_ld0 rfl 3 _ rfl HP.out rfl rfl Tryd.underlying3 rfl ?_) | (refine wpList_ld1 rfl 3 _ rfl HP.out rfl rfl Tryd.underlying3 rfl ?_) | (refine wpList_ld2 rfl 3 _ rfl HP.out rfl rfl Tryd.underlying3 rfl ?_) | (refine wpList_ld3 rfl 3 _ rfl HP.out rfl rfl Tryd.underlying3 rfl ?_) | (refine wpList_ld4 rfl 3 _ rfl HP.out rfl rfl Tryd.underlying3 rfl ?_) | (refine wpList_ld5 rfl 3 _ rfl HP.out rfl rfl Tryd.underlying3 rfl ?_) | (refine wpList_ld6 rfl 3 _ rfl HP.out rfl rfl Tryd.underlying3 rfl ?_) | (refine wpList_ld7 rfl 3 _ rfl HP.out rfl rfl Tryd.underlying3 rfl ?_) | (refine wpList_st0 rfl 3 _ _ rfl HP.out rfl rfl (by simp) rfl rfl (by kernel_rfl) ?_; clear HP; intro wst HP; replace HP := Lib.hid HP) | (refine wpList_st1 rfl 3 _ _ rfl HP.out rfl rfl (by simp) rfl rfl (by kernel_rfl) ?_; clear HP; intro wst HP; replace HP := Lib.hid HP) | (go_at_call 40; refine (In_any _ _ _ _).mono ?_; rintro e w' ⟨rfl, rfl⟩) | (refine wpList_ld0 rfl 27 _ rfl HP.out rfl rfl Tryd.underlying27 rfl ?_) | (refine wpList_ld1 rfl 27 _ rfl HP.out rfl rfl Tryd.underlying27 rfl ?_) | (refine wpList_ints_hp rfl 27 3 1 _ rfl HP.out Tryd.underlying27 [_] rfl (by kernel_rfl) ?_; clear HP; intro gi wi HP; replace HP := Lib.hid HP) | (at_builtin; refine wpList_apg4 rfl _ _ 27 rfl i_int (.int .i64 0) Tryd.underlying27 hi_int hz_int hs_int rfl (by decide) hy_int (s.events.length + 1) rfl HP.out rfl rfl rfl (by simp [Value.oneCell']) (by unfold maxLen; omega) (by omega) (by omega) ?_; clear HP; intro gap cap wap HP; replace HP := Lib.hid HP) | (refine wpList_st0 rfl 27 _ _ rfl HP.out rfl rfl (by simp) rfl rfl (by kernel_rfl) ?_; clear HP; intro wst HP; replace HP := Lib.hid HP) | (refine wpList_st1 rfl 27 _ _ rfl HP.out rfl rfl (by simp) rfl rfl (by kernel_rfl) ?_; clear HP; intro wst HP; replace HP := Lib.hid HP))
          have HDR := Lib.hid HP.out.drew
          have c0 := HP.out.cell (.head _) 1 _ rfl
          refine wp_region_still_tail 5 (by kernel_rfl) (by kernel_rfl) ?_
          simp only [List.take_succ_cons, List.take_zero, List.drop_succ_cons, List.drop_zero]
          repeat still_step
          try refine wpStill_nil ?_
          clear c0
          replace HP := HDR
          clear HDR
          go_wp2_with (first | (refine wpList_ld0 rfl 27 _ rfl HP.out rfl rfl Tryd.underlying27 rfl ?_) | (refine wpList_ld1 rfl 27 _ rfl HP.out rfl rfl Tryd.underlying27 rfl ?_) | (refine wpList_ld2 rfl 27 _ rfl HP.out rfl rfl Tryd.underlying27 rfl ?_) | (refine wpList_ld3 rfl 27 _ rfl HP.out rfl rfl Tryd.underlying27 rfl ?_) | (refine wpList_ld4 rfl 27 _ rfl HP.out rfl rfl Tryd.underlying27 rfl ?_) | (refine wpList_ld5 rfl 27 _ rfl HP.out rfl rfl Tryd.underlying27 rfl ?_) | (refine wpList_ld6 rfl 27 _ rfl HP.out rfl rfl Tryd.underlying27 rfl ?_) | (refine wpList_ld7 rfl 27 _ rfl HP.out rfl rfl Tryd.underlying27 rfl ?_) | (refine wpList_stW2 rfl 3 _ _ rfl HP.out rfl rfl (frms_lt HQ.out (by omega)) rfl (frms_put (d := d) HQ.out (by omega) (by omega) _) (by kernel_rfl) ?_; clear HP; intro wst HP; replace HP := Lib.hid HP) | (refine wpList_stW2 rfl 3 _ _ rfl HP.out rfl rfl (frms_lt HQ.out (by omega)) rfl (frms_pc HQ.out (by omega) _) (by kernel_rfl) ?_; clear HP; intro wst HP; replace HP := Lib.hid HP) | (refine wpList_ldW2 rfl 3 _ rfl HP.out rfl (frms_pcAt HQ.out (by omega)) Tryd.underlying3 rfl ?_) | (refine wpList_ldR0 rfl 29 _ rfl HP.out rfl Tryd.underlying29 rfl (by kernel_rfl) ?_) | (refine wpList_ldR1 rfl 29 _ rfl HP.out rfl Tryd.underlying29 rfl (by kernel_rfl) ?_) | (refine wpList_stR6 rfl 29 _ _ rfl HP.out rfl (cs' := staCells { s with frames := fs ++ [⟨f.fn, wrap64 (f.pc + 1), f.regs.setIfInBounds d 0⟩], events := s.events ++ [va], answers := [], fuel := s.fuel - 1 } (.slice (some ⟨gF, 0, none⟩) (q + 1) cF) (.slice (some ⟨gap, 0, none⟩) (s.events.length + 1) cap) (.slice A7 s.answers.length c7)) rfl rfl (by simp [staCells, Value.oneCell']) (by kernel_rfl) ?_; clear HP; intro wst HP; replace HP := Lib.hid HP))
          refine bodyPost_ret (results_cell_row rfl _ _ g4 29 (staCells { s with frames := fs ++ [⟨f.fn, wrap64 (f.pc + 1), f.regs.setIfInBounds d 0⟩], events := s.events ++ [va], answers := [], fuel := s.fuel - 1 } (.slice (some ⟨gF, 0, none⟩) (q + 1) cF) (.slice (some ⟨gap, 0, none⟩) (s.events.length + 1) cap) (.slice A7 s.answers.length c7)).toArray (0, 0) _ rfl (HP.out.blk (.tail _ (.tail _ (.tail _ (.tail _ (.tail _ (.tail _ (.head _)))))))) Tryd.underlying29 rfl (by kernel_rfl)) rfl ⟨(.slice (some ⟨gF, 0, none⟩) (q + 1) cF), (.slice (some ⟨gap, 0, none⟩) (s.events.length + 1) cap), (.slice A7 s.answers.length c7), by rw [HN.out]; rfl, ?_⟩
          rw [HN.out]
          exact st_done (by rw [List.length_append, HQ.out]; rfl) (frms_snoc _ _) (by simp) (List.map_append) (by rw [HS.out]; try rfl) (by rw [HS.out]; try rfl) (HP.out.sub (.cons _ (.cons _ (.cons_cons _ (.cons _ (.cons_cons _ (.cons_cons _ (.cons _ (.cons _ .slnil)))))))))
        | cons y ys =>
          have HN := Lib.hid (show nextOf p s fs f = { s with frames := fs ++ [⟨f.fn, wrap64 (f.pc + 1), f.regs.setIfInBounds d y⟩], events := s.events ++ [va], answers := ys, fuel := s.fuel - 1 } by
            unfold nextOf putF goF
            rw [if_neg HFZ.out, HX.out, HOP.out.1, HOP.out.2, HD.out.2.2, HD.out.2.1, HD.out.1]
            simp only [Int.toNat_natCast, HV.out.1, HV.out.2, hpb, HNV.out, Bool.false_eq_true, if_false, if_true]
            rw [HWP.out, hs]
            rfl)
          clear hpb
          have HS := Lib.hid hs
          obtain ⟨_, _, e9, -, -, hx1⟩ := rep_ints_at HA.out
          cases e9
          obtain ⟨ad, rfl, hgs, hcell⟩ := hx1 0 (by rw [hs]; simp)
          have hcell2 : w.cell? ad = some (.int .i64 y) := by simpa [Addr.add, hs] using hcell
          have HC := Lib.hid (And.intro hgs hcell2)
          clear hgs hcell hcell2 hx1
          have HYL := Lib.hid (show ys.length ≤ 17592186044000 by have := HLA.out; rw [hs] at this; simp only [List.length_cons] at this; omega)
          replace HP := Lib.hid (by have h := HP.out; rw [hs] at h; exact h)
          replace HA := Lib.hid (by have h := HA.out; rw [hs] at h; exact h)
          rw [hs] at hca
          clear hs
          have hal1 : decide (0 < (y :: ys).length) = true := decide_eq_true (by simp)
          have h0l : 0 < (y :: ys).length := by simp
          go_upto_region 37 with (first | (refine wpList_ld0 rfl 3 _ rfl HP.out rfl rfl Tryd.underlying3 rfl ?_) | (refine wpList_ld1 rfl 3 _ rfl HP.out rfl rfl Tryd.underlying3 rfl ?_) | (refine wpList_ld2 rfl 3 _ rfl HP.out rfl rfl Tryd.underlying3 rfl ?_) | (refine wpList_ld3 rfl 3 _ rfl HP.out rfl rfl Tryd.underlying3 rfl ?_) | (refine wpList_ld4 rfl 3 _ rfl HP.out rfl rfl Tryd.underlying3 rfl ?_) | (refine wpList_ld5 rfl 3 _ rfl HP.out rfl rfl Tryd.underlying3 rfl ?_) | (refine wpList_ld6 rfl 3 _ rfl HP.out rfl rfl Tryd.underlying3 rfl ?_) | (refine wpList_ld7 rfl 3 _ rfl HP.out rfl rfl Tryd.underlying3 rfl ?_) | (refine wpList_st0 rfl 3 _ _ rfl HP.out rfl rfl (by simp) rfl rfl (by kernel_rfl) ?_; clear HP; intro wst HP; replace HP := Lib.hid HP) | (refine wpList_st1 rfl 3 _ _ rfl HP.out rfl rfl (by simp) rfl rfl (by kernel_rfl) ?_; clear HP; intro wst HP; replace HP := Lib.hid HP) | (go_at_call 40; refine (In_any _ _ _ _).mono ?_; rintro e w' ⟨rfl, rfl⟩) | (refine wpList_ld0 rfl 27 _ rfl HP.out rfl rfl Tryd.underlying27 rfl ?_) | (refine wpList_ld1 rfl 27 _ rfl HP.out rfl rfl Tryd.underlying27 rfl ?_) | (refine wpList_ints_hp rfl 27 3 1 _ rfl HP.out Tryd.underlying27 [_] rfl (by kernel_rfl) ?_; clear HP; intro gi wi HP; replace HP := Lib.hid HP) | (at_builtin; refine wpList_apg4 rfl _ _ 27 rfl i_int (.int .i64 0) Tryd.underlying27 hi_int hz_int hs_int rfl (by decide) hy_int (s.events.length + 1) rfl HP.out rfl rfl rfl (by simp [Value.oneCell']) (by unfold maxLen; omega) (by omega) (by omega) ?_; clear HP; intro gap cap wap HP; replace HP := Lib.hid HP) | (refine wpList_st0 rfl 27 _ _ rfl HP.out rfl rfl (by simp) rfl rfl (by kernel_rfl) ?_; clear HP; intro wst HP; replace HP := Lib.hid HP) | (refine wpList_st1 rfl 27 _ _ rfl HP.out rfl rfl (by simp) rfl rfl (by kernel_rfl) ?_; clear HP; intro wst HP; replace HP := Lib.hid HP))
          have HDR := Lib.hid HP.out.drew
          have c0 := HP.out.cell (.head _) 1 _ rfl
          refine wp_region_still_tail 5 (by kernel_rfl) (by kernel_rfl) ?_
          simp only [List.take_succ_cons, List.take_zero, List.drop_succ_cons, List.drop_zero]
          repeat still_step
          try refine wpStill_nil ?_
          clear c0
          replace HP := HDR
          clear HDR
          go_upto_region 39 with (first | (refine wpList_ld0 rfl 27 _ rfl HP.out rfl rfl Tryd.underlying27 rfl ?_) | (refine wpList_ld1 rfl 27 _ rfl HP.out rfl rfl Tryd.underlying27 rfl ?_) | (refine wpList_ld2 rfl 27 _ rfl HP.out rfl rfl Tryd.underlying27 rfl ?_) | (refine wpList_ld3 rfl 27 _ rfl HP.out rfl rfl Tryd.underlying27 rfl ?_) | (refine wpList_ld4 rfl 27 _ rfl HP.out rfl rfl Tryd.underlying27 rfl ?_) | (refine wpList_ld5 rfl 27 _ rfl HP.out rfl rfl Tryd.underlying27 rfl ?_) | (refine wpList_ld6 rfl 27 _ rfl HP.out rfl rfl Tryd.underlying27 rfl ?_) | (refine wpList_ld7 rfl 27 _ rfl HP.out rfl rfl Tryd.underlying27 rfl ?_) | (refine wpList_stW2 rfl 3 _ _ rfl HP.out rfl rfl (frms_lt HQ.out (by omega)) rfl (frms_put (d := d) HQ.out (by omega) (by omega) _) (by kernel_rfl) ?_; clear HP; intro wst HP; replace HP := Lib.hid HP) | (refine wpList_stW2 rfl 3 _ _ rfl HP.out rfl rfl (frms_lt HQ.out (by omega)) rfl (frms_pc HQ.out (by omega) _) (by kernel_rfl) ?_; clear HP; intro wst HP; replace HP := Lib.hid HP) | (refine wpList_ldW2 rfl 3 _ rfl HP.out rfl (frms_pcAt HQ.out (by omega)) Tryd.underlying3 rfl ?_))
          have HDR := Lib.hid HP.out.drew
          have c0 := HP.out.cell (.head _) 1 _ rfl
          have c1 := HP.out.cell (.tail _ (.tail _ (.tail _ (.tail _ (.tail _ (.tail _ (.tail _ (.head _)))))))) 21 _ rfl
          have c2 := (HP.out.alike (F := ⟨w, Lt w.heap.size⟩) (.head _) ad HC.out.1).trans HC.out.2
          refine wp_region_still_tail 9 (by kernel_rfl) (by kernel_rfl) ?_
          simp only [List.take_succ_cons, List.take_zero, List.drop_succ_cons, List.drop_zero]
          repeat still_step
          try refine wpStill_nil ?_
          clear c0 c1 c2
          replace HP := HDR
          clear HDR
          go_upto_region 41 with (first | (refine wpList_ld0 rfl 27 _ rfl HP.out rfl rfl Tryd.underlying27 rfl ?_) | (refine wpList_ld1 rfl 27 _ rfl HP.out rfl rfl Tryd.underlying27 rfl ?_) | (refine wpList_ld2 rfl 27 _ rfl HP.out rfl rfl Tryd.underlying27 rfl ?_) | (refine wpList_ld3 rfl 27 _ rfl HP.out rfl rfl Tryd.underlying27 rfl ?_) | (refine wpList_ld4 rfl 27 _ rfl HP.out rfl rfl Tryd.underlying27 rfl ?_) | (refine wpList_ld5 rfl 27 _ rfl HP.out rfl rfl Tryd.underlying27 rfl ?_) | (refine wpList_ld6 rfl 27 _ rfl HP.out rfl rfl Tryd.underlying27 rfl ?_) | (refine wpList_ld7 rfl 27 _ rfl HP.out rfl rfl Tryd.underlying27 rfl ?_) | (refine wpList_st0 rfl 27 _ _ rfl HP.out rfl rfl (by simp) rfl rfl (by kernel_rfl) ?_; clear HP; intro wst HP; replace HP := Lib.hid HP) | (refine wpList_st1 rfl 27 _ _ rfl HP.out rfl rfl (by simp) rfl rfl (by kernel_rfl) ?_; clear HP; intro wst HP; replace HP := Lib.hid HP) | (refine wpList_stW2 rfl 3 _ _ rfl HP.out rfl rfl (frms_lt HQ.out (by omega)) rfl (frms_put (d := d) HQ.out (by omega) (by omega) _) (by kernel_rfl) ?_; clear HP; intro wst HP; replace HP := Lib.hid HP) | (refine wpList_stW2 rfl 3 _ _ rfl HP.out rfl rfl (frms_lt HQ.out (by omega)) rfl (frms_pc HQ.out (by omega) _) (by kernel_rfl) ?_; clear HP; intro wst HP; replace HP := Lib.hid HP) | (refine wpList_ldW2 rfl 3 _ rfl HP.out rfl (frms_pcAt HQ.out (by omega)) Tryd.underlying3 rfl ?_) | (go_at_call 22; refine (Numbers_own ys _ _ (HP.out.rep (F := ⟨w, Lt w.heap.size⟩) (by simp) (rep_ints_tail2 HA.out)) HYL.out).mono ?_; rintro e9 w9 ⟨v9, rfl, hb9⟩; obtain ⟨A9, c9, rfl, -, -, -⟩ := rep_ints_at (hb9.rowInts (.head _) rfl); replace HP := Lib.hid (by simpa only [List.cons_append, List.nil_append] using HP.out.takeEnd hb9); clear hb9))
          all_goals (go_wp2_with (first | (refine wpList_stW2 rfl 3 _ _ rfl HP.out rfl rfl (frms_lt HQ.out (by omega)) rfl (frms_put (d := d) HQ.out (by omega) (by omega) _) (by kernel_rfl) ?_; clear HP; intro wst HP; replace HP := Lib.hid HP) | (refine wpList_stW2 rfl 3 _ _ rfl HP.out rfl rfl (frms_lt HQ.out (by omega)) rfl (frms_pc HQ.out (by omega) _) (by kernel_rfl) ?_; clear HP; intro wst HP; replace HP := Lib.hid HP) | (refine wpList_ldW2 rfl 3 _ rfl HP.out rfl (frms_pcAt HQ.out (by omega)) Tryd.underlying3 rfl ?_) | (refine wpList_ldR0 rfl 29 _ rfl HP.out rfl Tryd.underlying29 rfl (by kernel_rfl) ?_) | (refine wpList_ldR1 rfl 29 _ rfl HP.out rfl Tryd.underlying29 rfl (by kernel_rfl) ?_) | (refine wpList_stR6 rfl 29 _ _ rfl HP.out rfl (cs' := staCells { s with frames := fs ++ [⟨f.fn, wrap64 (f.pc + 1), f.regs.setIfInBounds d y⟩], events := s.events ++ [va], answers := ys, fuel := s.fuel - 1 } (.slice (some ⟨gF, 0, none⟩) (q + 1) cF) (.slice (some ⟨gap, 0, none⟩) (s.events.length + 1) cap) (.slice A9 ys.length c9)) rfl rfl (by simp [staCells, Value.oneCell']) (by kernel_rfl) ?_; clear HP; intro wst HP; replace HP := Lib.hid HP)))
          all_goals
            refine bodyPost_ret (results_cell_row rfl _ _ g4 29 (staCells { s with frames := fs ++ [⟨f.fn, wrap64 (f.pc + 1), f.regs.setIfInBounds d y⟩], events := s.events ++ [va], answers := ys, fuel := s.fuel - 1 } (.slice (some ⟨gF, 0, none⟩) (q + 1) cF) (.slice (some ⟨gap, 0, none⟩) (s.events.length + 1) cap) (.slice A9 ys.length c9)).toArray (0, 0) _ rfl (HP.out.blk (.tail _ (.tail _ (.tail _ (.tail _ (.tail _ (.tail _ (.head _)))))))) Tryd.underlying29 rfl (by kernel_rfl)) rfl ⟨(.slice (some ⟨gF, 0, none⟩) (q + 1) cF), (.slice (some ⟨gap, 0, none⟩) (s.events.length + 1) cap), (.slice A9 ys.length c9), by rw [HN.out]; rfl, ?_⟩
            rw [HN.out]
            exact st_done (by rw [List.length_append, HQ.out]; rfl) (by rw [vset2]; exact frms_snoc _ _) (by simp) (List.map_append) (rfl) (rfl) (HP.out.sub (.cons _ (.cons _ (.cons_cons _ (.cons _ (.cons_cons _ (.cons _ (.cons _ (.cons _ (.cons_cons _ .slnil))))))))))
      · skip
        have HN := Lib.hid (show nextOf p s fs f = retS p { s with fuel := s.fuel - 1 } fs va by
          unfold nextOf putF goF
          rw [if_neg HFZ.out, HX.out, HOP.out.1, HOP.out.2, HD.out.2.2, HD.out.2.1, HD.out.1]
          simp only [Int.toNat_natCast, HV.out.1, HV.out.2, hpb, HNV.out, Bool.false_eq_true, if_false, if_true]
          rfl)
        clear hpb
        rcases List.eq_nil_or_concat fs with rfl | ⟨gs, g, hcat⟩
        · have hq0 : q = 0 := by rw [← HQ.out]; rfl
          have HQ0 := Lib.hid hq0
          have hqb : ((q : Int) == 0) = true := by rw [beq_iff_eq]; omega
          have hqc : q ≤ cF := by omega
          clear hq0
          replace HN := Lib.hid (show nextOf p s [] f = { s with frames := [], status := 1, value := va, fuel := s.fuel - 1 } from HN.out)
          go_wp2_with (first | (refine wpList_ld0 rfl 3 _ rfl HP.out rfl rfl Tryd.underlying3 rfl ?_) | (refine wpList_ld1 rfl 3 _ rfl HP.out rfl rfl Tryd.underlying3 rfl ?_) | (refine wpList_ld2 rfl 3 _ rfl HP.out rfl rfl Tryd.underlying3 rfl ?_) | (refine wpList_ld3 rfl 3 _ rfl HP.out rfl rfl Tryd.underlying3 rfl ?_) | (refine wpList_ld4 rfl 3 _ rfl HP.out rfl rfl Tryd.underlying3 rfl ?_) | (refine wpList_ld5 rfl 3 _ rfl HP.out rfl rfl Tryd.underlying3 rfl ?_) | (refine wpList_ld6 rfl 3 _ rfl HP.out rfl rfl Tryd.underlying3 rfl ?_) | (refine wpList_ld7 rfl 3 _ rfl HP.out rfl rfl Tryd.underlying3 rfl ?_) | (refine wpList_st0 rfl 3 _ _ rfl HP.out rfl rfl (by simp) rfl rfl (by kernel_rfl) ?_; clear HP; intro wst HP; replace HP := Lib.hid HP) | (refine wpList_st1 rfl 3 _ _ rfl HP.out rfl rfl (by simp) rfl rfl (by kernel_rfl) ?_; clear HP; intro wst HP; replace HP := Lib.hid HP) | (go_at_call 40; refine (In_any _ _ _ _).mono ?_; rintro e w' ⟨rfl, rfl⟩) | (refine wpList_ld0 rfl 25 _ rfl HP.out rfl rfl Tryd.underlying25 rfl ?_) | (refine wpList_ld1 rfl 25 _ rfl HP.out rfl rfl Tryd.underlying25 rfl ?_) | (refine wpList_st0 rfl 25 _ _ rfl HP.out rfl rfl (by simp) rfl rfl (by kernel_rfl) ?_; clear HP; intro wst HP; replace HP := Lib.hid HP) | (refine wpList_st1 rfl 25 _ _ rfl HP.out rfl rfl (by simp) rfl rfl (by kernel_rfl) ?_; clear HP; intro wst HP; replace HP := Lib.hid HP) | (refine wpList_ldR0 rfl 29 _ rfl HP.out rfl Tryd.underlying29 rfl (by kernel_rfl) ?_) | (refine wpList_ldR1 rfl 29 _ rfl HP.out rfl Tryd.underlying29 rfl (by kernel_rfl) ?_) | (refine wpList_stR6 rfl 29 _ _ rfl HP.out rfl (cs' := staCells { s with frames := [], status := 1, value := va, fuel := s.fuel - 1 } (.slice (some ⟨gF, 0, none⟩) q cF) (.slice A6 s.events.length c6) (.slice A7 s.answers.length c7)) rfl rfl (by simp [staCells, Value.oneCell']) (by kernel_rfl) ?_; clear HP; intro wst HP; replace HP := Lib.hid HP))
          replace HP := Lib.hid (HP.out.rowShrink (A := [_, _]) q (by omega))
          simp only [List.cons_append, List.nil_append] at HP
          refine bodyPost_ret (results_cell_row rfl _ _ g4 29 (staCells { s with frames := [], status := 1, value := va, fuel := s.fuel - 1 } (.slice (some ⟨gF, 0, none⟩) q cF) (.slice A6 s.events.length c6) (.slice A7 s.answers.length c7)).toArray (0, 0) _ rfl (HP.out.blk (.tail _ (.tail _ (.tail _ (.tail _ (.tail _ (.tail _ (.head _)))))))) Tryd.underlying29 rfl (by kernel_rfl)) rfl ⟨(.slice (some ⟨gF, 0, none⟩) q cF), (.slice A6 s.events.length c6), (.slice A7 s.answers.length c7), by rw [HN.out]; rfl, ?_⟩
          rw [HN.out]
          exact st_done (by rw [HQ0.out]; rfl) (by rw [HQ0.out]; simp) (rfl) (rfl) (rfl) (rfl) (HP.out.sub (.cons _ (.cons _ (.cons_cons _ (.cons _ (.cons_cons _ (.cons_cons _ (.cons _ (.cons _ .slnil)))))))))
        · rw [List.concat_eq_append] at hcat
          subst hcat
          have hog : ownF p g := HOW.out g (by rw [HFR.out]; simp)
          obtain ⟨aP2, ac2, cP2, k2, j2, l2, cc2, y0, y1, e9, hgk, hgj, hkl2, hjl2, hSa2, hSc2, hbt1, hbt2, -, hl402, oki2⟩ := ins_at HPR.out ok hog
          cases e9
          obtain ⟨y, hy⟩ : ∃ x, insAt p g = x := ⟨_, rfl⟩
          rw [hy] at hbt2 oki2
          obtain ⟨d2, hd2⟩ : ∃ d : Nat, y.dst = d := ⟨y.dst.toNat, by have := oki2.dst; omega⟩
          have hd211 : d2 ≤ 11 := by have := oki2.dst; omega
          rw [hd2] at hbt2
          have hgw : wrap64 (g.pc + 1) = g.pc + 1 := by rw [hgj]; unfold wrap64; omega
          replace HN := Lib.hid (show nextOf p s (gs ++ [g]) f = { s with frames := gs ++ [⟨g.fn, wrap64 (g.pc + 1), g.regs.setIfInBounds d2 va⟩], fuel := s.fuel - 1 } by
            rw [HN.out, hgw]; unfold retS; simp [putF, hy, hd2])
          obtain ⟨q2, hq2⟩ : ∃ q, gs.length = q := ⟨_, rfl⟩
          have hqq : q = q2 + 1 := by rw [← HQ.out, List.length_append, hq2]; rfl
          have HQ2 := Lib.hid hq2
          have HQQ := Lib.hid hqq
          have HBT1 := Lib.hid hbt1
          have HBT2 := Lib.hid hbt2
          have HGK := Lib.hid hgk
          have HGJ := Lib.hid hgj
          have hqb : ((q : Int) == 0) = false := by rw [beq_eq_false_iff_ne]; omega
          have hqc : q ≤ cF := by omega
          have HTK := Lib.hid (show List.take (q * 14) ((gs ++ [g]).flatMap frmCells ++ frmCells f) = gs.flatMap frmCells ++ frmCells g from by rw [frms_snoc]; exact List.take_left' (by rw [List.length_append, frms_len, hq2, hqq]; show q2 * 14 + 14 = _; omega))
          have HQE := Lib.hid (show (q : Int) - 1 = (q2 : Int) by omega)
          have hq2l : q2 < q := by omega
          have hq2i : (q2 : Int) < (q : Int) := by omega
          clear hbt1 hbt2 hgk hgj hq2 hy hd2 oki2 hog hgw hqq
          go_upto_region 54 with (first | (refine wpList_ld0 rfl 3 _ rfl HP.out rfl rfl Tryd.underlying3 rfl ?_) | (refine wpList_ld1 rfl 3 _ rfl HP.out rfl rfl Tryd.underlying3 rfl ?_) | (refine wpList_ld2 rfl 3 _ rfl HP.out rfl rfl Tryd.underlying3 rfl ?_) | (refine wpList_ld3 rfl 3 _ rfl HP.out rfl rfl Tryd.underlying3 rfl ?_) | (refine wpList_ld4 rfl 3 _ rfl HP.out rfl rfl Tryd.underlying3 rfl ?_) | (refine wpList_ld5 rfl 3 _ rfl HP.out rfl rfl Tryd.underlying3 rfl ?_) | (refine wpList_ld6 rfl 3 _ rfl HP.out rfl rfl Tryd.underlying3 rfl ?_) | (refine wpList_ld7 rfl 3 _ rfl HP.out rfl rfl Tryd.underlying3 rfl ?_) | (refine wpList_st0 rfl 3 _ _ rfl HP.out rfl rfl (by simp) rfl rfl (by kernel_rfl) ?_; clear HP; intro wst HP; replace HP := Lib.hid HP) | (refine wpList_st1 rfl 3 _ _ rfl HP.out rfl rfl (by simp) rfl rfl (by kernel_rfl) ?_; clear HP; intro wst HP; replace HP := Lib.hid HP) | (go_at_call 40; refine (In_any _ _ _ _).mono ?_; rintro e w' ⟨rfl, rfl⟩) | (refine wpList_ld0 rfl 25 _ rfl HP.out rfl rfl Tryd.underlying25 rfl ?_) | (refine wpList_ld1 rfl 25 _ rfl HP.out rfl rfl Tryd.underlying25 rfl ?_) | (refine wpList_st0 rfl 25 _ _ rfl HP.out rfl rfl (by simp) rfl rfl (by kernel_rfl) ?_; clear HP; intro wst HP; replace HP := Lib.hid HP) | (refine wpList_st1 rfl 25 _ _ rfl HP.out rfl rfl (by simp) rfl rfl (by kernel_rfl) ?_; clear HP; intro wst HP; replace HP := Lib.hid HP))
          replace HP := Lib.hid (HP.out.rowShrink (A := [_, _]) q (by omega))
          rw [HTK.out] at HP
          simp only [List.cons_append, List.nil_append] at HP
          have hqe := HQE.out
          go_upto_region 59 with (first | (refine wpList_ld0 rfl 25 _ rfl HP.out rfl rfl Tryd.underlying25 rfl ?_) | (refine wpList_ld1 rfl 25 _ rfl HP.out rfl rfl Tryd.underlying25 rfl ?_))
          clear hqe
          replace HP := Lib.hid HP.out.drew
          refine wp_region_held_drew (S := fun w' => w'.cell? ⟨g2, 0, none⟩ = some (.slice (some aP) p.funcs.length cP) ∧ w'.cell? ⟨gF, q2 * 14, none⟩ = some (.int .i64 k2) ∧ w'.cell? ⟨gF, q2 * 14 + 1, none⟩ = some (.int .i64 j2) ∧ w'.cell? ⟨(aP.add (k2 * 3)).block, (aP.add (k2 * 3)).off + (1 + 1), none⟩ = some (.slice (some ac2) l2 cc2) ∧ At w' (ac2.add (j2 * 5)) [iV y.op, iV d2, iV y.a, iV y.b, iV y.imm]) (by kernel_rfl) ⟨HP.out.cell (.tail _ (.tail _ (.tail _ (.head _)))) 0 _ rfl, (HP.out.rowCell (g := gF) (.tail _ (.tail _ (.head _))) (q2 * 14) _ (frms_fn HQ2.out rfl)).trans (by rw [HGK.out]), (HP.out.rowCell (g := gF) (.tail _ (.tail _ (.head _))) (q2 * 14 + 1) _ (frms_pcAt HQ2.out rfl)).trans (by rw [HGJ.out]), (HP.out.at_ (F := ⟨w, Lt w.heap.size⟩) (.head _) HBT1.out (by rw [block_of_add]; exact hSa2)).fld 1 rfl, HP.out.at_ (F := ⟨w, Lt w.heap.size⟩) (.head _) HBT2.out (by rw [block_of_add]; exact hSc2)⟩ (fun hHeld => ?_)
          have HS0 := Lib.hid hHeld
          clear hHeld
          (try simp only [Act.put, List.setIfInBounds_toArray, List.set_cons_zero, List.set_cons_succ])
          refine wpAnyH_take (i := 0) (v := ?_) rfl (by kernel_rfl) (by kernel_rfl) (by kernel_rfl) (fun _ _ _ h => h) (.inl ⟨by simp [Region.wanted], ?_⟩) HS0.out ?_
          rotate_left
          · intro w' hw
            obtain ⟨k0, k1, k2, k3, k4⟩ := hw
            go_simp
            (try with_reducible rfl)
          (try simp only [List.getElem_toArray, List.getElem_cons_succ, List.getElem_cons_zero, Act.put, List.setIfInBounds_toArray, List.set_cons_zero, List.set_cons_succ])
          refine wpAnyH_take (i := 1) (v := ?_) rfl (by kernel_rfl) (by kernel_rfl) (by kernel_rfl) (fun _ _ _ h => h) (.inl ⟨by simp [Region.wanted], ?_⟩) HS0.out ?_
          rotate_left
          · intro w' hw
            obtain ⟨k0, k1, k2, k3, k4⟩ := hw
            go_simp
            (try with_reducible rfl)
          (try simp only [List.getElem_toArray, List.getElem_cons_succ, List.getElem_cons_zero, Act.put, List.setIfInBounds_toArray, List.set_cons_zero, List.set_cons_succ])
          refine wpAnyH_take (i := 2) (v := ?_) rfl (by kernel_rfl) (by kernel_rfl) (by kernel_rfl) (fun _ _ _ h => h) (.inl ⟨by simp [Region.wanted], ?_⟩) HS0.out ?_
          rotate_left
          · intro w' hw
            obtain ⟨k0, k1, k2, k3, k4⟩ := hw
            go_simp
            (try with_reducible rfl)
          (try simp only [List.getElem_toArray, List.getElem_cons_succ, List.getElem_cons_zero, Act.put, List.setIfInBounds_toArray, List.set_cons_zero, List.set_cons_succ])
          refine wpAnyH_take (i := 3) (v := ?_) rfl (by kernel_rfl) (by kernel_rfl) (by kernel_rfl) (fun _ _ _ h => h) (.inl ⟨by simp [Region.wanted], ?_⟩) HS0.out ?_
          rotate_left
          · intro w' hw
            obtain ⟨k0, k1, k2, k3, k4⟩ := hw
            go_simp
            (try with_reducible rfl)
          (try simp only [List.getElem_toArray, List.getElem_cons_succ, List.getElem_cons_zero, Act.put, List.setIfInBounds_toArray, List.set_cons_zero, List.set_cons_succ])
          refine wpAnyH_take (i := 4) (v := ?_) rfl (by kernel_rfl) (by kernel_rfl) (by kernel_rfl) (fun _ _ _ h => h) (.inl ⟨by simp [Region.wanted], ?_⟩) HS0.out ?_
          rotate_left
          · intro w' hw
            obtain ⟨k0, k1, k2, k3, k4⟩ := hw
            go_simp
            (try with_reducible rfl)
          (try simp only [List.getElem_toArray, List.getElem_cons_succ, List.getElem_cons_zero, Act.put, List.setIfInBounds_toArray, List.set_cons_zero, List.set_cons_succ])
          refine wpAnyH_take (i := 5) (v := ?_) rfl (by kernel_rfl) (by kernel_rfl) (by kernel_rfl) (fun _ _ _ h => h) (.inl ⟨by simp [Region.wanted], ?_⟩) HS0.out ?_
          rotate_left
          · intro w' hw
            obtain ⟨k0, k1, k2, k3, k4⟩ := hw
            go_simp
            (try with_reducible rfl)
          (try simp only [List.getElem_toArray, List.getElem_cons_succ, List.getElem_cons_zero, Act.put, List.setIfInBounds_toArray, List.set_cons_zero, List.set_cons_succ])
          refine wpAnyH_take (i := 6) (v := ?_) rfl (by kernel_rfl) (by kernel_rfl) (by kernel_rfl) (fun _ _ _ h => h) (.inl ⟨by simp [Region.wanted], ?_⟩) HS0.out ?_
          rotate_left
          · intro w' hw
            obtain ⟨k0, k1, k2, k3, k4⟩ := hw
            go_simp
            (try with_reducible rfl)
          (try simp only [List.getElem_toArray, List.getElem_cons_succ, List.getElem_cons_zero, Act.put, List.setIfInBounds_toArray, List.set_cons_zero, List.set_cons_succ])
          refine wpAnyH_take (i := 7) (v := ?_) rfl (by kernel_rfl) (by kernel_rfl) (by kernel_rfl) (fun _ _ _ h => h) (.inl ⟨by simp [Region.wanted], ?_⟩) HS0.out ?_
          rotate_left
          · intro w' hw
            obtain ⟨k0, k1, k2, k3, k4⟩ := hw
            go_simp
            (try with_reducible rfl)
          (try simp only [List.getElem_toArray, List.getElem_cons_succ, List.getElem_cons_zero, Act.put, List.setIfInBounds_toArray, List.set_cons_zero, List.set_cons_succ])
          refine wpAnyH_take (i := 8) (v := ?_) rfl (by kernel_rfl) (by kernel_rfl) (by kernel_rfl) (fun _ _ _ h => h) (.inl ⟨by simp [Region.wanted], ?_⟩) HS0.out ?_
          rotate_left
          · intro w' hw
            obtain ⟨k0, k1, k2, k3, k4⟩ := hw
            go_simp
            (try with_reducible rfl)
          (try simp only [List.getElem_toArray, List.getElem_cons_succ, List.getElem_cons_zero, Act.put, List.setIfInBounds_toArray, List.set_cons_zero, List.set_cons_succ])
          refine wpAnyH_take (i := 9) (v := ?_) rfl (by kernel_rfl) (by kernel_rfl) (by kernel_rfl) (fun _ _ _ h => h) (.inl ⟨by simp [Region.wanted], ?_⟩) HS0.out ?_
          rotate_left
          · intro w' hw
            obtain ⟨k0, k1, k2, k3, k4⟩ := hw
            go_simp
            (try with_reducible rfl)
          (try simp only [List.getElem_toArray, List.getElem_cons_succ, List.getElem_cons_zero, Act.put, List.setIfInBounds_toArray, List.set_cons_zero, List.set_cons_succ])
          refine wpAnyH_take (i := 10) (v := ?_) rfl (by kernel_rfl) (by kernel_rfl) (by kernel_rfl) (fun _ _ _ h => h) (.inl ⟨by simp [Region.wanted], ?_⟩) HS0.out ?_
          rotate_left
          · intro w' hw
            obtain ⟨k0, k1, k2, k3, k4⟩ := hw
            go_simp
            (try with_reducible rfl)
          (try simp only [List.getElem_toArray, List.getElem_cons_succ, List.getElem_cons_zero, Act.put, List.setIfInBounds_toArray, List.set_cons_zero, List.set_cons_succ])
          refine wpAnyH_take (i := 11) (v := ?_) rfl (by kernel_rfl) (by kernel_rfl) (by kernel_rfl) (fun _ _ _ h => h) (.inl ⟨by simp [Region.wanted], ?_⟩) HS0.out ?_
          rotate_left
          · intro w' hw
            obtain ⟨k0, k1, k2, k3, k4⟩ := hw
            go_simp
            (try with_reducible rfl)
          (try simp only [List.getElem_toArray, List.getElem_cons_succ, List.getElem_cons_zero, Act.put, List.setIfInBounds_toArray, List.set_cons_zero, List.set_cons_succ])
          refine wpAnyH_take (i := 12) (v := ?_) rfl (by kernel_rfl) (by kernel_rfl) (by kernel_rfl) (fun _ _ _ h => h) (.inl ⟨by simp [Region.wanted], ?_⟩) HS0.out ?_
          rotate_left
          · intro w' hw
            obtain ⟨k0, k1, k2, k3, k4⟩ := hw
            go_simp
            (try with_reducible rfl)
          (try simp only [List.getElem_toArray, List.getElem_cons_succ, List.getElem_cons_zero, Act.put, List.setIfInBounds_toArray, List.set_cons_zero, List.set_cons_succ])
          refine wpAnyH_take (i := 13) (v := ?_) rfl (by kernel_rfl) (by kernel_rfl) (by kernel_rfl) (fun _ _ _ h => h) (.inl ⟨by simp [Region.wanted], ?_⟩) HS0.out ?_
          rotate_left
          · intro w' hw
            obtain ⟨k0, k1, k2, k3, k4⟩ := hw
            go_simp
            (try with_reducible rfl)
          (try simp only [List.getElem_toArray, List.getElem_cons_succ, List.getElem_cons_zero, Act.put, List.setIfInBounds_toArray, List.set_cons_zero, List.set_cons_succ])
          refine wpAnyH_row (i := 14) rfl (by kernel_rfl) (by kernel_rfl) (by kernel_rfl) (fun _ _ _ _ h => h) rfl 56 _ rfl _ rfl _ _ (fun _ h => h.2.2.2.2) Tryd.underlying56 rfl (by kernel_rfl) HS0.out ?_
          (try simp only [List.getElem_toArray, List.getElem_cons_succ, List.getElem_cons_zero, Act.put, List.setIfInBounds_toArray, List.set_cons_zero, List.set_cons_succ])
          refine wpAnyH_ready (rs := [15]) (by kernel_rfl) (by simp) ?_
          refine AllReadyH.cons rfl (fun K hK => ?_) AllReadyH.nil
          refine wanted_only rfl ?_
          (refine wpList_alloc_hp (o := ⟨some 15, _, _, _, _, _⟩) rfl _ rfl HP.out (.agg #[.int .i64 0, .int .i64 0, .int .i64 0, .int .i64 0, .int .i64 0]) (by kernel_rfl) [_, _, _, _, _] rfl ?_; clear HP; intro g15 w15 HP; replace HP := Lib.hid HP)
          refine wpList_nil ?_
          refine hK.out _ _ ⟨HP.out.cell (.tail _ (.tail _ (.tail _ (.tail _ (.head _))))) 0 _ rfl, (HP.out.rowCell (g := gF) (.tail _ (.tail _ (.tail _ (.head _)))) (q2 * 14) _ (frms_fn HQ2.out rfl)).trans (by rw [HGK.out]), (HP.out.rowCell (g := gF) (.tail _ (.tail _ (.tail _ (.head _)))) (q2 * 14 + 1) _ (frms_pcAt HQ2.out rfl)).trans (by rw [HGJ.out]), (HP.out.at_ (F := ⟨w, Lt w.heap.size⟩) (.head _) HBT1.out (by rw [block_of_add]; exact hSa2)).fld 1 rfl, HP.out.at_ (F := ⟨w, Lt w.heap.size⟩) (.head _) HBT2.out (by rw [block_of_add]; exact hSc2)⟩ (fun hHeld => ?_)
          clear hK K hHeld
          (try simp only [List.getElem_toArray, List.getElem_cons_succ, List.getElem_cons_zero, Act.put, List.setIfInBounds_toArray, List.set_cons_zero, List.set_cons_succ])
          refine wpAnyH_ready (rs := [16]) (by kernel_rfl) (by simp) ?_
          refine AllReadyH.cons rfl (fun K hK => ?_) AllReadyH.nil
          refine wanted_only rfl ?_
          (first | (refine wpList_stR0 rfl 56 _ _ rfl HP.out rfl (cs' := [_, _, _, _, _]) rfl rfl (by simp [Value.oneCell']) (by kernel_rfl) ?_; clear HP; intro wst HP; replace HP := Lib.hid HP))
          refine wpList_nil ?_
          refine hK.out _ _ ⟨HP.out.cell (.tail _ (.tail _ (.tail _ (.tail _ (.head _))))) 0 _ rfl, (HP.out.rowCell (g := gF) (.tail _ (.tail _ (.tail _ (.head _)))) (q2 * 14) _ (frms_fn HQ2.out rfl)).trans (by rw [HGK.out]), (HP.out.rowCell (g := gF) (.tail _ (.tail _ (.tail _ (.head _)))) (q2 * 14 + 1) _ (frms_pcAt HQ2.out rfl)).trans (by rw [HGJ.out]), (HP.out.at_ (F := ⟨w, Lt w.heap.size⟩) (.head _) HBT1.out (by rw [block_of_add]; exact hSa2)).fld 1 rfl, HP.out.at_ (F := ⟨w, Lt w.heap.size⟩) (.head _) HBT2.out (by rw [block_of_add]; exact hSc2)⟩ (fun hHeld => ?_)
          clear hK K hHeld HS0
          refine wpAnyH_done (by kernel_rfl) ?_ _
          (try simp only [List.getElem_toArray, List.getElem_cons_succ, List.getElem_cons_zero, Act.put, List.setIfInBounds_toArray, List.set_cons_zero, List.set_cons_succ])
          go_upto_region 60 with (fail)
          have HDR := Lib.hid HP.out.drew
          have c0 := HP.out.cell (.head _) 1 _ rfl
          refine wp_region_still_tail 6 (by kernel_rfl) (by kernel_rfl) ?_
          simp only [List.take_succ_cons, List.take_zero, List.drop_succ_cons, List.drop_zero]
          repeat still_step
          try refine wpStill_nil ?_
          clear c0
          replace HP := HDR
          clear HDR
          go_wp2_with (first | (refine wpList_stW3 rfl 3 _ _ rfl HP.out rfl rfl (frms_lt HQ2.out (by omega)) rfl (frms_put (d := d2) HQ2.out (by omega) (by omega) _) (by kernel_rfl) ?_; clear HP; intro wst HP; replace HP := Lib.hid HP) | (refine wpList_stW3 rfl 3 _ _ rfl HP.out rfl rfl (frms_lt HQ2.out (by omega)) rfl (frms_pc HQ2.out (by omega) _) (by kernel_rfl) ?_; clear HP; intro wst HP; replace HP := Lib.hid HP) | (refine wpList_ldW3 rfl 3 _ rfl HP.out rfl (frms_pcAt HQ2.out (by omega)) Tryd.underlying3 rfl ?_) | (refine wpList_ldR0 rfl 29 _ rfl HP.out rfl Tryd.underlying29 rfl (by kernel_rfl) ?_) | (refine wpList_ldR1 rfl 29 _ rfl HP.out rfl Tryd.underlying29 rfl (by kernel_rfl) ?_) | (refine wpList_ldR2 rfl 29 _ rfl HP.out rfl Tryd.underlying29 rfl (by kernel_rfl) ?_) | (refine wpList_stR7 rfl 29 _ _ rfl HP.out rfl (cs' := staCells { s with frames := gs ++ [⟨g.fn, wrap64 (g.pc + 1), g.regs.setIfInBounds d2 va⟩], fuel := s.fuel - 1 } (.slice (some ⟨gF, 0, none⟩) q cF) (.slice A6 s.events.length c6) (.slice A7 s.answers.length c7)) rfl rfl (by simp [staCells, Value.oneCell']) (by kernel_rfl) ?_; clear HP; intro wst HP; replace HP := Lib.hid HP))
          refine bodyPost_ret (results_cell_row rfl _ _ g4 29 (staCells { s with frames := gs ++ [⟨g.fn, wrap64 (g.pc + 1), g.regs.setIfInBounds d2 va⟩], fuel := s.fuel - 1 } (.slice (some ⟨gF, 0, none⟩) q cF) (.slice A6 s.events.length c6) (.slice A7 s.answers.length c7)).toArray (0, 0) _ rfl (HP.out.blk (.tail _ (.tail _ (.tail _ (.tail _ (.tail _ (.tail _ (.tail _ (.head _))))))))) Tryd.underlying29 rfl (by kernel_rfl)) rfl ⟨(.slice (some ⟨gF, 0, none⟩) q cF), (.slice A6 s.events.length c6), (.slice A7 s.answers.length c7), by rw [HN.out]; rfl, ?_⟩
          rw [HN.out]
          exact st_done (by rw [List.length_append, HQ2.out]; exact HQQ.out.symm) (frms_snoc _ _) (rfl) (rfl) (rfl) (rfl) (HP.out.sub (.cons _ (.cons _ (.cons _ (.cons_cons _ (.cons _ (.cons_cons _ (.cons_cons _ (.cons _ (.cons _ .slnil))))))))))

end Go.Proofs.YtceilfmfidmfpaaDoor
