/- ref.stepped. ref.stepped. -/
import Derived.Test.YtceilfmfidmfpaaDoorMgEngEngRStepdL3
import Derived.Test.YtceilfmfidmfpaaDoorMgCopyReads2MdAMdBMdCMdDMdEStates8
import Derived.Test.YtceilfmfidmfpaaDoorStepdA
import Derived.Test.YtceilfmfidmfpaaDoorStepdB
set_option linter.unusedSimpArgs false
set_option linter.unusedVariables false
namespace Go.Proofs.YtceilfmfidmfpaaDoor
open Go.RowKit Plain64
attribute [local irreducible] wpList Code.wp Oper.wp
set_option maxRecDepth 100000 in
set_option maxHeartbeats 40000000 in
theorem stepped_C (p : Prg) (v : Value) (s : Sta) (fs : List Frm) (f : Frm) (hfr : s.frames = fs ++ [f]) (u e a : Value) (w : World) (hp : Lay.rep w (Lt w.heap.size) p [v]) (hf : Lay.rep w (Lt w.heap.size) s.frames [u]) (he : Lay.rep w (Lt w.heap.size) s.events [e]) (ha : Lay.rep w (Lt w.heap.size) s.answers [a])
    (hl : s.frames.length ≤ 8) (hla : s.answers.length ≤ 17592186043999) (hle : s.events.length ≤ 17592186043999) (hfu : 0 ≤ s.fuel ∧ s.fuel ≤ 10000) (ok : OkP p) (own : ∀ g ∈ s.frames, ownF p g) (hi : ∀ i, I64 (f.rg i)) (hsel : (insAt p f).op = 17) :
    Calls Tryd.prog 20 #[.agg #[v], .agg (staCells s u e a).toArray] w fun r w' => ∃ u' e' a', r = .returned (.agg (staCells (nextOf p s fs f) u' e' a').toArray) ∧ Hp w [⟨w, Lt w.heap.size⟩] (ownS (nextOf p s fs f) u' e' a') w' := by
  have hof : ownF p f := own f (by rw [hfr]; simp)
  obtain ⟨aP, ac, cP, k, j, l, cc, x0, x1, rfl, hfk, hfj, hkl, hjl, hSa, hSc, hat1, hat2, -, hl40, oki⟩ := ins_at hp ok hof
  obtain ⟨A2, c2, rfl, hc2, hm2, -⟩ := rep_frames_at hf
  obtain ⟨AE, ce, rfl, hce, hme, -⟩ := rep_ints_at he
  obtain ⟨AA, ca, rfl, hca, hma, -⟩ := rep_ints_at ha
  unfold maxLen at hm2 hme hma
  obtain ⟨x, hx⟩ : ∃ x, insAt p f = x := ⟨_, rfl⟩
  rw [hx] at hat2 oki hsel
  have HSL := Lib.hid hsel
  clear hsel
  obtain ⟨d, hd⟩ : ∃ d : Nat, x.dst = d := ⟨x.dst.toNat, by have := oki.dst; omega⟩
  obtain ⟨ia, hia⟩ : ∃ d : Nat, x.a = d := ⟨x.a.toNat, by have := oki.a; omega⟩
  obtain ⟨ib, hib⟩ : ∃ d : Nat, x.b = d := ⟨x.b.toNat, by have := oki.b; omega⟩
  have hd11 : d ≤ 11 := by have := oki.dst; omega
  have ha11 : ia ≤ 11 := by have := oki.a; omega
  have hb11 : ib ≤ 11 := by have := oki.b; omega
  obtain ⟨q, hq⟩ : ∃ q, fs.length = q := ⟨_, rfl⟩
  have hlq : s.frames.length = q + 1 := by rw [hfr, List.length_append, hq]; rfl
  obtain ⟨va, hva⟩ : ∃ a, f.rg ia = a := ⟨_, rfl⟩
  obtain ⟨vb, hvb⟩ : ∃ b, f.rg ib = b := ⟨_, rfl⟩
  have HIA := Lib.hid (show I64 va by rw [← hva]; exact hi ia)
  have HIB := Lib.hid (show I64 vb by rw [← hvb]; exact hi ib)
  rw [hd, hia, hib] at hat2
  rw [hlq] at hl hc2
  have HQ := Lib.hid hq
  have HLQ := Lib.hid hlq
  have HAT1 := Lib.hid hat1
  have HAT2 := Lib.hid hat2
  have HOK := Lib.hid oki
  have HFK := Lib.hid hfk
  have HFJ := Lib.hid hfj
  have HX := Lib.hid hx
  have HFR := Lib.hid hfr
  have HPR := Lib.hid hp
  have HF := Lib.hid hf
  have HE := Lib.hid he
  have HA := Lib.hid ha
  have HOW := Lib.hid own
  have HD := Lib.hid (And.intro hd (And.intro hia hib))
  have HV := Lib.hid (And.intro hva hvb)
  have HL8 := Lib.hid (show s.frames.length ≤ 1256584717421 by omega)
  have HLA := Lib.hid (show s.answers.length ≤ 17592186044000 by omega)
  have HLE := Lib.hid (show s.events.length ≤ 17592186044000 by omega)
  clear hat1 hat2 oki hfk hfj hx hfr hd hia hib hva hvb hp ha hf he hof own hq hlq hi
  obtain ⟨i_int, hi_int, hz_int, hs_int, hy_int⟩ := info_parts info_int
  obtain ⟨i_Frm, hi_Frm, hz_Frm, hs_Frm, hy_Frm⟩ := info_parts info_Frm
  have HP := Lib.hid (Hp.start w)
  unfold staCells
  go_enter Tryd.func20, Tryd.ntmps20
  go_upto_region 2 with (first | (refine wpList_alloc_hp (o := ⟨some 4, _, _, _, _, _⟩) rfl _ rfl HP.out (.agg #[.int .i64 0, .int .i64 0, .slice none 0 0, .int .i64 0, .int .i64 0, .int .i64 0, .int .i64 0, .int .i64 0, .int .i64 0, .int .i64 0, .int .i64 0, .int .i64 0, .int .i64 0, .int .i64 0, .int .i64 0, .int .i64 0, .int .i64 0, .int .i64 0, .int .i64 0, .int .i64 0, .slice none 0 0, .slice none 0 0]) (by kernel_rfl) [_, _, _, _, _, _, _, _, _, _, _, _, _, _, _, _, _, _, _, _, _, _] rfl ?_; clear HP; intro g4 w4 HP; replace HP := Lib.hid HP) | (refine wpList_alloc_hp (o := ⟨some 5, _, _, _, _, _⟩) rfl _ rfl HP.out (.agg #[.int .i64 0, .int .i64 0, .slice none 0 0, .int .i64 0, .int .i64 0, .int .i64 0, .int .i64 0, .int .i64 0, .int .i64 0, .int .i64 0, .int .i64 0, .int .i64 0, .int .i64 0, .int .i64 0, .int .i64 0, .int .i64 0, .int .i64 0, .int .i64 0, .int .i64 0, .int .i64 0, .slice none 0 0, .slice none 0 0]) (by kernel_rfl) [_, _, _, _, _, _, _, _, _, _, _, _, _, _, _, _, _, _, _, _, _, _] rfl ?_; clear HP; intro g5 w5 HP; replace HP := Lib.hid HP) | (refine wpList_box_hp (o := ⟨some 2, _, _, _, _, _⟩) rfl _ _ rfl HP.out [_] rfl ?_; clear HP; intro g2 w2 HP; replace HP := Lib.hid HP) | (refine wpList_box_hp (o := ⟨some 3, _, _, _, _, _⟩) rfl _ _ rfl HP.out [_, _, _, _, _, _, _, _, _, _, _, _, _, _, _, _, _, _, _, _, _, _] rfl ?_; clear HP; intro g3 w3 HP; replace HP := Lib.hid HP) | (refine wpList_ldR0 rfl 29 _ rfl HP.out rfl Tryd.underlying29 rfl (by kernel_rfl) ?_) | (refine wpList_ldR1 rfl 29 _ rfl HP.out rfl Tryd.underlying29 rfl (by kernel_rfl) ?_) | (refine wpList_ldR2 rfl 29 _ rfl HP.out rfl Tryd.underlying29 rfl (by kernel_rfl) ?_) | (go_at_call 9; refine (StateCopy_own s _ _ _ _ (HP.out.rep (F := ⟨w, Lt w.heap.size⟩) (by simp) HF.out) (HP.out.rep (F := ⟨w, Lt w.heap.size⟩) (by simp) HE.out) (HP.out.rep (F := ⟨w, Lt w.heap.size⟩) (by simp) HA.out) HL8.out HLE.out HLA.out).mono ?_; rintro r5 w5 ⟨u5, e5, a5, rfl, hb5⟩; obtain ⟨gF, cF, rfl⟩ := hb5.rowSome (v := u5) (.head _) (by rw [HLQ.out]; omega); obtain ⟨_, _, e9, hcF, hmF, -⟩ := rep_frames_at (hb5.rowFrames (.head _) rfl); cases e9; obtain ⟨A6, c6, rfl, hc6, hm6, -⟩ := rep_ints_at (hb5.rowInts (.tail _ (.head _)) rfl); obtain ⟨A7, c7, rfl, hc7, hm7, -⟩ := rep_ints_at (hb5.rowInts (.tail _ (.tail _ (.head _))) rfl); replace HP := Lib.hid (by simpa only [List.cons_append, List.nil_append] using HP.out.takeEnd hb5); clear hb5) | (refine wpList_stR0 rfl 29 _ _ rfl HP.out rfl (cs' := staCells s (.slice (some ⟨gF, 0, none⟩) s.frames.length cF) (.slice A6 s.events.length c6) (.slice A7 s.answers.length c7)) rfl rfl (by simp [staCells, Value.oneCell']) (by kernel_rfl) ?_; clear HP; intro wst HP; replace HP := Lib.hid HP))
  unfold maxLen at hmF hm6 hm7
  rw [HLQ.out] at hcF
  replace HP := Lib.hid (show Hp w [⟨w, Lt w.heap.size⟩] [.blk g5 29 (staCells s (.slice (some ⟨gF, 0, none⟩) (q + 1) cF) (.slice A6 s.events.length c6) (.slice A7 s.answers.length c7)), .blk g4 29 _, .blk g3 29 (staCells s (.slice A2 (q + 1) c2) (.slice AE s.events.length ce) (.slice AA s.answers.length ca)), .blk g2 24 _, .row (.slice (some ⟨gF, 0, none⟩) (q + 1) cF) 39 14 (q + 1) (fs.flatMap frmCells ++ frmCells f), .row (.slice A6 s.events.length c6) 3 1 s.events.length (s.events.map (Value.int .i64)), .row (.slice A7 s.answers.length c7) 3 1 s.answers.length (s.answers.map (Value.int .i64))] _ by
    have := HP.out
    unfold ownS at this
    rw [HLQ.out, HFR.out, frms_snoc] at this
    exact this)
  replace HP := Lib.hid (Hp.pull (A := [_, _]) HP.out)
  replace HP := Lib.hid (Hp.pull (A := [_, _]) HP.out)
  replace HP := Lib.hid (Hp.pull (A := [_, _, _, _, _, _]) HP.out)
  replace HP := Lib.hid (Hp.pull (A := [_, _, _, _, _, _]) HP.out)
  replace HP := Lib.hid (Hp.pull (A := [_, _, _, _, _]) HP.out)
  replace HP := Lib.hid (Hp.pull (A := [_, _, _, _, _, _]) HP.out)
  replace HP := Lib.hid (Hp.pull (A := [_, _, _, _, _, _]) HP.out)
  simp only [List.cons_append, List.nil_append] at HP
  unfold staCells at HP
  by_cases hf0 : s.fuel = 0
  · have HN := Lib.hid (show nextOf p s fs f = { s with status := 2 } by unfold nextOf; rw [if_pos hf0])
    go_wp2_with (first | (refine wpList_ld0 rfl 3 _ rfl HP.out rfl rfl Tryd.underlying3 rfl ?_) | (refine wpList_ld1 rfl 3 _ rfl HP.out rfl rfl Tryd.underlying3 rfl ?_) | (refine wpList_ld2 rfl 3 _ rfl HP.out rfl rfl Tryd.underlying3 rfl ?_) | (refine wpList_ld3 rfl 3 _ rfl HP.out rfl rfl Tryd.underlying3 rfl ?_) | (refine wpList_ld4 rfl 3 _ rfl HP.out rfl rfl Tryd.underlying3 rfl ?_) | (refine wpList_ld5 rfl 3 _ rfl HP.out rfl rfl Tryd.underlying3 rfl ?_) | (refine wpList_ld6 rfl 3 _ rfl HP.out rfl rfl Tryd.underlying3 rfl ?_) | (refine wpList_st0 rfl 3 _ _ rfl HP.out rfl rfl (by simp) rfl rfl (by kernel_rfl) ?_; clear HP; intro wst HP; replace HP := Lib.hid HP) | (refine wpList_ldR0 rfl 29 _ rfl HP.out rfl Tryd.underlying29 rfl (by kernel_rfl) ?_) | (refine wpList_stR5 rfl 29 _ _ rfl HP.out rfl (cs' := staCells { s with status := 2 } (.slice (some ⟨gF, 0, none⟩) (q + 1) cF) (.slice A6 s.events.length c6) (.slice A7 s.answers.length c7)) rfl rfl (by simp [staCells, Value.oneCell']) (by kernel_rfl) ?_; clear HP; intro wst HP; replace HP := Lib.hid HP))
    refine bodyPost_ret (results_cell_row rfl _ _ g4 29 (staCells { s with status := 2 } (.slice (some ⟨gF, 0, none⟩) (q + 1) cF) (.slice A6 s.events.length c6) (.slice A7 s.answers.length c7)).toArray (0, 0) _ rfl (HP.out.blk (.tail _ (.tail _ (.tail _ (.tail _ (.tail _ (.head _))))))) Tryd.underlying29 rfl (by kernel_rfl)) rfl ⟨.slice (some ⟨gF, 0, none⟩) (q + 1) cF, .slice A6 s.events.length c6, .slice A7 s.answers.length c7, by rw [HN.out]; rfl, ?_⟩
    rw [HN.out]
    exact st_done HLQ.out (by rw [HFR.out]; exact frms_snoc _ _) rfl rfl rfl rfl (HP.out.sub (.cons _ (.cons_cons _ (.cons _ (.cons_cons _ (.cons_cons _ (.cons _ (.cons _ .slnil))))))))
  · have HFZ := Lib.hid hf0
    have hfb : (s.fuel == 0) = false := by rw [beq_eq_false_iff_ne]; exact hf0
    clear hf0
    go_upto_region 7 with (first | (refine wpList_ld0 rfl 3 _ rfl HP.out rfl rfl Tryd.underlying3 rfl ?_) | (refine wpList_ld1 rfl 3 _ rfl HP.out rfl rfl Tryd.underlying3 rfl ?_) | (refine wpList_ld2 rfl 3 _ rfl HP.out rfl rfl Tryd.underlying3 rfl ?_) | (refine wpList_ld3 rfl 3 _ rfl HP.out rfl rfl Tryd.underlying3 rfl ?_) | (refine wpList_ld4 rfl 3 _ rfl HP.out rfl rfl Tryd.underlying3 rfl ?_) | (refine wpList_ld5 rfl 3 _ rfl HP.out rfl rfl Tryd.underlying3 rfl ?_) | (refine wpList_ld6 rfl 3 _ rfl HP.out rfl rfl Tryd.underlying3 rfl ?_) | (refine wpList_ld0 rfl 25 _ rfl HP.out rfl rfl Tryd.underlying25 rfl ?_) | (refine wpList_ld1 rfl 25 _ rfl HP.out rfl rfl Tryd.underlying25 rfl ?_) | (refine wpList_ld2 rfl 25 _ rfl HP.out rfl rfl Tryd.underlying25 rfl ?_) | (refine wpList_ld3 rfl 25 _ rfl HP.out rfl rfl Tryd.underlying25 rfl ?_) | (refine wpList_ld4 rfl 25 _ rfl HP.out rfl rfl Tryd.underlying25 rfl ?_) | (refine wpList_ld5 rfl 25 _ rfl HP.out rfl rfl Tryd.underlying25 rfl ?_) | (refine wpList_ld6 rfl 25 _ rfl HP.out rfl rfl Tryd.underlying25 rfl ?_))
    replace HP := Lib.hid HP.out.drew
    refine wp_region_held_drew (S := fun w' => w'.cell? ⟨g2, 0, none⟩ = some (.slice (some aP) p.funcs.length cP) ∧ w'.cell? ⟨gF, q * 14, none⟩ = some (.int .i64 k) ∧ w'.cell? ⟨gF, q * 14 + 1, none⟩ = some (.int .i64 j) ∧ w'.cell? ⟨(aP.add (k * 3)).block, (aP.add (k * 3)).off + (1 + 1), none⟩ = some (.slice (some ac) l cc) ∧ At w' (ac.add (j * 5)) [iV x.op, iV d, iV ia, iV ib, iV x.imm]) (by kernel_rfl) ⟨HP.out.cell (.tail _ (.tail _ (.head _))) 0 _ rfl, (HP.out.rowCell (g := gF) (.tail _ (.head _)) (q * 14) _ (frms_fn HQ.out rfl)).trans (by rw [HFK.out]), (HP.out.rowCell (g := gF) (.tail _ (.head _)) (q * 14 + 1) _ (frms_pcAt HQ.out rfl)).trans (by rw [HFJ.out]), (HP.out.at_ (F := ⟨w, Lt w.heap.size⟩) (.head _) HAT1.out (by rw [block_of_add]; exact hSa)).fld 1 rfl, HP.out.at_ (F := ⟨w, Lt w.heap.size⟩) (.head _) HAT2.out (by rw [block_of_add]; exact hSc)⟩ (fun hHeld => ?_)
    have HS0 := Lib.hid hHeld
    clear hHeld
    (try simp only [Act.put, List.setIfInBounds_toArray, List.set_cons_zero, List.set_cons_succ])
    refine wpAnyH_take (i := 0) (v := ?_) rfl (by kernel_rfl) (by kernel_rfl) (by kernel_rfl) (fun _ _ _ h => h) (.inl ⟨by simp [Region.wanted], ?_⟩) HS0.out ?_
    rotate_left
    · intro w' hw
      obtain ⟨k0, k1, k2, k3, k4⟩ := hw
      go_simp
      (try with_reducible rfl)
    (try simp only [List.getElem_toArray, List.getElem_cons_succ, List.getElem_cons_zero, Act.put, List.setIfInBounds_toArray, List.set_cons_zero, List.set_cons_succ])
    refine wpAnyH_take (i := 1) (v := ?_) rfl (by kernel_rfl) (by kernel_rfl) (by kernel_rfl) (fun _ _ _ h => h) (.inl ⟨by simp [Region.wanted], ?_⟩) HS0.out ?_
    rotate_left
    · intro w' hw
      obtain ⟨k0, k1, k2, k3, k4⟩ := hw
      go_simp
      (try with_reducible rfl)
    (try simp only [List.getElem_toArray, List.getElem_cons_succ, List.getElem_cons_zero, Act.put, List.setIfInBounds_toArray, List.set_cons_zero, List.set_cons_succ])
    refine wpAnyH_take (i := 2) (v := ?_) rfl (by kernel_rfl) (by kernel_rfl) (by kernel_rfl) (fun _ _ _ h => h) (.inl ⟨by simp [Region.wanted], ?_⟩) HS0.out ?_
    rotate_left
    · intro w' hw
      obtain ⟨k0, k1, k2, k3, k4⟩ := hw
      go_simp
      (try with_reducible rfl)
    (try simp only [List.getElem_toArray, List.getElem_cons_succ, List.getElem_cons_zero, Act.put, List.setIfInBounds_toArray, List.set_cons_zero, List.set_cons_succ])
    refine wpAnyH_take (i := 3) (v := ?_) rfl (by kernel_rfl) (by kernel_rfl) (by kernel_rfl) (fun _ _ _ h => h) (.inl ⟨by simp [Region.wanted], ?_⟩) HS0.out ?_
    rotate_left
    · intro w' hw
      obtain ⟨k0, k1, k2, k3, k4⟩ := hw
      go_simp
      (try with_reducible rfl)
    (try simp only [List.getElem_toArray, List.getElem_cons_succ, List.getElem_cons_zero, Act.put, List.setIfInBounds_toArray, List.set_cons_zero, List.set_cons_succ])
    refine wpAnyH_take (i := 4) (v := ?_) rfl (by kernel_rfl) (by kernel_rfl) (by kernel_rfl) (fun _ _ _ h => h) (.inl ⟨by simp [Region.wanted], ?_⟩) HS0.out ?_
    rotate_left
    · intro w' hw
      obtain ⟨k0, k1, k2, k3, k4⟩ := hw
      go_simp
      (try with_reducible rfl)
    (try simp only [List.getElem_toArray, List.getElem_cons_succ, List.getElem_cons_zero, Act.put, List.setIfInBounds_toArray, List.set_cons_zero, List.set_cons_succ])
    refine wpAnyH_take (i := 5) (v := ?_) rfl (by kernel_rfl) (by kernel_rfl) (by kernel_rfl) (fun _ _ _ h => h) (.inl ⟨by simp [Region.wanted], ?_⟩) HS0.out ?_
    rotate_left
    · intro w' hw
      obtain ⟨k0, k1, k2, k3, k4⟩ := hw
      go_simp
      (try with_reducible rfl)
    (try simp only [List.getElem_toArray, List.getElem_cons_succ, List.getElem_cons_zero, Act.put, List.setIfInBounds_toArray, List.set_cons_zero, List.set_cons_succ])
    refine wpAnyH_take (i := 6) (v := ?_) rfl (by kernel_rfl) (by kernel_rfl) (by kernel_rfl) (fun _ _ _ h => h) (.inl ⟨by simp [Region.wanted], ?_⟩) HS0.out ?_
    rotate_left
    · intro w' hw
      obtain ⟨k0, k1, k2, k3, k4⟩ := hw
      go_simp
      (try with_reducible rfl)
    (try simp only [List.getElem_toArray, List.getElem_cons_succ, List.getElem_cons_zero, Act.put, List.setIfInBounds_toArray, List.set_cons_zero, List.set_cons_succ])
    refine wpAnyH_take (i := 7) (v := ?_) rfl (by kernel_rfl) (by kernel_rfl) (by kernel_rfl) (fun _ _ _ h => h) (.inl ⟨by simp [Region.wanted], ?_⟩) HS0.out ?_
    rotate_left
    · intro w' hw
      obtain ⟨k0, k1, k2, k3, k4⟩ := hw
      go_simp
      (try with_reducible rfl)
    (try simp only [List.getElem_toArray, List.getElem_cons_succ, List.getElem_cons_zero, Act.put, List.setIfInBounds_toArray, List.set_cons_zero, List.set_cons_succ])
    refine wpAnyH_take (i := 8) (v := ?_) rfl (by kernel_rfl) (by kernel_rfl) (by kernel_rfl) (fun _ _ _ h => h) (.inl ⟨by simp [Region.wanted], ?_⟩) HS0.out ?_
    rotate_left
    · intro w' hw
      obtain ⟨k0, k1, k2, k3, k4⟩ := hw
      go_simp
      (try with_reducible rfl)
    (try simp only [List.getElem_toArray, List.getElem_cons_succ, List.getElem_cons_zero, Act.put, List.setIfInBounds_toArray, List.set_cons_zero, List.set_cons_succ])
    refine wpAnyH_take (i := 9) (v := ?_) rfl (by kernel_rfl) (by kernel_rfl) (by kernel_rfl) (fun _ _ _ h => h) (.inl ⟨by simp [Region.wanted], ?_⟩) HS0.out ?_
    rotate_left
    · intro w' hw
      obtain ⟨k0, k1, k2, k3, k4⟩ := hw
      go_simp
      (try with_reducible rfl)
    (try simp only [List.getElem_toArray, List.getElem_cons_succ, List.getElem_cons_zero, Act.put, List.setIfInBounds_toArray, List.set_cons_zero, List.set_cons_succ])
    refine wpAnyH_take (i := 10) (v := ?_) rfl (by kernel_rfl) (by kernel_rfl) (by kernel_rfl) (fun _ _ _ h => h) (.inl ⟨by simp [Region.wanted], ?_⟩) HS0.out ?_
    rotate_left
    · intro w' hw
      obtain ⟨k0, k1, k2, k3, k4⟩ := hw
      go_simp
      (try with_reducible rfl)
    (try simp only [List.getElem_toArray, List.getElem_cons_succ, List.getElem_cons_zero, Act.put, List.setIfInBounds_toArray, List.set_cons_zero, List.set_cons_succ])
    refine wpAnyH_take (i := 11) (v := ?_) rfl (by kernel_rfl) (by kernel_rfl) (by kernel_rfl) (fun _ _ _ h => h) (.inl ⟨by simp [Region.wanted], ?_⟩) HS0.out ?_
    rotate_left
    · intro w' hw
      obtain ⟨k0, k1, k2, k3, k4⟩ := hw
      go_simp
      (try with_reducible rfl)
    (try simp only [List.getElem_toArray, List.getElem_cons_succ, List.getElem_cons_zero, Act.put, List.setIfInBounds_toArray, List.set_cons_zero, List.set_cons_succ])
    refine wpAnyH_take (i := 12) (v := ?_) rfl (by kernel_rfl) (by kernel_rfl) (by kernel_rfl) (fun _ _ _ h => h) (.inl ⟨by simp [Region.wanted], ?_⟩) HS0.out ?_
    rotate_left
    · intro w' hw
      obtain ⟨k0, k1, k2, k3, k4⟩ := hw
      go_simp
      (try with_reducible rfl)
    (try simp only [List.getElem_toArray, List.getElem_cons_succ, List.getElem_cons_zero, Act.put, List.setIfInBounds_toArray, List.set_cons_zero, List.set_cons_succ])
    refine wpAnyH_take (i := 13) (v := ?_) rfl (by kernel_rfl) (by kernel_rfl) (by kernel_rfl) (fun _ _ _ h => h) (.inl ⟨by simp [Region.wanted], ?_⟩) HS0.out ?_
    rotate_left
    · intro w' hw
      obtain ⟨k0, k1, k2, k3, k4⟩ := hw
      go_simp
      (try with_reducible rfl)
    (try simp only [List.getElem_toArray, List.getElem_cons_succ, List.getElem_cons_zero, Act.put, List.setIfInBounds_toArray, List.set_cons_zero, List.set_cons_succ])
    refine wpAnyH_row (i := 14) rfl (by kernel_rfl) (by kernel_rfl) (by kernel_rfl) (fun _ _ _ _ h => h) rfl 56 _ rfl _ rfl _ _ (fun _ h => h.2.2.2.2) Tryd.underlying56 rfl (by kernel_rfl) HS0.out ?_
    (try simp only [List.getElem_toArray, List.getElem_cons_succ, List.getElem_cons_zero, Act.put, List.setIfInBounds_toArray, List.set_cons_zero, List.set_cons_succ])
    refine wpAnyH_ready (rs := [15]) (by kernel_rfl) (by simp) ?_
    refine AllReadyH.cons rfl (fun K hK => ?_) AllReadyH.nil
    refine wanted_only rfl ?_
    (refine wpList_alloc_hp (o := ⟨some 8, _, _, _, _, _⟩) rfl _ rfl HP.out (.agg #[.int .i64 0, .int .i64 0, .int .i64 0, .int .i64 0, .int .i64 0]) (by kernel_rfl) [_, _, _, _, _] rfl ?_; clear HP; intro g8 w8 HP; replace HP := Lib.hid HP)
    refine wpList_nil ?_
    refine hK.out _ _ ⟨HP.out.cell (.tail _ (.tail _ (.tail _ (.head _)))) 0 _ rfl, (HP.out.rowCell (g := gF) (.tail _ (.tail _ (.head _))) (q * 14) _ (frms_fn HQ.out rfl)).trans (by rw [HFK.out]), (HP.out.rowCell (g := gF) (.tail _ (.tail _ (.head _))) (q * 14 + 1) _ (frms_pcAt HQ.out rfl)).trans (by rw [HFJ.out]), (HP.out.at_ (F := ⟨w, Lt w.heap.size⟩) (.head _) HAT1.out (by rw [block_of_add]; exact hSa)).fld 1 rfl, HP.out.at_ (F := ⟨w, Lt w.heap.size⟩) (.head _) HAT2.out (by rw [block_of_add]; exact hSc)⟩ (fun hHeld => ?_)
    clear hK K hHeld
    (try simp only [List.getElem_toArray, List.getElem_cons_succ, List.getElem_cons_zero, Act.put, List.setIfInBounds_toArray, List.set_cons_zero, List.set_cons_succ])
    refine wpAnyH_ready (rs := [16]) (by kernel_rfl) (by simp) ?_
    refine AllReadyH.cons rfl (fun K hK => ?_) AllReadyH.nil
    refine wanted_only rfl ?_
    (first | (refine wpList_stR0 rfl 56 _ _ rfl HP.out rfl (cs' := [_, _, _, _, _]) rfl rfl (by simp [Value.oneCell']) (by kernel_rfl) ?_; clear HP; intro wst HP; replace HP := Lib.hid HP))
    refine wpList_nil ?_
    refine hK.out _ _ ⟨HP.out.cell (.tail _ (.tail _ (.tail _ (.head _)))) 0 _ rfl, (HP.out.rowCell (g := gF) (.tail _ (.tail _ (.head _))) (q * 14) _ (frms_fn HQ.out rfl)).trans (by rw [HFK.out]), (HP.out.rowCell (g := gF) (.tail _ (.tail _ (.head _))) (q * 14 + 1) _ (frms_pcAt HQ.out rfl)).trans (by rw [HFJ.out]), (HP.out.at_ (F := ⟨w, Lt w.heap.size⟩) (.head _) HAT1.out (by rw [block_of_add]; exact hSa)).fld 1 rfl, HP.out.at_ (F := ⟨w, Lt w.heap.size⟩) (.head _) HAT2.out (by rw [block_of_add]; exact hSc)⟩ (fun hHeld => ?_)
    clear hK K hHeld HS0
    refine wpAnyH_done (by kernel_rfl) ?_ _
    (try simp only [List.getElem_toArray, List.getElem_cons_succ, List.getElem_cons_zero, Act.put, List.setIfInBounds_toArray, List.set_cons_zero, List.set_cons_succ])
    go_upto_region 8 with (fail)
    have c1 := HP.out.cell (.head _) 2 _ rfl
    have c3 := (HP.out.rowCell (g := gF) (.tail _ (.tail _ (.head _))) (q * 14 + 2 + ia) _ (frms_rg (d := ia) HQ.out (by omega) (by omega))).trans (by rw [HV.out.1])
    go_quiet (fail)
    replace HP := Lib.hid (HP.out.drewN nq)
    clear c1 c3
    generalize wst.drewN nq = wx at HP ⊢
    go_upto_region 9 with (fail)
    have c2' := HP.out.cell (.head _) 3 _ rfl
    have c4 := (HP.out.rowCell (g := gF) (.tail _ (.tail _ (.head _))) (q * 14 + 2 + ib) _ (frms_rg (d := ib) HQ.out (by omega) (by omega))).trans (by rw [HV.out.2])
    go_quiet (fail)
    replace HP := Lib.hid (HP.out.drewN nq)
    clear c2' c4
    generalize wx.drewN nq = wy at HP ⊢
    obtain ⟨op, hop⟩ : ∃ o, x.op = o := ⟨_, rfl⟩
    obtain ⟨im, him⟩ : ∃ o, x.imm = o := ⟨_, rfl⟩
    have HOP := Lib.hid (And.intro hop him)
    rw [hop, him] at HP
    have ho19 : 1 ≤ op ∧ op ≤ 19 := by rw [← hop]; exact HOK.out.op
    have HSEL := Lib.hid (show op = 17 by rw [← hop]; exact HSL.out)
    clear hop him
    have hwf : wrap64 (s.fuel - 1) = s.fuel - 1 := by unfold wrap64; omega
    have hwp : wrap64 (f.pc + 1) = f.pc + 1 := by rw [HFJ.out]; unfold wrap64; omega
    have HWF := Lib.hid hwf
    have HWP := Lib.hid hwp
    clear hwf hwp
    obtain ⟨n, hn⟩ : ∃ n, pureV op va vb im = n := ⟨_, rfl⟩
    have HNV := Lib.hid hn
    clear hn
    have HOQ := Lib.hid (And.intro hc2 hcF)
    have cg := HP.out.cell (.head _) 0 _ rfl
    cases hpb : pureB op vb with
    | true =>
      exfalso
      unfold pureB at hpb
      simp only [Bool.and_eq_true, decide_eq_true_eq] at hpb
      have := HSEL.out
      omega
    | false =>
      have hcs : (op = 5 ∧ vb = 0) ∨ op = 13 ∨ op = 14 ∨ op = 15 ∨ op = 16 ∨ op = 17 ∨ op = 18 ∨ op = 19 := by
        by_cases h13 : 13 ≤ op
        · omega
        · left
          unfold pureB at hpb
          rw [decide_eq_true ho19.1, decide_eq_true (show op ≤ 12 by omega)] at hpb
          simpa using hpb
      rcases hcs with ⟨rfl, rfl⟩ | rfl | rfl | rfl | rfl | rfl | rfl | rfl
      · exfalso; have := HSEL.out; omega
      · exfalso; have := HSEL.out; omega
      · exfalso; have := HSEL.out; omega
      · exfalso; have := HSEL.out; omega
      · exfalso; have := HSEL.out; omega
      · by_cases hq7 : q = 7
        · skip
          have HN := Lib.hid (show nextOf p s fs f = { s with status := 5, fuel := s.fuel - 1 } by
            unfold nextOf putF goF
            rw [if_neg HFZ.out, HX.out, HOP.out.1, HOP.out.2, HD.out.2.2, HD.out.2.1, HD.out.1]
            simp only [Int.toNat_natCast, HV.out.1, HV.out.2, hpb, HNV.out, Bool.false_eq_true, if_false, if_true]
            rw [HQ.out]
            simp only [hq7]
            rfl)
          clear hpb
          have hb8 : (((q : Int) + 1) == 8) = true := by rw [beq_iff_eq]; omega
          clear hq7
          go_wp2_with (first | (refine wpList_ld0 rfl 3 _ rfl HP.out rfl rfl Tryd.underlying3 rfl ?_) | (refine wpList_ld1 rfl 3 _ rfl HP.out rfl rfl Tryd.underlying3 rfl ?_) | (refine wpList_ld2 rfl 3 _ rfl HP.out rfl rfl Tryd.underlying3 rfl ?_) | (refine wpList_ld3 rfl 3 _ rfl HP.out rfl rfl Tryd.underlying3 rfl ?_) | (refine wpList_ld4 rfl 3 _ rfl HP.out rfl rfl Tryd.underlying3 rfl ?_) | (refine wpList_ld5 rfl 3 _ rfl HP.out rfl rfl Tryd.underlying3 rfl ?_) | (refine wpList_ld6 rfl 3 _ rfl HP.out rfl rfl Tryd.underlying3 rfl ?_) | (refine wpList_ld7 rfl 3 _ rfl HP.out rfl rfl Tryd.underlying3 rfl ?_) | (refine wpList_st0 rfl 3 _ _ rfl HP.out rfl rfl (by simp) rfl rfl (by kernel_rfl) ?_; clear HP; intro wst HP; replace HP := Lib.hid HP) | (refine wpList_st1 rfl 3 _ _ rfl HP.out rfl rfl (by simp) rfl rfl (by kernel_rfl) ?_; clear HP; intro wst HP; replace HP := Lib.hid HP) | (refine wpList_ld0 rfl 25 _ rfl HP.out rfl rfl Tryd.underlying25 rfl ?_) | (refine wpList_ld1 rfl 25 _ rfl HP.out rfl rfl Tryd.underlying25 rfl ?_) | (refine wpList_ld2 rfl 25 _ rfl HP.out rfl rfl Tryd.underlying25 rfl ?_) | (refine wpList_ld3 rfl 25 _ rfl HP.out rfl rfl Tryd.underlying25 rfl ?_) | (refine wpList_ld4 rfl 25 _ rfl HP.out rfl rfl Tryd.underlying25 rfl ?_) | (refine wpList_ld5 rfl 25 _ rfl HP.out rfl rfl Tryd.underlying25 rfl ?_) | (refine wpList_ld6 rfl 25 _ rfl HP.out rfl rfl Tryd.underlying25 rfl ?_) | (refine wpList_ld7 rfl 25 _ rfl HP.out rfl rfl Tryd.underlying25 rfl ?_) | (go_at_call 40; refine (In_any _ _ _ _).mono ?_; rintro e w' ⟨rfl, rfl⟩) | (refine wpList_ldR0 rfl 29 _ rfl HP.out rfl Tryd.underlying29 rfl (by kernel_rfl) ?_) | (refine wpList_ldR1 rfl 29 _ rfl HP.out rfl Tryd.underlying29 rfl (by kernel_rfl) ?_) | (refine wpList_stR6 rfl 29 _ _ rfl HP.out rfl (cs' := staCells { s with status := 5, fuel := s.fuel - 1 } (.slice (some ⟨gF, 0, none⟩) (q + 1) cF) (.slice A6 s.events.length c6) (.slice A7 s.answers.length c7)) rfl rfl (by simp [staCells, Value.oneCell']) (by kernel_rfl) ?_; clear HP; intro wst HP; replace HP := Lib.hid HP))
          refine bodyPost_ret (results_cell_row rfl _ _ g4 29 (staCells { s with status := 5, fuel := s.fuel - 1 } (.slice (some ⟨gF, 0, none⟩) (q + 1) cF) (.slice A6 s.events.length c6) (.slice A7 s.answers.length c7)).toArray (0, 0) _ rfl (HP.out.blk (.tail _ (.tail _ (.tail _ (.tail _ (.tail _ (.tail _ (.head _)))))))) Tryd.underlying29 rfl (by kernel_rfl)) rfl ⟨(.slice (some ⟨gF, 0, none⟩) (q + 1) cF), (.slice A6 s.events.length c6), (.slice A7 s.answers.length c7), by rw [HN.out]; rfl, ?_⟩
          rw [HN.out]
          exact st_done (HLQ.out) (by rw [HFR.out]; exact frms_snoc _ _) (rfl) (rfl) (rfl) (rfl) (HP.out.sub (.cons _ (.cons _ (.cons_cons _ (.cons _ (.cons_cons _ (.cons_cons _ (.cons _ (.cons _ .slnil)))))))))
        · skip
          have HN := Lib.hid (show nextOf p s fs f = { s with frames := fs ++ [f] ++ [callF im (parZ p im) va vb], fuel := s.fuel - 1 } by
            unfold nextOf putF goF
            rw [if_neg HFZ.out, HX.out, HOP.out.1, HOP.out.2, HD.out.2.2, HD.out.2.1, HD.out.1]
            simp only [Int.toNat_natCast, HV.out.1, HV.out.2, hpb, HNV.out, Bool.false_eq_true, if_false, if_true]
            rw [HQ.out]
            simp only [if_neg hq7]
            rfl)
          clear hpb
          have hb8 : (((q : Int) + 1) == 8) = false := by rw [beq_eq_false_iff_ne]; omega
          have hq6 : q ≤ 6 := by omega
          clear hq7
          have hcal := HOK.out.cal HOP.out.1
          rw [HOP.out.2] at hcal
          obtain ⟨fn, hfn⟩ : ∃ fn : Nat, im = fn := ⟨im.toNat, by omega⟩
          subst hfn
          have hfl : fn < p.funcs.length := by omega
          obtain ⟨_, _, e9, -, -, hx9⟩ := rep_prg_at HPR.out
          cases e9
          obtain ⟨_, vc9, e9, hab9, hat9, -⟩ := hx9 fn hfl
          cases e9
          obtain ⟨f0, hf0⟩ : ∃ f0, p.funcs[fn] = f0 := ⟨_, rfl⟩
          have hpz : parZ p fn = f0.params := by unfold parZ; rw [Int.toNat_natCast, List.getElem?_eq_getElem hfl, hf0]; rfl
          have hpr := (ok.fns f0 (hf0 ▸ List.getElem_mem _)).params
          rw [hf0] at hat9
          obtain ⟨m, hm⟩ : ∃ m : Nat, f0.params = m := ⟨f0.params.toNat, by omega⟩
          rw [hm] at hat9 hpr hpz
          rw [hpz] at HN
          have HPM := Lib.hid (hat9.fld0 rfl)
          clear hat9 hx9 hf0 hpz hcal
          have hm2 : m = 0 ∨ m = 1 ∨ m = 2 := by omega
          clear hpr hm
          rcases hm2 with rfl | rfl | rfl
          · go_wp2_with (first | (refine wpList_ld0 rfl 3 _ rfl HP.out rfl rfl Tryd.underlying3 rfl ?_) | (refine wpList_ld1 rfl 3 _ rfl HP.out rfl rfl Tryd.underlying3 rfl ?_) | (refine wpList_ld2 rfl 3 _ rfl HP.out rfl rfl Tryd.underlying3 rfl ?_) | (refine wpList_ld3 rfl 3 _ rfl HP.out rfl rfl Tryd.underlying3 rfl ?_) | (refine wpList_ld4 rfl 3 _ rfl HP.out rfl rfl Tryd.underlying3 rfl ?_) | (refine wpList_ld5 rfl 3 _ rfl HP.out rfl rfl Tryd.underlying3 rfl ?_) | (refine wpList_ld6 rfl 3 _ rfl HP.out rfl rfl Tryd.underlying3 rfl ?_) | (refine wpList_ld7 rfl 3 _ rfl HP.out rfl rfl Tryd.underlying3 rfl ?_) | (refine wpList_st0 rfl 3 _ _ rfl HP.out rfl rfl (by simp) rfl rfl (by kernel_rfl) ?_; clear HP; intro wst HP; replace HP := Lib.hid HP) | (refine wpList_st1 rfl 3 _ _ rfl HP.out rfl rfl (by simp) rfl rfl (by kernel_rfl) ?_; clear HP; intro wst HP; replace HP := Lib.hid HP) | (refine wpList_st2 rfl 3 _ _ rfl HP.out rfl rfl (by simp) rfl rfl (by kernel_rfl) ?_; clear HP; intro wst HP; replace HP := Lib.hid HP) | (refine wpList_ld0 rfl 22 _ rfl HP.out rfl rfl Tryd.underlying22 rfl ?_) | (refine wpList_ld1 rfl 22 _ rfl HP.out rfl rfl Tryd.underlying22 rfl ?_) | (refine wpList_ld2 rfl 22 _ rfl HP.out rfl rfl Tryd.underlying22 rfl ?_) | (refine wpList_ld3 rfl 22 _ rfl HP.out rfl rfl Tryd.underlying22 rfl ?_) | (refine wpList_ld4 rfl 22 _ rfl HP.out rfl rfl Tryd.underlying22 rfl ?_) | (refine wpList_ld5 rfl 22 _ rfl HP.out rfl rfl Tryd.underlying22 rfl ?_) | (refine wpList_ld6 rfl 22 _ rfl HP.out rfl rfl Tryd.underlying22 rfl ?_) | (refine wpList_ld7 rfl 22 _ rfl HP.out rfl rfl Tryd.underlying22 rfl ?_) | (refine wpList_ld0 rfl 25 _ rfl HP.out rfl rfl Tryd.underlying25 rfl ?_) | (refine wpList_ld1 rfl 25 _ rfl HP.out rfl rfl Tryd.underlying25 rfl ?_) | (refine wpList_ld2 rfl 25 _ rfl HP.out rfl rfl Tryd.underlying25 rfl ?_) | (refine wpList_ld3 rfl 25 _ rfl HP.out rfl rfl Tryd.underlying25 rfl ?_) | (refine wpList_ld4 rfl 25 _ rfl HP.out rfl rfl Tryd.underlying25 rfl ?_) | (refine wpList_ld5 rfl 25 _ rfl HP.out rfl rfl Tryd.underlying25 rfl ?_) | (refine wpList_ld6 rfl 25 _ rfl HP.out rfl rfl Tryd.underlying25 rfl ?_) | (refine wpList_ld7 rfl 25 _ rfl HP.out rfl rfl Tryd.underlying25 rfl ?_) | (refine wpList_st0 rfl 25 _ _ rfl HP.out rfl rfl (by simp) rfl rfl (by kernel_rfl) ?_; clear HP; intro wst HP; replace HP := Lib.hid HP) | (refine wpList_st1 rfl 25 _ _ rfl HP.out rfl rfl (by simp) rfl rfl (by kernel_rfl) ?_; clear HP; intro wst HP; replace HP := Lib.hid HP) | (refine wpList_st2 rfl 25 _ _ rfl HP.out rfl rfl (by simp) rfl rfl (by kernel_rfl) ?_; clear HP; intro wst HP; replace HP := Lib.hid HP) | (go_at_call 40; refine (In_any _ _ _ _).mono ?_; rintro e w' ⟨rfl, rfl⟩) | (refine wpList_alloc_hp (o := ⟨some 13, _, _, _, _, _⟩) rfl _ rfl HP.out (.agg #[.int .i64 0, .int .i64 0, .int .i64 0, .int .i64 0, .int .i64 0, .int .i64 0, .int .i64 0, .int .i64 0, .int .i64 0, .int .i64 0, .int .i64 0, .int .i64 0, .int .i64 0, .int .i64 0]) (by kernel_rfl) [_, _, _, _, _, _, _, _, _, _, _, _, _, _] rfl ?_; clear HP; intro g13 w13 HP; replace HP := Lib.hid HP) | (refine wpList_stR0 rfl 39 _ _ rfl HP.out rfl (cs' := [iV fn, iV 0, iV 0, iV 0, iV 0, iV 0, iV 0, iV 0, iV 0, iV 0, iV 0, iV 0, iV 0, iV 0]) rfl rfl (by simp [Value.oneCell']) (by kernel_rfl) ?_; clear HP; intro wst HP; replace HP := Lib.hid HP) | (refine wpList_load1 rfl 3 _ rfl _ rfl _ ((HP.out.alike (F := ⟨w, Lt w.heap.size⟩) (.head _) _ (by rw [block_of_add]; exact hab9)).trans HPM.out) _ Tryd.underlying3 rfl ?_) | (refine wpList_ldR0 rfl 39 _ rfl HP.out rfl Tryd.underlying39 rfl (by kernel_rfl) ?_) | (refine wpList_slice_hp rfl 25 39 1 _ rfl HP.out Tryd.underlying25 (frmCells (callF fn (((0 : Nat)) : Int) va vb)).toArray (by kernel_rfl) ?_; clear HP; intro gi wi HP; replace HP := Lib.hid HP) | (at_builtin; refine wpList_app3 rfl _ _ 25 rfl i_Frm (.agg #[.int .i64 0, .int .i64 0, .int .i64 0, .int .i64 0, .int .i64 0, .int .i64 0, .int .i64 0, .int .i64 0, .int .i64 0, .int .i64 0, .int .i64 0, .int .i64 0, .int .i64 0, .int .i64 0]) Tryd.underlying25 hi_Frm hz_Frm hs_Frm rfl (by decide) hy_Frm (q + 2) (by omega) HP.out rfl rfl rfl (by simp [Value.oneCell', frmCells]) (by unfold maxLen; omega) (by omega) ?_; clear HP; intro A' c' wap HP; replace HP := Lib.hid HP) | (refine wpList_ldR0 rfl 29 _ rfl HP.out rfl Tryd.underlying29 rfl (by kernel_rfl) ?_) | (refine wpList_ldR1 rfl 29 _ rfl HP.out rfl Tryd.underlying29 rfl (by kernel_rfl) ?_) | (refine wpList_ldR2 rfl 29 _ rfl HP.out rfl Tryd.underlying29 rfl (by kernel_rfl) ?_) | (refine wpList_stR7 rfl 29 _ _ rfl HP.out rfl (cs' := staCells { s with frames := fs ++ [f] ++ [(callF fn (((0 : Nat)) : Int) va vb)], fuel := s.fuel - 1 } (.slice A' (q + 2) c') (.slice A6 s.events.length c6) (.slice A7 s.answers.length c7)) rfl rfl (by simp [staCells, Value.oneCell']) (by kernel_rfl) ?_; clear HP; intro wst HP; replace HP := Lib.hid HP))
            refine bodyPost_ret (results_cell_row rfl _ _ g4 29 (staCells { s with frames := fs ++ [f] ++ [(callF fn (((0 : Nat)) : Int) va vb)], fuel := s.fuel - 1 } (.slice A' (q + 2) c') (.slice A6 s.events.length c6) (.slice A7 s.answers.length c7)).toArray (0, 0) _ rfl (HP.out.blk (.tail _ (.tail _ (.tail _ (.tail _ (.tail _ (.tail _ (.tail _ (.head _))))))))) Tryd.underlying29 rfl (by kernel_rfl)) rfl ⟨(.slice A' (q + 2) c'), (.slice A6 s.events.length c6), (.slice A7 s.answers.length c7), by rw [HN.out]; rfl, ?_⟩
            rw [HN.out]
            exact st_done (by simp [HQ.out]) (by rw [frms_snoc, frms_snoc]; try rfl) (rfl) (rfl) (rfl) (rfl) (HP.out.sub (.cons _ (.cons _ (.cons _ (.cons_cons _ (.cons _ (.cons_cons _ (.cons_cons _ (.cons _ (.cons _ .slnil))))))))))
          · go_wp2_with (first | (refine wpList_ld0 rfl 3 _ rfl HP.out rfl rfl Tryd.underlying3 rfl ?_) | (refine wpList_ld1 rfl 3 _ rfl HP.out rfl rfl Tryd.underlying3 rfl ?_) | (refine wpList_ld2 rfl 3 _ rfl HP.out rfl rfl Tryd.underlying3 rfl ?_) | (refine wpList_ld3 rfl 3 _ rfl HP.out rfl rfl Tryd.underlying3 rfl ?_) | (refine wpList_ld4 rfl 3 _ rfl HP.out rfl rfl Tryd.underlying3 rfl ?_) | (refine wpList_ld5 rfl 3 _ rfl HP.out rfl rfl Tryd.underlying3 rfl ?_) | (refine wpList_ld6 rfl 3 _ rfl HP.out rfl rfl Tryd.underlying3 rfl ?_) | (refine wpList_ld7 rfl 3 _ rfl HP.out rfl rfl Tryd.underlying3 rfl ?_) | (refine wpList_st0 rfl 3 _ _ rfl HP.out rfl rfl (by simp) rfl rfl (by kernel_rfl) ?_; clear HP; intro wst HP; replace HP := Lib.hid HP) | (refine wpList_st1 rfl 3 _ _ rfl HP.out rfl rfl (by simp) rfl rfl (by kernel_rfl) ?_; clear HP; intro wst HP; replace HP := Lib.hid HP) | (refine wpList_st2 rfl 3 _ _ rfl HP.out rfl rfl (by simp) rfl rfl (by kernel_rfl) ?_; clear HP; intro wst HP; replace HP := Lib.hid HP) | (refine wpList_ld0 rfl 22 _ rfl HP.out rfl rfl Tryd.underlying22 rfl ?_) | (refine wpList_ld1 rfl 22 _ rfl HP.out rfl rfl Tryd.underlying22 rfl ?_) | (refine wpList_ld2 rfl 22 _ rfl HP.out rfl rfl Tryd.underlying22 rfl ?_) | (refine wpList_ld3 rfl 22 _ rfl HP.out rfl rfl Tryd.underlying22 rfl ?_) | (refine wpList_ld4 rfl 22 _ rfl HP.out rfl rfl Tryd.underlying22 rfl ?_) | (refine wpList_ld5 rfl 22 _ rfl HP.out rfl rfl Tryd.underlying22 rfl ?_) | (refine wpList_ld6 rfl 22 _ rfl HP.out rfl rfl Tryd.underlying22 rfl ?_) | (refine wpList_ld7 rfl 22 _ rfl HP.out rfl rfl Tryd.underlying22 rfl ?_) | (refine wpList_ld0 rfl 25 _ rfl HP.out rfl rfl Tryd.underlying25 rfl ?_) | (refine wpList_ld1 rfl 25 _ rfl HP.out rfl rfl Tryd.underlying25 rfl ?_) | (refine wpList_ld2 rfl 25 _ rfl HP.out rfl rfl Tryd.underlying25 rfl ?_) | (refine wpList_ld3 rfl 25 _ rfl HP.out rfl rfl Tryd.underlying25 rfl ?_) | (refine wpList_ld4 rfl 25 _ rfl HP.out rfl rfl Tryd.underlying25 rfl ?_) | (refine wpList_ld5 rfl 25 _ rfl HP.out rfl rfl Tryd.underlying25 rfl ?_) | (refine wpList_ld6 rfl 25 _ rfl HP.out rfl rfl Tryd.underlying25 rfl ?_) | (refine wpList_ld7 rfl 25 _ rfl HP.out rfl rfl Tryd.underlying25 rfl ?_) | (refine wpList_st0 rfl 25 _ _ rfl HP.out rfl rfl (by simp) rfl rfl (by kernel_rfl) ?_; clear HP; intro wst HP; replace HP := Lib.hid HP) | (refine wpList_st1 rfl 25 _ _ rfl HP.out rfl rfl (by simp) rfl rfl (by kernel_rfl) ?_; clear HP; intro wst HP; replace HP := Lib.hid HP) | (refine wpList_st2 rfl 25 _ _ rfl HP.out rfl rfl (by simp) rfl rfl (by kernel_rfl) ?_; clear HP; intro wst HP; replace HP := Lib.hid HP) | (go_at_call 40; refine (In_any _ _ _ _).mono ?_; rintro e w' ⟨rfl, rfl⟩) | (refine wpList_alloc_hp (o := ⟨some 13, _, _, _, _, _⟩) rfl _ rfl HP.out (.agg #[.int .i64 0, .int .i64 0, .int .i64 0, .int .i64 0, .int .i64 0, .int .i64 0, .int .i64 0, .int .i64 0, .int .i64 0, .int .i64 0, .int .i64 0, .int .i64 0, .int .i64 0, .int .i64 0]) (by kernel_rfl) [_, _, _, _, _, _, _, _, _, _, _, _, _, _] rfl ?_; clear HP; intro g13 w13 HP; replace HP := Lib.hid HP) | (refine wpList_stR0 rfl 39 _ _ rfl HP.out rfl (cs' := [iV fn, iV 0, iV 0, iV 0, iV 0, iV 0, iV 0, iV 0, iV 0, iV 0, iV 0, iV 0, iV 0, iV 0]) rfl rfl (by simp [Value.oneCell']) (by kernel_rfl) ?_; clear HP; intro wst HP; replace HP := Lib.hid HP) | (refine wpList_load1 rfl 3 _ rfl _ rfl _ ((HP.out.alike (F := ⟨w, Lt w.heap.size⟩) (.head _) _ (by rw [block_of_add]; exact hab9)).trans HPM.out) _ Tryd.underlying3 rfl ?_) | (refine wpList_ldR0 rfl 39 _ rfl HP.out rfl Tryd.underlying39 rfl (by kernel_rfl) ?_) | (refine wpList_slice_hp rfl 25 39 1 _ rfl HP.out Tryd.underlying25 (frmCells (callF fn (((1 : Nat)) : Int) va vb)).toArray (by kernel_rfl) ?_; clear HP; intro gi wi HP; replace HP := Lib.hid HP) | (at_builtin; refine wpList_app3 rfl _ _ 25 rfl i_Frm (.agg #[.int .i64 0, .int .i64 0, .int .i64 0, .int .i64 0, .int .i64 0, .int .i64 0, .int .i64 0, .int .i64 0, .int .i64 0, .int .i64 0, .int .i64 0, .int .i64 0, .int .i64 0, .int .i64 0]) Tryd.underlying25 hi_Frm hz_Frm hs_Frm rfl (by decide) hy_Frm (q + 2) (by omega) HP.out rfl rfl rfl (by simp [Value.oneCell', frmCells]) (by unfold maxLen; omega) (by omega) ?_; clear HP; intro A' c' wap HP; replace HP := Lib.hid HP) | (refine wpList_ldR0 rfl 29 _ rfl HP.out rfl Tryd.underlying29 rfl (by kernel_rfl) ?_) | (refine wpList_ldR1 rfl 29 _ rfl HP.out rfl Tryd.underlying29 rfl (by kernel_rfl) ?_) | (refine wpList_ldR2 rfl 29 _ rfl HP.out rfl Tryd.underlying29 rfl (by kernel_rfl) ?_) | (refine wpList_stR7 rfl 29 _ _ rfl HP.out rfl (cs' := staCells { s with frames := fs ++ [f] ++ [(callF fn (((1 : Nat)) : Int) va vb)], fuel := s.fuel - 1 } (.slice A' (q + 2) c') (.slice A6 s.events.length c6) (.slice A7 s.answers.length c7)) rfl rfl (by simp [staCells, Value.oneCell']) (by kernel_rfl) ?_; clear HP; intro wst HP; replace HP := Lib.hid HP))
            refine bodyPost_ret (results_cell_row rfl _ _ g4 29 (staCells { s with frames := fs ++ [f] ++ [(callF fn (((1 : Nat)) : Int) va vb)], fuel := s.fuel - 1 } (.slice A' (q + 2) c') (.slice A6 s.events.length c6) (.slice A7 s.answers.length c7)).toArray (0, 0) _ rfl (HP.out.blk (.tail _ (.tail _ (.tail _ (.tail _ (.tail _ (.tail _ (.tail _ (.head _))))))))) Tryd.underlying29 rfl (by kernel_rfl)) rfl ⟨(.slice A' (q + 2) c'), (.slice A6 s.events.length c6), (.slice A7 s.answers.length c7), by rw [HN.out]; rfl, ?_⟩
            rw [HN.out]
            exact st_done (by simp [HQ.out]) (by rw [frms_snoc, frms_snoc]; try rfl) (rfl) (rfl) (rfl) (rfl) (HP.out.sub (.cons _ (.cons _ (.cons _ (.cons_cons _ (.cons _ (.cons_cons _ (.cons_cons _ (.cons _ (.cons _ .slnil))))))))))
          · go_wp2_with (first | (refine wpList_ld0 rfl 3 _ rfl HP.out rfl rfl Tryd.underlying3 rfl ?_) | (refine wpList_ld1 rfl 3 _ rfl HP.out rfl rfl Tryd.underlying3 rfl ?_) | (refine wpList_ld2 rfl 3 _ rfl HP.out rfl rfl Tryd.underlying3 rfl ?_) | (refine wpList_ld3 rfl 3 _ rfl HP.out rfl rfl Tryd.underlying3 rfl ?_) | (refine wpList_ld4 rfl 3 _ rfl HP.out rfl rfl Tryd.underlying3 rfl ?_) | (refine wpList_ld5 rfl 3 _ rfl HP.out rfl rfl Tryd.underlying3 rfl ?_) | (refine wpList_ld6 rfl 3 _ rfl HP.out rfl rfl Tryd.underlying3 rfl ?_) | (refine wpList_ld7 rfl 3 _ rfl HP.out rfl rfl Tryd.underlying3 rfl ?_) | (refine wpList_st0 rfl 3 _ _ rfl HP.out rfl rfl (by simp) rfl rfl (by kernel_rfl) ?_; clear HP; intro wst HP; replace HP := Lib.hid HP) | (refine wpList_st1 rfl 3 _ _ rfl HP.out rfl rfl (by simp) rfl rfl (by kernel_rfl) ?_; clear HP; intro wst HP; replace HP := Lib.hid HP) | (refine wpList_st2 rfl 3 _ _ rfl HP.out rfl rfl (by simp) rfl rfl (by kernel_rfl) ?_; clear HP; intro wst HP; replace HP := Lib.hid HP) | (refine wpList_ld0 rfl 22 _ rfl HP.out rfl rfl Tryd.underlying22 rfl ?_) | (refine wpList_ld1 rfl 22 _ rfl HP.out rfl rfl Tryd.underlying22 rfl ?_) | (refine wpList_ld2 rfl 22 _ rfl HP.out rfl rfl Tryd.underlying22 rfl ?_) | (refine wpList_ld3 rfl 22 _ rfl HP.out rfl rfl Tryd.underlying22 rfl ?_) | (refine wpList_ld4 rfl 22 _ rfl HP.out rfl rfl Tryd.underlying22 rfl ?_) | (refine wpList_ld5 rfl 22 _ rfl HP.out rfl rfl Tryd.underlying22 rfl ?_) | (refine wpList_ld6 rfl 22 _ rfl HP.out rfl rfl Tryd.underlying22 rfl ?_) | (refine wpList_ld7 rfl 22 _ rfl HP.out rfl rfl Tryd.underlying22 rfl ?_) | (refine wpList_ld0 rfl 25 _ rfl HP.out rfl rfl Tryd.underlying25 rfl ?_) | (refine wpList_ld1 rfl 25 _ rfl HP.out rfl rfl Tryd.underlying25 rfl ?_) | (refine wpList_ld2 rfl 25 _ rfl HP.out rfl rfl Tryd.underlying25 rfl ?_) | (refine wpList_ld3 rfl 25 _ rfl HP.out rfl rfl Tryd.underlying25 rfl ?_) | (refine wpList_ld4 rfl 25 _ rfl HP.out rfl rfl Tryd.underlying25 rfl ?_) | (refine wpList_ld5 rfl 25 _ rfl HP.out rfl rfl Tryd.underlying25 rfl ?_) | (refine wpList_ld6 rfl 25 _ rfl HP.out rfl rfl Tryd.underlying25 rfl ?_) | (refine wpList_ld7 rfl 25 _ rfl HP.out rfl rfl Tryd.underlying25 rfl ?_) | (refine wpList_st0 rfl 25 _ _ rfl HP.out rfl rfl (by simp) rfl rfl (by kernel_rfl) ?_; clear HP; intro wst HP; replace HP := Lib.hid HP) | (refine wpList_st1 rfl 25 _ _ rfl HP.out rfl rfl (by simp) rfl rfl (by kernel_rfl) ?_; clear HP; intro wst HP; replace HP := Lib.hid HP) | (refine wpList_st2 rfl 25 _ _ rfl HP.out rfl rfl (by simp) rfl rfl (by kernel_rfl) ?_; clear HP; intro wst HP; replace HP := Lib.hid HP) | (go_at_call 40; refine (In_any _ _ _ _).mono ?_; rintro e w' ⟨rfl, rfl⟩) | (refine wpList_alloc_hp (o := ⟨some 13, _, _, _, _, _⟩) rfl _ rfl HP.out (.agg #[.int .i64 0, .int .i64 0, .int .i64 0, .int .i64 0, .int .i64 0, .int .i64 0, .int .i64 0, .int .i64 0, .int .i64 0, .int .i64 0, .int .i64 0, .int .i64 0, .int .i64 0, .int .i64 0]) (by kernel_rfl) [_, _, _, _, _, _, _, _, _, _, _, _, _, _] rfl ?_; clear HP; intro g13 w13 HP; replace HP := Lib.hid HP) | (refine wpList_stR0 rfl 39 _ _ rfl HP.out rfl (cs' := [iV fn, iV 0, iV 0, iV 0, iV 0, iV 0, iV 0, iV 0, iV 0, iV 0, iV 0, iV 0, iV 0, iV 0]) rfl rfl (by simp [Value.oneCell']) (by kernel_rfl) ?_; clear HP; intro wst HP; replace HP := Lib.hid HP) | (refine wpList_load1 rfl 3 _ rfl _ rfl _ ((HP.out.alike (F := ⟨w, Lt w.heap.size⟩) (.head _) _ (by rw [block_of_add]; exact hab9)).trans HPM.out) _ Tryd.underlying3 rfl ?_) | (refine wpList_ldR0 rfl 39 _ rfl HP.out rfl Tryd.underlying39 rfl (by kernel_rfl) ?_) | (refine wpList_slice_hp rfl 25 39 1 _ rfl HP.out Tryd.underlying25 (frmCells (callF fn (((2 : Nat)) : Int) va vb)).toArray (by kernel_rfl) ?_; clear HP; intro gi wi HP; replace HP := Lib.hid HP) | (at_builtin; refine wpList_app3 rfl _ _ 25 rfl i_Frm (.agg #[.int .i64 0, .int .i64 0, .int .i64 0, .int .i64 0, .int .i64 0, .int .i64 0, .int .i64 0, .int .i64 0, .int .i64 0, .int .i64 0, .int .i64 0, .int .i64 0, .int .i64 0, .int .i64 0]) Tryd.underlying25 hi_Frm hz_Frm hs_Frm rfl (by decide) hy_Frm (q + 2) (by omega) HP.out rfl rfl rfl (by simp [Value.oneCell', frmCells]) (by unfold maxLen; omega) (by omega) ?_; clear HP; intro A' c' wap HP; replace HP := Lib.hid HP) | (refine wpList_ldR0 rfl 29 _ rfl HP.out rfl Tryd.underlying29 rfl (by kernel_rfl) ?_) | (refine wpList_ldR1 rfl 29 _ rfl HP.out rfl Tryd.underlying29 rfl (by kernel_rfl) ?_) | (refine wpList_ldR2 rfl 29 _ rfl HP.out rfl Tryd.underlying29 rfl (by kernel_rfl) ?_) | (refine wpList_stR7 rfl 29 _ _ rfl HP.out rfl (cs' := staCells { s with frames := fs ++ [f] ++ [(callF fn (((2 : Nat)) : Int) va vb)], fuel := s.fuel - 1 } (.slice A' (q + 2) c') (.slice A6 s.events.length c6) (.slice A7 s.answers.length c7)) rfl rfl (by simp [staCells, Value.oneCell']) (by kernel_rfl) ?_; clear HP; intro wst HP; replace HP := Lib.hid HP))
            refine bodyPost_ret (results_cell_row rfl _ _ g4 29 (staCells { s with frames := fs ++ [f] ++ [(callF fn (((2 : Nat)) : Int) va vb)], fuel := s.fuel - 1 } (.slice A' (q + 2) c') (.slice A6 s.events.length c6) (.slice A7 s.answers.length c7)).toArray (0, 0) _ rfl (HP.out.blk (.tail _ (.tail _ (.tail _ (.tail _ (.tail _ (.tail _ (.tail _ (.head _))))))))) Tryd.underlying29 rfl (by kernel_rfl)) rfl ⟨(.slice A' (q + 2) c'), (.slice A6 s.events.length c6), (.slice A7 s.answers.length c7), by rw [HN.out]; rfl, ?_⟩
            rw [HN.out]
            exact st_done (by simp [HQ.out]) (by rw [frms_snoc, frms_snoc]; try rfl) (rfl) (rfl) (rfl) (rfl) (HP.out.sub (.cons _ (.cons _ (.cons _ (.cons_cons _ (.cons _ (.cons_cons _ (.cons_cons _ (.cons _ (.cons _ .slnil))))))))))
      · exfalso; have := HSEL.out; omega
      · exfalso; have := HSEL.out; omega

end Go.Proofs.YtceilfmfidmfpaaDoor
namespace Go.Proofs.YtceilfmfidmfpaaDoor
open Go.RowKit Plain64
theorem stepped_own (p : Prg) (v : Value) (s : Sta) (fs : List Frm) (f : Frm) (hfr : s.frames = fs ++ [f]) (u e a : Value) (w : World) (hp : Lay.rep w (Lt w.heap.size) p [v]) (hf : Lay.rep w (Lt w.heap.size) s.frames [u]) (he : Lay.rep w (Lt w.heap.size) s.events [e]) (ha : Lay.rep w (Lt w.heap.size) s.answers [a])
    (hl : s.frames.length ≤ 8) (hla : s.answers.length ≤ 17592186043999) (hle : s.events.length ≤ 17592186043999) (hfu : 0 ≤ s.fuel ∧ s.fuel ≤ 10000) (ok : OkP p) (own : ∀ g ∈ s.frames, ownF p g) (hi : ∀ i, I64 (f.rg i)) :
    Calls Tryd.prog 20 #[.agg #[v], .agg (staCells s u e a).toArray] w fun r w' => ∃ u' e' a', r = .returned (.agg (staCells (nextOf p s fs f) u' e' a').toArray) ∧ Hp w [⟨w, Lt w.heap.size⟩] (ownS (nextOf p s fs f) u' e' a') w' := by
  by_cases h17 : (insAt p f).op = 17
  · exact stepped_C p v s fs f hfr u e a w hp hf he ha hl hla hle hfu ok own hi h17
  by_cases h18 : (insAt p f).op = 18 ∨ (insAt p f).op = 19
  · exact stepped_B p v s fs f hfr u e a w hp hf he ha hl hla hle hfu ok own hi h18
  · exact stepped_A p v s fs f hfr u e a w hp hf he ha hl hla hle hfu ok own hi ⟨h17, fun h => h18 (.inl h), fun h => h18 (.inr h)⟩
end Go.Proofs.YtceilfmfidmfpaaDoor
