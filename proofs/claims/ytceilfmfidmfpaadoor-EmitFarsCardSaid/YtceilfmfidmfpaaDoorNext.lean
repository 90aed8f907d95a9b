/- step.Next. -/
import Derived.Test.YtceilfmfidmfpaaDoorMgReadsOfStateNextLawBegLawNextAnsRunLawRunLawBBegRun8
import Derived.Test.YtceilfmfidmfpaaDoorEngN
import Derived.Test.YtceilfmfidmfpaaDoorMgCloneCloneFOwn3
import Derived.Test.YtceilfmfidmfpaaDoorMgSureTProvenProvenBStepCheck4
import Derived.Test.YtceilfmfidmfpaaDoorRes
set_option linter.unusedSimpArgs false
set_option linter.unusedVariables false
namespace Go.Proofs.YtceilfmfidmfpaaDoor
open Go.RowKit Plain64
attribute [local irreducible] wpList Code.wp Oper.wp
theorem rep_frames_nil2 {w : World} {S : Nat → Prop} : Lay.rep w S ([] : List Frm) [.slice none 0 0] := ⟨none, 0, rfl, Nat.le_refl _, by unfold maxLen; omega, fun k x h => by simp at h⟩
theorem fresh_lt {w w' : World} : ∀ b, Fresh w w' b → Lt w'.heap.size b := fun _ h => h.2
/-- A row of numbers, said of its own block alone. -/
theorem Hp.rowIntsIn {w0 w : World} {Fs : List Fro} {L : List Res} {v : Value} {e : TypeId} {n : Nat} {cs : List Value} {xs : List Int} (h : Hp w0 Fs L w) (hm : Res.row v e 1 n cs ∈ L) (hx : cs = xs.map (Value.int .i64)) : Lay.rep w (fun b => v.ownBlock = some b) xs [v] := by
  subst hx
  have ho := h.row hm
  rcases ho.2 with ⟨rfl, hn⟩ | ⟨g, cap, cur, rfl, hb, hg, hle, hmx, hs, ht⟩
  · have hl := ho.1
    subst hn
    have : xs = [] := by cases xs; rfl; simp at hl
    subst this
    exact rep_ints_nil
  · have hl : xs.length = n := by have := ho.1; simpa using this
    subst hl
    refine ⟨_, _, rfl, hle, hmx, fun k x hx => ⟨_, [.int .i64 x], rfl, rfl, fun j u hu => ?_, rfl⟩⟩
    have hj : j = 0 := by have := (List.getElem?_eq_some_iff.1 hu).1; simpa using this
    subst hj
    simp at hu
    subst hu
    have := ho.cells (g := g) rfl k (.int .i64 x) (by simp [hx])
    rw [add_of_add]
    show w.cell? ((⟨g, 0, none⟩ : Addr).add (k * 1 + 0)) = _
    rwa [Nat.mul_one, Nat.add_zero]
/-- A run's engine with its state. -/
theorem eng_row {s : Sta} {u e a v : Value} : engCells s u e a v = staCells s u e a ++ [v] := rfl
theorem eng_own {w0 w1 : World} {Fs : List Fro} {s : Sta} {ge g4 : Nat} {cs : List Value} {c4 : List Value} {F0 : Fro} {u e a : Value} {X : List Res} (h : Hp w0 (F0 :: Fs) (.blk ge 74 cs :: .blk g4 29 c4 :: X) w1) (hX : X = ownS s u e a) :
    Hp w0 (⟨w1, fun b => F0.S b ∨ (Res.row a 3 1 s.answers.length (s.answers.map (Value.int .i64))).foot = some b⟩ :: Fs) (.blk ge 74 cs :: .row u 39 14 s.frames.length (s.frames.flatMap frmCells) :: .row e 3 1 s.events.length (s.events.map (Value.int .i64)) :: [.blk g4 29 c4]) w1 := by
  subst hX
  exact (Hp.freeze (A := [_, _, _, _]) (B := []) h).perm (((List.Perm.swap _ _ _).cons _).trans (((List.Perm.swap _ _ _).cons _).cons _))
theorem Hp.rowOne {w0 w : World} {Fs : List Fro} {L : List Res} {e : TypeId} {sz n : Nat} {cs : List Value} (v : Value) (h : Hp w0 Fs L w) (hm : Res.row v e sz n cs ∈ L) : v.oneCell' = true := by
  rcases (h.row hm).2 with ⟨rfl, _⟩ | ⟨g, cap, cur, rfl, _⟩ <;> rfl
theorem sta_one {s : Sta} {u e a : Value} (h1 : u.oneCell' = true) (h2 : e.oneCell' = true) (h3 : a.oneCell' = true) : ∀ v ∈ staCells s u e a, v.oneCell' = true := by
  unfold staCells
  intro v hv
  simp only [List.mem_cons, List.not_mem_nil, or_false] at hv
  rcases hv with rfl | rfl | rfl | rfl | rfl | rfl | rfl | rfl | rfl | rfl | rfl | rfl | rfl | rfl | rfl | rfl | rfl | rfl | rfl | rfl | rfl | rfl <;> first | rfl | assumption
def SmallS (t : Sta) : Prop := t.frames.length ≤ 1256584717421 ∧ t.events.length ≤ 17592186044000 ∧ t.answers.length ≤ 17592186044000
theorem next_small (p : Prg) (s : Sta) {fs : List Frm} {f : Frm} (hfr : s.frames = fs ++ [f]) (h : HeadOk s) (he : s.events.length ≤ 17592186043999) : SmallS (nextOf p s fs f) := by
  have h1 := h.frames
  have h2 := h.answers
  rw [hfr, List.length_append, List.length_cons, List.length_nil] at h1
  have hd : fs.dropLast.length ≤ fs.length := by rw [List.length_dropLast]; omega
  have ht : s.answers.tail.length ≤ s.answers.length := by rw [List.length_tail]; omega
  apply nextOf_ind
  all_goals
    intros
    unfold SmallS
    simp only [List.length_append, List.length_cons, List.length_nil, hfr]
    refine ⟨?_, ?_, ?_⟩ <;> omega
set_option maxRecDepth 100000 in
set_option maxHeartbeats 4000000 in
theorem Next_any (p : Prg) (v : Value) (s : Sta) (u e a : Value) (w : World) (hp : Lay.rep w (Lt w.heap.size) p [v]) (hf : Lay.rep w (Lt w.heap.size) s.frames [u]) (he : Lay.rep w (Lt w.heap.size) s.events [e]) (ha : Lay.rep w (Lt w.heap.size) s.answers [a]) (hlf : s.frames.length ≤ 1256584717421) (hle0 : s.events.length ≤ 17592186043999) (hla0 : s.answers.length ≤ 17592186043999) (hh : Has w) :
    Calls Tryd.prog 16 #[.agg #[v], .agg (staCells s u e a).toArray] w fun r w' => ∃ u' e' a', r = .returned (.tuple #[.agg (staCells (nextAns p s).1 u' e' a').toArray, .int .i64 (nextAns p s).2]) ∧ Lay.rep w' (Fresh w w') (nextAns p s).1.frames [u'] ∧ Lay.rep w' (Fresh w w') (nextAns p s).1.events [e'] ∧ Lay.rep w' (Fresh w w') (nextAns p s).1.answers [a'] ∧ Below w.heap.size w w' := by
  obtain ⟨A, c, rfl, hc, hm, -⟩ := rep_prg_at hp
  obtain ⟨A2, c2, rfl, hc2, hm2, -⟩ := rep_frames_at hf
  obtain ⟨AE, ce, rfl, hce, hme, -⟩ := rep_ints_at he
  obtain ⟨AA, ca, rfl, hca, hma, -⟩ := rep_ints_at ha
  unfold maxLen at hm hm2 hme hma
  have HR := Lib.hid hp
  have HF := Lib.hid hf
  have HE := Lib.hid he
  have HA := Lib.hid ha
  have HH := Lib.hid hh
  clear hp hf he ha hh
  have HP := Lib.hid (Hp.start w)
  unfold staCells
  have hle : s.events.length ≤ 17592186044000 := by omega
  have hla : s.answers.length ≤ 17592186044000 := by omega
  by_cases hz : stateFault p s = 0
  · have HZ := Lib.hid hz
    clear hz
    by_cases hst : s.status = 0
    · have hans : nextAns p s = (nextS p s, 0) := by unfold nextAns; rw [if_neg (by simpa using HZ.out), if_neg (by simpa using hst)]
      obtain ⟨fs, f, hfr⟩ := frames_run (sf_zero HZ.out).2.1 hst
      have HB := Lib.hid (next_small p s hfr (sf_zero HZ.out).2.1 hle0)
      rw [nextS_eq hfr] at hans
      have HANS := Lib.hid hans
      have HFR := Lib.hid hfr
      have hsb : (s.status == 0) = true := by simpa using hst
      clear hans hfr hst
      go_enter Tryd.func16, Tryd.ntmps16
      go_upto_region 4 with (first | (refine wpList_alloc_hp (o := ⟨some 4, _, _, _, _, _⟩) rfl _ rfl HP.out (.agg #[.int .i64 0, .int .i64 0, .slice none 0 0, .int .i64 0, .int .i64 0, .int .i64 0, .int .i64 0, .int .i64 0, .int .i64 0, .int .i64 0, .int .i64 0, .int .i64 0, .int .i64 0, .int .i64 0, .int .i64 0, .int .i64 0, .int .i64 0, .int .i64 0, .int .i64 0, .int .i64 0, .slice none 0 0, .slice none 0 0]) (by kernel_rfl) [_, _, _, _, _, _, _, _, _, _, _, _, _, _, _, _, _, _, _, _, _, _] rfl ?_; clear HP; intro g4 w4 HP; replace HP := Lib.hid HP) | (refine wpList_box_hp (o := ⟨some 2, _, _, _, _, _⟩) rfl _ _ rfl HP.out [_] rfl ?_; clear HP; intro g2 w2 HP; replace HP := Lib.hid HP) | (refine wpList_box_hp (o := ⟨some 3, _, _, _, _, _⟩) rfl _ _ rfl HP.out [_, _, _, _, _, _, _, _, _, _, _, _, _, _, _, _, _, _, _, _, _, _] rfl ?_; clear HP; intro g3 w3 HP; replace HP := Lib.hid HP) | (refine wpList_ldR0 rfl 24 _ rfl HP.out rfl Tryd.underlying24 rfl (by kernel_rfl) ?_) | (refine wpList_ldR1 rfl 24 _ rfl HP.out rfl Tryd.underlying24 rfl (by kernel_rfl) ?_) | (refine wpList_ldR2 rfl 24 _ rfl HP.out rfl Tryd.underlying24 rfl (by kernel_rfl) ?_) | (refine wpList_ldR0 rfl 29 _ rfl HP.out rfl Tryd.underlying29 rfl (by kernel_rfl) ?_) | (refine wpList_ldR1 rfl 29 _ rfl HP.out rfl Tryd.underlying29 rfl (by kernel_rfl) ?_) | (refine wpList_ldR2 rfl 29 _ rfl HP.out rfl Tryd.underlying29 rfl (by kernel_rfl) ?_) | (go_at_call 23; refine (stepCheck_any p _ s _ _ _ _ (HP.out.rep (F := ⟨w, Lt w.heap.size⟩) (by simp) HR.out) (HP.out.rep (F := ⟨w, Lt w.heap.size⟩) (by simp) HF.out) (HP.out.rep (F := ⟨w, Lt w.heap.size⟩) (by simp) HE.out) (HP.out.rep (F := ⟨w, Lt w.heap.size⟩) (by simp) HA.out) (HH.out.keep HP.out.below rfl)).mono ?_; rintro e w4 ⟨rfl, hb⟩; replace HP := Lib.hid (HP.out.call0 hb); clear hb; rw [HZ.out]))
      replace HP := Lib.hid HP.out.drew
      refine wp_region_held_drew (S := fun w' => At w' ⟨g2, 0, none⟩ [.slice A p.funcs.length c] ∧ At w' ⟨g3, 0, none⟩ (staCells s (.slice A2 s.frames.length c2) (.slice AE s.events.length ce) (.slice AA s.answers.length ca))) (by kernel_rfl) ⟨HP.out.blkAt (.tail _ (.tail _ (.head _))) 0, HP.out.blkAt (.tail _ (.head _)) 0⟩ (fun hHeld => ?_)
      have HS0 := Lib.hid hHeld
      clear hHeld
      (try simp only [Act.put, List.setIfInBounds_toArray, List.set_cons_zero, List.set_cons_succ])
      refine wpAnyH_row (i := 0) rfl (by kernel_rfl) (by kernel_rfl) (by kernel_rfl) (fun _ _ _ _ h => h) rfl 29 _ rfl _ rfl _ _ (fun _ h => h.2) Tryd.underlying29 rfl (by kernel_rfl) HS0.out ?_
      (try simp only [List.getElem_toArray, List.getElem_cons_succ, List.getElem_cons_zero, Act.put, List.setIfInBounds_toArray, List.set_cons_zero, List.set_cons_succ])
      refine wpAnyH_row (i := 2) rfl (by kernel_rfl) (by kernel_rfl) (by kernel_rfl) (fun _ _ _ _ h => h) rfl 24 _ rfl _ rfl _ _ (fun _ h => h.1) Tryd.underlying24 rfl (by kernel_rfl) HS0.out ?_
      (try simp only [List.getElem_toArray, List.getElem_cons_succ, List.getElem_cons_zero, Act.put, List.setIfInBounds_toArray, List.set_cons_zero, List.set_cons_succ])
      refine wpAnyH_ready (rs := [1]) (by kernel_rfl) (by simp) ?_
      refine AllReadyH.cons rfl (fun K hK => ?_) AllReadyH.nil
      go_simp
      refine (own_own s _ _ _ _ (HP.out.rep (F := ⟨w, Lt w.heap.size⟩) (by simp) HF.out) (HP.out.rep (F := ⟨w, Lt w.heap.size⟩) (by simp) HE.out) (HP.out.rep (F := ⟨w, Lt w.heap.size⟩) (by simp) HA.out) hlf hle hla).mono ?_
      rintro r1 w5 ⟨u5, e5, a5, rfl, hb5⟩
      obtain ⟨A5, c5, rfl, hc5, hm5, -⟩ := rep_frames_at (hb5.rowFrames (.head _) rfl)
      obtain ⟨A6, c6, rfl, hc6, hm6, -⟩ := rep_ints_at (hb5.rowInts (.tail _ (.head _)) rfl)
      obtain ⟨A7, c7, rfl, hc7, hm7, -⟩ := rep_ints_at (hb5.rowInts (.tail _ (.tail _ (.head _))) rfl)
      replace HP := Lib.hid (by simpa only [List.cons_append, List.nil_append] using HP.out.takeEnd hb5)
      clear hb5
      dsimp only
      refine hK.out _ _ ⟨HP.out.blkAt (.tail _ (.tail _ (.head _))) 0, HP.out.blkAt (.tail _ (.head _)) 0⟩ (fun hHeld => ?_)
      clear hK K hHeld
      (try simp only [List.getElem_toArray, List.getElem_cons_succ, List.getElem_cons_zero, Act.put, List.setIfInBounds_toArray, List.set_cons_zero, List.set_cons_succ])
      refine wpAnyH_ready (rs := [3]) (by kernel_rfl) (by simp) ?_
      refine AllReadyH.cons rfl (fun K hK => ?_) AllReadyH.nil
      simp only [staCells]
      go_simp
      refine hK.out _ _ ⟨HP.out.blkAt (.tail _ (.tail _ (.head _))) 0, HP.out.blkAt (.tail _ (.head _)) 0⟩ (fun hHeld => ?_)
      clear hK K hHeld
      (try simp only [List.getElem_toArray, List.getElem_cons_succ, List.getElem_cons_zero, Act.put, List.setIfInBounds_toArray, List.set_cons_zero, List.set_cons_succ])
      refine wpAnyH_ready (rs := [4]) (by kernel_rfl) (by simp) ?_
      refine AllReadyH.cons rfl (fun K hK => ?_) AllReadyH.nil
      refine wanted_only rfl ?_
      refine wpList_box_hp rfl _ _ rfl HP.out (engCells s (.slice A5 s.frames.length c5) (.slice A6 s.events.length c6) (.slice A7 s.answers.length c7) (.slice A p.funcs.length c)) rfl ?_
      clear HP
      intro ge we HP
      replace HP := Lib.hid HP
      refine wpList_nil ?_
      refine hK.out _ _ ⟨HP.out.blkAt (.tail _ (.tail _ (.tail _ (.head _)))) 0, HP.out.blkAt (.tail _ (.tail _ (.head _))) 0⟩ (fun hHeld => ?_)
      clear hK K hHeld
      (try simp only [List.getElem_toArray, List.getElem_cons_succ, List.getElem_cons_zero, Act.put, List.setIfInBounds_toArray, List.set_cons_zero, List.set_cons_succ])
      refine wpAnyH_ready (rs := [5]) (by kernel_rfl) (by simp) ?_
      refine AllReadyH.cons rfl (fun K hK => ?_) AllReadyH.nil
      go_simp
      refine hK.out _ _ ⟨HP.out.blkAt (.tail _ (.tail _ (.tail _ (.head _)))) 0, HP.out.blkAt (.tail _ (.tail _ (.head _))) 0⟩ (fun hHeld => ?_)
      clear hK K hHeld
      (try simp only [List.getElem_toArray, List.getElem_cons_succ, List.getElem_cons_zero, Act.put, List.setIfInBounds_toArray, List.set_cons_zero, List.set_cons_succ])
      clear HS0
      refine wpAnyH_done (by kernel_rfl) ?_ _
      (try simp only [List.getElem_toArray, List.getElem_cons_succ, List.getElem_cons_zero, Act.put, List.setIfInBounds_toArray, List.set_cons_zero, List.set_cons_succ])
      replace HP := Lib.hid ((HP.out.drop (A := [_, _])).drop (A := [_, _]))
      simp only [List.cons_append, List.nil_append] at HP
      have HAI := Lib.hid (HP.out.rowIntsIn (v := .slice A7 s.answers.length c7) (.tail _ (.tail _ (.tail _ (.tail _ (.head _))))) rfl)
      have HRP := Lib.hid (HP.out.repMore (.head _) HR.out (S := fun b => Lt w.heap.size b ∨ (Res.row (.slice A7 s.answers.length c7) 3 1 s.answers.length (s.answers.map (Value.int .i64))).foot = some b) (fun b hb => .inl hb))
      have HAG := Lib.hid (Lay.more (S' := fun b => Lt w.heap.size b ∨ (Res.row (.slice A7 s.answers.length c7) 3 1 s.answers.length (s.answers.map (Value.int .i64))).foot = some b) (fun b hb => .inr hb) HAI.out)
      clear HAI
      replace HP := Lib.hid (eng_own (s := s) HP.out rfl)
      unfold engCells at HP
      go_upto_region 7 with (first | (refine wpList_ld0 rfl 3 _ rfl HP.out rfl rfl Tryd.underlying3 rfl ?_) | (go_at_call 32; refine (gnext_any s fs f HFR.out _ _ _ _ ge p w _ _ _ (sf_zero HZ.out).2.1.frames hle0 (sf_zero HZ.out).2.1.fuel (okP_of (proven_prg (sf_zero HZ.out).1)) (sf_zero HZ.out).2.2.own ⟨we, fun b => Lt w.heap.size b ∨ (Res.row (.slice A7 s.answers.length c7) 3 1 s.answers.length (s.answers.map (Value.int .i64))).foot = some b⟩ (.head _) HRP.out HAG.out HP.out).mono ?_; clear HP; rintro r6 w6 ⟨rfl, F', E', A', hA', HP⟩; replace HP := Lib.hid HP; have HAN := Lib.hid hA'; clear hA'))
      have HROW := Lib.hid (At.left (cs := staCells (nextOf p s fs f) F' E' A') (ds := [.slice A p.funcs.length c]) (HP.out.blkAt (.head _) 0))
      go_wp2_with (first | (refine wpList_load_at rfl 29 _ rfl _ rfl _ _ HROW.out Tryd.underlying29 rfl (by kernel_rfl) ?_) | (go_at_call 31; refine (own_own (nextOf p s fs f) _ _ _ _ (Lay.more fresh_lt (HP.out.rowFrames (.tail _ (.head _)) rfl)) (Lay.more fresh_lt (HP.out.rowInts (.tail _ (.tail _ (.head _))) rfl)) (HP.out.rep (.head _) HAN.out) HB.out.1 HB.out.2.1 HB.out.2.2).mono ?_; rintro r7 w7 ⟨u7, e7, a7, rfl, hb7⟩; replace HP := Lib.hid (by simpa only [List.cons_append, List.nil_append] using HP.out.takeEnd hb7); clear hb7) | (refine wpList_stR3 rfl 29 _ _ rfl HP.out rfl (cs' := staCells (nextOf p s fs f) u7 e7 a7) rfl rfl (sta_one (HP.out.rowOne _ (.tail _ (.tail _ (.tail _ (.tail _ (.head _)))))) (HP.out.rowOne _ (.tail _ (.tail _ (.tail _ (.tail _ (.tail _ (.head _))))))) (HP.out.rowOne _ (.tail _ (.tail _ (.tail _ (.tail _ (.tail _ (.tail _ (.head _))))))))) (by kernel_rfl) ?_; clear HP; intro wst HP; replace HP := Lib.hid HP))
      rw [HANS.out]
      refine bodyPost_ret (results_cell_row_tmp2 rfl _ _ g4 29 (staCells (nextOf p s fs f) u7 e7 a7).toArray (0, 0) _ rfl (HP.out.blk (.tail _ (.tail _ (.tail _ (.head _))))) Tryd.underlying29 rfl (by kernel_rfl)) rfl ⟨_, _, _, rfl, HP.out.rowFrames (.tail _ (.tail _ (.tail _ (.tail _ (.head _))))) rfl, HP.out.rowInts (.tail _ (.tail _ (.tail _ (.tail _ (.tail _ (.head _)))))) rfl, HP.out.rowInts (.tail _ (.tail _ (.tail _ (.tail _ (.tail _ (.tail _ (.head _))))))) rfl, HP.out.below⟩
    · have hans : nextAns p s = (s, 0) := by unfold nextAns; rw [if_neg (by simpa using HZ.out), if_pos hst]
      have HB := Lib.hid (And.intro hlf (And.intro hle hla))
      have HANS := Lib.hid hans
      have hsb : (s.status == 0) = false := by simpa using hst
      clear hans hst
      go_enter Tryd.func16, Tryd.ntmps16
      go_upto_region 4 with (first | (refine wpList_alloc_hp (o := ⟨some 4, _, _, _, _, _⟩) rfl _ rfl HP.out (.agg #[.int .i64 0, .int .i64 0, .slice none 0 0, .int .i64 0, .int .i64 0, .int .i64 0, .int .i64 0, .int .i64 0, .int .i64 0, .int .i64 0, .int .i64 0, .int .i64 0, .int .i64 0, .int .i64 0, .int .i64 0, .int .i64 0, .int .i64 0, .int .i64 0, .int .i64 0, .int .i64 0, .slice none 0 0, .slice none 0 0]) (by kernel_rfl) [_, _, _, _, _, _, _, _, _, _, _, _, _, _, _, _, _, _, _, _, _, _] rfl ?_; clear HP; intro g4 w4 HP; replace HP := Lib.hid HP) | (refine wpList_box_hp (o := ⟨some 2, _, _, _, _, _⟩) rfl _ _ rfl HP.out [_] rfl ?_; clear HP; intro g2 w2 HP; replace HP := Lib.hid HP) | (refine wpList_box_hp (o := ⟨some 3, _, _, _, _, _⟩) rfl _ _ rfl HP.out [_, _, _, _, _, _, _, _, _, _, _, _, _, _, _, _, _, _, _, _, _, _] rfl ?_; clear HP; intro g3 w3 HP; replace HP := Lib.hid HP) | (refine wpList_ldR0 rfl 24 _ rfl HP.out rfl Tryd.underlying24 rfl (by kernel_rfl) ?_) | (refine wpList_ldR1 rfl 24 _ rfl HP.out rfl Tryd.underlying24 rfl (by kernel_rfl) ?_) | (refine wpList_ldR2 rfl 24 _ rfl HP.out rfl Tryd.underlying24 rfl (by kernel_rfl) ?_) | (refine wpList_ldR0 rfl 29 _ rfl HP.out rfl Tryd.underlying29 rfl (by kernel_rfl) ?_) | (refine wpList_ldR1 rfl 29 _ rfl HP.out rfl Tryd.underlying29 rfl (by kernel_rfl) ?_) | (refine wpList_ldR2 rfl 29 _ rfl HP.out rfl Tryd.underlying29 rfl (by kernel_rfl) ?_) | (go_at_call 23; refine (stepCheck_any p _ s _ _ _ _ (HP.out.rep (F := ⟨w, Lt w.heap.size⟩) (by simp) HR.out) (HP.out.rep (F := ⟨w, Lt w.heap.size⟩) (by simp) HF.out) (HP.out.rep (F := ⟨w, Lt w.heap.size⟩) (by simp) HE.out) (HP.out.rep (F := ⟨w, Lt w.heap.size⟩) (by simp) HA.out) (HH.out.keep HP.out.below rfl)).mono ?_; rintro e w4 ⟨rfl, hb⟩; replace HP := Lib.hid (HP.out.call0 hb); clear hb; rw [HZ.out]))
      replace HP := Lib.hid HP.out.drew
      refine wp_region_held_drew (S := fun w' => At w' ⟨g2, 0, none⟩ [.slice A p.funcs.length c] ∧ At w' ⟨g3, 0, none⟩ (staCells s (.slice A2 s.frames.length c2) (.slice AE s.events.length ce) (.slice AA s.answers.length ca))) (by kernel_rfl) ⟨HP.out.blkAt (.tail _ (.tail _ (.head _))) 0, HP.out.blkAt (.tail _ (.head _)) 0⟩ (fun hHeld => ?_)
      have HS0 := Lib.hid hHeld
      clear hHeld
      (try simp only [Act.put, List.setIfInBounds_toArray, List.set_cons_zero, List.set_cons_succ])
      refine wpAnyH_row (i := 0) rfl (by kernel_rfl) (by kernel_rfl) (by kernel_rfl) (fun _ _ _ _ h => h) rfl 29 _ rfl _ rfl _ _ (fun _ h => h.2) Tryd.underlying29 rfl (by kernel_rfl) HS0.out ?_
      (try simp only [List.getElem_toArray, List.getElem_cons_succ, List.getElem_cons_zero, Act.put, List.setIfInBounds_toArray, List.set_cons_zero, List.set_cons_succ])
      refine wpAnyH_row (i := 2) rfl (by kernel_rfl) (by kernel_rfl) (by kernel_rfl) (fun _ _ _ _ h => h) rfl 24 _ rfl _ rfl _ _ (fun _ h => h.1) Tryd.underlying24 rfl (by kernel_rfl) HS0.out ?_
      (try simp only [List.getElem_toArray, List.getElem_cons_succ, List.getElem_cons_zero, Act.put, List.setIfInBounds_toArray, List.set_cons_zero, List.set_cons_succ])
      refine wpAnyH_ready (rs := [1]) (by kernel_rfl) (by simp) ?_
      refine AllReadyH.cons rfl (fun K hK => ?_) AllReadyH.nil
      go_simp
      refine (own_own s _ _ _ _ (HP.out.rep (F := ⟨w, Lt w.heap.size⟩) (by simp) HF.out) (HP.out.rep (F := ⟨w, Lt w.heap.size⟩) (by simp) HE.out) (HP.out.rep (F := ⟨w, Lt w.heap.size⟩) (by simp) HA.out) hlf hle hla).mono ?_
      rintro r1 w5 ⟨u5, e5, a5, rfl, hb5⟩
      obtain ⟨A5, c5, rfl, hc5, hm5, -⟩ := rep_frames_at (hb5.rowFrames (.head _) rfl)
      obtain ⟨A6, c6, rfl, hc6, hm6, -⟩ := rep_ints_at (hb5.rowInts (.tail _ (.head _)) rfl)
      obtain ⟨A7, c7, rfl, hc7, hm7, -⟩ := rep_ints_at (hb5.rowInts (.tail _ (.tail _ (.head _))) rfl)
      replace HP := Lib.hid (by simpa only [List.cons_append, List.nil_append] using HP.out.takeEnd hb5)
      clear hb5
      dsimp only
      refine hK.out _ _ ⟨HP.out.blkAt (.tail _ (.tail _ (.head _))) 0, HP.out.blkAt (.tail _ (.head _)) 0⟩ (fun hHeld => ?_)
      clear hK K hHeld
      (try simp only [List.getElem_toArray, List.getElem_cons_succ, List.getElem_cons_zero, Act.put, List.setIfInBounds_toArray, List.set_cons_zero, List.set_cons_succ])
      refine wpAnyH_ready (rs := [3]) (by kernel_rfl) (by simp) ?_
      refine AllReadyH.cons rfl (fun K hK => ?_) AllReadyH.nil
      simp only [staCells]
      go_simp
      refine hK.out _ _ ⟨HP.out.blkAt (.tail _ (.tail _ (.head _))) 0, HP.out.blkAt (.tail _ (.head _)) 0⟩ (fun hHeld => ?_)
      clear hK K hHeld
      (try simp only [List.getElem_toArray, List.getElem_cons_succ, List.getElem_cons_zero, Act.put, List.setIfInBounds_toArray, List.set_cons_zero, List.set_cons_succ])
      refine wpAnyH_ready (rs := [4]) (by kernel_rfl) (by simp) ?_
      refine AllReadyH.cons rfl (fun K hK => ?_) AllReadyH.nil
      refine wanted_only rfl ?_
      refine wpList_box_hp rfl _ _ rfl HP.out (engCells s (.slice A5 s.frames.length c5) (.slice A6 s.events.length c6) (.slice A7 s.answers.length c7) (.slice A p.funcs.length c)) rfl ?_
      clear HP
      intro ge we HP
      replace HP := Lib.hid HP
      refine wpList_nil ?_
      refine hK.out _ _ ⟨HP.out.blkAt (.tail _ (.tail _ (.tail _ (.head _)))) 0, HP.out.blkAt (.tail _ (.tail _ (.head _))) 0⟩ (fun hHeld => ?_)
      clear hK K hHeld
      (try simp only [List.getElem_toArray, List.getElem_cons_succ, List.getElem_cons_zero, Act.put, List.setIfInBounds_toArray, List.set_cons_zero, List.set_cons_succ])
      refine wpAnyH_ready (rs := [5]) (by kernel_rfl) (by simp) ?_
      refine AllReadyH.cons rfl (fun K hK => ?_) AllReadyH.nil
      go_simp
      refine hK.out _ _ ⟨HP.out.blkAt (.tail _ (.tail _ (.tail _ (.head _)))) 0, HP.out.blkAt (.tail _ (.tail _ (.head _))) 0⟩ (fun hHeld => ?_)
      clear hK K hHeld
      (try simp only [List.getElem_toArray, List.getElem_cons_succ, List.getElem_cons_zero, Act.put, List.setIfInBounds_toArray, List.set_cons_zero, List.set_cons_succ])
      clear HS0
      refine wpAnyH_done (by kernel_rfl) ?_ _
      (try simp only [List.getElem_toArray, List.getElem_cons_succ, List.getElem_cons_zero, Act.put, List.setIfInBounds_toArray, List.set_cons_zero, List.set_cons_succ])
      replace HP := Lib.hid ((HP.out.drop (A := [_, _])).drop (A := [_, _]))
      simp only [List.cons_append, List.nil_append] at HP
      have HAI := Lib.hid (HP.out.rowIntsIn (v := .slice A7 s.answers.length c7) (.tail _ (.tail _ (.tail _ (.tail _ (.head _))))) rfl)
      have HRP := Lib.hid (HP.out.repMore (.head _) HR.out (S := fun b => Lt w.heap.size b ∨ (Res.row (.slice A7 s.answers.length c7) 3 1 s.answers.length (s.answers.map (Value.int .i64))).foot = some b) (fun b hb => .inl hb))
      have HAG := Lib.hid (Lay.more (S' := fun b => Lt w.heap.size b ∨ (Res.row (.slice A7 s.answers.length c7) 3 1 s.answers.length (s.answers.map (Value.int .i64))).foot = some b) (fun b hb => .inr hb) HAI.out)
      clear HAI
      replace HP := Lib.hid (eng_own (s := s) HP.out rfl)
      unfold engCells at HP
      go_upto_region 7 with (first | (refine wpList_ld0 rfl 3 _ rfl HP.out rfl rfl Tryd.underlying3 rfl ?_))
      have HROW := Lib.hid (At.left (cs := staCells s (.slice A5 s.frames.length c5) (.slice A6 s.events.length c6) (.slice A7 s.answers.length c7)) (ds := [.slice A p.funcs.length c]) (HP.out.blkAt (.head _) 0))
      go_wp2_with (first | (refine wpList_load_at rfl 29 _ rfl _ rfl _ _ HROW.out Tryd.underlying29 rfl (by kernel_rfl) ?_) | (go_at_call 31; refine (own_own s _ _ _ _ (Lay.more fresh_lt (HP.out.rowFrames (.tail _ (.head _)) rfl)) (Lay.more fresh_lt (HP.out.rowInts (.tail _ (.tail _ (.head _))) rfl)) (HP.out.rep (.head _) HAG.out) HB.out.1 HB.out.2.1 HB.out.2.2).mono ?_; rintro r7 w7 ⟨u7, e7, a7, rfl, hb7⟩; replace HP := Lib.hid (by simpa only [List.cons_append, List.nil_append] using HP.out.takeEnd hb7); clear hb7) | (refine wpList_stR3 rfl 29 _ _ rfl HP.out rfl (cs' := staCells s u7 e7 a7) rfl rfl (sta_one (HP.out.rowOne _ (.tail _ (.tail _ (.tail _ (.tail _ (.head _)))))) (HP.out.rowOne _ (.tail _ (.tail _ (.tail _ (.tail _ (.tail _ (.head _))))))) (HP.out.rowOne _ (.tail _ (.tail _ (.tail _ (.tail _ (.tail _ (.tail _ (.head _))))))))) (by kernel_rfl) ?_; clear HP; intro wst HP; replace HP := Lib.hid HP))
      rw [HANS.out]
      refine bodyPost_ret (results_cell_row_tmp2 rfl _ _ g4 29 (staCells s u7 e7 a7).toArray (0, 0) _ rfl (HP.out.blk (.tail _ (.tail _ (.tail _ (.head _))))) Tryd.underlying29 rfl (by kernel_rfl)) rfl ⟨_, _, _, rfl, HP.out.rowFrames (.tail _ (.tail _ (.tail _ (.tail _ (.head _))))) rfl, HP.out.rowInts (.tail _ (.tail _ (.tail _ (.tail _ (.tail _ (.head _)))))) rfl, HP.out.rowInts (.tail _ (.tail _ (.tail _ (.tail _ (.tail _ (.tail _ (.head _))))))) rfl, HP.out.below⟩
  · have hans : nextAns p s = (zeroS, stateFault p s) := by unfold nextAns; rw [if_pos hz]
    obtain ⟨e0, he0⟩ : ∃ e0, stateFault p s = e0 := ⟨_, rfl⟩
    rw [he0] at hz hans
    have HANS := Lib.hid hans
    have HZ := Lib.hid he0
    have hzb : (e0 != 0) = true := by simpa using hz
    clear he0 hz hans
    go_enter Tryd.func16, Tryd.ntmps16
    go_wp2_with (first | (refine wpList_stR0 rfl 29 _ _ rfl HP.out rfl (cs' := staCells zeroS (.slice none 0 0) (.slice none 0 0) (.slice none 0 0)) rfl rfl (by simp [staCells, Value.oneCell']) (by kernel_rfl) ?_; clear HP; intro wst HP; replace HP := Lib.hid HP) | (refine wpList_stR1 rfl 29 _ _ rfl HP.out rfl (cs' := staCells zeroS (.slice none 0 0) (.slice none 0 0) (.slice none 0 0)) rfl rfl (by simp [staCells, Value.oneCell']) (by kernel_rfl) ?_; clear HP; intro wst HP; replace HP := Lib.hid HP) | (refine wpList_alloc_hp (o := ⟨some 4, _, _, _, _, _⟩) rfl _ rfl HP.out (.agg #[.int .i64 0, .int .i64 0, .slice none 0 0, .int .i64 0, .int .i64 0, .int .i64 0, .int .i64 0, .int .i64 0, .int .i64 0, .int .i64 0, .int .i64 0, .int .i64 0, .int .i64 0, .int .i64 0, .int .i64 0, .int .i64 0, .int .i64 0, .int .i64 0, .int .i64 0, .int .i64 0, .slice none 0 0, .slice none 0 0]) (by kernel_rfl) [_, _, _, _, _, _, _, _, _, _, _, _, _, _, _, _, _, _, _, _, _, _] rfl ?_; clear HP; intro g4 w4 HP; replace HP := Lib.hid HP) | (refine wpList_box_hp (o := ⟨some 2, _, _, _, _, _⟩) rfl _ _ rfl HP.out [_] rfl ?_; clear HP; intro g2 w2 HP; replace HP := Lib.hid HP) | (refine wpList_box_hp (o := ⟨some 3, _, _, _, _, _⟩) rfl _ _ rfl HP.out [_, _, _, _, _, _, _, _, _, _, _, _, _, _, _, _, _, _, _, _, _, _] rfl ?_; clear HP; intro g3 w3 HP; replace HP := Lib.hid HP) | (refine wpList_ldR0 rfl 24 _ rfl HP.out rfl Tryd.underlying24 rfl (by kernel_rfl) ?_) | (refine wpList_ldR1 rfl 24 _ rfl HP.out rfl Tryd.underlying24 rfl (by kernel_rfl) ?_) | (refine wpList_ldR2 rfl 24 _ rfl HP.out rfl Tryd.underlying24 rfl (by kernel_rfl) ?_) | (refine wpList_ldR0 rfl 29 _ rfl HP.out rfl Tryd.underlying29 rfl (by kernel_rfl) ?_) | (refine wpList_ldR1 rfl 29 _ rfl HP.out rfl Tryd.underlying29 rfl (by kernel_rfl) ?_) | (refine wpList_ldR2 rfl 29 _ rfl HP.out rfl Tryd.underlying29 rfl (by kernel_rfl) ?_) | (go_at_call 23; refine (stepCheck_any p _ s _ _ _ _ (HP.out.rep (F := ⟨w, Lt w.heap.size⟩) (by simp) HR.out) (HP.out.rep (F := ⟨w, Lt w.heap.size⟩) (by simp) HF.out) (HP.out.rep (F := ⟨w, Lt w.heap.size⟩) (by simp) HE.out) (HP.out.rep (F := ⟨w, Lt w.heap.size⟩) (by simp) HA.out) (HH.out.keep HP.out.below rfl)).mono ?_; rintro e w4 ⟨rfl, hb⟩; replace HP := Lib.hid (HP.out.call0 hb); clear hb; rw [HZ.out]))
    rw [HANS.out]
    refine bodyPost_ret (results_cell_row_tmp2 rfl _ _ g4 29 (staCells zeroS (.slice none 0 0) (.slice none 0 0) (.slice none 0 0)).toArray (0, 0) _ rfl (HP.out.blk (.head _)) Tryd.underlying29 rfl (by kernel_rfl)) rfl ⟨_, _, _, rfl, rep_frames_nil2, rep_ints_nil, rep_ints_nil, HP.out.below⟩
end Go.Proofs.YtceilfmfidmfpaaDoor
