/- proof.Sure. flow.Live. ref.Proven. ref.StateFault. tierlineref.inList, functionFault, LiveOf. -/
import Derived.Test.YtceilfmfidmfpaaDoorMgSureTProvenProvenBStepCheck4
import Derived.Deep.RegionHeld
import Derived.Test.YtceilfmfidmfpaaDoorMgFlowNextBlkGoBlkRef3
import Derived.Test.YtceilfmfidmfpaaDoorMgCopyReads2MdAMdBMdCMdDMdEStates8
import Derived.Test.YtceilfmfidmfpaaDoorMgReadsWaySureLawSureRunProvenLawStateLawLiveLawBlkLawDomLawDo11
import Derived.Test.YtceilfmfidmfpaaDoorMgReadsOfStateNextLawBegLawNextAnsRunLawRunLawBBegRun8
import Derived.Test.YtceilfmfidmfpaaDoorMgBehindWayToSureOfSure4
set_option linter.unusedSimpArgs false
set_option linter.unusedVariables false
namespace Go.Proofs.YtceilfmfidmfpaaDoor
open Go.RowKit Plain64
attribute [local irreducible] wpList Code.wp Oper.wp
set_option maxRecDepth 10000 in
set_option maxHeartbeats 1000000 in
theorem Sure_any (p : Prg) (u : Value) (fn : Int) (w : World) (hp : Lay.rep w (Lt w.heap.size) p [u]) (hh : Has w) :
    Calls Tryd.prog 25 #[.agg #[u], .int .i64 fn] w fun e w' => ∃ v, e = .returned (.tuple #[v, .int .i64 (sureAns p fn).2]) ∧ Lay.rep w' (Fresh w w') (sureAns p fn).1 [v] ∧ Below w.heap.size w w' := by
  obtain ⟨A, c, rfl, hc, hm, hx⟩ := rep_prg_at hp
  unfold maxLen at hm
  have HX := Lib.hid hx
  have HR := Lib.hid hp
  have HH := Lib.hid hh
  clear hx hp hh
  have HP := Lib.hid (Hp.start w)
  by_cases hz : prgFault p = 0
  · have ok := okP_of hz
    have HOK := Lib.hid ok
    obtain ⟨n1, n2⟩ := ok.len
    clear ok
    have HZ := Lib.hid hz
    clear hz
    go_enter Tryd.func25, Tryd.ntmps25
    go_upto_region 2 with (first | (refine wpList_box_hp (o := ⟨some 2, _, _, _, _, _⟩) rfl _ _ rfl HP.out [_] rfl ?_; clear HP; intro g2 w2 HP; replace HP := Lib.hid HP) | (refine wpList_ldR0 rfl 24 _ rfl HP.out rfl Tryd.underlying24 rfl (by kernel_rfl) ?_) | (go_at_call 42; refine (codeCheck_any p _ _ (HP.out.rep (F := ⟨w, Lt w.heap.size⟩) (by simp) HR.out) (HH.out.keep HP.out.below rfl)).mono ?_; rintro e w4 ⟨rfl, hb⟩; replace HP := Lib.hid (HP.out.call0 hb); clear hb; rw [HZ.out]))
    have hfs := HP.out.cell (.head _) 0 _ rfl
    by_cases hfn : 0 ≤ fn ∧ fn < p.funcs.length
    · obtain ⟨f1, f2⟩ := hfn
      obtain ⟨k, rfl⟩ := Int.eq_ofNat_of_zero_le f1
      have hkl : k < p.funcs.length := by omega
      obtain ⟨ad, v, rfl, hab, hat, hcode⟩ := HX.out k hkl
      obtain ⟨f, hf⟩ : ∃ f, p.funcs[k] = f := ⟨_, rfl⟩
      rw [hf] at hat hcode
      have HANS := Lib.hid (sureAns_in HZ.out (show p.funcs[k]? = some f by rw [← hf, List.getElem?_eq_getElem hkl]))
      have HOF := Lib.hid (HOK.out.fns f (hf ▸ List.getElem_mem hkl))
      clear hf
      have HC := Lib.hid hcode
      obtain ⟨A2, c2, rfl, hc2, hm2, hx2⟩ := rep_code hcode
      unfold maxLen at hm2
      clear hx2 hcode
      obtain ⟨l1, l2⟩ := HOF.out.len
      have HAT := Lib.hid hat
      clear hat
      go_upto_region 7 with (first | (refine wpList_alloc_hp (o := ⟨some 7, _, _, _, _, _⟩) rfl _ rfl HP.out (.agg #[.int .i64 0, .int .i64 0, .slice none 0 0]) (by kernel_rfl) [_, _, _] rfl ?_; clear HP; intro g7 w7 HP; replace HP := Lib.hid HP) | (refine wpList_stR0 rfl 47 _ _ rfl HP.out rfl (cs' := [_, _, _]) rfl rfl (by simp [Value.oneCell']) (by kernel_rfl) ?_; clear HP; intro wst HP; replace HP := Lib.hid HP) | (refine wpList_ld0 rfl 22 _ rfl HP.out rfl rfl Tryd.underlying22 rfl ?_) | (refine wpList_ld1 rfl 22 _ rfl HP.out rfl rfl Tryd.underlying22 rfl ?_) | (refine wpList_load_at rfl 47 _ rfl _ rfl _ _ (HP.out.at_ (F := ⟨w, Lt w.heap.size⟩) (by simp) HAT.out (by rw [block_of_add]; exact hab)) Tryd.underlying47 rfl (by kernel_rfl) ?_))
      (try simp only [Act.put, List.setIfInBounds_toArray, List.set_cons_zero, List.set_cons_succ])
      have HP0 := Lib.hid HP.out.drew
      go_region_held (fun w' => w'.cell? ⟨g7, 0, none⟩ = some (.int .i64 f.params) ∧ w'.cell? ⟨g7, 1, none⟩ = some (.int .i64 f.regs) ∧ w'.cell? ⟨g7, 2, none⟩ = some (.slice A2 f.code.length c2)) (first | exact ⟨HP1.out.cell (.head _) 0 _ rfl, HP1.out.cell (.head _) 1 _ rfl, HP1.out.cell (.head _) 2 _ rfl⟩ | exact ⟨HP0.out.cell (.head _) 0 _ rfl, HP0.out.cell (.head _) 1 _ rfl, HP0.out.cell (.head _) 2 _ rfl⟩) ((go_at_call 44; refine (sure_any f _ _ _ (HP0.out.rep (F := ⟨w, Lt w.heap.size⟩) (by simp) HC.out) HOF.out).mono ?_; rintro e w5 ⟨u5, c5, rfl, hu5, hb5⟩; have HP1 := Lib.hid (HP0.out.call hb5); have HU5 := Lib.hid hu5; obtain ⟨_, hc5, hx5⟩ := rep_ints_cap hu5; rw [sureL_len] at hc5; unfold maxLen at hx5; clear hu5 hb5))
      go_wp2
      go_ret2
      refine ⟨_, by rw [HANS.out]; rfl, ?_, HP1.out.below⟩
      rw [HANS.out]
      have h0 := HP1.out
      have hr := rep_ints_take HU5.out f.code.length f.code.length (by rw [sureL_len]; omega) (Nat.le_refl _) (by unfold maxLen; omega)
      exact Lay.more (fun b hb => ⟨Nat.le_trans HP0.out.size hb.1, hb.2⟩) hr
    · have HANS := Lib.hid (sureAns_out HZ.out (fn := fn) (by omega))
      by_cases q1 : 0 ≤ fn
      · have q2 : (p.funcs.length : Int) ≤ fn := by omega
        clear hfn
        go_wp2
        go_ret2
        exact ⟨_, by rw [HANS.out]; rfl, by rw [HANS.out]; exact rep_ints_nil, HP.out.below⟩
      · have q2 : fn < 0 := by omega
        clear hfn q1
        go_wp2
        go_ret2
        exact ⟨_, by rw [HANS.out]; rfl, by rw [HANS.out]; exact rep_ints_nil, HP.out.below⟩
  · have hans := sureAns_bad hz fn
    have HANS := Lib.hid hans
    obtain ⟨e0, he0⟩ : ∃ e0, prgFault p = e0 := ⟨_, rfl⟩
    rw [he0] at hz HANS
    have HE0 := Lib.hid he0
    have hzb : (e0 != 0) = true := by simpa using hz
    clear hans he0 hz
    go_enter Tryd.func25, Tryd.ntmps25
    go_wp2_with (first | (refine wpList_box_hp (o := ⟨some 2, _, _, _, _, _⟩) rfl _ _ rfl HP.out [_] rfl ?_; clear HP; intro g2 w2 HP; replace HP := Lib.hid HP) | (refine wpList_ldR0 rfl 24 _ rfl HP.out rfl Tryd.underlying24 rfl (by kernel_rfl) ?_) | (go_at_call 42; refine (codeCheck_any p _ _ (HP.out.rep (F := ⟨w, Lt w.heap.size⟩) (by simp) HR.out) (HH.out.keep HP.out.below rfl)).mono ?_; rintro e w4 ⟨rfl, hb⟩; replace HP := Lib.hid (HP.out.call0 hb); clear hb; rw [HE0.out]))
    go_ret2
    exact ⟨_, by rw [HANS.out]; rfl, by rw [HANS.out]; exact rep_ints_nil, HP.out.below⟩
end Go.Proofs.YtceilfmfidmfpaaDoor
namespace Go.Proofs.YtceilfmfidmfpaaDoor
open Go.RowKit Plain64
attribute [local irreducible] wpList Code.wp Oper.wp
theorem proven_prgL {p : Prg} (h : proven p = 0) : prgFault p = 0 := by
  by_cases hz : prgFault p = 0
  · exact hz
  · unfold proven at h; rw [if_pos hz] at h; exact h
theorem proven_ends {p : Prg} (h : proven p = 0) {f : Fun} (hf : f ∈ p.funcs) : endsAt f = false := by
  have h0 := proven_prgL h
  unfold proven at h
  rw [if_neg (by simpa using h0)] at h
  have h1 := firstZ_eq_zero.1 h (provenF p f) (List.mem_map_of_mem hf)
  unfold provenF at h1
  split at h1
  · cases h1
  · split at h1
    · cases h1
    · rename_i h2; simpa using h2
theorem insR_of {p : Prg} {f : Fun} {funcs : Nat} (ok : OkF f funcs) : ∀ x ∈ f.code, InsR p x := fun x hx => ⟨readsL_len p x, readsL_in p x (ok.ins x hx), (ok.ins x hx).dst⟩
theorem sure_take (f : Fun) (q : Nat) (h : q < f.code.length) : ((sureL f).take f.code.length)[q]? = some (sureUpto f 12 q) := by
  rw [List.getElem?_take_of_lt h, sureL_at f q (by omega)]
theorem sureAt_upto (f : Fun) (q : Nat) (h : q < f.code.length) : SureAt f q ↔ 0 ≤ sureUpto f 12 q := by
  unfold SureAt; rw [List.getD_eq_getElem?_getD, sureL_at f q (by omega)]; rfl
theorem liveAns_in {p : Prg} (h : proven p = 0) {k : Nat} {f : Fun} (hf : p.funcs[k]? = some f) : liveAns p (k : Int) = (liveL p f, 0) := by
  unfold liveAns
  rw [if_neg (by simpa using h), if_neg (by omega), Int.toNat_natCast, hf]
theorem liveAns_bad {p : Prg} (h : proven p ≠ 0) (fn : Int) : liveAns p fn = ([], proven p) := by unfold liveAns; rw [if_pos h]
theorem liveAns_out {p : Prg} (h : proven p = 0) {fn : Int} (hf : fn < 0 ∨ (p.funcs.length : Int) ≤ fn) : liveAns p fn = ([], 2) := by
  unfold liveAns
  rw [if_neg (by simpa using h)]
  by_cases h0 : fn < 0
  · rw [if_pos h0]
  · rw [if_neg h0, List.getElem?_eq_none (by omega)]
/-- The last loop: what is not reached gets -1. -/
structure LvFin (p : Prg) (f : Fun) (os ts : List Int) (j : Nat) : Prop where
  len : ts.length = f.code.length
  at_ : ∀ q, q < f.code.length → ts[q]? = some (if q < j then liveUpto p f 12 q else os.getD q 0)
theorem LvFin.start {p : Prg} {f : Fun} {os : List Int} (h : os.length = f.code.length) : LvFin p f os os 0 :=
  ⟨h, fun q hq => by rw [if_neg (by omega), List.getD_eq_getElem?_getD, List.getElem?_eq_getElem (by omega)]; rfl⟩
theorem LvFin.keep {p : Prg} {f : Fun} {os ts : List Int} {j : Nat} (h : LvFin p f os ts j) (hj : os.getD j 0 = liveUpto p f 12 j) : LvFin p f os ts (j + 1) :=
  ⟨h.len, fun q hq => by
    rw [h.at_ q hq]
    by_cases e : q < j
    · rw [if_pos e, if_pos (by omega)]
    · by_cases e2 : q = j
      · subst e2; rw [if_neg e, if_pos (by omega), hj]
      · rw [if_neg e, if_neg (by omega)]⟩
theorem LvFin.set {p : Prg} {f : Fun} {os ts : List Int} {j : Nat} (h : LvFin p f os ts j) (hn : ¬ SureAt f j) : LvFin p f os (ts.set j (-1)) (j + 1) :=
  ⟨by simpa using h.len, fun q hq => by
    by_cases e2 : j = q
    · subst e2
      rw [List.getElem?_set_self (by rw [h.len]; exact hq), if_pos (by omega)]
      unfold liveUpto; rw [if_neg hn]
    · rw [List.getElem?_set_ne e2, h.at_ q hq]
      by_cases e : q < j
      · rw [if_pos e, if_pos (by omega)]
      · rw [if_neg e, if_neg (by omega)]⟩
theorem LvFin.done {p : Prg} {f : Fun} {os ts : List Int} (h : LvFin p f os ts f.code.length) : ts = liveL p f := by
  apply List.ext_getElem?
  intro q
  by_cases hq : q < f.code.length
  · rw [h.at_ q hq, if_pos hq, liveL, List.getElem?_map, List.getElem?_range hq]; rfl
  · rw [List.getElem?_eq_none (by rw [h.len]; omega), List.getElem?_eq_none (by rw [liveL_len]; omega)]
theorem readsAns_in {p : Prg} (h : prgFault p = 0) {k q : Nat} {f : Fun} {x : Ins} (hf : p.funcs[k]? = some f) (hx : f.code[q]? = some x) : readsAns p (k : Int) (q : Int) = (bitsL (readsL p x), setM x, 0) := by
  unfold readsAns
  rw [if_neg (by simpa using h), Int.toNat_natCast, hf]
  simp only [Int.toNat_natCast, hx]
  rw [if_neg (by omega)]
  rfl
/-- What a round of the outer loop has done so far. -/
structure LvRnd (p : Prg) (f : Fun) (os os' : List Int) (b : Bool) : Prop where
  inv : LiveInv p f os'
  no : b = false → os' = os
  yes : b = true → nuZ os' + 1 ≤ nuZ os
end Go.Proofs.YtceilfmfidmfpaaDoor
namespace Go.Proofs.YtceilfmfidmfpaaDoor
open Go.RowKit Plain64
attribute [local irreducible] wpList Code.wp Oper.wp
set_option maxRecDepth 10000 in
set_option maxHeartbeats 2000000 in
theorem Proven_any (p : Prg) (u : Value) (w : World) (hp : Lay.rep w (Lt w.heap.size) p [u]) :
    Calls Tryd.prog 56 #[.agg #[u]] w fun e w' => e = .returned (.int .i64 (proven p)) ∧ Below w.heap.size w w' := by
  obtain ⟨A, c, rfl, hc, hm, hx⟩ := rep_prg_at hp
  unfold maxLen at hm
  have HX := Lib.hid hx
  have HR := Lib.hid hp
  clear hx hp
  have HP := Lib.hid (Hp.start w)
  by_cases hz : prgFault p = 0
  · have ok := okP_of hz
    have HOK := Lib.hid ok
    obtain ⟨n1, n2⟩ := ok.len
    clear ok
    have HZ := Lib.hid hz
    clear hz
    go_enter Tryd.func56, Tryd.ntmps56
    go_wp2_with (first | (refine wpList_box_hp (o := ⟨some 1, _, _, _, _, _⟩) rfl _ _ rfl HP.out [_] rfl ?_; clear HP; intro g1 w1 HP; replace HP := Lib.hid HP) | (refine wpList_ldR0 rfl 24 _ rfl HP.out rfl Tryd.underlying24 rfl (by kernel_rfl) ?_) | (refine wpList_ld0 rfl 22 _ rfl HP.out rfl rfl Tryd.underlying22 rfl ?_) | (go_at_call 69; refine (progFault_any p _ _ (HP.out.rep (F := ⟨w, Lt w.heap.size⟩) (by simp) HR.out)).mono ?_; rintro e w4 ⟨rfl, hb⟩; replace HP := Lib.hid (HP.out.call0 hb); clear hb; rw [HZ.out]))
    go_loopw [4] (fun i wr => ∃ (k : Nat), k ≤ p.funcs.length ∧ i = .int .i64 k ∧ Hid (∀ f ∈ p.funcs.take k, provenF p f = 0) ∧ Hid (Hp w [{ w := w, S := Lt w.heap.size }] [Res.blk g1 24 [Value.slice A p.funcs.length c]] wr)) (fun i _ => p.funcs.length - (intOf i).toNat)
    case atStart => exact ⟨0, by omega, rfl, Lib.hid (fun f hf => by simp at hf), HP⟩
    case round =>
      clear HP
      obtain ⟨k, hk, rfl, HU, HP⟩ := hrel
      obtain ⟨wo, rfl⟩ : ∃ wo : World, wo = wr := ⟨_, rfl⟩
      by_cases hlt : k < p.funcs.length
      · have hlt2 : (k : Int) < (p.funcs.length : Int) := by omega
        obtain ⟨ad, v, rfl, hab, hat, hcode⟩ := HX.out k hlt
        have HBAD := Lib.hid (proven_at HZ.out k hlt HU.out)
        obtain ⟨f, hf⟩ : ∃ f, p.funcs[k] = f := ⟨_, rfl⟩
        rw [hf] at hat hcode HBAD
        have HF := Lib.hid (show p.funcs[k]? = some f by rw [← hf, List.getElem?_eq_getElem hlt])
        have HOF := Lib.hid (HOK.out.fns f (hf ▸ List.getElem_mem hlt))
        clear hf
        have HC := Lib.hid hcode
        obtain ⟨A2, c2, rfl, hc2, hm2, hx2⟩ := rep_code hcode
        unfold maxLen at hm2
        have HX2 := Lib.hid hx2
        have HAT := Lib.hid hat
        clear hat hx2 hcode
        obtain ⟨l1, l2⟩ := HOF.out.len
        go_upto_region 9 with (first | (refine wpList_ld0 rfl 22 _ rfl HP.out rfl rfl Tryd.underlying22 rfl ?_) | (refine wpList_ld1 rfl 22 _ rfl HP.out rfl rfl Tryd.underlying22 rfl ?_) | (refine wpList_load_at rfl 47 _ rfl _ rfl _ _ (HP.out.at_ (F := ⟨w, Lt w.heap.size⟩) (by simp) HAT.out (by rw [block_of_add]; exact hab)) Tryd.underlying47 rfl (by kernel_rfl) ?_) | (refine wpList_alloc_hp (o := ⟨some 5, _, _, _, _, _⟩) rfl _ rfl HP.out (.agg #[.int .i64 0, .int .i64 0, .slice none 0 0]) (by kernel_rfl) [_, _, _] rfl ?_; clear HP; intro g5 w5 HP; replace HP := Lib.hid HP) | (refine wpList_stR0 rfl 47 _ _ rfl HP.out rfl (cs' := [_, _, _]) rfl rfl (by simp [Value.oneCell']) (by kernel_rfl) ?_; clear HP; intro wst HP; replace HP := Lib.hid HP) | (refine wpList_ldR0 rfl 47 _ rfl HP.out rfl Tryd.underlying47 rfl (by kernel_rfl) ?_) | (refine wpList_ldR1 rfl 47 _ rfl HP.out rfl Tryd.underlying47 rfl (by kernel_rfl) ?_) | (go_at_call 35; refine (sureOf_any f _ _ _ (HP.out.rep (F := ⟨w, Lt w.heap.size⟩) (by simp) HC.out) HOF.out).mono ?_; rintro e w5 ⟨u5, rfl, hu5, hb5⟩; replace HP := Lib.hid (HP.out.call hb5); obtain ⟨A5, c5, rfl, hc5, hm5, hx5⟩ := rep_ints_at hu5; obtain ⟨a5, rfl, _, _⟩ := hx5 0 (by rw [sureL_len]; omega); obtain ⟨-, -, -, hy5⟩ := rep_ints_some hu5; have HX5 := Lib.hid hy5; clear hu5 hx5 hy5 hb5))
        have hsl := sureL_len f
        rw [hsl] at hc5
        unfold maxLen at hm5
        simp only [hsl]
        clear hsl
        (try simp only [Act.put, List.setIfInBounds_toArray, List.set_cons_zero, List.set_cons_succ])
        go_wp2_with fail
        go_hide hQ
        go_loopw [7] (fun i wr => ∃ (j : Nat), j ≤ f.code.length ∧ i = .int .i64 j ∧ Hid (∀ q, q < j → unsetAt p f q = false) ∧ Hid (Hp w [{ w := w5, S := Fresh wst w5 }, { w := w, S := Lt w.heap.size }] [Res.blk g5 47 [Value.int IntKind.i64 f.params, Value.int IntKind.i64 f.regs, Value.slice A2 f.code.length c2], Res.blk g1 24 [Value.slice (some ad) p.funcs.length c]] wr)) (fun i _ => f.code.length - (intOf i).toNat)
        case atStart => exact ⟨0, by omega, rfl, Lib.hid (fun q hq => by omega), HP⟩
        case round =>
          clear HP
          obtain ⟨j, hj, rfl, HN, HP⟩ := hrel
          obtain ⟨wk, rfl⟩ : ∃ wk : World, wk = wr := ⟨_, rfl⟩
          by_cases hjl : j < f.code.length
          · have hjl2 : (j : Int) < (f.code.length : Int) := by omega
            obtain ⟨a2, rfl, hab2, hat2⟩ := HX2.out j hjl
            obtain ⟨x, hx⟩ : ∃ x, f.code[j] = x := ⟨_, rfl⟩
            rw [hx] at hat2
            have HATI := Lib.hid (HP.out.at_ (F := ⟨w, Lt w.heap.size⟩) (.tail _ (.head _)) hat2 (by rw [block_of_add]; exact hab2))
            have HATP : Hid (At wk ⟨g1, 0, none⟩ [.slice (some ad) p.funcs.length c]) := Lib.hid (HP.out.blkAt (.tail _ (.head _)) 0)
            have HXS := Lib.hid (show f.code[j]? = some x by rw [← hx, List.getElem?_eq_getElem hjl])
            have HOI := Lib.hid (HOF.out.ins x (hx ▸ List.getElem_mem hjl))
            clear hx hat2
            obtain ⟨s, hs⟩ : ∃ s, (sureL f)[j]? = some s := ⟨_, List.getElem?_eq_getElem (by rw [sureL_len]; omega)⟩
            have hsr := sureL_range (List.mem_of_getElem? hs)
            obtain ⟨s1, s2⟩ := hsr
            obtain ⟨hsb, hsc⟩ := HX5.out j s hs
            have HSC := Lib.hid hsc
            have HUN := Lib.hid (unsetAt_eq (p := p) HXS.out hs)
            clear hs hsc
            go_upto_region 12 with (first | (refine wpList_ld0 rfl 45 _ rfl HP.out rfl rfl Tryd.underlying45 rfl ?_) | (refine wpList_ld1 rfl 45 _ rfl HP.out rfl rfl Tryd.underlying45 rfl ?_))
            have hcf3 : ({ wk with drawn := wk.drawn + 1 } : World).cell? ⟨g5, 2, none⟩ = some (.slice (some a2) f.code.length c2) := HP.out.cell (.head _) 2 _ rfl
            have hcf2 : wk.cell? ⟨g5, 2, none⟩ = some (.slice (some a2) f.code.length c2) := HP.out.cell (.head _) 2 _ rfl
            refine wp_region_still_tail 6 (by kernel_rfl) (by kernel_rfl) ?_
            simp only [List.take_succ_cons, List.take_zero, List.drop_succ_cons, List.drop_zero]
            repeat (first | (refine wpStill_load_at rfl 56 _ rfl _ rfl _ _ (At.drew HATI.out) Tryd.underlying56 rfl (by kernel_rfl) ?_) | (refine wpStill_load_at rfl 24 _ rfl _ rfl _ _ (At.drew HATP.out) Tryd.underlying24 rfl (by kernel_rfl) ?_) | still_step)
            try refine wpStill_nil ?_
            clear hcf3 hcf2
            have HP0 := Lib.hid HP.out.drew
            go_upto_region 13 with (first | (go_at_call 70; refine (readsOf_any p _ x f.code.length _ (HP0.out.rep (F := ⟨w, Lt w.heap.size⟩) (.tail _ (.head _)) HR.out) HOK.out HOI.out).mono ?_; rintro e w6 ⟨v6, rfl, hv6, hb⟩; replace HP := Lib.hid (HP0.out.call hb); clear hb; obtain ⟨A6, c6, rfl, hc6, hm6, hx6⟩ := rep_ints_at hv6; unfold maxLen at hm6; have HX6 := Lib.hid hx6; clear hv6 hx6))
            have hin := readsL_in p x HOI.out
            have hl2 := readsL_len p x
            obtain ⟨l, hl⟩ : ∃ l, readsL p x = l := ⟨_, rfl⟩
            rw [hl] at hin hl2 HUN HX6 hc6
            have HL := Lib.hid hl
            have HIN := Lib.hid hin
            simp only [hl]
            clear hl hin
            have HSW := Lib.hid ((HP.out.alike (F := ⟨w5, Fresh wst w5⟩) (.tail _ (.head _)) (a5.add j) (by rw [block_of_add]; exact hsb)).trans HSC.out)
            (try simp only [Act.put, List.setIfInBounds_toArray, List.set_cons_zero, List.set_cons_succ])
            go_wp2_with fail
            go_hide hQ2
            go_loopw [9] (fun i wr => ∃ (t n : Nat), t ≤ l.length ∧ i = .int .i64 t ∧ Hid (∀ r ∈ l.take t, s < 0 ∨ bitZ s r.toNat = true) ∧ wr = w6.drewN n) (fun i _ => l.length - (intOf i).toNat)
            case atStart => exact ⟨0, 0, by omega, rfl, Lib.hid (fun r hr => by simp at hr), rfl⟩
            case round =>
              obtain ⟨t, n, ht, rfl, HB, rfl⟩ := hrel
              by_cases htl : t < l.length
              · have htl2 : (t : Int) < (l.length : Int) := by omega
                obtain ⟨a6, rfl, hab6, hc6'⟩ := HX6.out t htl
                have hr := HIN.out _ (List.getElem_mem htl)
                obtain ⟨r, hr0⟩ : ∃ r, l[t] = r := ⟨_, rfl⟩
                rw [hr0] at hr hc6'
                have HLT := Lib.hid (show l[t]? = some r by rw [← hr0, List.getElem?_eq_getElem htl])
                obtain ⟨y, rfl⟩ := Int.eq_ofNat_of_zero_le hr.1
                have hsw := HSW.out
                have hj3 : (j : Int) < (f.code.length : Int) + 1 := by omega
                clear hr0
                go_upto_region 16 with fail
                by_cases hs0 : 0 ≤ s
                · obtain ⟨bb, hbb⟩ : ∃ bb, bitZ s y = bb := ⟨_, rfl⟩
                  have HBB := Lib.hid hbb
                  have HS0 := Lib.hid hs0
                  clear hbb
                  go_quiet ((go_at_call 71; exact quiet_add_left (calls_value (hasBit_any s y (by omega) ⟨by omega, by omega⟩ _) (congrArg Value.bool HBB.out))))
                  cases bb
                  · have HBF : Hid (provenF p f = 6) := Lib.hid (provenF_bad hjl (by
                      rw [HUN.out]; unfold unsetB; rw [decide_eq_true HS0.out, Bool.true_and]
                      exact List.any_eq_true.2 ⟨_, List.mem_of_getElem? HLT.out, by rw [Int.toNat_natCast, HBB.out]; rfl⟩))
                    have HB6 := Lib.hid ((HBAD.out (by rw [HBF.out]; decide)).trans HBF.out)
                    go_wp2_with fail
                    subst hQ2
                    go_wp2_with fail
                    subst hQ
                    go_wp2_with fail
                    go_ret
                    exact ⟨ret_int HB6.out.symm, ((HP.out.drewN _).drewN _).below⟩
                  · go_wp2_with fail
                    go_roundw
                    case rel =>
                      refine ⟨t + 1, n + nq, by omega, by go_num, Lib.hid fun r hr => ?_, rfl⟩
                      rw [List.take_add_one, HLT.out] at hr
                      rcases List.mem_append.1 hr with hr | hr
                      · exact HB.out r hr
                      · obtain rfl : r = (y : Int) := by simpa using hr
                        exact .inr (by rw [Int.toNat_natCast]; exact HBB.out)
                    case measure => simp [intOf]; omega
                · have hs1 : s < 0 := by omega
                  have hsd : decide (0 ≤ s) = false := decide_eq_false (by omega)
                  clear hs0
                  go_quiet (fail)
                  go_wp2_with fail
                  go_roundw
                  case rel => exact ⟨t + 1, n + nq, by omega, by go_num, Lib.hid fun r hr => .inl hs1, rfl⟩
                  case measure => simp [intOf]; omega
              · obtain rfl : t = l.length := by omega
                have HUK : Hid (unsetAt p f j = false) := Lib.hid (by
                  rw [HUN.out]; unfold unsetB
                  by_cases hs0 : 0 ≤ s
                  · rw [decide_eq_true hs0, Bool.true_and, List.any_eq_false]
                    intro r hr
                    have := (HB.out r (by rw [List.take_of_length_le (Nat.le_refl _)]; exact hr)).resolve_left (by omega)
                    rw [this]; decide
                  · rw [decide_eq_false hs0]; rfl)
                go_wp2_with fail
                subst hQ2
                go_wp2_with fail
                go_roundw
                case rel =>
                  refine ⟨j + 1, by omega, by go_num, Lib.hid fun q hq => ?_, Lib.hid ((HP.out.drewN n).froDrop)⟩
                  by_cases e : q = j
                  · rw [e]; exact HUK.out
                  · exact HN.out q (by omega)
                case measure => simp [intOf]; omega
          · obtain rfl : j = f.code.length := by omega
            obtain ⟨s, hs⟩ : ∃ s, (sureL f)[f.code.length]? = some s := ⟨_, List.getElem?_eq_getElem (by rw [sureL_len]; omega)⟩
            obtain ⟨hsb, hsc⟩ := HX5.out _ s hs
            have HSW := Lib.hid ((HP.out.alike (F := ⟨w5, Fresh wst w5⟩) (.head _) (a5.add f.code.length) (by rw [block_of_add]; exact hsb)).trans hsc)
            have HEND := Lib.hid (endsAt_eq hs)
            clear hs hsc
            have hcl := HP.out.cell (.head _) 2 _ rfl
            have hsw := HSW.out
            by_cases hs0 : 0 ≤ s
            · have HS0 := Lib.hid hs0
              have HBF : Hid (provenF p f = 7) := Lib.hid (by rw [provenF_good HN.out, HEND.out, decide_eq_true HS0.out]; rfl)
              have HB6 := Lib.hid ((HBAD.out (by rw [HBF.out]; decide)).trans HBF.out)
              go_wp2_with fail
              subst hQ
              go_wp2_with fail
              go_ret
              exact ⟨ret_int HB6.out.symm, HP.out.below⟩
            · have hsd : decide (0 ≤ s) = false := decide_eq_false hs0
              have HS0 := Lib.hid hsd
              have hs1 : s < 0 := by omega
              clear hs0
              go_wp2_with fail
              subst hQ
              go_wp2_with fail
              go_roundw
              case rel =>
                refine ⟨k + 1, by omega, by go_num, Lib.hid fun g hg => ?_, Lib.hid (Hp.drop (A := []) HP.out.froDrop)⟩
                rw [List.take_add_one, HF.out] at hg
                rcases List.mem_append.1 hg with hg | hg
                · exact HU.out g hg
                · obtain rfl : g = f := by simpa using hg
                  rw [provenF_good HN.out, HEND.out, HS0.out]; rfl
              case measure => simp [intOf]; omega
      · obtain rfl : k = p.funcs.length := by omega
        have HALL := Lib.hid (proven_all HZ.out (by have := HU.out; rwa [List.take_of_length_le (Nat.le_refl _)] at this))
        go_wp2_with (first | (refine wpList_ld0 rfl 22 _ rfl HP.out rfl rfl Tryd.underlying22 rfl ?_))
        go_ret
        exact ⟨ret_int HALL.out.symm, HP.out.below⟩
  · have HANS := Lib.hid (proven_bad hz)
    obtain ⟨e0, he0⟩ : ∃ e0, prgFault p = e0 := ⟨_, rfl⟩
    rw [he0] at hz HANS
    have HE0 := Lib.hid he0
    have hzb : (e0 != 0) = true := by simpa using hz
    clear he0 hz
    go_enter Tryd.func56, Tryd.ntmps56
    go_wp2_with (first | (refine wpList_box_hp (o := ⟨some 1, _, _, _, _, _⟩) rfl _ _ rfl HP.out [_] rfl ?_; clear HP; intro g1 w1 HP; replace HP := Lib.hid HP) | (refine wpList_ldR0 rfl 24 _ rfl HP.out rfl Tryd.underlying24 rfl (by kernel_rfl) ?_) | (go_at_call 69; refine (progFault_any p _ _ (HP.out.rep (F := ⟨w, Lt w.heap.size⟩) (by simp) HR.out)).mono ?_; rintro e w4 ⟨rfl, hb⟩; replace HP := Lib.hid (HP.out.call0 hb); clear hb; rw [HE0.out]))
    go_ret
    exact ⟨ret_int HANS.out.symm, HP.out.below⟩
end Go.Proofs.YtceilfmfidmfpaaDoor
namespace Go.Proofs.YtceilfmfidmfpaaDoor
open Go.RowKit Plain64
attribute [local irreducible] wpList Code.wp Oper.wp
set_option maxRecDepth 10000 in
set_option maxHeartbeats 2000000 in
theorem stateFault_any (p : Prg) (v : Value) (s : Sta) (u e a : Value) (w : World) (hp : Lay.rep w (Lt w.heap.size) p [v]) (hf : Lay.rep w (Lt w.heap.size) s.frames [u]) (he : Lay.rep w (Lt w.heap.size) s.events [e]) (ha : Lay.rep w (Lt w.heap.size) s.answers [a]) :
    Calls Tryd.prog 33 #[.agg #[v], .agg (staCells s u e a).toArray] w fun r w' => r = .returned (.int .i64 (stateFault p s)) ∧ Below w.heap.size w w' := by
  obtain ⟨A, c, rfl, hc, hm, hx⟩ := rep_prg_at hp
  obtain ⟨A2, c2, rfl, hc2, hm2, hx2⟩ := rep_frames_at hf
  obtain ⟨A3, c3, rfl, hc3, hm3, -⟩ := rep_ints_at ha
  unfold maxLen at hm hm2 hm3
  have HX := Lib.hid hx
  have HX2 := Lib.hid hx2
  have HR := Lib.hid hp
  clear hx hx2 hp hf ha he
  unfold staCells
  have HP := Lib.hid (Hp.start w)
  by_cases hz : proven p = 0
  · have HZ := Lib.hid hz
    clear hz
    go_enter Tryd.func33, Tryd.ntmps33
    go_upto_region 2 with (first | (refine wpList_box_hp (o := ⟨some 2, _, _, _, _, _⟩) rfl _ _ rfl HP.out [_] rfl ?_; clear HP; intro g2 w2 HP; replace HP := Lib.hid HP) | (refine wpList_box_hp (o := ⟨some 3, _, _, _, _, _⟩) rfl _ _ rfl HP.out [_, _, _, _, _, _, _, _, _, _, _, _, _, _, _, _, _, _, _, _, _, _] rfl ?_; clear HP; intro g3 w3 HP; replace HP := Lib.hid HP) | (refine wpList_ldR0 rfl 24 _ rfl HP.out rfl Tryd.underlying24 rfl (by kernel_rfl) ?_) | (refine wpList_ldR1 rfl 24 _ rfl HP.out rfl Tryd.underlying24 rfl (by kernel_rfl) ?_) | (go_at_call 56; refine (Proven_any p _ _ (HP.out.rep (F := ⟨w, Lt w.heap.size⟩) (by simp) HR.out)).mono ?_; rintro e w4 ⟨rfl, hb⟩; replace HP := Lib.hid (HP.out.call0 hb); clear hb; rw [HZ.out]))
    have hc0 := HP.out.cell (.head _) 0 _ rfl
    have hc1 := HP.out.cell (.head _) 1 _ rfl
    have hcf := HP.out.cell (.head _) 2 _ rfl
    have hcu := HP.out.cell (.head _) 19 _ rfl
    have hca := HP.out.cell (.head _) 21 _ rfl
    have hcp := HP.out.cell (.tail _ (.head _)) 0 _ rfl
    rcases head_cases s with ⟨hok, a1, a2, a3, a4, a5, a6, a7⟩ | a1 | ⟨a1, a2⟩ | ⟨a1, a2, a3⟩ | ⟨a1, a2, a3, a4⟩ | ⟨a1, a2, a3, a4, a5⟩ | ⟨a1, a2, a3, a4, a5, a6⟩ | ⟨a1, a2, a3, a4, a5, a6, a7, a8⟩ | ⟨a1, a2, a3, a4, a5, a6, a7, a8, a9⟩ | ⟨a1, a2, a3, a4, a5, a6, a7, a8⟩
    case inl =>
      have HOK2 := Lib.hid hok
      have HPR := Lib.hid (okP_of (proven_prg HZ.out))
      obtain ⟨n1, n2⟩ := HPR.out.len
      clear hok
      rcases a7 with ⟨a7, a8⟩ | ⟨a7, a9, a8⟩
      · have b7 : (s.status != 1) = false := by rw [bne, a7]; rfl
        have hl0 : (s.frames.length : Int) = 0 := by simpa using a8
        have HL0 := Lib.hid (show s.frames = [] by have : s.frames.length = 0 := by omega
                                                   exact List.length_eq_zero_iff.1 this)
        go_wp2_with (first | (go_at_call 40; refine (In_any _ _ _ _).mono ?_; rintro e w' ⟨rfl, rfl⟩))
        go_loopw [6] (fun i wr => i = .int .i64 0 ∧ Hid (Hp w [{ w := w, S := Lt w.heap.size }] [Res.blk g3 29 (staCells s (.slice A2 s.frames.length c2) e (.slice A3 s.answers.length c3)), Res.blk g2 24 [Value.slice A p.funcs.length c]] wr)) (fun i _ => 0)
        case atStart => exact ⟨rfl, HP⟩
        case round =>
          clear HP hcf
          obtain ⟨rfl, HP⟩ := hrel
          have HB := Lib.hid (sf_ok HZ.out HOK2.out (FramesOk.mk (p := p) (by rw [HL0.out]; exact fun f hf => (by cases hf)) (by rw [HL0.out]; exact fun i f g h => (by simp at h))))
          have hcf := HP.out.cell (.head _) 2 _ rfl
          go_wp2_with fail
          go_ret
          exact ⟨ret_int HB.out.symm, HP.out.below⟩
      · have b7 : (s.status != 1) = true := by rw [bne, a7]; rfl
        have b9 : (s.value != 0) = false := by rw [bne, a9]; rfl
        have hl0 : decide (0 < (s.frames.length : Int)) = true := by rw [beq_eq_false_iff_ne] at a8; simp; omega
        go_wp2_with (first | (go_at_call 40; refine (In_any _ _ _ _).mono ?_; rintro e w' ⟨rfl, rfl⟩))
        clear hl0 hc0 hc1 hcf hcu hca hcp b7 b9
        go_loopw [6] (fun i wr => ∃ (k : Nat), k ≤ s.frames.length ∧ i = .int .i64 k ∧ Hid (∀ f ∈ s.frames.take k, ownF p f) ∧ Hid (∀ (i : Nat) f g, i + 1 < k → s.frames[i]? = some f → s.frames[i + 1]? = some g → linkF p f g) ∧ Hid (Hp w [{ w := w, S := Lt w.heap.size }] [Res.blk g3 29 (staCells s (.slice A2 s.frames.length c2) e (.slice A3 s.answers.length c3)), Res.blk g2 24 [Value.slice A p.funcs.length c]] wr)) (fun i _ => s.frames.length - (intOf i).toNat)
        case atStart => exact ⟨0, by omega, rfl, Lib.hid (fun f hf => by simp at hf), Lib.hid (fun i f g h => by omega), HP⟩
        case round =>
          clear HP
          obtain ⟨k, hk, rfl, HOW, HLK, HP⟩ := hrel
          obtain ⟨wo, rfl⟩ : ∃ wo : World, wo = wr := ⟨_, rfl⟩
          by_cases hlt : k < s.frames.length
          · have hlt2 : (k : Int) < (s.frames.length : Int) := by omega
            obtain ⟨a2', rfl, hab, hat⟩ := HX2.out k hlt
            obtain ⟨x, hx⟩ : ∃ x, s.frames[k] = x := ⟨_, rfl⟩
            rw [hx] at hat
            have HXK := Lib.hid (show s.frames[k]? = some x by rw [← hx, List.getElem?_eq_getElem hlt])
            unfold frmCells at hat
            have HAT := Lib.hid (HP.out.at_ (F := ⟨w, Lt w.heap.size⟩) (.head _) hat (by rw [block_of_add]; exact hab))
            clear hx hat
            go_upto_region 12 with (first | (refine wpList_ld0 rfl 25 _ rfl HP.out rfl rfl Tryd.underlying25 rfl ?_) | (refine wpList_load_at rfl 39 _ rfl _ rfl _ _ HAT.out Tryd.underlying39 rfl (by kernel_rfl) ?_) | (refine wpList_alloc_hp (o := ⟨some 7, _, _, _, _, _⟩) rfl _ rfl HP.out (.agg #[.int .i64 0, .int .i64 0, .int .i64 0, .int .i64 0, .int .i64 0, .int .i64 0, .int .i64 0, .int .i64 0, .int .i64 0, .int .i64 0, .int .i64 0, .int .i64 0, .int .i64 0, .int .i64 0]) (by kernel_rfl) [_, _, _, _, _, _, _, _, _, _, _, _, _, _] rfl ?_; clear HP; intro g7 w7 HP; replace HP := Lib.hid HP) | (refine wpList_stR0 rfl 39 _ _ rfl HP.out rfl (cs' := [_, _, _, _, _, _, _, _, _, _, _, _, _, _]) rfl rfl (by simp [Value.oneCell']) (by kernel_rfl) ?_; clear HP; intro wst HP; replace HP := Lib.hid HP))
            (try simp only [Act.put, List.setIfInBounds_toArray, List.set_cons_zero, List.set_cons_succ])
            clear a1 a2 a3 a4 a6 a7 a8 a9
            have hcfn := HP.out.cell (.head _) 0 _ rfl
            have hcpc := HP.out.cell (.head _) 1 _ rfl
            have hcf := HP.out.cell (.tail _ (.head _)) 2 _ rfl
            have hcp := HP.out.cell (.tail _ (.tail _ (.head _))) 0 _ rfl
            have hxm := List.mem_of_getElem? HXK.out
            by_cases hfn : 0 ≤ x.fn ∧ x.fn < p.funcs.length
            · obtain ⟨f1, f2⟩ := hfn
              obtain ⟨n, hn⟩ := Int.eq_ofNat_of_zero_le f1
              have hnl : n < p.funcs.length := by omega
              obtain ⟨ad, v, rfl, hab3, hat3, hcode⟩ := HX.out n hnl
              obtain ⟨f0, hf0⟩ : ∃ f0, p.funcs[n] = f0 := ⟨_, rfl⟩
              rw [hf0] at hat3 hcode
              have HF := Lib.hid (show p.funcs[n]? = some f0 by rw [← hf0, List.getElem?_eq_getElem hnl])
              have HFC := Lib.hid (show codeOf p x.fn = f0.code by rw [hn]; exact codeOf_eq HF.out)
              obtain ⟨A4, c4, rfl, hc4, hm4, hx4⟩ := rep_code hcode
              unfold maxLen at hm4
              have HX4 := Lib.hid hx4
              have hl4 := (HPR.out.fns f0 (List.mem_of_getElem? HF.out)).len
              obtain ⟨l1, l2⟩ := hl4
              have hcl := (HP.out.at_ (F := ⟨w, Lt w.heap.size⟩) (.head _) hat3 (by rw [block_of_add]; exact hab3)).fld 1 rfl
              have HN := Lib.hid hn
              rw [hn] at hcfn f1 f2
              have d1 : decide ((n : Int) ≤ (p.funcs.length : Int) - 1) = true := by simp; omega
              clear hf0 hat3 hcode hx4 hn
              by_cases hpc : 0 ≤ x.pc ∧ x.pc < f0.code.length
              · obtain ⟨q1, q2⟩ := hpc
                have d2 : decide (x.pc ≤ (f0.code.length : Int) - 1) = true := by simp; omega
                have HOWN := Lib.hid (show ownF p x from ⟨by rw [HN.out]; omega, by rw [HN.out]; omega, by omega, by rw [HFC.out]; omega⟩)
                clear hxm
                have hstep : ∀ f ∈ s.frames.take (k + 1), ownF p f := fun f hf => by
                  rw [List.take_add_one, HXK.out] at hf
                  rcases List.mem_append.1 hf with hf | hf
                  · exact HOW.out f hf
                  · obtain rfl : f = x := by simpa using hf
                    exact HOWN.out
                have HSTEP := Lib.hid hstep
                clear hstep
                go_upto_region 12 with fail
                go_quiet ((go_at_call 40; exact quiet_left (In_any _ _ _ _)))
                by_cases hk0 : k = 0
                · subst hk0
                  go_wp2_with fail
                  go_roundw
                  case rel => exact ⟨1, by omega, by go_num, HSTEP, Lib.hid (fun i f g h => by omega), Lib.hid (Hp.drop (A := []) (HP.out.drewN nq))⟩
                  case measure => simp [intOf]; omega
                · obtain ⟨k0, hk1⟩ : ∃ k0, k = k0 + 1 := ⟨k - 1, by omega⟩
                  have hkl : k0 < s.frames.length := by omega
                  have hkm : (k : Int) - 1 = (k0 : Int) := by omega
                  have hkp : 0 < k := by omega
                  have hkpI : (0 : Int) < (k : Int) := by omega
                  have hkl2 : (k0 : Int) < (s.frames.length : Int) := by omega
                  have HK1 := Lib.hid hk1
                  clear hk0 hk1
                  obtain ⟨a5, ha5, hab5, hat5⟩ := HX2.out k0 hkl
                  cases ha5
                  obtain ⟨g, hg⟩ : ∃ g, s.frames[k0] = g := ⟨_, rfl⟩
                  rw [hg] at hat5
                  have HG := Lib.hid (show s.frames[k0]? = some g by rw [← hg, List.getElem?_eq_getElem hkl])
                  unfold frmCells at hat5
                  replace HP := Lib.hid (HP.out.drewN nq)
                  have HATG := Lib.hid (HP.out.at_ (F := ⟨w, Lt w.heap.size⟩) (.head _) hat5 (by rw [block_of_add]; exact hab5))
                  clear hg hat5
                  clear hcfn hcpc hcf hcp hcl d1 d2
                  go_upto_region 16 with (first | (refine wpList_ld0 rfl 25 _ rfl HP.out rfl rfl Tryd.underlying25 rfl ?_) | (refine wpList_ld1 rfl 25 _ rfl HP.out rfl rfl Tryd.underlying25 rfl ?_) | (refine wpList_load_at rfl 39 _ rfl _ rfl _ _ HATG.out Tryd.underlying39 rfl (by kernel_rfl) ?_) | (refine wpList_alloc_hp (o := ⟨some 8, _, _, _, _, _⟩) rfl _ rfl HP.out (.agg #[.int .i64 0, .int .i64 0, .int .i64 0, .int .i64 0, .int .i64 0, .int .i64 0, .int .i64 0, .int .i64 0, .int .i64 0, .int .i64 0, .int .i64 0, .int .i64 0, .int .i64 0, .int .i64 0]) (by kernel_rfl) [_, _, _, _, _, _, _, _, _, _, _, _, _, _] rfl ?_; clear HP; intro g8 w8 HP; replace HP := Lib.hid HP) | (refine wpList_stR0 rfl 39 _ _ rfl HP.out rfl (cs' := [_, _, _, _, _, _, _, _, _, _, _, _, _, _]) rfl rfl (by simp [Value.oneCell']) (by kernel_rfl) ?_; clear HP; intro wst HP; replace HP := Lib.hid HP))
                  (try simp only [Act.put, List.setIfInBounds_toArray, List.set_cons_zero, List.set_cons_succ])
                  have hgown := HOW.out g (List.mem_of_getElem? (i := k0) (by rw [List.getElem?_take, if_pos (by have := HK1.out; omega)]; exact HG.out))
                  obtain ⟨o1, o2, o3, o4⟩ := hgown
                  obtain ⟨n', hn'⟩ := Int.eq_ofNat_of_zero_le o1
                  have hnl' : n' < p.funcs.length := by omega
                  obtain ⟨ad', v', had', hab3', hat3', hcode'⟩ := HX.out n' hnl'
                  cases had'
                  obtain ⟨f1, hf1⟩ : ∃ f1, p.funcs[n'] = f1 := ⟨_, rfl⟩
                  rw [hf1] at hat3' hcode'
                  have HF' := Lib.hid (show p.funcs[n']? = some f1 by rw [← hf1, List.getElem?_eq_getElem hnl'])
                  rw [hn', codeOf_eq HF'.out] at o4
                  obtain ⟨A6, c6, rfl, hc6, hm6, hx6⟩ := rep_code hcode'
                  unfold maxLen at hm6
                  obtain ⟨j', hj'⟩ := Int.eq_ofNat_of_zero_le o3
                  have hjl' : j' < f1.code.length := by omega
                  obtain ⟨a6, rfl, hab6, hat6⟩ := hx6 j' hjl'
                  obtain ⟨y, hy⟩ : ∃ y, f1.code[j'] = y := ⟨_, rfl⟩
                  rw [hy] at hat6
                  have HY := Lib.hid (insAt_eq hn' hj' HF'.out (show f1.code[j']? = some y by rw [← hy, List.getElem?_eq_getElem hjl']))
                  have HP0 := Lib.hid HP.out.drew
                  have hata := HP0.out.at_ (F := ⟨w, Lt w.heap.size⟩) (.head _) hat6 (by rw [block_of_add]; exact hab6)
                  have HATA := Lib.hid hata
                  have HAT6 := Lib.hid hat6
                  have HAT3 := Lib.hid hat3'
                  have hab6' : Lt w.heap.size (a6.add (j' * 5)).block := by rw [block_of_add]; exact hab6
                  have hab3'' : Lt w.heap.size (ad.add (n' * 3)).block := by rw [block_of_add]; exact hab3'
                  have HCL := Lib.hid ((HP0.out.at_ (F := ⟨w, Lt w.heap.size⟩) (.head _) hat3' (by rw [block_of_add]; exact hab3')).fld 1 rfl)
                  have hnI : (n' : Int) < (p.funcs.length : Int) := by omega
                  have hjI : (j' : Int) < (f1.code.length : Int) := by omega
                  rw [hn', hj'] at HP0 HP
                  clear hf1 hat3' hcode' hx6 hy hat6 hata hn' hj' o1 o2 o3 o4
                  go_region_held (fun w' => w'.cell? ⟨g2, 0, none⟩ = some (.slice (some ad) p.funcs.length c) ∧ w'.cell? ⟨g8, 0, none⟩ = some (iV n') ∧ w'.cell? ⟨g8, 1, none⟩ = some (iV j') ∧ w'.cell? ⟨(ad.add (n' * 3)).block, (ad.add (n' * 3)).off + (1 + 1), none⟩ = some (.slice (some a6) f1.code.length c6) ∧ w'.cell? (a6.add (j' * 5)) = some (iV y.op) ∧ w'.cell? ⟨(a6.add (j' * 5)).block, (a6.add (j' * 5)).off + (0 + 1), none⟩ = some (iV y.dst) ∧ w'.cell? ⟨(a6.add (j' * 5)).block, (a6.add (j' * 5)).off + (1 + 1), none⟩ = some (iV y.a) ∧ w'.cell? ⟨(a6.add (j' * 5)).block, (a6.add (j' * 5)).off + (2 + 1), none⟩ = some (iV y.b) ∧ w'.cell? ⟨(a6.add (j' * 5)).block, (a6.add (j' * 5)).off + (3 + 1), none⟩ = some (iV y.imm)) (first | exact ⟨HP0.out.cell (.tail _ (.tail _ (.tail _ (.head _)))) 0 _ rfl, HP0.out.cell (.head _) 0 _ rfl, HP0.out.cell (.head _) 1 _ rfl, HCL.out, HATA.out.fld0 rfl, HATA.out.fld 0 rfl, HATA.out.fld 1 rfl, HATA.out.fld 2 rfl, HATA.out.fld 3 rfl⟩ | (have H := HP0.out.alloc #[Value.int .i64 0, Value.int .i64 0, Value.int .i64 0, Value.int .i64 0, Value.int .i64 0] 56; have H1 := H.at_ (F := ⟨w, Lt w.heap.size⟩) (.head _) HAT6.out hab6'; have H2 := H.at_ (F := ⟨w, Lt w.heap.size⟩) (.head _) HAT3.out hab3''; exact ⟨H.cell (.tail _ (.tail _ (.tail _ (.tail _ (.head _))))) 0 _ rfl, H.cell (.tail _ (.head _)) 0 _ rfl, H.cell (.tail _ (.head _)) 1 _ rfl, H2.fld 1 rfl, H1.fld0 rfl, H1.fld 0 rfl, H1.fld 1 rfl, H1.fld 2 rfl, H1.fld 3 rfl⟩) | (have H := HP0.out.alloc #[Value.int .i64 y.op, Value.int .i64 y.dst, Value.int .i64 y.a, Value.int .i64 y.b, Value.int .i64 y.imm] 56; have H1 := H.at_ (F := ⟨w, Lt w.heap.size⟩) (.head _) HAT6.out hab6'; have H2 := H.at_ (F := ⟨w, Lt w.heap.size⟩) (.head _) HAT3.out hab3''; exact ⟨H.cell (.tail _ (.tail _ (.tail _ (.tail _ (.head _))))) 0 _ rfl, H.cell (.tail _ (.head _)) 0 _ rfl, H.cell (.tail _ (.head _)) 1 _ rfl, H2.fld 1 rfl, H1.fld0 rfl, H1.fld 0 rfl, H1.fld 1 rfl, H1.fld 2 rfl, H1.fld 3 rfl⟩)) (fail)
                  have HPX := HP0.out.alloc #[Value.int .i64 y.op, Value.int .i64 y.dst, Value.int .i64 y.a, Value.int .i64 y.b, Value.int .i64 y.imm] 56
                  obtain ⟨wz, hwz, HPZ⟩ := (⟨_, rfl, HPX⟩ : ∃ wz, (wst.alloc (.cells #[Value.int .i64 y.op, Value.int .i64 y.dst, Value.int .i64 y.a, Value.int .i64 y.b, Value.int .i64 y.imm] 56)).drew = wz ∧ Hp w _ _ wz)
                  rw [hwz]
                  replace HPZ := Lib.hid HPZ
                  clear hwz HPX
                  obtain ⟨gz, hgz⟩ : ∃ gz, wst.heap.size = gz := ⟨_, rfl⟩
                  rw [hgz]
                  have hz0 : wz.cell? ⟨gz, 0, none⟩ = some (iV y.op) := by rw [← hgz]; exact HPZ.out.cell (.head _) 0 _ rfl
                  have hz4 : wz.cell? ⟨gz, 4, none⟩ = some (iV y.imm) := by rw [← hgz]; exact HPZ.out.cell (.head _) 4 _ rfl
                  have hz7 := HPZ.out.cell (.tail _ (.tail _ (.head _))) 0 _ rfl
                  have HN2 := Lib.hid hgz
                  clear hgz
                  by_cases hop : y.op = 17
                  · have hopb : (y.op != 17) = false := by simpa using hop
                    have HOP := Lib.hid hop
                    clear hop
                    by_cases him : y.imm = x.fn
                    · have himb : (y.imm != x.fn) = false := by simpa using him
                      have HIM := Lib.hid him
                      clear him
                      go_wp2_with fail
                      go_roundw
                      case rel =>
                        refine ⟨k + 1, by omega, by go_num, HSTEP, Lib.hid fun i f g' hi hf hg' => ?_, Lib.hid (Hp.drop (A := []) (Hp.drop (A := []) (Hp.drop (A := []) HPZ.out)))⟩
                        have hkk := HK1.out
                        by_cases e : i = k0
                        · subst e
                          rw [HG.out] at hf; cases hf
                          rw [← hkk, HXK.out] at hg'; cases hg'
                          exact ⟨by rw [HY.out]; exact HOP.out, by rw [HY.out]; exact HIM.out⟩
                        · exact HLK.out i f g' (by omega) hf hg'
                      case measure => simp [intOf]; omega
                    · have himb : (y.imm != x.fn) = true := by simpa using him
                      have HB := Lib.hid (sf_frames HZ.out (s := s) (fun h => by have := (h.link k0 g x HG.out (by rw [← HK1.out]; exact HXK.out)).2; rw [HY.out] at this; exact him this))
                      clear him
                      go_wp2_with fail
                      go_ret
                      exact ⟨ret_int HB.out.symm, HPZ.out.below⟩
                  · have hopb : (y.op != 17) = true := by simpa using hop
                    have HB := Lib.hid (sf_frames HZ.out (s := s) (fun h => by have := (h.link k0 g x HG.out (by rw [← HK1.out]; exact HXK.out)).1; rw [HY.out] at this; exact hop this))
                    clear hop
                    go_wp2_with fail
                    go_ret
                    exact ⟨ret_int HB.out.symm, HPZ.out.below⟩
              · have HB := Lib.hid (sf_frames HZ.out (s := s) (fun h => by have := h.own x hxm; unfold ownF at this; rw [HFC.out] at this; omega))
                clear hxm
                have hq : x.pc < 0 ∨ (0 ≤ x.pc ∧ (f0.code.length : Int) ≤ x.pc) := by omega
                clear hpc
                rcases hq with q1 | ⟨q1, q2⟩
                · have d2 : decide (0 ≤ x.pc) = false := by simp; omega
                  go_upto_region 12 with fail
                  go_quiet ((go_at_call 40; exact quiet_left (In_any _ _ _ _)))
                  go_wp2_with fail
                  go_ret
                  exact ⟨ret_int HB.out.symm, (HP.out.drewN _).below⟩
                · have d2 : decide (x.pc ≤ (f0.code.length : Int) - 1) = false := by simp; omega
                  go_upto_region 12 with fail
                  go_quiet ((go_at_call 40; exact quiet_left (In_any _ _ _ _)))
                  go_wp2_with fail
                  go_ret
                  exact ⟨ret_int HB.out.symm, (HP.out.drewN _).below⟩
            · have HB := Lib.hid (sf_frames HZ.out (s := s) (fun h => by have := h.own x hxm; unfold ownF at this; omega))
              clear hxm
              have hq : x.fn < 0 ∨ (0 ≤ x.fn ∧ (p.funcs.length : Int) ≤ x.fn) := by omega
              clear hfn
              rcases hq with q1 | ⟨q1, q2⟩
              · have d2 : decide (0 ≤ x.fn) = false := by simp; omega
                go_upto_region 12 with fail
                go_quiet ((go_at_call 40; exact quiet_left (In_any _ _ _ _)))
                go_wp2_with fail
                go_ret
                exact ⟨ret_int HB.out.symm, (HP.out.drewN _).below⟩
              · have d2 : decide (x.fn ≤ (p.funcs.length : Int) - 1) = false := by simp; omega
                go_upto_region 12 with fail
                go_quiet ((go_at_call 40; exact quiet_left (In_any _ _ _ _)))
                go_wp2_with fail
                go_ret
                exact ⟨ret_int HB.out.symm, (HP.out.drewN _).below⟩
          · obtain rfl : k = s.frames.length := by omega
            have HB := Lib.hid (sf_ok HZ.out HOK2.out ⟨by have := HOW.out; rwa [List.take_of_length_le (Nat.le_refl _)] at this, fun i f g h h' => HLK.out i f g (List.getElem?_eq_some_iff.1 h').1 h h'⟩)
            have hcf := HP.out.cell (.head _) 2 _ rfl
            go_wp2_with fail
            go_ret
            exact ⟨ret_int HB.out.symm, HP.out.below⟩
    all_goals
      (try have b7 : (s.status != 1) = true := by rw [bne, a7]; rfl)
      (try have b7 : (s.status != 1) = false := by rw [bne, a7]; rfl)
      (try have b8 : (s.value != 0) = true := by rw [bne, a8]; rfl)
      (try have b8 : (s.value != 0) = false := by rw [bne, a8]; rfl)
      (try have b9 : 0 < s.frames.length := by rw [beq_eq_false_iff_ne] at a8; omega)
      (try have b9 : decide (0 < (s.frames.length : Int)) = false := by rw [beq_iff_eq] at a9; simp; omega)
      have HB := Lib.hid (sf_head HZ.out (s := s) (head_not (by (first | omega | simp only [*, true_and, and_self, true_or, or_true]))))
      first
        | (go_wp2_with (first | (go_at_call 40; refine (In_any _ _ _ _).mono ?_; rintro e w' ⟨rfl, rfl⟩)); all_goals (go_ret; exact ⟨ret_int HB.out.symm, HP.out.below⟩))
        | (cases hlb : ((s.frames.length : Int) == 0)
           all_goals
             go_wp2_with (first | (go_at_call 40; refine (In_any _ _ _ _).mono ?_; rintro e w' ⟨rfl, rfl⟩))
             go_ret
             exact ⟨ret_int HB.out.symm, HP.out.below⟩)
  · have HB := Lib.hid (sf_bad (s := s) hz)
    obtain ⟨e0, he0⟩ : ∃ e0, proven p = e0 := ⟨_, rfl⟩
    rw [he0] at hz HB
    have HE0 := Lib.hid he0
    have hzb : (e0 != 0) = true := by simpa using hz
    clear he0 hz
    go_enter Tryd.func33, Tryd.ntmps33
    go_wp2_with (first | (refine wpList_box_hp (o := ⟨some 2, _, _, _, _, _⟩) rfl _ _ rfl HP.out [_] rfl ?_; clear HP; intro g2 w2 HP; replace HP := Lib.hid HP) | (refine wpList_box_hp (o := ⟨some 3, _, _, _, _, _⟩) rfl _ _ rfl HP.out [_, _, _, _, _, _, _, _, _, _, _, _, _, _, _, _, _, _, _, _, _, _] rfl ?_; clear HP; intro g3 w3 HP; replace HP := Lib.hid HP) | (refine wpList_ldR0 rfl 24 _ rfl HP.out rfl Tryd.underlying24 rfl (by kernel_rfl) ?_) | (refine wpList_ldR1 rfl 24 _ rfl HP.out rfl Tryd.underlying24 rfl (by kernel_rfl) ?_) | (go_at_call 56; refine (Proven_any p _ _ (HP.out.rep (F := ⟨w, Lt w.heap.size⟩) (by simp) HR.out)).mono ?_; rintro e w4 ⟨rfl, hb⟩; replace HP := Lib.hid (HP.out.call0 hb); clear hb; rw [HE0.out]))
    go_ret
    exact ⟨ret_int HB.out.symm, HP.out.below⟩
end Go.Proofs.YtceilfmfidmfpaaDoor
namespace Go.Proofs.YtceilfmfidmfpaaDoor
open Go.RowKit Plain64
attribute [local irreducible] wpList Code.wp Oper.wp
set_option maxRecDepth 10000 in
set_option maxHeartbeats 1000000 in
theorem inList_any (l : List Int) (v : Value) (n : Int) (w : World) (hv : Lay.rep w (Lt w.heap.size) l [v]) :
    Calls Tryd.prog 39 #[v, .int .i64 n] w fun e w' => e = .returned (.bool (decide (n ∈ l))) ∧ w = w' := by
  obtain ⟨A, c, rfl, hc, hm, hx⟩ := rep_ints_at hv
  unfold maxLen at hm
  have HX := Lib.hid hx
  clear hx hv
  go_enter Tryd.func39, Tryd.ntmps39
  go_wp2
  go_loop [5] (fun i => ∃ (k : Nat), k ≤ l.length ∧ i = .int .i64 k ∧ Hid (n ∉ l.take k)) (fun i => l.length - (intOf i).toNat)
  case atStart => exact ⟨0, by omega, rfl, Lib.hid (by simp)⟩
  case round =>
    obtain ⟨k, hk, rfl, HN⟩ := hrel
    by_cases hlt : k < l.length
    · have hlt2 : (k : Int) < (l.length : Int) := by omega
      obtain ⟨a, rfl, hab, hca⟩ := HX.out k hlt
      obtain ⟨x, hx⟩ : ∃ x, l[k] = x := ⟨_, rfl⟩
      replace hca := hca.trans (congrArg (fun z => some (Value.int IntKind.i64 z)) hx)
      have HXK := Lib.hid hx
      clear hx
      by_cases hxn : x = n
      · have hb : (x == n) = true := by simpa using hxn
        have HM := Lib.hid (show n ∈ l by rw [← hxn, ← HXK.out]; exact List.getElem_mem hlt)
        clear hxn
        go_wp2
        go_ret
        exact ⟨by rw [decide_eq_true HM.out]; rfl, rfl⟩
      · have hb : (x == n) = false := by simpa using hxn
        have HM := Lib.hid (show n ∉ l.take (k + 1) by
          rw [List.take_add_one, List.getElem?_eq_getElem hlt, HXK.out]
          intro h
          rcases List.mem_append.1 h with h | h
          · exact HN.out h
          · simp at h; exact hxn h.symm)
        clear hxn
        go_wp2
        go_round
        case rel => exact ⟨k + 1, by omega, by go_num, HM⟩
        case measure => simp [intOf]; omega
    · obtain rfl : k = l.length := by omega
      have HM := Lib.hid (show n ∉ l by have h := HN.out; rw [List.take_length] at h; exact h)
      go_wp2
      go_ret
      exact ⟨by rw [decide_eq_false HM.out]; rfl, rfl⟩
noncomputable def ffZ (p : Prg) (fn : Int) : Int := if proven p ≠ 0 then proven p else if 0 ≤ fn ∧ fn < p.funcs.length then 0 else 2
set_option maxRecDepth 10000 in
set_option maxHeartbeats 1000000 in
theorem functionFault_any (p : Prg) (u : Value) (fn : Int) (w : World) (hp : Lay.rep w (Lt w.heap.size) p [u]) :
    Calls Tryd.prog 34 #[.agg #[u], .int .i64 fn] w fun e w' => e = .returned (.int .i64 (ffZ p fn)) ∧ Below w.heap.size w w' := by
  obtain ⟨A, c, rfl, hc, hm, hx⟩ := rep_prg_at hp
  unfold maxLen at hm
  have HR := Lib.hid hp
  clear hx hp
  have HP := Lib.hid (Hp.start w)
  obtain ⟨e0, he0⟩ : ∃ e0, proven p = e0 := ⟨_, rfl⟩
  have HZ := Lib.hid he0
  have hwl : IntKind.i64.wrap ((p.funcs.length : Int) - 1) = (p.funcs.length : Int) - 1 := by rw [IntKind.wrap_i64]; omega
  by_cases hz : e0 = 0
  · have hb0 : (e0 == 0) = true := by simpa using hz
    have HFZ := Lib.hid (show ffZ p fn = if 0 ≤ fn ∧ fn < p.funcs.length then 0 else 2 by unfold ffZ; rw [he0, if_neg (by simpa using hz)])
    have HZ0 := Lib.hid hz
    clear he0 hz
    have h3 : (decide (0 ≤ fn) = true ∧ decide (fn ≤ (p.funcs.length : Int) - 1) = true ∧ ffZ p fn = 0) ∨ (decide (0 ≤ fn) = true ∧ decide (fn ≤ (p.funcs.length : Int) - 1) = false ∧ ffZ p fn = 2) ∨ (decide (0 ≤ fn) = false ∧ decide (fn ≤ (p.funcs.length : Int) - 1) = decide (fn ≤ (p.funcs.length : Int) - 1) ∧ ffZ p fn = 2) := by
      by_cases h0 : 0 ≤ fn
      · by_cases h1 : fn ≤ (p.funcs.length : Int) - 1
        · left; exact ⟨decide_eq_true h0, decide_eq_true h1, by rw [HFZ.out, if_pos ⟨h0, by omega⟩]⟩
        · right; left; exact ⟨decide_eq_true h0, decide_eq_false h1, by rw [HFZ.out, if_neg (by omega)]⟩
      · right; right; exact ⟨decide_eq_false h0, rfl, by rw [HFZ.out, if_neg (by omega)]⟩
    rcases h3 with ⟨h1, h2, h3⟩ | ⟨h1, h2, h3⟩ | ⟨h1, -, h3⟩
    all_goals
      have H3 := Lib.hid h3
      clear h3
      go_enter Tryd.func34, Tryd.ntmps34
      go_upto_region 2 with (first | (refine wpList_box_hp (o := ⟨some 2, _, _, _, _, _⟩) rfl _ _ rfl HP.out [_] rfl ?_; clear HP; intro g2 w2 HP; replace HP := Lib.hid HP) | (refine wpList_ldR0 rfl 24 _ rfl HP.out rfl Tryd.underlying24 rfl (by kernel_rfl) ?_) | (go_at_call 56; refine (Proven_any p _ _ (HP.out.rep (F := ⟨w, Lt w.heap.size⟩) (by simp) HR.out)).mono ?_; rintro e w4 ⟨rfl, hb⟩; replace HP := Lib.hid (HP.out.call0 hb); clear hb; rw [HZ.out]))
      have cg := HP.out.cell (.head _) 0 _ rfl
      go_wp2_with (first | (go_at_call 40; refine (In_any _ _ _ _).mono ?_; rintro e w7 ⟨rfl, rfl⟩))
      (try simp only [Exit.inBlock, Exit.then])
      refine bodyPost_ret (results_tmp (by rfl) _ _ _) (by rfl) ?_
      rw [H3.out]
      exact ⟨by first | rfl | (rw [HZ0.out]; rfl), HP.out.below⟩
  · have hb0 : (e0 == 0) = false := by simpa using hz
    have HFZ := Lib.hid (show ffZ p fn = e0 by unfold ffZ; rw [he0, if_pos hz])
    clear he0 hz
    go_enter Tryd.func34, Tryd.ntmps34
    go_wp2_with (first | (refine wpList_box_hp (o := ⟨some 2, _, _, _, _, _⟩) rfl _ _ rfl HP.out [_] rfl ?_; clear HP; intro g2 w2 HP; replace HP := Lib.hid HP) | (refine wpList_ldR0 rfl 24 _ rfl HP.out rfl Tryd.underlying24 rfl (by kernel_rfl) ?_) | (go_at_call 56; refine (Proven_any p _ _ (HP.out.rep (F := ⟨w, Lt w.heap.size⟩) (by simp) HR.out)).mono ?_; rintro e w4 ⟨rfl, hb⟩; replace HP := Lib.hid (HP.out.call0 hb); clear hb; rw [HZ.out]))
    (try simp only [Exit.inBlock, Exit.then])
    refine bodyPost_ret (results_tmp (by rfl) _ _ _) (by rfl) ?_
    rw [HFZ.out]
    exact ⟨rfl, HP.out.below⟩
theorem liveUpto_range (p : Prg) (f : Fun) (r pc : Nat) (hr : r ≤ 12) : -1 ≤ liveUpto p f r pc ∧ liveUpto p f r pc ≤ 4095 := by
  unfold liveUpto
  split
  · have h1 := mskZ_range (fun r => liveB p f r pc) r
    have h2 := Nat.pow_le_pow_right (n := 2) (by decide) hr
    have e : ((2 ^ r : Nat) : Int) = 2 ^ r := by simp
    have : (2 : Int) ^ r ≤ 4096 := by rw [← e]; exact Int.ofNat_le.2 h2
    omega
  · omega
end Go.Proofs.YtceilfmfidmfpaaDoor
