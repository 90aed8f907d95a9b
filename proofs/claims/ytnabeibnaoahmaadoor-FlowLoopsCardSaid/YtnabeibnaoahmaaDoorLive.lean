/- flow.Live. -/
import Derived.Test.YtnabeibnaoahmaaDoorFlowNext
import Derived.Test.YtnabeibnaoahmaaDoorMgSureTSureSProvenProvenB4
import Derived.Test.YtnabeibnaoahmaaDoorMgReadsHReadsKReads23
set_option linter.unusedSimpArgs false
set_option linter.unusedVariables false
namespace Go.Proofs.YtnabeibnaoahmaaDoor
open Go.RowKit Plain64
attribute [local irreducible] wpList Code.wp Oper.wp
theorem proven_prgL {p : Prg} (h : proven p = 0) : prgFault p = 0 := by
  by_cases hz : prgFault p = 0
  · exact hz
  · unfold proven at h; rw [if_pos hz] at h; exact h
theorem proven_ends {p : Prg} (h : proven p = 0) {f : Fun} (hf : f ∈ p.funcs) : endsAt f = false := by
  have h0 := proven_prgL h
  unfold proven at h
  rw [if_neg (by simpa using h0)] at h
  have h1 := firstZ_eq_zero.1 h (provenF p f) (List.mem_map_of_mem hf)
  unfold provenF at h1
  split at h1
  · cases h1
  · split at h1
    · cases h1
    · rename_i h2; simpa using h2
theorem insR_of {p : Prg} {f : Fun} {funcs : Nat} (ok : OkF f funcs) : ∀ x ∈ f.code, InsR p x := fun x hx => ⟨readsL_len p x, readsL_in p x (ok.ins x hx), (ok.ins x hx).dst⟩
theorem sure_take (f : Fun) (q : Nat) (h : q < f.code.length) : ((sureL f).take f.code.length)[q]? = some (sureUpto f 12 q) := by
  rw [List.getElem?_take_of_lt h, sureL_at f q (by omega)]
theorem sureAt_upto (f : Fun) (q : Nat) (h : q < f.code.length) : SureAt f q ↔ 0 ≤ sureUpto f 12 q := by
  unfold SureAt; rw [List.getD_eq_getElem?_getD, sureL_at f q (by omega)]; rfl
theorem liveAns_in {p : Prg} (h : proven p = 0) {k : Nat} {f : Fun} (hf : p.funcs[k]? = some f) : liveAns p (k : Int) = (liveL p f, 0) := by
  unfold liveAns
  rw [if_neg (by simpa using h), if_neg (by omega), Int.toNat_natCast, hf]
theorem liveAns_bad {p : Prg} (h : proven p ≠ 0) (fn : Int) : liveAns p fn = ([], proven p) := by unfold liveAns; rw [if_pos h]
theorem liveAns_out {p : Prg} (h : proven p = 0) {fn : Int} (hf : fn < 0 ∨ (p.funcs.length : Int) ≤ fn) : liveAns p fn = ([], 2) := by
  unfold liveAns
  rw [if_neg (by simpa using h)]
  by_cases h0 : fn < 0
  · rw [if_pos h0]
  · rw [if_neg h0, List.getElem?_eq_none (by omega)]
/-- The last loop: what is not reached gets -1. -/
structure LvFin (p : Prg) (f : Fun) (os ts : List Int) (j : Nat) : Prop where
  len : ts.length = f.code.length
  at_ : ∀ q, q < f.code.length → ts[q]? = some (if q < j then liveUpto p f 12 q else os.getD q 0)
theorem LvFin.start {p : Prg} {f : Fun} {os : List Int} (h : os.length = f.code.length) : LvFin p f os os 0 :=
  ⟨h, fun q hq => by rw [if_neg (by omega), List.getD_eq_getElem?_getD, List.getElem?_eq_getElem (by omega)]; rfl⟩
theorem LvFin.keep {p : Prg} {f : Fun} {os ts : List Int} {j : Nat} (h : LvFin p f os ts j) (hj : os.getD j 0 = liveUpto p f 12 j) : LvFin p f os ts (j + 1) :=
  ⟨h.len, fun q hq => by
    rw [h.at_ q hq]
    by_cases e : q < j
    · rw [if_pos e, if_pos (by omega)]
    · by_cases e2 : q = j
      · subst e2; rw [if_neg e, if_pos (by omega), hj]
      · rw [if_neg e, if_neg (by omega)]⟩
theorem LvFin.set {p : Prg} {f : Fun} {os ts : List Int} {j : Nat} (h : LvFin p f os ts j) (hn : ¬ SureAt f j) : LvFin p f os (ts.set j (-1)) (j + 1) :=
  ⟨by simpa using h.len, fun q hq => by
    by_cases e2 : j = q
    · subst e2
      rw [List.getElem?_set_self (by rw [h.len]; exact hq), if_pos (by omega)]
      unfold liveUpto; rw [if_neg hn]
    · rw [List.getElem?_set_ne e2, h.at_ q hq]
      by_cases e : q < j
      · rw [if_pos e, if_pos (by omega)]
      · rw [if_neg e, if_neg (by omega)]⟩
theorem LvFin.done {p : Prg} {f : Fun} {os ts : List Int} (h : LvFin p f os ts f.code.length) : ts = liveL p f := by
  apply List.ext_getElem?
  intro q
  by_cases hq : q < f.code.length
  · rw [h.at_ q hq, if_pos hq, liveL, List.getElem?_map, List.getElem?_range hq]; rfl
  · rw [List.getElem?_eq_none (by rw [h.len]; omega), List.getElem?_eq_none (by rw [liveL_len]; omega)]
theorem readsAns_in {p : Prg} (h : prgFault p = 0) {k q : Nat} {f : Fun} {x : Ins} (hf : p.funcs[k]? = some f) (hx : f.code[q]? = some x) : readsAns p (k : Int) (q : Int) = (bitsL (readsL p x), setM x, 0) := by
  unfold readsAns
  rw [if_neg (by simpa using h), Int.toNat_natCast, hf]
  simp only [Int.toNat_natCast, hx]
  rw [if_neg (by omega)]
  rfl
/-- What a round of the outer loop has done so far. -/
structure LvRnd (p : Prg) (f : Fun) (os os' : List Int) (b : Bool) : Prop where
  inv : LiveInv p f os'
  no : b = false → os' = os
  yes : b = true → nuZ os' + 1 ≤ nuZ os
set_option maxRecDepth 100000 in
set_option maxHeartbeats 4000000 in
theorem Live_any (p : Prg) (u : Value) (fn : Int) (w : World) (hp : Lay.rep w (Lt w.heap.size) p [u]) (hh : Has w) :
    Calls Tryd.prog 8 #[.agg #[u], .int .i64 fn] w fun e w' => ∃ v, e = .returned (.tuple #[v, .int .i64 (liveAns p fn).2]) ∧ Lay.rep w' (Fresh w w') (liveAns p fn).1 [v] ∧ Below w.heap.size w w' := by
  obtain ⟨A, c, rfl, hc, hm, hx⟩ := rep_prg_at hp
  unfold maxLen at hm
  have HX := Lib.hid hx
  have HR := Lib.hid hp
  have HH := Lib.hid hh
  clear hx hp hh
  obtain ⟨i_int, hi_int, hz_int, hs_int, hy_int⟩ := info_parts info_int
  have HP := Lib.hid (Hp.start w)
  by_cases hz : proven p = 0
  · have hpf := proven_prgL hz
    have ok := okP_of hpf
    have HOK := Lib.hid ok
    obtain ⟨n1, n2⟩ := ok.len
    clear ok
    have HZ := Lib.hid hz
    by_cases hfn : 0 ≤ fn ∧ fn < p.funcs.length
    · obtain ⟨f1, f2⟩ := hfn
      obtain ⟨k, rfl⟩ := Int.eq_ofNat_of_zero_le f1
      have hkl : k < p.funcs.length := by omega
      obtain ⟨ad, v, rfl, hab, hat, hcode⟩ := HX.out k hkl
      obtain ⟨f, hf⟩ : ∃ f, p.funcs[k] = f := ⟨_, rfl⟩
      rw [hf] at hat hcode
      have hfm : f ∈ p.funcs := hf ▸ List.getElem_mem hkl
      have hfk : p.funcs[k]? = some f := by rw [← hf, List.getElem?_eq_getElem hkl]
      have HFK := Lib.hid hfk
      have HANS := Lib.hid (liveAns_in hz hfk)
      have HSA := Lib.hid (sureAns_in hpf hfk)
      have HOF := Lib.hid (HOK.out.fns f hfm)
      have HEN := Lib.hid (proven_ends hz hfm)
      have HIR := Lib.hid (insR_of (p := p) HOF.out)
      have HPF := Lib.hid hpf
      have HC := Lib.hid hcode
      obtain ⟨A2, c2, rfl, hc2, hm2, hx2⟩ := rep_code hcode
      unfold maxLen at hm2
      have HX2 := Lib.hid hx2
      obtain ⟨l1, l2⟩ := HOF.out.len
      have HAT := Lib.hid hat
      clear hz hpf hf hfm hfk hx2 hcode hat
      rw [HANS.out]
      go_enter Tryd.func8, Tryd.ntmps8
      go_upto_region 9 with (first | (refine wpList_box_hp (o := ⟨some 2, _, _, _, _, _⟩) rfl _ _ rfl HP.out [_] rfl ?_; clear HP; intro g2 w2 HP; replace HP := Lib.hid HP) | (refine wpList_ldR0 rfl 24 _ rfl HP.out rfl Tryd.underlying24 rfl (by kernel_rfl) ?_) | (go_at_call 25; refine (proofCheck_any p _ _ (HP.out.rep (F := ⟨w, Lt w.heap.size⟩) (by simp) HR.out) (HH.out.keep HP.out.below rfl)).mono ?_; rintro e w4 ⟨rfl, hb⟩; replace HP := Lib.hid (HP.out.call0 hb); clear hb; rw [HZ.out]) | (go_at_call 26; refine (Sure_any p _ _ _ (HP.out.rep (F := ⟨w, Lt w.heap.size⟩) (by simp) HR.out) (HH.out.keep HP.out.below rfl)).mono ?_; rintro e w5 ⟨v5, rfl, hv5, hb⟩; replace HP := Lib.hid (HP.out.call hb); clear hb; rw [HSA.out] at hv5; rw [HSA.out]; have HV5 := Lib.hid hv5; clear hv5) | (refine wpList_alloc_hp (o := ⟨some 9, _, _, _, _, _⟩) rfl _ rfl HP.out (.agg #[.int .i64 0, .int .i64 0, .slice none 0 0]) (by kernel_rfl) [_, _, _] rfl ?_; clear HP; intro g9 w9 HP; replace HP := Lib.hid HP) | (refine wpList_stR0 rfl 57 _ _ rfl HP.out rfl (cs' := [_, _, _]) rfl rfl (by simp [Value.oneCell']) (by kernel_rfl) ?_; clear HP; intro wst HP; replace HP := Lib.hid HP) | (refine wpList_ld0 rfl 22 _ rfl HP.out rfl rfl Tryd.underlying22 rfl ?_) | (refine wpList_ld1 rfl 22 _ rfl HP.out rfl rfl Tryd.underlying22 rfl ?_) | (refine wpList_ld0 rfl 55 _ rfl HP.out rfl rfl Tryd.underlying55 rfl ?_) | (refine wpList_ld1 rfl 55 _ rfl HP.out rfl rfl Tryd.underlying55 rfl ?_) | (refine wpList_load_at rfl 57 _ rfl _ rfl _ _ (HP.out.at_ (F := ⟨w, Lt w.heap.size⟩) (by simp) HAT.out (by rw [block_of_add]; exact hab)) Tryd.underlying57 rfl (by kernel_rfl) ?_) | (refine wpList_make_hp (o := ⟨some 42, _, _, _, _, _⟩) rfl _ _ _ rfl _ i_int (.int .i64 0) Tryd.underlying25 hi_int hz_int rfl hs_int f.code.length rfl rfl (by rw [hy_int]; omega) (by unfold maxLen; omega) HP.out ?_; clear HP; intro go wo0 HP; replace HP := Lib.hid HP))
      rw [← List.map_replicate] at HP
      obtain ⟨G5, HP, HS5⟩ : ∃ G : Fro, Hid (Hp w [G, ⟨w, Lt w.heap.size⟩] [.blk go 3 (List.map (Value.int .i64) (List.replicate f.code.length 0)), .blk g9 57 [.int .i64 f.params, .int .i64 f.regs, .slice A2 f.code.length c2], .blk g2 24 [.slice (some ad) p.funcs.length c]] _) ∧ Hid (Lay.rep G.w G.S ((sureL f).take f.code.length) [v5]) := ⟨_, HP, HV5⟩
      clear HV5
      obtain ⟨A5, c5, rfl, hc5, hm5, -⟩ := rep_ints_at HS5.out
      have hsl : ((sureL f).take f.code.length).length = f.code.length := by rw [List.length_take, sureL_len]; omega
      rw [hsl] at HS5 hc5
      simp only [hsl]
      unfold maxLen at hm5
      (try simp only [Act.put, List.setIfInBounds_toArray, List.set_cons_zero, List.set_cons_succ])
      obtain ⟨os0, hos0⟩ : ∃ os0, List.replicate f.code.length (0 : Int) = os0 := ⟨_, rfl⟩
      have HI0 := Lib.hid (show LiveInv p f os0 from hos0 ▸ live_start p f)
      rw [hos0] at HP
      clear hos0
      go_wp2
      go_loopg [11] (2 * nuZ os0 + 1) (fun k' v wr => ∃ (b : Bool) (os : List Int), v = .bool b ∧ Hid (LiveInv p f os ∧ (b = false → ∀ q, q < f.code.length → LClosed p f os q) ∧ k' = 2 * nuZ os + b.toNat) ∧ Hid (Hp w [G5, ⟨w, Lt w.heap.size⟩] [.blk go 3 (List.map (Value.int .i64) os), .blk g9 57 [.int .i64 f.params, .int .i64 f.regs, .slice A2 f.code.length c2], .blk g2 24 [.slice (some ad) p.funcs.length c]] wr))
      case atStart => exact ⟨true, os0, rfl, Lib.hid ⟨HI0.out, fun e => (by cases e), rfl⟩, HP⟩
      case round =>
        clear HP HI0
        obtain ⟨b, os, rfl, HB, HP⟩ := hrel
        obtain ⟨wo, rfl⟩ : ∃ wo : World, wo = wr := ⟨_, rfl⟩
        cases b
        · have HCL := Lib.hid (HB.out.2.1 rfl)
          have HIV := Lib.hid HB.out.1
          clear HB
          go_upto_region 27 with fail
          go_wp2
          have HF0 := Lib.hid (LvFin.start (p := p) HIV.out.len)
          go_loopw [97] (fun i wr => ∃ (j : Nat) (ts : List Int), j ≤ f.code.length ∧ i = .int .i64 j ∧ Hid (LvFin p f os ts j) ∧ Hid (Hp w [G5, ⟨w, Lt w.heap.size⟩] [.blk go 3 (List.map (Value.int .i64) ts), .blk g9 57 [.int .i64 f.params, .int .i64 f.regs, .slice A2 f.code.length c2], .blk g2 24 [.slice (some ad) p.funcs.length c]] wr)) (fun i _ => f.code.length - (intOf i).toNat)
          case atStart => exact ⟨0, os, by omega, rfl, HF0, HP⟩
          case round =>
            clear HP HF0
            obtain ⟨j, ts, hj, rfl, HF, HP⟩ := hrel
            obtain ⟨wi, rfl⟩ : ∃ wi : World, wi = wr := ⟨_, rfl⟩
            by_cases hjl : j < f.code.length
            · have hjl2 : (j : Int) < (f.code.length : Int) := by omega
              have hj0 : (0 : Int) ≤ (j : Int) := by omega
              obtain ⟨A7, c7, e7, -, -, hx7⟩ := rep_ints_at (HP.out.rep (F := G5) (by simp) HS5.out)
              obtain ⟨a7, rfl, -, hcs⟩ := hx7 j (by rw [hsl]; exact hjl)
              clear hx7
              obtain rfl : A5 = some a7 := (Value.slice.inj e7).1
              clear e7
              obtain ⟨sq, hsq⟩ : ∃ s, sureUpto f 12 j = s := ⟨_, rfl⟩
              replace hcs := hcs.trans (show some (Value.int IntKind.i64 _) = some (.int .i64 sq) by rw [← hsq]; congr 2; have h1 := sure_take f j hjl; rw [List.getElem?_eq_getElem (by rw [hsl]; exact hjl)] at h1; exact Option.some.inj h1)
              by_cases hs : sq < 0
              · have HNS := Lib.hid (show ¬ SureAt f j by rw [sureAt_upto f j hjl, hsq]; omega)
                have hsb : decide (sq < 0) = true := decide_eq_true hs
                have hjt : j < ts.length := by rw [HF.out.len]; exact hjl
                clear hs hsq
                go_wp2_with (first | (refine wpList_st0 rfl 3 _ _ rfl HP.out rfl rfl (by rw [List.length_map]; exact hjt) rfl (List.map_set ..).symm (by kernel_rfl) ?_; clear HP; intro wst HP; replace HP := Lib.hid HP))
                go_roundw
                case rel => exact ⟨j + 1, ts.set j (-1), by omega, by go_num, Lib.hid (HF.out.set HNS.out), HP⟩
                case measure => simp [intOf]; omega
              · have HSS := Lib.hid (show SureAt f j by rw [sureAt_upto f j hjl, hsq]; omega)
                have hsb : decide (sq < 0) = false := decide_eq_false hs
                clear hs hsq
                go_wp2
                go_roundw
                case rel => exact ⟨j + 1, ts, by omega, by go_num, Lib.hid (HF.out.keep (by obtain ⟨z, h1, h2⟩ := live_end HIV.out HIR.out HCL.out hjl; rw [List.getD_eq_getElem?_getD, h1]; exact h2 HSS.out)), HP⟩
                case measure => simp [intOf]; omega
            · obtain rfl : j = f.code.length := by omega
              go_wp2
              (try simp only [Exit.inBlock, Exit.then])
              refine bodyPost_ret (results_tmp2 (by rfl) _ _ _) (by rfl) ?_
              exact ⟨_, rfl, HP.out.ints (.head _) (by rw [HF.out.done]) (by rw [liveL_len]) (by unfold maxLen; omega), HP.out.below⟩
        · go_upto_region 13 with (first | (refine wpList_ld0 rfl 55 _ rfl HP.out rfl rfl Tryd.underlying55 rfl ?_) | (refine wpList_ld1 rfl 55 _ rfl HP.out rfl rfl Tryd.underlying55 rfl ?_))
          (try simp only [Act.put, List.setIfInBounds_toArray, List.set_cons_zero, List.set_cons_succ])
          go_wp2
          go_loopw [11, 12] (fun v i wr => ∃ (b' : Bool) (os' : List Int) (m : Nat), m ≤ f.code.length ∧ v = .bool b' ∧ i = .int .i64 ((m : Int) - 1) ∧ Hid (LvRnd p f os os' b') ∧ Hid (b' = false → ∀ q, m ≤ q → q < f.code.length → LClosed p f os' q) ∧ Hid (Hp w [G5, ⟨w, Lt w.heap.size⟩] [.blk go 3 (List.map (Value.int .i64) os'), .blk g9 57 [.int .i64 f.params, .int .i64 f.regs, .slice A2 f.code.length c2], .blk g2 24 [.slice (some ad) p.funcs.length c]] wr)) (fun _ i _ => (intOf i + 1).toNat)
          case atStart => exact ⟨false, os, f.code.length, by omega, rfl, by go_num, Lib.hid ⟨HB.out.1, fun _ => rfl, fun e => (by cases e)⟩, Lib.hid (fun _ q h1 h2 => by omega), HP⟩
          case round =>
            clear HP
            obtain ⟨b', os', m, hm9, rfl, rfl, HRN, HCQ, HP⟩ := hrel
            obtain ⟨wi, rfl⟩ : ∃ wi : World, wi = wr := ⟨_, rfl⟩
            cases m with
            | zero =>
              simp only [show ((0 : Nat) : Int) - 1 = -1 from rfl]
              go_wp2
              have HBB := HB.out
              go_roundg (2 * nuZ os' + b'.toNat)
              case measure =>
                have h1 := HBB.2.2
                rw [h1]
                cases b'
                · have := HRN.out.no rfl
                  rw [this]; simp
                · have := HRN.out.yes rfl
                  simp; omega
              case rel => exact ⟨b', os', rfl, Lib.hid ⟨HRN.out.inv, fun e q hq => HCQ.out e q (by omega) hq, rfl⟩, HP⟩
            | succ q =>
              have hq : q < f.code.length := by omega
              have hq2 : (q : Int) < (f.code.length : Int) := by omega
              have hq0 : (0 : Int) ≤ (q : Int) := by omega
              simp only [show ((q + 1 : Nat) : Int) - 1 = (q : Int) by omega]
              obtain ⟨x, hxx⟩ : ∃ x, f.code[q] = x := ⟨_, rfl⟩
              have HXX := Lib.hid hxx
              have HXS := Lib.hid (show f.code[q]? = some x by rw [← hxx, List.getElem?_eq_getElem hq])
              have HXR := Lib.hid (HIR.out x (hxx ▸ List.getElem_mem hq))
              clear hxx
              obtain ⟨A7, c7, e7, -, -, hx7⟩ := rep_ints_at (HP.out.rep (F := G5) (by simp) HS5.out)
              obtain ⟨a7, rfl, -, hcs⟩ := hx7 q (by rw [hsl]; exact hq)
              clear hx7
              obtain rfl : A5 = some a7 := (Value.slice.inj e7).1
              clear e7
              obtain ⟨sq, hsq⟩ : ∃ s, sureUpto f 12 q = s := ⟨_, rfl⟩
              replace hcs := hcs.trans (show some (Value.int IntKind.i64 _) = some (.int .i64 sq) by rw [← hsq]; congr 2; have h1 := sure_take f q hq; rw [List.getElem?_eq_getElem (by rw [hsl]; exact hq)] at h1; exact Option.some.inj h1)
              by_cases hs : sq < 0
              · have HNS := Lib.hid (show ¬ SureAt f q by rw [sureAt_upto f q hq, hsq]; omega)
                have hsb : decide (sq < 0) = true := decide_eq_true hs
                clear hs hsq
                go_wp2
                go_roundw
                case rel =>
                  refine ⟨b', os', q, by omega, rfl, by go_num, HRN, Lib.hid fun e r h1 h2 => ?_, HP⟩
                  by_cases e3 : r = q
                  · subst e3; intro y z _ _ hss; exact absurd hss HNS.out
                  · exact HCQ.out e r (by omega) h2
                case measure => first | (simp [intOf]; done) | (simp [intOf]; omega)
              · have HSS := Lib.hid (show SureAt f q by rw [sureAt_upto f q hq, hsq]; omega)
                have hsb : decide (sq < 0) = false := decide_eq_false hs
                clear hs hsq
                go_upto_region 18 with (first | (refine wpList_ldR0 rfl 57 _ rfl HP.out rfl Tryd.underlying57 rfl (by kernel_rfl) ?_) | (refine wpList_ldR1 rfl 57 _ rfl HP.out rfl Tryd.underlying57 rfl (by kernel_rfl) ?_) | (go_at_call 27; refine (flowNext_any f _ q _ (HP.out.rep (F := ⟨w, Lt w.heap.size⟩) (by simp) HC.out) hq).mono ?_; rintro e w6 ⟨v6, rfl, hv6, hb⟩; replace HP := Lib.hid (HP.out.call hb); rw [HXX.out] at hv6; obtain ⟨A6, c6, rfl, hc6, hm6, -⟩ := rep_ints_at hv6; unfold maxLen at hm6; have HV6 := Lib.hid hv6; clear hb hv6))
                obtain ⟨l, hl⟩ : ∃ l, nxtS x q = l := ⟨_, rfl⟩
                have HNM := Lib.hid (fun n (hn : n ∈ l) => HSS.out.nextLt HOF.out HEN.out HXS.out (mem_nxtS.1 (hl ▸ hn)))
                have hl2 := nxtS_len x q
                rw [hl] at HV6 hl2 hc6
                have HL := Lib.hid hl
                simp only [hl]
                clear hl
                obtain ⟨G6, HP, HS6⟩ : ∃ G : Fro, Hid (Hp w [G, G5, ⟨w, Lt w.heap.size⟩] [.blk go 3 (List.map (Value.int .i64) os'), .blk g9 57 [.int .i64 f.params, .int .i64 f.regs, .slice A2 f.code.length c2], .blk g2 24 [.slice (some ad) p.funcs.length c]] _) ∧ Hid (Lay.rep G.w G.S l [.slice A6 l.length c6]) := ⟨_, HP, HV6⟩
                clear HV6
                (try simp only [Act.put, List.setIfInBounds_toArray, List.set_cons_zero, List.set_cons_succ])
                have HRA := Lib.hid (readsAns_in HPF.out HFK.out HXS.out)
                go_loopw [13, 61] (fun bv iv wr => ∃ (j : Nat), j ≤ l.length ∧ iv = .int .i64 j ∧ bv = .int .i64 (orL os' (l.take j) 0) ∧ Hid (Hp w [G6, G5, ⟨w, Lt w.heap.size⟩] [.blk go 3 (List.map (Value.int .i64) os'), .blk g9 57 [.int .i64 f.params, .int .i64 f.regs, .slice A2 f.code.length c2], .blk g2 24 [.slice (some ad) p.funcs.length c]] wr)) (fun _ i _ => l.length - (intOf i).toNat)
                case atStart => exact ⟨0, by omega, rfl, rfl, HP⟩
                case round =>
                  clear HP
                  obtain ⟨j, hj, rfl, rfl, HP⟩ := hrel
                  obtain ⟨wk, rfl⟩ : ∃ wk : World, wk = wr := ⟨_, rfl⟩
                  by_cases hjl : j < l.length
                  · have hjl2 : (j : Int) < (l.length : Int) := by omega
                    obtain ⟨A8, c8, e8, -, -, hx8⟩ := rep_ints_at (HP.out.rep (F := G6) (by simp) HS6.out)
                    obtain ⟨a8, rfl, -, hcl⟩ := hx8 j hjl
                    clear hx8
                    obtain rfl : A6 = some a8 := (Value.slice.inj e8).1
                    clear e8
                    obtain ⟨n, hn⟩ : ∃ n, l[j] = n := ⟨_, rfl⟩
                    have hnn := HNM.out n (hn ▸ List.getElem_mem hjl)
                    obtain ⟨t, rfl⟩ := Int.eq_ofNat_of_zero_le hnn.2.1
                    have htl : t < f.code.length := by have := hnn.2.2; omega
                    have htl2 : (t : Int) < (f.code.length : Int) := by omega
                    have ht0 : (0 : Int) ≤ (t : Int) := by omega
                    replace hcl := hcl.trans (congrArg (fun z => some (Value.int IntKind.i64 z)) hn)
                    obtain ⟨z, hz⟩ : ∃ z, os'[t]? = some z := ⟨_, List.getElem?_eq_getElem (by rw [HRN.out.inv.len]; exact htl)⟩
                    have HOZ := Lib.hid (show (List.map (Value.int .i64) os')[t]? = some (.int .i64 z) by rw [List.getElem?_map, hz]; rfl)
                    have HST := Lib.hid (show orL os' (l.take (j + 1)) 0 = bits .or .i64 (orL os' (l.take j) 0) z by
                      rw [List.take_add_one, List.getElem?_eq_getElem hjl, hn]
                      show orL os' (l.take j ++ [(t : Int)]) 0 = _
                      rw [orL_append, Int.toNat_natCast, List.getD_eq_getElem?_getD, hz]; rfl)
                    obtain ⟨B0, hB0⟩ : ∃ B0, orL os' (l.take j) 0 = B0 := ⟨_, rfl⟩
                    rw [hB0] at HST ⊢
                    clear hn hnn hz hB0
                    go_wp2_with (first | (refine wpList_ld0 rfl 3 _ rfl HP.out rfl HOZ.out Tryd.underlying3 rfl ?_))
                    go_roundw
                    case rel => exact ⟨j + 1, by omega, by go_num, by rw [HST.out], HP⟩
                    case measure => simp [intOf]; omega
                  · obtain rfl : j = l.length := by omega
                    rw [List.take_length]
                    obtain ⟨B, hB⟩ : ∃ B, orL os' l 0 = B := ⟨_, rfl⟩
                    obtain ⟨rd, hrd⟩ : ∃ r, bitsL (readsL p x) = r := ⟨_, rfl⟩
                    obtain ⟨sm, hsm⟩ : ∃ s, setM x = s := ⟨_, rfl⟩
                    obtain ⟨B1, e1⟩ : ∃ B1, bits .andNot .i64 B sm = B1 := ⟨_, rfl⟩
                    obtain ⟨nb, e2⟩ : ∃ nb, bits .or .i64 B1 rd = nb := ⟨_, rfl⟩
                    have HNB := Lib.hid (show liveStep p os' x q = nb by unfold liveStep; rw [← orL_next HRN.out.inv.rng, HL.out, hB, hrd, hsm, e1, e2])
                    obtain ⟨z, hz⟩ : ∃ z, os'[q]? = some z := ⟨_, List.getElem?_eq_getElem (by rw [HRN.out.inv.len]; exact hq)⟩
                    have HZQ := Lib.hid hz
                    have HOQ := Lib.hid (show (List.map (Value.int .i64) os')[q]? = some (.int .i64 z) by rw [List.getElem?_map, hz]; rfl)
                    have hqt : q < os'.length := by rw [HRN.out.inv.len]; exact hq
                    rw [hrd, hsm] at HRA
                    rw [hB]
                    clear hB hrd hsm hz
                    by_cases hne : nb = z
                    · have hb : (nb != z) = false := by simpa using hne
                      have HNE := Lib.hid hne
                      clear hne
                      go_wp2_with (first | (refine wpList_ldR0 rfl 24 _ rfl HP.out rfl Tryd.underlying24 rfl (by kernel_rfl) ?_) | (refine wpList_ldR1 rfl 24 _ rfl HP.out rfl Tryd.underlying24 rfl (by kernel_rfl) ?_) | (refine wpList_ldR2 rfl 24 _ rfl HP.out rfl Tryd.underlying24 rfl (by kernel_rfl) ?_) | (go_at_call 28; refine (Reads_any p _ _ _ _ (HP.out.rep (F := ⟨w, Lt w.heap.size⟩) (by simp) HR.out) (HH.out.keep HP.out.below rfl)).mono ?_; rintro e w8 ⟨rfl, hb⟩; replace HP := Lib.hid (HP.out.call0 hb); clear hb; rw [HRA.out]) | (refine wpList_ld0 rfl 3 _ rfl HP.out rfl HOQ.out Tryd.underlying3 rfl ?_))
                      go_roundw
                      case rel =>
                        refine ⟨b', os', q, by omega, rfl, by go_num, HRN, Lib.hid fun e r h1 h2 => ?_, Lib.hid HP.out.froDrop⟩
                        by_cases e3 : r = q
                        · subst e3; intro y z' hy hz' _
                          rw [HXS.out] at hy; cases hy
                          rw [HZQ.out] at hz'; cases hz'
                          rw [HNB.out, HNE.out]
                        · exact HCQ.out e r (by omega) h2
                      case measure => first | (simp [intOf]; done) | (simp [intOf]; omega)
                    · have hb : (nb != z) = true := by simpa using hne
                      have HU := Lib.hid (HRN.out.inv.upd HZQ.out HSS.out HXS.out HXR.out (by rw [HNB.out]; exact hne))
                      rw [HNB.out] at HU
                      clear hne
                      go_wp2_with (first | (refine wpList_ldR0 rfl 24 _ rfl HP.out rfl Tryd.underlying24 rfl (by kernel_rfl) ?_) | (refine wpList_ldR1 rfl 24 _ rfl HP.out rfl Tryd.underlying24 rfl (by kernel_rfl) ?_) | (refine wpList_ldR2 rfl 24 _ rfl HP.out rfl Tryd.underlying24 rfl (by kernel_rfl) ?_) | (go_at_call 28; refine (Reads_any p _ _ _ _ (HP.out.rep (F := ⟨w, Lt w.heap.size⟩) (by simp) HR.out) (HH.out.keep HP.out.below rfl)).mono ?_; rintro e w8 ⟨rfl, hb⟩; replace HP := Lib.hid (HP.out.call0 hb); clear hb; rw [HRA.out]) | (refine wpList_ld0 rfl 3 _ rfl HP.out rfl HOQ.out Tryd.underlying3 rfl ?_) | (refine wpList_st0 rfl 3 _ _ rfl HP.out rfl rfl (by rw [List.length_map]; exact hqt) rfl (List.map_set ..).symm (by kernel_rfl) ?_; clear HP; intro wst HP; replace HP := Lib.hid HP))
                      go_roundw
                      case rel =>
                        refine ⟨true, os'.set q nb, q, by omega, rfl, by go_num, Lib.hid ⟨HU.out.1, fun e => (by cases e), fun _ => ?_⟩, Lib.hid fun e => (by cases e), Lib.hid HP.out.froDrop⟩
                        have h1 := HU.out.2
                        cases b'
                        · rw [HRN.out.no rfl] at h1 ⊢; exact h1
                        · have := HRN.out.yes rfl; omega
                      case measure => first | (simp [intOf]; done) | (simp [intOf]; omega)
    · have HANS := Lib.hid (liveAns_out hz (fn := fn) (by omega))
      have HSA := Lib.hid (sureAns_out hpf (fn := fn) (by omega))
      clear hz hpf hfn
      rw [HANS.out]
      go_enter Tryd.func8, Tryd.ntmps8
      go_wp2_with (first | (refine wpList_box_hp (o := ⟨some 2, _, _, _, _, _⟩) rfl _ _ rfl HP.out [_] rfl ?_; clear HP; intro g2 w2 HP; replace HP := Lib.hid HP) | (refine wpList_ldR0 rfl 24 _ rfl HP.out rfl Tryd.underlying24 rfl (by kernel_rfl) ?_) | (go_at_call 25; refine (proofCheck_any p _ _ (HP.out.rep (F := ⟨w, Lt w.heap.size⟩) (by simp) HR.out) (HH.out.keep HP.out.below rfl)).mono ?_; rintro e w4 ⟨rfl, hb⟩; replace HP := Lib.hid (HP.out.call0 hb); clear hb; rw [HZ.out]) | (go_at_call 26; refine (Sure_any p _ _ _ (HP.out.rep (F := ⟨w, Lt w.heap.size⟩) (by simp) HR.out) (HH.out.keep HP.out.below rfl)).mono ?_; rintro e w5 ⟨v5, rfl, hv5, hb⟩; replace HP := Lib.hid (HP.out.call0 hb); clear hb; rw [HSA.out]; clear hv5))
      (try simp only [Exit.inBlock, Exit.then])
      refine bodyPost_ret (results_tmp2 (by rfl) _ _ _) (by rfl) ?_
      exact ⟨_, rfl, rep_ints_nil, HP.out.below⟩
  · have HANS := Lib.hid (liveAns_bad hz fn)
    obtain ⟨e0, he0⟩ : ∃ e0, proven p = e0 := ⟨_, rfl⟩
    rw [he0] at hz HANS
    have HZ := Lib.hid he0
    have hzb : (e0 != 0) = true := by simpa using hz
    clear he0 hz
    rw [HANS.out]
    go_enter Tryd.func8, Tryd.ntmps8
    go_wp2_with (first | (refine wpList_box_hp (o := ⟨some 2, _, _, _, _, _⟩) rfl _ _ rfl HP.out [_] rfl ?_; clear HP; intro g2 w2 HP; replace HP := Lib.hid HP) | (refine wpList_ldR0 rfl 24 _ rfl HP.out rfl Tryd.underlying24 rfl (by kernel_rfl) ?_) | (go_at_call 25; refine (proofCheck_any p _ _ (HP.out.rep (F := ⟨w, Lt w.heap.size⟩) (by simp) HR.out) (HH.out.keep HP.out.below rfl)).mono ?_; rintro e w4 ⟨rfl, hb⟩; replace HP := Lib.hid (HP.out.call0 hb); clear hb; rw [HZ.out]))
    (try simp only [Exit.inBlock, Exit.then])
    refine bodyPost_ret (results_tmp2 (by rfl) _ _ _) (by rfl) ?_
    exact ⟨_, rfl, rep_ints_nil, HP.out.below⟩
end Go.Proofs.YtnabeibnaoahmaaDoor
