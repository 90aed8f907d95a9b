/- proof.Sure, ref.SureOf. proof.function, proof.Check; ref.Proven. proof.Check. step.Check. -/
import Derived.Test.YtceilfmfidmfpaaDoorMgBehindWayToSureOfSure4
import Derived.Deep.RegionHeld
import Derived.Test.YtceilfmfidmfpaaDoorMgReadsWaySureLawSureRunProvenLawStateLawLiveLawBlkLawDomLawDo11
import Derived.Test.YtceilfmfidmfpaaDoorMgProfLawBlkMemReadsHReadsKTidyLaw5
import Derived.Test.YtceilfmfidmfpaaDoorMgReadsOfStateNextLawBegLawNextAnsRunLawRunLawBBegRun8
set_option linter.unusedSimpArgs false
set_option linter.unusedVariables false
namespace Go.Proofs.YtceilfmfidmfpaaDoor
open Go.RowKit Plain64
attribute [local irreducible] wpList Code.wp Oper.wp
/-- P3.2, at every argument. -/
noncomputable def sureAns (p : Prg) (fn : Int) : List Int × Int :=
  if prgFault p ≠ 0 then ([], prgFault p) else
  if fn < 0 then ([], 2) else
  match p.funcs[fn.toNat]? with
  | none => ([], 2)
  | some f => ((sureL f).take f.code.length, 0)
theorem rep_ints_take {w : World} {S : Nat → Prop} {xs : List Int} {A : Option Addr} {m c : Nat} (h : Lay.rep w S xs [.slice A m c]) (n c' : Nat) (hn : n ≤ xs.length) (hnc : n ≤ c') (hc' : c' ≤ maxLen) : Lay.rep w S (xs.take n) [.slice A n c'] := by
  obtain ⟨A', c1, e, h1, h2, h3⟩ := h
  simp only [List.cons.injEq, and_true] at e
  cases e
  refine ⟨A, c', by rw [List.length_take, Nat.min_eq_left hn], by rw [List.length_take, Nat.min_eq_left hn]; exact hnc, hc', fun k x hx => h3 k x ?_⟩
  rw [List.getElem?_take] at hx
  split at hx
  · exact hx
  · cases hx
theorem rep_ints_cap {w : World} {S : Nat → Prop} {xs : List Int} {A : Option Addr} {m c : Nat} (h : Lay.rep w S xs [.slice A m c]) : m = xs.length ∧ xs.length ≤ c ∧ c ≤ maxLen := by
  obtain ⟨A', c1, e, h1, h2, h3⟩ := h
  simp only [List.cons.injEq, and_true] at e
  cases e
  exact ⟨rfl, h1, h2⟩
theorem sureAns_bad {p : Prg} (h : prgFault p ≠ 0) (fn : Int) : sureAns p fn = ([], prgFault p) := by unfold sureAns; rw [if_pos h]
theorem sureAns_out {p : Prg} (h : prgFault p = 0) {fn : Int} (hf : fn < 0 ∨ (p.funcs.length : Int) ≤ fn) : sureAns p fn = ([], 2) := by
  unfold sureAns
  rw [if_neg (by simpa using h)]
  split
  · rfl
  · rw [List.getElem?_eq_none (by omega)]
theorem sureAns_in {p : Prg} (h : prgFault p = 0) {k : Nat} {f : Fun} (hf : p.funcs[k]? = some f) : sureAns p (k : Int) = ((sureL f).take f.code.length, 0) := by
  unfold sureAns
  rw [if_neg (by simpa using h), if_neg (by omega), Int.toNat_natCast, hf]
end Go.Proofs.YtceilfmfidmfpaaDoor
namespace Go.Proofs.YtceilfmfidmfpaaDoor
open Go.RowKit Plain64
attribute [local irreducible] wpList Code.wp Oper.wp
theorem rep_ints_some {w : World} {S : Nat → Prop} {xs : List Int} {a : Addr} {m c : Nat} (h : Lay.rep w S xs [.slice (some a) m c]) : m = xs.length ∧ xs.length ≤ c ∧ c ≤ maxLen ∧ ∀ (k : Nat) (x : Int), xs[k]? = some x → S a.block ∧ w.cell? (a.add k) = some (.int .i64 x) := by
  obtain ⟨A', c1, e, h1, h2, h3⟩ := rep_ints_at h
  cases e
  refine ⟨rfl, h1, h2, fun k x hx => ?_⟩
  have hk := (List.getElem?_eq_some_iff.1 hx).1
  obtain ⟨a', e, h4, h5⟩ := h3 k hk
  cases e
  rw [List.getElem?_eq_getElem hk] at hx
  cases hx
  exact ⟨h4, h5⟩
set_option maxRecDepth 10000 in
set_option maxHeartbeats 2000000 in
theorem function_any (p : Prg) (f : Fun) (u v : Value) (w : World) (hp : Lay.rep w (Lt w.heap.size) p [u]) (hv : Lay.rep w (Lt w.heap.size) f.code [v]) (ok : OkP p) (okf : OkF f p.funcs.length) :
    Calls Tryd.prog 43 #[.agg #[u], .agg #[.int .i64 f.params, .int .i64 f.regs, v]] w fun e w' => e = .returned (.int .i64 (provenF p f)) ∧ Below w.heap.size w w' := by
  obtain ⟨A, c, rfl, hc, hm, hx⟩ := rep_prg_at hp
  unfold maxLen at hm
  have HR := Lib.hid hp
  clear hx hp
  obtain ⟨A2, c2, rfl, hc2, hm2, hx2⟩ := rep_code hv
  unfold maxLen at hm2
  have HX2 := Lib.hid hx2
  have HV := Lib.hid hv
  clear hx2 hv
  have HOK := Lib.hid ok
  have HOF := Lib.hid okf
  obtain ⟨l1, l2⟩ := okf.len
  clear ok okf
  have HP := Lib.hid (Hp.start w)
  go_enter Tryd.func43, Tryd.ntmps43
  go_upto_region 2 with (first | (refine wpList_box_hp (o := ⟨some 2, _, _, _, _, _⟩) rfl _ _ rfl HP.out [_] rfl ?_; clear HP; intro g2 w2 HP; replace HP := Lib.hid HP) | (refine wpList_box_hp (o := ⟨some 3, _, _, _, _, _⟩) rfl _ _ rfl HP.out [_, _, _] rfl ?_; clear HP; intro g3 w3 HP; replace HP := Lib.hid HP) | (refine wpList_ldR0 rfl 47 _ rfl HP.out rfl Tryd.underlying47 rfl (by kernel_rfl) ?_) | (refine wpList_ldR1 rfl 47 _ rfl HP.out rfl Tryd.underlying47 rfl (by kernel_rfl) ?_) | (go_at_call 44; refine (sure_any f _ _ _ (HP.out.rep (F := ⟨w, Lt w.heap.size⟩) (by simp) HV.out) HOF.out).mono ?_; rintro e w5 ⟨u5, c5, rfl, hu5, hb5⟩; replace HP := Lib.hid (HP.out.call hb5); obtain ⟨-, hc5, hm5, hx5⟩ := rep_ints_some hu5; rw [sureL_len] at hc5; unfold maxLen at hm5; have HX5 := Lib.hid hx5; clear hu5 hb5 hx5))
  go_wp2_with (first | (refine wpList_ld0 rfl 45 _ rfl HP.out rfl rfl Tryd.underlying45 rfl ?_) | (refine wpList_ld1 rfl 45 _ rfl HP.out rfl rfl Tryd.underlying45 rfl ?_))
  go_loopw [13] (fun i wr => ∃ (k : Nat), k ≤ f.code.length ∧ i = .int .i64 k ∧ Hid (∀ q, q < k → unsetAt p f q = false) ∧ Hid (Hp w [{ w := w5, S := Fresh w3 w5 }, { w := w, S := Lt w.heap.size }] [Res.blk g3 47 [Value.int IntKind.i64 f.params, Value.int IntKind.i64 f.regs, Value.slice A2 f.code.length c2], Res.blk g2 24 [Value.slice A p.funcs.length c]] wr)) (fun i _ => f.code.length - (intOf i).toNat)
  case atStart => exact ⟨0, by omega, rfl, Lib.hid (fun q hq => by omega), HP⟩
  case round =>
    clear HP
    obtain ⟨k, hk, rfl, HU, HP⟩ := hrel
    obtain ⟨wo, rfl⟩ : ∃ wo : World, wo = wr := ⟨_, rfl⟩
    by_cases hlt : k < f.code.length
    · have hlt2 : (k : Int) < (f.code.length : Int) := by omega
      have hlt3 : (k : Int) < (f.code.length : Int) + 1 := by omega
      obtain ⟨a, rfl, hab, hat⟩ := HX2.out k hlt
      obtain ⟨x, hx⟩ : ∃ x, f.code[k] = x := ⟨_, rfl⟩
      rw [hx] at hat
      have HAT := Lib.hid hat
      have HXS := Lib.hid (show f.code[k]? = some x by rw [← hx, List.getElem?_eq_getElem hlt])
      have HOI := Lib.hid (HOF.out.ins x (hx ▸ List.getElem_mem hlt))
      clear hx hat
      obtain ⟨s, hs⟩ : ∃ s, (sureL f)[k]? = some s := ⟨_, List.getElem?_eq_getElem (by rw [sureL_len]; omega)⟩
      have hsr := sureL_range (List.mem_of_getElem? hs)
      obtain ⟨s1, s2⟩ := hsr
      obtain ⟨hsb, hsc⟩ := HX5.out k s hs
      have HSC := Lib.hid hsc
      have HUN := Lib.hid (unsetAt_eq (p := p) HXS.out hs)
      clear hs hsc
      go_upto_region 5 with (first | (refine wpList_ld0 rfl 45 _ rfl HP.out rfl rfl Tryd.underlying45 rfl ?_) | (refine wpList_ld1 rfl 45 _ rfl HP.out rfl rfl Tryd.underlying45 rfl ?_) | (refine wpList_ld2 rfl 45 _ rfl HP.out rfl rfl Tryd.underlying45 rfl ?_) | (refine wpList_alloc_hp (o := ⟨some 7, _, _, _, _, _⟩) rfl _ rfl HP.out (.agg #[.int .i64 0, .int .i64 0, .int .i64 0, .int .i64 0, .int .i64 0]) (by kernel_rfl) [_, _, _, _, _] rfl ?_; clear HP; intro g7 w7 HP; replace HP := Lib.hid HP) | (refine wpList_load_at rfl 56 _ rfl _ rfl _ _ (HP.out.at_ (F := ⟨w, Lt w.heap.size⟩) (by simp) HAT.out (by rw [block_of_add]; exact hab)) Tryd.underlying56 rfl (by kernel_rfl) ?_) | (refine wpList_stR0 rfl 56 _ _ rfl HP.out rfl (cs' := [_, _, _, _, _]) rfl rfl (by simp [Value.oneCell']) (by kernel_rfl) ?_; clear HP; intro wst HP; replace HP := Lib.hid HP))
      (try simp only [Act.put, List.setIfInBounds_toArray, List.set_cons_zero, List.set_cons_succ])
      have HSW := Lib.hid ((HP.out.alike (F := ⟨w5, Fresh w3 w5⟩) (.head _) (u5.add k) (by rw [block_of_add]; exact hsb)).trans HSC.out)
      have HP0 := Lib.hid HP.out.drew
      have HSD := Lib.hid ((HP0.out.alike (F := ⟨w5, Fresh w3 w5⟩) (.head _) (u5.add k) (by rw [block_of_add]; exact hsb)).trans HSC.out)
      by_cases hs0 : 0 ≤ s
      · have HS0 := Lib.hid hs0
        have hin := readsL_in p x HOI.out
        have HNE := Lib.hid (andNot_ne (readsL_len p x) hin s)
        obtain ⟨m, hm⟩ : ∃ m, bitsL (readsL p x) = m := ⟨_, rfl⟩
        have HMR := Lib.hid (bitsL_range (readsL_len p x) hin)
        go_region_held (fun w' => w'.cell? ⟨g7, 0, none⟩ = some (.int .i64 x.op) ∧ w'.cell? ⟨g7, 1, none⟩ = some (.int .i64 x.dst) ∧ w'.cell? ⟨g7, 2, none⟩ = some (.int .i64 x.a) ∧ w'.cell? ⟨g7, 3, none⟩ = some (.int .i64 x.b) ∧ w'.cell? ⟨g7, 4, none⟩ = some (.int .i64 x.imm) ∧ w'.cell? ⟨g2, 0, none⟩ = some (.slice A p.funcs.length c) ∧ w'.cell? (u5.add k) = some (.int .i64 s)) (first | exact ⟨HP1.out.cell (.head _) 0 _ rfl, HP1.out.cell (.head _) 1 _ rfl, HP1.out.cell (.head _) 2 _ rfl, HP1.out.cell (.head _) 3 _ rfl, HP1.out.cell (.head _) 4 _ rfl, HP1.out.cell (.tail _ (.tail _ (.head _))) 0 _ rfl, HSE.out⟩ | exact ⟨HP0.out.cell (.head _) 0 _ rfl, HP0.out.cell (.head _) 1 _ rfl, HP0.out.cell (.head _) 2 _ rfl, HP0.out.cell (.head _) 3 _ rfl, HP0.out.cell (.head _) 4 _ rfl, HP0.out.cell (.tail _ (.tail _ (.head _))) 0 _ rfl, HSD.out⟩) ((go_at_call 62; refine (reads_any p _ x f.code.length _ (HP0.out.rep (F := ⟨w, Lt w.heap.size⟩) (.tail _ (.head _)) HR.out) HOK.out HOI.out).mono ?_; rintro e w8 ⟨rfl, hb8⟩; have HP1 := Lib.hid (HP0.out.call0 hb8); have HSE := Lib.hid ((HP1.out.alike (F := ⟨w5, Fresh w3 w5⟩) (.head _) (u5.add k) (by rw [block_of_add]; exact hsb)).trans HSC.out); clear hb8))
        have HM := Lib.hid hm
        clear hm hin
        rw [HM.out] at HNE
        obtain ⟨bb, hbb⟩ : ∃ bb, (bits .andNot .i64 m s != 0) = bb := ⟨_, rfl⟩
        have HBB := Lib.hid hbb
        have HUK : Hid (unsetAt p f k = bb) := Lib.hid (by rw [HUN.out]; unfold unsetB; rw [decide_eq_true HS0.out, Bool.true_and, ← HNE.out, HBB.out])
        rw [hbb]
        clear hbb
        cases bb
        · go_wp2_with fail
          go_roundw
          case rel =>
            refine ⟨k + 1, by omega, by go_num, Lib.hid fun q hq => ?_, Lib.hid (Hp.drop (A := []) HP1.out)⟩
            by_cases e : q = k
            · rw [e]; exact HUK.out
            · exact HU.out q (by omega)
          case measure => simp [intOf]; omega
        · go_wp2_with fail
          go_ret
          exact ⟨ret_int (provenF_bad hlt HUK.out).symm, HP1.out.below⟩
      · have HUK : Hid (unsetAt p f k = false) := Lib.hid (by rw [HUN.out]; unfold unsetB; rw [decide_eq_false hs0]; rfl)
        have hs1 : s < 0 := by omega
        clear hs0
        have hsw := HSW.out
        have hsd : decide (0 ≤ s) = false := decide_eq_false (by omega)
        go_quiet (fail)
        go_wp2_with fail
        go_roundw
        case rel =>
          refine ⟨k + 1, by omega, by go_num, Lib.hid fun q hq => ?_, Lib.hid (Hp.drop (A := []) (HP.out.drewN nq))⟩
          by_cases e : q = k
          · rw [e]; exact HUK.out
          · exact HU.out q (by omega)
        case measure => simp [intOf]; omega
    · obtain rfl : k = f.code.length := by omega
      obtain ⟨s, hs⟩ : ∃ s, (sureL f)[f.code.length]? = some s := ⟨_, List.getElem?_eq_getElem (by rw [sureL_len]; omega)⟩
      obtain ⟨hsb, hsc⟩ := HX5.out _ s hs
      have HSW := Lib.hid ((HP.out.alike (F := ⟨w5, Fresh w3 w5⟩) (.head _) (u5.add f.code.length) (by rw [block_of_add]; exact hsb)).trans hsc)
      have HEND := Lib.hid (endsAt_eq hs)
      clear hs hsc
      have hcl := HP.out.cell (.head _) 2 _ rfl
      have hsw := HSW.out
      by_cases hs0 : 0 ≤ s
      · have HS0 := Lib.hid hs0
        go_wp2_with fail
        go_ret
        refine ⟨ret_int ?_, HP.out.below⟩
        rw [provenF_good HU.out, HEND.out, decide_eq_true HS0.out]; rfl
      · have HS0 := Lib.hid hs0
        have hs1 : s < 0 := by omega
        clear hs0
        go_wp2_with fail
        go_ret
        refine ⟨ret_int ?_, HP.out.below⟩
        rw [provenF_good HU.out, HEND.out, decide_eq_false (by have := HS0.out; omega)]; rfl
end Go.Proofs.YtceilfmfidmfpaaDoor
namespace Go.Proofs.YtceilfmfidmfpaaDoor
open Go.RowKit Plain64
attribute [local irreducible] wpList Code.wp Oper.wp
theorem proven_bad {p : Prg} (h : prgFault p ≠ 0) : proven p = prgFault p := by unfold proven; rw [if_pos h]
theorem proven_at {p : Prg} (h : prgFault p = 0) (k : Nat) (hk : k < p.funcs.length) (hz : ∀ f ∈ p.funcs.take k, provenF p f = 0) (hne : provenF p p.funcs[k] ≠ 0) : proven p = provenF p p.funcs[k] := by
  unfold proven; rw [if_neg (by simpa using h)]; exact firstZ_map_at _ _ k hk hz hne
theorem proven_all {p : Prg} (h : prgFault p = 0) (hz : ∀ f ∈ p.funcs, provenF p f = 0) : proven p = 0 := by
  unfold proven; rw [if_neg (by simpa using h)]
  exact firstZ_eq_zero.2 fun y hy => by obtain ⟨f, hf, rfl⟩ := List.mem_map.1 hy; exact hz f hf
set_option maxRecDepth 10000 in
set_option maxHeartbeats 2000000 in
theorem proofCheck_any (p : Prg) (u : Value) (w : World) (hp : Lay.rep w (Lt w.heap.size) p [u]) (hh : Has w) :
    Calls Tryd.prog 24 #[.agg #[u]] w fun e w' => e = .returned (.int .i64 (proven p)) ∧ Below w.heap.size w w' := by
  obtain ⟨A, c, rfl, hc, hm, hx⟩ := rep_prg_at hp
  unfold maxLen at hm
  have HX := Lib.hid hx
  have HR := Lib.hid hp
  have HH := Lib.hid hh
  clear hx hp hh
  have HP := Lib.hid (Hp.start w)
  by_cases hz : prgFault p = 0
  · have ok := okP_of hz
    have HOK := Lib.hid ok
    obtain ⟨n1, n2⟩ := ok.len
    clear ok
    have HZ := Lib.hid hz
    clear hz
    go_enter Tryd.func24, Tryd.ntmps24
    go_wp2_with (first | (refine wpList_box_hp (o := ⟨some 1, _, _, _, _, _⟩) rfl _ _ rfl HP.out [_] rfl ?_; clear HP; intro g1 w1 HP; replace HP := Lib.hid HP) | (refine wpList_ldR0 rfl 24 _ rfl HP.out rfl Tryd.underlying24 rfl (by kernel_rfl) ?_) | (refine wpList_ld0 rfl 22 _ rfl HP.out rfl rfl Tryd.underlying22 rfl ?_) | (go_at_call 42; refine (codeCheck_any p _ _ (HP.out.rep (F := ⟨w, Lt w.heap.size⟩) (by simp) HR.out) (HH.out.keep HP.out.below rfl)).mono ?_; rintro e w4 ⟨rfl, hb⟩; replace HP := Lib.hid (HP.out.call0 hb); clear hb; rw [HZ.out]))
    go_loopw [15] (fun i wr => ∃ (k : Nat), k ≤ p.funcs.length ∧ i = .int .i64 k ∧ Hid (∀ f ∈ p.funcs.take k, provenF p f = 0) ∧ Hid (Hp w [{ w := w, S := Lt w.heap.size }] [Res.blk g1 24 [Value.slice A p.funcs.length c]] wr)) (fun i _ => p.funcs.length - (intOf i).toNat)
    case atStart => exact ⟨0, by omega, rfl, Lib.hid (fun f hf => by simp at hf), HP⟩
    case round =>
      clear HP
      obtain ⟨k, hk, rfl, HU, HP⟩ := hrel
      obtain ⟨wo, rfl⟩ : ∃ wo : World, wo = wr := ⟨_, rfl⟩
      by_cases hlt : k < p.funcs.length
      · have hlt2 : (k : Int) < (p.funcs.length : Int) := by omega
        obtain ⟨ad, v, rfl, hab, hat, hcode⟩ := HX.out k hlt
        have HBAD := Lib.hid (proven_at HZ.out k hlt HU.out)
        obtain ⟨f, hf⟩ : ∃ f, p.funcs[k] = f := ⟨_, rfl⟩
        rw [hf] at hat hcode HBAD
        have HF := Lib.hid (show p.funcs[k]? = some f by rw [← hf, List.getElem?_eq_getElem hlt])
        have HOF := Lib.hid (HOK.out.fns f (hf ▸ List.getElem_mem hlt))
        clear hf
        have HC := Lib.hid hcode
        obtain ⟨A2, c2, rfl, hc2, hm2, hx2⟩ := rep_code hcode
        unfold maxLen at hm2
        have HAT := Lib.hid hat
        clear hat hx2 hcode
        obtain ⟨e1, he1⟩ : ∃ e1, provenF p f = e1 := ⟨_, rfl⟩
        have HE1 := Lib.hid he1
        clear he1
        have HV2 := HC
        go_upto_region 7 with (first | (refine wpList_ld0 rfl 22 _ rfl HP.out rfl rfl Tryd.underlying22 rfl ?_) | (refine wpList_ld1 rfl 22 _ rfl HP.out rfl rfl Tryd.underlying22 rfl ?_) | (refine wpList_load_at rfl 47 _ rfl _ rfl _ _ (HP.out.at_ (F := ⟨w, Lt w.heap.size⟩) (by simp) HAT.out (by rw [block_of_add]; exact hab)) Tryd.underlying47 rfl (by kernel_rfl) ?_) | (refine wpList_alloc_hp (o := ⟨some 5, _, _, _, _, _⟩) rfl _ rfl HP.out (.agg #[.int .i64 0, .int .i64 0, .slice none 0 0]) (by kernel_rfl) [_, _, _] rfl ?_; clear HP; intro g5 w5 HP; replace HP := Lib.hid HP) | (refine wpList_stR0 rfl 47 _ _ rfl HP.out rfl (cs' := [_, _, _]) rfl rfl (by simp [Value.oneCell']) (by kernel_rfl) ?_; clear HP; intro wst HP; replace HP := Lib.hid HP))
        clear HV2
        by_cases he0 : e1 = 0
        · subst he0
          go_wp2_with (first | (refine wpList_ldR0 rfl 24 _ rfl HP.out rfl Tryd.underlying24 rfl (by kernel_rfl) ?_) | (refine wpList_ldR1 rfl 24 _ rfl HP.out rfl Tryd.underlying24 rfl (by kernel_rfl) ?_) | (refine wpList_ldR0 rfl 47 _ rfl HP.out rfl Tryd.underlying47 rfl (by kernel_rfl) ?_) | (refine wpList_ldR1 rfl 47 _ rfl HP.out rfl Tryd.underlying47 rfl (by kernel_rfl) ?_) | (go_at_call 43; refine (function_any p f _ _ _ (HP.out.rep (F := ⟨w, Lt w.heap.size⟩) (by simp) HR.out) (HP.out.rep (F := ⟨w, Lt w.heap.size⟩) (by simp) HC.out) HOK.out HOF.out).mono ?_; rintro e w8 ⟨rfl, hb8⟩; replace HP := Lib.hid (HP.out.call0 hb8); clear hb8; rw [HE1.out]))
          go_roundw
          case rel =>
            refine ⟨k + 1, by omega, by go_num, Lib.hid fun g hg => ?_, Lib.hid (Hp.drop (A := []) HP.out)⟩
            rw [List.take_add_one, HF.out] at hg
            rcases List.mem_append.1 hg with hg | hg
            · exact HU.out g hg
            · obtain rfl : g = f := by simpa using hg
              exact HE1.out
          case measure => simp [intOf]; omega
        · have HNE := Lib.hid he0
          have hzb : (e1 != 0) = true := by simpa using he0
          clear he0
          go_wp2_with (first | (refine wpList_ldR0 rfl 24 _ rfl HP.out rfl Tryd.underlying24 rfl (by kernel_rfl) ?_) | (refine wpList_ldR1 rfl 24 _ rfl HP.out rfl Tryd.underlying24 rfl (by kernel_rfl) ?_) | (refine wpList_ldR0 rfl 47 _ rfl HP.out rfl Tryd.underlying47 rfl (by kernel_rfl) ?_) | (refine wpList_ldR1 rfl 47 _ rfl HP.out rfl Tryd.underlying47 rfl (by kernel_rfl) ?_) | (go_at_call 43; refine (function_any p f _ _ _ (HP.out.rep (F := ⟨w, Lt w.heap.size⟩) (by simp) HR.out) (HP.out.rep (F := ⟨w, Lt w.heap.size⟩) (by simp) HC.out) HOK.out HOF.out).mono ?_; rintro e w8 ⟨rfl, hb8⟩; replace HP := Lib.hid (HP.out.call0 hb8); clear hb8; rw [HE1.out]))
          go_ret
          exact ⟨ret_int (by rw [HBAD.out (by rw [HE1.out]; exact HNE.out), HE1.out]), HP.out.below⟩
      · obtain rfl : k = p.funcs.length := by omega
        have HALL := Lib.hid (proven_all HZ.out (by have := HU.out; rwa [List.take_of_length_le (Nat.le_refl _)] at this))
        go_wp2_with fail
        go_ret
        exact ⟨ret_int HALL.out.symm, HP.out.below⟩
  · have HANS := Lib.hid (proven_bad hz)
    obtain ⟨e0, he0⟩ : ∃ e0, prgFault p = e0 := ⟨_, rfl⟩
    rw [he0] at hz HANS
    have HE0 := Lib.hid he0
    have hzb : (e0 != 0) = true := by simpa using hz
    clear he0 hz
    go_enter Tryd.func24, Tryd.ntmps24
    go_wp2_with (first | (refine wpList_box_hp (o := ⟨some 1, _, _, _, _, _⟩) rfl _ _ rfl HP.out [_] rfl ?_; clear HP; intro g1 w1 HP; replace HP := Lib.hid HP) | (refine wpList_ldR0 rfl 24 _ rfl HP.out rfl Tryd.underlying24 rfl (by kernel_rfl) ?_) | (go_at_call 42; refine (codeCheck_any p _ _ (HP.out.rep (F := ⟨w, Lt w.heap.size⟩) (by simp) HR.out) (HH.out.keep HP.out.below rfl)).mono ?_; rintro e w4 ⟨rfl, hb⟩; replace HP := Lib.hid (HP.out.call0 hb); clear hb; rw [HE0.out]))
    go_ret
    exact ⟨ret_int HANS.out.symm, HP.out.below⟩
end Go.Proofs.YtceilfmfidmfpaaDoor
namespace Go.Proofs.YtceilfmfidmfpaaDoor
open Go.RowKit Plain64
attribute [local irreducible] wpList Code.wp Oper.wp
set_option maxRecDepth 10000 in
set_option maxHeartbeats 40000000 in
theorem stepCheck_any (p : Prg) (v : Value) (s : Sta) (u e a : Value) (w : World) (hp : Lay.rep w (Lt w.heap.size) p [v]) (hf : Lay.rep w (Lt w.heap.size) s.frames [u]) (he : Lay.rep w (Lt w.heap.size) s.events [e]) (ha : Lay.rep w (Lt w.heap.size) s.answers [a]) (hh : Has w) :
    Calls Tryd.prog 23 #[.agg #[v], .agg (staCells s u e a).toArray] w fun r w' => r = .returned (.int .i64 (stateFault p s)) ∧ Below w.heap.size w w' := by
  obtain ⟨A, c, rfl, hc, hm, hx⟩ := rep_prg_at hp
  obtain ⟨A2, c2, rfl, hc2, hm2, hx2⟩ := rep_frames_at hf
  obtain ⟨A3, c3, rfl, hc3, hm3, -⟩ := rep_ints_at ha
  unfold maxLen at hm hm2 hm3
  have HX := Lib.hid hx
  have HX2 := Lib.hid hx2
  have HR := Lib.hid hp
  have HH := Lib.hid hh
  clear hx hx2 hp hh hf ha he
  unfold staCells
  have HP := Lib.hid (Hp.start w)
  by_cases hz : proven p = 0
  · have HZ := Lib.hid hz
    clear hz
    go_enter Tryd.func23, Tryd.ntmps23
    go_upto_region 2 with (first | (refine wpList_box_hp (o := ⟨some 2, _, _, _, _, _⟩) rfl _ _ rfl HP.out [_] rfl ?_; clear HP; intro g2 w2 HP; replace HP := Lib.hid HP) | (refine wpList_box_hp (o := ⟨some 3, _, _, _, _, _⟩) rfl _ _ rfl HP.out [_, _, _, _, _, _, _, _, _, _, _, _, _, _, _, _, _, _, _, _, _, _] rfl ?_; clear HP; intro g3 w3 HP; replace HP := Lib.hid HP) | (refine wpList_ldR0 rfl 24 _ rfl HP.out rfl Tryd.underlying24 rfl (by kernel_rfl) ?_) | (refine wpList_ldR1 rfl 24 _ rfl HP.out rfl Tryd.underlying24 rfl (by kernel_rfl) ?_) | (go_at_call 24; refine (proofCheck_any p _ _ (HP.out.rep (F := ⟨w, Lt w.heap.size⟩) (by simp) HR.out) (HH.out.keep HP.out.below rfl)).mono ?_; rintro e w4 ⟨rfl, hb⟩; replace HP := Lib.hid (HP.out.call0 hb); clear hb; rw [HZ.out]))
    have hc0 := HP.out.cell (.head _) 0 _ rfl
    have hc1 := HP.out.cell (.head _) 1 _ rfl
    have hcf := HP.out.cell (.head _) 2 _ rfl
    have hcu := HP.out.cell (.head _) 19 _ rfl
    have hca := HP.out.cell (.head _) 21 _ rfl
    have hcp := HP.out.cell (.tail _ (.head _)) 0 _ rfl
    rcases head_cases s with ⟨hok, a1, a2, a3, a4, a5, a6, a7⟩ | a1 | ⟨a1, a2⟩ | ⟨a1, a2, a3⟩ | ⟨a1, a2, a3, a4⟩ | ⟨a1, a2, a3, a4, a5⟩ | ⟨a1, a2, a3, a4, a5, a6⟩ | ⟨a1, a2, a3, a4, a5, a6, a7, a8⟩ | ⟨a1, a2, a3, a4, a5, a6, a7, a8, a9⟩ | ⟨a1, a2, a3, a4, a5, a6, a7, a8⟩
    case inl =>
      have HOK2 := Lib.hid hok
      have HPR := Lib.hid (okP_of (proven_prg HZ.out))
      obtain ⟨n1, n2⟩ := HPR.out.len
      clear hok
      have e1 : decide (s.status < 0) = false := decide_eq_false (by omega)
      have e2 : decide (5 < s.status) = false := decide_eq_false (by omega)
      have e3 : decide (s.fuel < 0) = false := decide_eq_false (by omega)
      have e4 : decide (10000 < s.fuel) = false := decide_eq_false (by omega)
      have e5 : decide (8 < (s.frames.length : Int)) = false := decide_eq_false (by omega)
      have e6 : decide (100 < (s.answers.length : Int)) = false := decide_eq_false (by omega)
      rcases a7 with ⟨a7, a8⟩ | ⟨a7, a9, a8⟩
      · have b7 : (s.status != 1) = false := by rw [bne, a7]; rfl
        go_wp2_with fail
        have hl0 : (s.frames.length : Int) = 0 := by simpa using a8
        have HL0 := Lib.hid (show s.frames = [] by have : s.frames.length = 0 := by omega
                                                   exact List.length_eq_zero_iff.1 this)
        go_loopw [65] (fun i wr => i = .int .i64 0 ∧ Hid (Hp w [{ w := w, S := Lt w.heap.size }] [Res.blk g3 29 (staCells s (.slice A2 s.frames.length c2) e (.slice A3 s.answers.length c3)), Res.blk g2 24 [Value.slice A p.funcs.length c]] wr)) (fun i _ => 0)
        case atStart => exact ⟨rfl, HP⟩
        case round =>
          clear HP
          obtain ⟨rfl, HP⟩ := hrel
          have HB := Lib.hid (sf_ok HZ.out HOK2.out (FramesOk.mk (p := p) (by rw [HL0.out]; exact fun f hf => (by cases hf)) (by rw [HL0.out]; exact fun i f g h => (by simp at h))))
          go_wp2_with fail
          go_ret
          exact ⟨ret_int HB.out.symm, HP.out.below⟩
      · have b7 : (s.status != 1) = true := by rw [bne, a7]; rfl
        have b9 : (s.value != 0) = false := by rw [bne, a9]; rfl
        go_wp2_with fail
        go_loopw [65] (fun i wr => ∃ (k : Nat), k ≤ s.frames.length ∧ i = .int .i64 k ∧ Hid (∀ f ∈ s.frames.take k, ownF p f) ∧ Hid (∀ (i : Nat) f g, i < k → s.frames[i]? = some f → s.frames[i + 1]? = some g → linkF p f g) ∧ Hid (Hp w [{ w := w, S := Lt w.heap.size }] [Res.blk g3 29 (staCells s (.slice A2 s.frames.length c2) e (.slice A3 s.answers.length c3)), Res.blk g2 24 [Value.slice A p.funcs.length c]] wr)) (fun i _ => s.frames.length - (intOf i).toNat)
        case atStart => exact ⟨0, by omega, rfl, Lib.hid (fun f hf => by simp at hf), Lib.hid (fun i f g h => by omega), HP⟩
        case round =>
          clear HP hc0 hc1 hcf hcu hca hcp e1 e2 e3 e4 e5 e6 b7 b9 a1 a2 a3 a4 a6 a7 a8 a9
          obtain ⟨k, hk, rfl, HOW, HLK, HP⟩ := hrel
          obtain ⟨wo, rfl⟩ : ∃ wo : World, wo = wr := ⟨_, rfl⟩
          by_cases hlt : k < s.frames.length
          · have hlt2 : (k : Int) < (s.frames.length : Int) := by omega
            obtain ⟨a2', rfl, hab, hat⟩ := HX2.out k hlt
            obtain ⟨x, hx⟩ : ∃ x, s.frames[k] = x := ⟨_, rfl⟩
            rw [hx] at hat
            have HXK := Lib.hid (show s.frames[k]? = some x by rw [← hx, List.getElem?_eq_getElem hlt])
            unfold frmCells at hat
            have HAT := Lib.hid (HP.out.at_ (F := ⟨w, Lt w.heap.size⟩) (.head _) hat (by rw [block_of_add]; exact hab))
            clear hx hat
            go_upto_region 11 with (first | (refine wpList_load_at rfl 39 _ rfl _ rfl _ _ HAT.out Tryd.underlying39 rfl (by kernel_rfl) ?_) | (refine wpList_alloc_hp (o := ⟨some 7, _, _, _, _, _⟩) rfl _ rfl HP.out (.agg #[.int .i64 0, .int .i64 0, .int .i64 0, .int .i64 0, .int .i64 0, .int .i64 0, .int .i64 0, .int .i64 0, .int .i64 0, .int .i64 0, .int .i64 0, .int .i64 0, .int .i64 0, .int .i64 0]) (by kernel_rfl) [_, _, _, _, _, _, _, _, _, _, _, _, _, _] rfl ?_; clear HP; intro g7 w7 HP; replace HP := Lib.hid HP) | (refine wpList_stR0 rfl 39 _ _ rfl HP.out rfl (cs' := [_, _, _, _, _, _, _, _, _, _, _, _, _, _]) rfl rfl (by simp [Value.oneCell']) (by kernel_rfl) ?_; clear HP; intro wst HP; replace HP := Lib.hid HP))
            (try simp only [Act.put, List.setIfInBounds_toArray, List.set_cons_zero, List.set_cons_succ])
            have hcfn := HP.out.cell (.head _) 0 _ rfl
            have hcpc := HP.out.cell (.head _) 1 _ rfl
            have hcf := HP.out.cell (.tail _ (.head _)) 2 _ rfl
            have hcp := HP.out.cell (.tail _ (.tail _ (.head _))) 0 _ rfl
            have hxm := List.mem_of_getElem? HXK.out
            by_cases hfn : 0 ≤ x.fn ∧ x.fn < p.funcs.length
            · obtain ⟨f1, f2⟩ := hfn
              obtain ⟨n, hn⟩ := Int.eq_ofNat_of_zero_le f1
              have hnl : n < p.funcs.length := by omega
              obtain ⟨ad, v, rfl, hab3, hat3, hcode⟩ := HX.out n hnl
              obtain ⟨f0, hf0⟩ : ∃ f0, p.funcs[n] = f0 := ⟨_, rfl⟩
              rw [hf0] at hat3 hcode
              have HF := Lib.hid (show p.funcs[n]? = some f0 by rw [← hf0, List.getElem?_eq_getElem hnl])
              have HFC := Lib.hid (show codeOf p x.fn = f0.code by rw [hn]; exact codeOf_eq HF.out)
              obtain ⟨A4, c4, rfl, hc4, hm4, hx4⟩ := rep_code hcode
              unfold maxLen at hm4
              have HX4 := Lib.hid hx4
              have hcl := (HP.out.at_ (F := ⟨w, Lt w.heap.size⟩) (.head _) hat3 (by rw [block_of_add]; exact hab3)).fld 1 rfl
              have HN := Lib.hid hn
              rw [hn] at hcfn f1 f2
              clear hf0 hat3 hcode hx4 hn
              by_cases hpc : 0 ≤ x.pc ∧ x.pc < f0.code.length
              · obtain ⟨q1, q2⟩ := hpc
                obtain ⟨j, hj⟩ := Int.eq_ofNat_of_zero_le q1
                have hjl : j < f0.code.length := by omega
                obtain ⟨a4, rfl, hab4, hat4⟩ := HX4.out j hjl
                obtain ⟨y, hy⟩ : ∃ y, f0.code[j] = y := ⟨_, rfl⟩
                rw [hy] at hat4
                have HY := Lib.hid (insAt_eq HN.out hj HF.out (show f0.code[j]? = some y by rw [← hy, List.getElem?_eq_getElem hjl]))
                have hata := HP.out.at_ (F := ⟨w, Lt w.heap.size⟩) (.head _) hat4 (by rw [block_of_add]; exact hab4)
                have hyop := hata.fld0 rfl
                have hyim := hata.fld 3 rfl
                have HOWN := Lib.hid (show ownF p x from ⟨by rw [HN.out]; omega, by rw [HN.out]; omega, by omega, by rw [HFC.out]; omega⟩)
                have HJ := Lib.hid hj
                rw [hj] at hcpc q1 q2
                have HXM := Lib.hid hxm
                clear hy hat4 hata hj hxm
                go_upto_region 14 with fail
                have hstep : ∀ f ∈ s.frames.take (k + 1), ownF p f := fun f hf => by
                  rw [List.take_add_one, HXK.out] at hf
                  rcases List.mem_append.1 hf with hf | hf
                  · exact HOW.out f hf
                  · obtain rfl : f = x := by simpa using hf
                    exact HOWN.out
                have HSTEP := Lib.hid hstep
                clear hstep
                obtain ⟨k1, hk1⟩ : ∃ k1, k + 1 = k1 := ⟨_, rfl⟩
                have HW1 := Lib.hid (wrapI_succ k k1 hk1 (by omega))
                have HW2 := Lib.hid (wrap64_succ k k1 hk1 (by omega))
                have HK1 := Lib.hid hk1
                by_cases hnx : k + 1 < s.frames.length
                · rw [hk1] at hnx
                  have hnx2 : (k1 : Int) < (s.frames.length : Int) := by omega
                  have hnx3 : (0 : Int) ≤ (k1 : Int) := by omega
                  obtain ⟨a5', ha5, hab5, hat5⟩ := HX2.out k1 hnx
                  cases ha5
                  obtain ⟨g, hg⟩ : ∃ g, s.frames[k1] = g := ⟨_, rfl⟩
                  rw [hg] at hat5
                  have HG := Lib.hid (show s.frames[k1]? = some g by rw [← hg, List.getElem?_eq_getElem hnx])
                  unfold frmCells at hat5
                  have hd1 : decide ((j : Int) < 0) = false := decide_eq_false (by omega)
                  have hd2 : decide (f0.code.length ≤ j) = false := decide_eq_false (by omega)
                  have hd3 : decide (k1 < s.frames.length) = true := decide_eq_true (by omega)
                  have hgn := (HP.out.at_ (F := ⟨w, Lt w.heap.size⟩) (.head _) hat5 (by rw [block_of_add]; exact hab5)).fld0 rfl
                  have HGK : Hid (s.frames[k + 1]? = some g) := Lib.hid (by rw [hk1]; exact HG.out)
                  clear hg hat5 hk1
                  by_cases hop : y.op = 17
                  · have hopb : (y.op != 17) = false := by simpa using hop
                    have HOP := Lib.hid hop
                    clear hop
                    by_cases him : y.imm = g.fn
                    · have himb : (y.imm != g.fn) = false := by simpa using him
                      have HIM := Lib.hid him
                      clear him
                      have hw1 := HW1.out
                      have hw2 := HW2.out
                      go_quiet (fail)
                      clear hw1 hw2
                      go_wp2_with fail
                      go_roundw
                      case rel =>
                        refine ⟨k + 1, by omega, by go_num, HSTEP, Lib.hid fun i f g' hi hf hg' => ?_, Lib.hid (Hp.drop (A := []) (HP.out.drewN nq))⟩
                        by_cases e : i = k
                        · subst e
                          rw [HXK.out] at hf; cases hf
                          rw [HGK.out] at hg'; cases hg'
                          exact ⟨by rw [HY.out]; exact HOP.out, by rw [HY.out]; exact HIM.out⟩
                        · exact HLK.out i f g' (by omega) hf hg'
                      case measure => simp [intOf]; omega
                    · have himb : (y.imm != g.fn) = true := by simpa using him
                      have HB := Lib.hid (sf_frames HZ.out (s := s) (fun h => by have := (h.link k x g HXK.out HGK.out).2; rw [HY.out] at this; exact him this))
                      clear him
                      have hw1 := HW1.out
                      have hw2 := HW2.out
                      go_quiet (fail)
                      clear hw1 hw2
                      go_wp2_with fail
                      go_ret
                      exact ⟨ret_int HB.out.symm, (HP.out.drewN _).below⟩
                  · have hopc : (y.op = 17) = False := eq_false hop
                    have HB := Lib.hid (sf_frames HZ.out (s := s) (fun h => by have := (h.link k x g HXK.out HGK.out).1; rw [HY.out] at this; exact hop this))
                    clear hop
                    have hw1 := HW1.out
                    have hw2 := HW2.out
                    go_quiet (fail)
                    clear hw1 hw2
                    go_wp2_with fail
                    go_ret
                    exact ⟨ret_int HB.out.symm, (HP.out.drewN _).below⟩
                · have hnx2 : (s.frames.length : Int) ≤ (k1 : Int) := by omega
                  have hd1 : decide ((j : Int) < 0) = false := decide_eq_false (by omega)
                  have hd2 : decide (f0.code.length ≤ j) = false := decide_eq_false (by omega)
                  have hd3 : decide (k1 < s.frames.length) = false := decide_eq_false (by omega)
                  have hd4 : decide ((k1 : Int) < (s.frames.length : Int)) = false := decide_eq_false (by omega)
                  have hd5 : decide ((f0.code.length : Int) ≤ (j : Int)) = false := decide_eq_false (by omega)
                  have HNX := Lib.hid hnx
                  have HLT := Lib.hid hlt
                  have HA5 := Lib.hid a5
                  clear hnx hk1 hnx2 q1 q2 hjl f1 f2 hnl hlt2 hlt a5 n1 n2 hk
                  have hw1 := HW1.out
                  have hw2 := HW2.out
                  go_quiet (fail)
                  clear hw1 hw2
                  have hlt := HLT.out
                  have a5 := HA5.out
                  go_wp2_with fail
                  go_roundw
                  case rel =>
                    refine ⟨k + 1, by omega, by go_num, HSTEP, Lib.hid fun i f g' hi hf hg' => ?_, Lib.hid (Hp.drop (A := []) (HP.out.drewN nq))⟩
                    have := (List.getElem?_eq_some_iff.1 hg').1
                    have := HNX.out
                    exact HLK.out i f g' (by omega) hf hg'
                  case measure => simp [intOf]; omega
              · have HB := Lib.hid (sf_frames HZ.out (s := s) (fun h => by have := h.own x hxm; unfold ownF at this; rw [HFC.out] at this; omega))
                clear hxm
                have hq : x.pc < 0 ∨ (0 ≤ x.pc ∧ (f0.code.length : Int) ≤ x.pc) := by omega
                clear hpc
                rcases hq with q1 | ⟨q1, q2⟩
                · go_upto_region 14 with fail
                  have hv1 : decide (x.pc < 0) = true := decide_eq_true q1
                  clear q1
                  go_quiet (fail)
                  go_wp2_with fail
                  go_ret
                  exact ⟨ret_int HB.out.symm, (HP.out.drewN _).below⟩
                · go_upto_region 14 with fail
                  have hv1 : decide (x.pc < 0) = false := decide_eq_false (by omega)
                  have hv2 : decide ((f0.code.length : Int) ≤ x.pc) = true := decide_eq_true q2
                  clear q1 q2
                  go_quiet (fail)
                  go_wp2_with fail
                  go_ret
                  exact ⟨ret_int HB.out.symm, (HP.out.drewN _).below⟩
            · have HB := Lib.hid (sf_frames HZ.out (s := s) (fun h => by have := h.own x hxm; unfold ownF at this; omega))
              clear hxm
              have hq : x.fn < 0 ∨ (0 ≤ x.fn ∧ (p.funcs.length : Int) ≤ x.fn) := by omega
              clear hfn
              rcases hq with q1 | ⟨q1, q2⟩
              all_goals
                go_wp2_with fail
                go_ret
                exact ⟨ret_int HB.out.symm, HP.out.below⟩
          · obtain rfl : k = s.frames.length := by omega
            have HB := Lib.hid (sf_ok HZ.out HOK2.out ⟨by have := HOW.out; rwa [List.take_of_length_le (Nat.le_refl _)] at this, fun i f g h h' => HLK.out i f g (List.getElem?_eq_some_iff.1 h).1 h h'⟩)
            go_wp2_with fail
            go_ret
            exact ⟨ret_int HB.out.symm, HP.out.below⟩
    all_goals
      (try have b7 : (s.status != 1) = true := by rw [bne, a7]; rfl)
      (try have b8 : (s.value != 0) = true := by rw [bne, a8]; rfl)
      have HB := Lib.hid (sf_head HZ.out (s := s) (head_not (by (first | omega | simp only [*, true_and, and_self, true_or, or_true]))))
      go_wp2_with fail
      all_goals
        go_ret
        exact ⟨ret_int HB.out.symm, HP.out.below⟩
  · have HB := Lib.hid (sf_bad (s := s) hz)
    obtain ⟨e0, he0⟩ : ∃ e0, proven p = e0 := ⟨_, rfl⟩
    rw [he0] at hz HB
    have HE0 := Lib.hid he0
    have hzb : (e0 != 0) = true := by simpa using hz
    clear he0 hz
    go_enter Tryd.func23, Tryd.ntmps23
    go_wp2_with (first | (refine wpList_box_hp (o := ⟨some 2, _, _, _, _, _⟩) rfl _ _ rfl HP.out [_] rfl ?_; clear HP; intro g2 w2 HP; replace HP := Lib.hid HP) | (refine wpList_box_hp (o := ⟨some 3, _, _, _, _, _⟩) rfl _ _ rfl HP.out [_, _, _, _, _, _, _, _, _, _, _, _, _, _, _, _, _, _, _, _, _, _] rfl ?_; clear HP; intro g3 w3 HP; replace HP := Lib.hid HP) | (refine wpList_ldR0 rfl 24 _ rfl HP.out rfl Tryd.underlying24 rfl (by kernel_rfl) ?_) | (refine wpList_ldR1 rfl 24 _ rfl HP.out rfl Tryd.underlying24 rfl (by kernel_rfl) ?_) | (go_at_call 24; refine (proofCheck_any p _ _ (HP.out.rep (F := ⟨w, Lt w.heap.size⟩) (by simp) HR.out) (HH.out.keep HP.out.below rfl)).mono ?_; rintro e w4 ⟨rfl, hb⟩; replace HP := Lib.hid (HP.out.call0 hb); clear hb; rw [HE0.out]))
    go_ret
    exact ⟨ret_int HB.out.symm, HP.out.below⟩
end Go.Proofs.YtceilfmfidmfpaaDoor
