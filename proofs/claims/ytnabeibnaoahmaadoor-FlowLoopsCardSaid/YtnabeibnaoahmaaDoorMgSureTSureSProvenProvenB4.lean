/- proof.Sure, ref.SureOf. proof.Sure. proof.function, proof.Check; ref.Proven. proof.Check. -/
import Derived.Test.YtnabeibnaoahmaaDoorSure
import Derived.Deep.RegionHeld
import Derived.Test.YtnabeibnaoahmaaDoorMgProvenLawLiveLaw2
import Derived.Test.YtnabeibnaoahmaaDoorMgReadsHReadsKReads23
set_option linter.unusedSimpArgs false
set_option linter.unusedVariables false
namespace Go.Proofs.YtnabeibnaoahmaaDoor
open Go.RowKit Plain64
attribute [local irreducible] wpList Code.wp Oper.wp
/-- P3.2, at every argument. -/
noncomputable def sureAns (p : Prg) (fn : Int) : List Int × Int :=
  if prgFault p ≠ 0 then ([], prgFault p) else
  if fn < 0 then ([], 2) else
  match p.funcs[fn.toNat]? with
  | none => ([], 2)
  | some f => ((sureL f).take f.code.length, 0)
theorem rep_ints_take {w : World} {S : Nat → Prop} {xs : List Int} {A : Option Addr} {m c : Nat} (h : Lay.rep w S xs [.slice A m c]) (n c' : Nat) (hn : n ≤ xs.length) (hnc : n ≤ c') (hc' : c' ≤ maxLen) : Lay.rep w S (xs.take n) [.slice A n c'] := by
  obtain ⟨A', c1, e, h1, h2, h3⟩ := h
  simp only [List.cons.injEq, and_true] at e
  cases e
  refine ⟨A, c', by rw [List.length_take, Nat.min_eq_left hn], by rw [List.length_take, Nat.min_eq_left hn]; exact hnc, hc', fun k x hx => h3 k x ?_⟩
  rw [List.getElem?_take] at hx
  split at hx
  · exact hx
  · cases hx
theorem rep_ints_cap {w : World} {S : Nat → Prop} {xs : List Int} {A : Option Addr} {m c : Nat} (h : Lay.rep w S xs [.slice A m c]) : m = xs.length ∧ xs.length ≤ c ∧ c ≤ maxLen := by
  obtain ⟨A', c1, e, h1, h2, h3⟩ := h
  simp only [List.cons.injEq, and_true] at e
  cases e
  exact ⟨rfl, h1, h2⟩
theorem sureAns_bad {p : Prg} (h : prgFault p ≠ 0) (fn : Int) : sureAns p fn = ([], prgFault p) := by unfold sureAns; rw [if_pos h]
theorem sureAns_out {p : Prg} (h : prgFault p = 0) {fn : Int} (hf : fn < 0 ∨ (p.funcs.length : Int) ≤ fn) : sureAns p fn = ([], 2) := by
  unfold sureAns
  rw [if_neg (by simpa using h)]
  split
  · rfl
  · rw [List.getElem?_eq_none (by omega)]
theorem sureAns_in {p : Prg} (h : prgFault p = 0) {k : Nat} {f : Fun} (hf : p.funcs[k]? = some f) : sureAns p (k : Int) = ((sureL f).take f.code.length, 0) := by
  unfold sureAns
  rw [if_neg (by simpa using h), if_neg (by omega), Int.toNat_natCast, hf]
end Go.Proofs.YtnabeibnaoahmaaDoor
namespace Go.Proofs.YtnabeibnaoahmaaDoor
open Go.RowKit Plain64
attribute [local irreducible] wpList Code.wp Oper.wp
set_option maxRecDepth 10000 in
set_option maxHeartbeats 1000000 in
theorem Sure_any (p : Prg) (u : Value) (fn : Int) (w : World) (hp : Lay.rep w (Lt w.heap.size) p [u]) (hh : Has w) :
    Calls Tryd.prog 26 #[.agg #[u], .int .i64 fn] w fun e w' => ∃ v, e = .returned (.tuple #[v, .int .i64 (sureAns p fn).2]) ∧ Lay.rep w' (Fresh w w') (sureAns p fn).1 [v] ∧ Below w.heap.size w w' := by
  obtain ⟨A, c, rfl, hc, hm, hx⟩ := rep_prg_at hp
  unfold maxLen at hm
  have HX := Lib.hid hx
  have HR := Lib.hid hp
  have HH := Lib.hid hh
  clear hx hp hh
  have HP := Lib.hid (Hp.start w)
  by_cases hz : prgFault p = 0
  · have ok := okP_of hz
    have HOK := Lib.hid ok
    obtain ⟨n1, n2⟩ := ok.len
    clear ok
    have HZ := Lib.hid hz
    clear hz
    go_enter Tryd.func26, Tryd.ntmps26
    go_upto_region 2 with (first | (refine wpList_box_hp (o := ⟨some 2, _, _, _, _, _⟩) rfl _ _ rfl HP.out [_] rfl ?_; clear HP; intro g2 w2 HP; replace HP := Lib.hid HP) | (refine wpList_ldR0 rfl 24 _ rfl HP.out rfl Tryd.underlying24 rfl (by kernel_rfl) ?_) | (go_at_call 54; refine (codeCheck_any p _ _ (HP.out.rep (F := ⟨w, Lt w.heap.size⟩) (by simp) HR.out) (HH.out.keep HP.out.below rfl)).mono ?_; rintro e w4 ⟨rfl, hb⟩; replace HP := Lib.hid (HP.out.call0 hb); clear hb; rw [HZ.out]))
    have hfs := HP.out.cell (.head _) 0 _ rfl
    by_cases hfn : 0 ≤ fn ∧ fn < p.funcs.length
    · obtain ⟨f1, f2⟩ := hfn
      obtain ⟨k, rfl⟩ := Int.eq_ofNat_of_zero_le f1
      have hkl : k < p.funcs.length := by omega
      obtain ⟨ad, v, rfl, hab, hat, hcode⟩ := HX.out k hkl
      obtain ⟨f, hf⟩ : ∃ f, p.funcs[k] = f := ⟨_, rfl⟩
      rw [hf] at hat hcode
      have HANS := Lib.hid (sureAns_in HZ.out (show p.funcs[k]? = some f by rw [← hf, List.getElem?_eq_getElem hkl]))
      have HOF := Lib.hid (HOK.out.fns f (hf ▸ List.getElem_mem hkl))
      clear hf
      have HC := Lib.hid hcode
      obtain ⟨A2, c2, rfl, hc2, hm2, hx2⟩ := rep_code hcode
      unfold maxLen at hm2
      clear hx2 hcode
      obtain ⟨l1, l2⟩ := HOF.out.len
      have HAT := Lib.hid hat
      clear hat
      go_upto_region 7 with (first | (refine wpList_alloc_hp (o := ⟨some 7, _, _, _, _, _⟩) rfl _ rfl HP.out (.agg #[.int .i64 0, .int .i64 0, .slice none 0 0]) (by kernel_rfl) [_, _, _] rfl ?_; clear HP; intro g7 w7 HP; replace HP := Lib.hid HP) | (refine wpList_stR0 rfl 57 _ _ rfl HP.out rfl (cs' := [_, _, _]) rfl rfl (by simp [Value.oneCell']) (by kernel_rfl) ?_; clear HP; intro wst HP; replace HP := Lib.hid HP) | (refine wpList_ld0 rfl 22 _ rfl HP.out rfl rfl Tryd.underlying22 rfl ?_) | (refine wpList_ld1 rfl 22 _ rfl HP.out rfl rfl Tryd.underlying22 rfl ?_) | (refine wpList_load_at rfl 57 _ rfl _ rfl _ _ (HP.out.at_ (F := ⟨w, Lt w.heap.size⟩) (by simp) HAT.out (by rw [block_of_add]; exact hab)) Tryd.underlying57 rfl (by kernel_rfl) ?_))
      (try simp only [Act.put, List.setIfInBounds_toArray, List.set_cons_zero, List.set_cons_succ])
      have HP0 := Lib.hid HP.out.drew
      go_region_held (fun w' => w'.cell? ⟨g7, 0, none⟩ = some (.int .i64 f.params) ∧ w'.cell? ⟨g7, 1, none⟩ = some (.int .i64 f.regs) ∧ w'.cell? ⟨g7, 2, none⟩ = some (.slice A2 f.code.length c2)) (first | exact ⟨HP1.out.cell (.head _) 0 _ rfl, HP1.out.cell (.head _) 1 _ rfl, HP1.out.cell (.head _) 2 _ rfl⟩ | exact ⟨HP0.out.cell (.head _) 0 _ rfl, HP0.out.cell (.head _) 1 _ rfl, HP0.out.cell (.head _) 2 _ rfl⟩) ((go_at_call 56; refine (sure_any f _ _ _ (HP0.out.rep (F := ⟨w, Lt w.heap.size⟩) (by simp) HC.out) HOF.out).mono ?_; rintro e w5 ⟨u5, c5, rfl, hu5, hb5⟩; have HP1 := Lib.hid (HP0.out.call hb5); have HU5 := Lib.hid hu5; obtain ⟨_, hc5, hx5⟩ := rep_ints_cap hu5; rw [sureL_len] at hc5; unfold maxLen at hx5; clear hu5 hb5))
      go_wp2
      go_ret2
      refine ⟨_, by rw [HANS.out]; rfl, ?_, HP1.out.below⟩
      rw [HANS.out]
      have h0 := HP1.out
      have hr := rep_ints_take HU5.out f.code.length f.code.length (by rw [sureL_len]; omega) (Nat.le_refl _) (by unfold maxLen; omega)
      exact Lay.more (fun b hb => ⟨Nat.le_trans HP0.out.size hb.1, hb.2⟩) hr
    · have HANS := Lib.hid (sureAns_out HZ.out (fn := fn) (by omega))
      by_cases q1 : 0 ≤ fn
      · have q2 : (p.funcs.length : Int) ≤ fn := by omega
        clear hfn
        go_wp2
        go_ret2
        exact ⟨_, by rw [HANS.out]; rfl, by rw [HANS.out]; exact rep_ints_nil, HP.out.below⟩
      · have q2 : fn < 0 := by omega
        clear hfn q1
        go_wp2
        go_ret2
        exact ⟨_, by rw [HANS.out]; rfl, by rw [HANS.out]; exact rep_ints_nil, HP.out.below⟩
  · have hans := sureAns_bad hz fn
    have HANS := Lib.hid hans
    obtain ⟨e0, he0⟩ : ∃ e0, prgFault p = e0 := ⟨_, rfl⟩
    rw [he0] at hz HANS
    have HE0 := Lib.hid he0
    have hzb : (e0 != 0) = true := by simpa using hz
    clear hans he0 hz
    go_enter Tryd.func26, Tryd.ntmps26
    go_wp2_with (first | (refine wpList_box_hp (o := ⟨some 2, _, _, _, _, _⟩) rfl _ _ rfl HP.out [_] rfl ?_; clear HP; intro g2 w2 HP; replace HP := Lib.hid HP) | (refine wpList_ldR0 rfl 24 _ rfl HP.out rfl Tryd.underlying24 rfl (by kernel_rfl) ?_) | (go_at_call 54; refine (codeCheck_any p _ _ (HP.out.rep (F := ⟨w, Lt w.heap.size⟩) (by simp) HR.out) (HH.out.keep HP.out.below rfl)).mono ?_; rintro e w4 ⟨rfl, hb⟩; replace HP := Lib.hid (HP.out.call0 hb); clear hb; rw [HE0.out]))
    go_ret2
    exact ⟨_, by rw [HANS.out]; rfl, by rw [HANS.out]; exact rep_ints_nil, HP.out.below⟩
end Go.Proofs.YtnabeibnaoahmaaDoor
namespace Go.Proofs.YtnabeibnaoahmaaDoor
open Go.RowKit Plain64
attribute [local irreducible] wpList Code.wp Oper.wp
theorem rep_ints_some {w : World} {S : Nat → Prop} {xs : List Int} {a : Addr} {m c : Nat} (h : Lay.rep w S xs [.slice (some a) m c]) : m = xs.length ∧ xs.length ≤ c ∧ c ≤ maxLen ∧ ∀ (k : Nat) (x : Int), xs[k]? = some x → S a.block ∧ w.cell? (a.add k) = some (.int .i64 x) := by
  obtain ⟨A', c1, e, h1, h2, h3⟩ := rep_ints_at h
  cases e
  refine ⟨rfl, h1, h2, fun k x hx => ?_⟩
  have hk := (List.getElem?_eq_some_iff.1 hx).1
  obtain ⟨a', e, h4, h5⟩ := h3 k hk
  cases e
  rw [List.getElem?_eq_getElem hk] at hx
  cases hx
  exact ⟨h4, h5⟩
set_option maxRecDepth 10000 in
set_option maxHeartbeats 2000000 in
theorem function_any (p : Prg) (f : Fun) (u v : Value) (w : World) (hp : Lay.rep w (Lt w.heap.size) p [u]) (hv : Lay.rep w (Lt w.heap.size) f.code [v]) (ok : OkP p) (okf : OkF f p.funcs.length) :
    Calls Tryd.prog 55 #[.agg #[u], .agg #[.int .i64 f.params, .int .i64 f.regs, v]] w fun e w' => e = .returned (.int .i64 (provenF p f)) ∧ Below w.heap.size w w' := by
  obtain ⟨A, c, rfl, hc, hm, hx⟩ := rep_prg_at hp
  unfold maxLen at hm
  have HR := Lib.hid hp
  clear hx hp
  obtain ⟨A2, c2, rfl, hc2, hm2, hx2⟩ := rep_code hv
  unfold maxLen at hm2
  have HX2 := Lib.hid hx2
  have HV := Lib.hid hv
  clear hx2 hv
  have HOK := Lib.hid ok
  have HOF := Lib.hid okf
  obtain ⟨l1, l2⟩ := okf.len
  clear ok okf
  have HP := Lib.hid (Hp.start w)
  go_enter Tryd.func55, Tryd.ntmps55
  go_upto_region 2 with (first | (refine wpList_box_hp (o := ⟨some 2, _, _, _, _, _⟩) rfl _ _ rfl HP.out [_] rfl ?_; clear HP; intro g2 w2 HP; replace HP := Lib.hid HP) | (refine wpList_box_hp (o := ⟨some 3, _, _, _, _, _⟩) rfl _ _ rfl HP.out [_, _, _] rfl ?_; clear HP; intro g3 w3 HP; replace HP := Lib.hid HP) | (refine wpList_ldR0 rfl 57 _ rfl HP.out rfl Tryd.underlying57 rfl (by kernel_rfl) ?_) | (refine wpList_ldR1 rfl 57 _ rfl HP.out rfl Tryd.underlying57 rfl (by kernel_rfl) ?_) | (go_at_call 56; refine (sure_any f _ _ _ (HP.out.rep (F := ⟨w, Lt w.heap.size⟩) (by simp) HV.out) HOF.out).mono ?_; rintro e w5 ⟨u5, c5, rfl, hu5, hb5⟩; replace HP := Lib.hid (HP.out.call hb5); obtain ⟨-, hc5, hm5, hx5⟩ := rep_ints_some hu5; rw [sureL_len] at hc5; unfold maxLen at hm5; have HX5 := Lib.hid hx5; clear hu5 hb5 hx5))
  go_wp2_with (first | (refine wpList_ld0 rfl 55 _ rfl HP.out rfl rfl Tryd.underlying55 rfl ?_) | (refine wpList_ld1 rfl 55 _ rfl HP.out rfl rfl Tryd.underlying55 rfl ?_))
  go_loopw [13] (fun i wr => ∃ (k : Nat), k ≤ f.code.length ∧ i = .int .i64 k ∧ Hid (∀ q, q < k → unsetAt p f q = false) ∧ Hid (Hp w [{ w := w5, S := Fresh w3 w5 }, { w := w, S := Lt w.heap.size }] [Res.blk g3 57 [Value.int IntKind.i64 f.params, Value.int IntKind.i64 f.regs, Value.slice A2 f.code.length c2], Res.blk g2 24 [Value.slice A p.funcs.length c]] wr)) (fun i _ => f.code.length - (intOf i).toNat)
  case atStart => exact ⟨0, by omega, rfl, Lib.hid (fun q hq => by omega), HP⟩
  case round =>
    clear HP
    obtain ⟨k, hk, rfl, HU, HP⟩ := hrel
    obtain ⟨wo, rfl⟩ : ∃ wo : World, wo = wr := ⟨_, rfl⟩
    by_cases hlt : k < f.code.length
    · have hlt2 : (k : Int) < (f.code.length : Int) := by omega
      have hlt3 : (k : Int) < (f.code.length : Int) + 1 := by omega
      obtain ⟨a, rfl, hab, hat⟩ := HX2.out k hlt
      obtain ⟨x, hx⟩ : ∃ x, f.code[k] = x := ⟨_, rfl⟩
      rw [hx] at hat
      have HAT := Lib.hid hat
      have HXS := Lib.hid (show f.code[k]? = some x by rw [← hx, List.getElem?_eq_getElem hlt])
      have HOI := Lib.hid (HOF.out.ins x (hx ▸ List.getElem_mem hlt))
      clear hx hat
      obtain ⟨s, hs⟩ : ∃ s, (sureL f)[k]? = some s := ⟨_, List.getElem?_eq_getElem (by rw [sureL_len]; omega)⟩
      have hsr := sureL_range (List.mem_of_getElem? hs)
      obtain ⟨s1, s2⟩ := hsr
      obtain ⟨hsb, hsc⟩ := HX5.out k s hs
      have HSC := Lib.hid hsc
      have HUN := Lib.hid (unsetAt_eq (p := p) HXS.out hs)
      clear hs hsc
      go_upto_region 5 with (first | (refine wpList_ld0 rfl 55 _ rfl HP.out rfl rfl Tryd.underlying55 rfl ?_) | (refine wpList_ld1 rfl 55 _ rfl HP.out rfl rfl Tryd.underlying55 rfl ?_) | (refine wpList_ld2 rfl 55 _ rfl HP.out rfl rfl Tryd.underlying55 rfl ?_) | (refine wpList_alloc_hp (o := ⟨some 7, _, _, _, _, _⟩) rfl _ rfl HP.out (.agg #[.int .i64 0, .int .i64 0, .int .i64 0, .int .i64 0, .int .i64 0]) (by kernel_rfl) [_, _, _, _, _] rfl ?_; clear HP; intro g7 w7 HP; replace HP := Lib.hid HP) | (refine wpList_load_at rfl 65 _ rfl _ rfl _ _ (HP.out.at_ (F := ⟨w, Lt w.heap.size⟩) (by simp) HAT.out (by rw [block_of_add]; exact hab)) Tryd.underlying65 rfl (by kernel_rfl) ?_) | (refine wpList_stR0 rfl 65 _ _ rfl HP.out rfl (cs' := [_, _, _, _, _]) rfl rfl (by simp [Value.oneCell']) (by kernel_rfl) ?_; clear HP; intro wst HP; replace HP := Lib.hid HP))
      (try simp only [Act.put, List.setIfInBounds_toArray, List.set_cons_zero, List.set_cons_succ])
      have HSW := Lib.hid ((HP.out.alike (F := ⟨w5, Fresh w3 w5⟩) (.head _) (u5.add k) (by rw [block_of_add]; exact hsb)).trans HSC.out)
      have HP0 := Lib.hid HP.out.drew
      have HSD := Lib.hid ((HP0.out.alike (F := ⟨w5, Fresh w3 w5⟩) (.head _) (u5.add k) (by rw [block_of_add]; exact hsb)).trans HSC.out)
      by_cases hs0 : 0 ≤ s
      · have HS0 := Lib.hid hs0
        have hin := readsL_in p x HOI.out
        have HNE := Lib.hid (andNot_ne (readsL_len p x) hin s)
        obtain ⟨m, hm⟩ : ∃ m, bitsL (readsL p x) = m := ⟨_, rfl⟩
        have HMR := Lib.hid (bitsL_range (readsL_len p x) hin)
        go_region_held (fun w' => w'.cell? ⟨g7, 0, none⟩ = some (.int .i64 x.op) ∧ w'.cell? ⟨g7, 1, none⟩ = some (.int .i64 x.dst) ∧ w'.cell? ⟨g7, 2, none⟩ = some (.int .i64 x.a) ∧ w'.cell? ⟨g7, 3, none⟩ = some (.int .i64 x.b) ∧ w'.cell? ⟨g7, 4, none⟩ = some (.int .i64 x.imm) ∧ w'.cell? ⟨g2, 0, none⟩ = some (.slice A p.funcs.length c) ∧ w'.cell? (u5.add k) = some (.int .i64 s)) (first | exact ⟨HP1.out.cell (.head _) 0 _ rfl, HP1.out.cell (.head _) 1 _ rfl, HP1.out.cell (.head _) 2 _ rfl, HP1.out.cell (.head _) 3 _ rfl, HP1.out.cell (.head _) 4 _ rfl, HP1.out.cell (.tail _ (.tail _ (.head _))) 0 _ rfl, HSE.out⟩ | exact ⟨HP0.out.cell (.head _) 0 _ rfl, HP0.out.cell (.head _) 1 _ rfl, HP0.out.cell (.head _) 2 _ rfl, HP0.out.cell (.head _) 3 _ rfl, HP0.out.cell (.head _) 4 _ rfl, HP0.out.cell (.tail _ (.tail _ (.head _))) 0 _ rfl, HSD.out⟩) ((go_at_call 59; refine (reads_any p _ x f.code.length _ (HP0.out.rep (F := ⟨w, Lt w.heap.size⟩) (.tail _ (.head _)) HR.out) HOK.out HOI.out).mono ?_; rintro e w8 ⟨rfl, hb8⟩; have HP1 := Lib.hid (HP0.out.call0 hb8); have HSE := Lib.hid ((HP1.out.alike (F := ⟨w5, Fresh w3 w5⟩) (.head _) (u5.add k) (by rw [block_of_add]; exact hsb)).trans HSC.out); clear hb8))
        have HM := Lib.hid hm
        clear hm hin
        rw [HM.out] at HNE
        obtain ⟨bb, hbb⟩ : ∃ bb, (bits .andNot .i64 m s != 0) = bb := ⟨_, rfl⟩
        have HBB := Lib.hid hbb
        have HUK : Hid (unsetAt p f k = bb) := Lib.hid (by rw [HUN.out]; unfold unsetB; rw [decide_eq_true HS0.out, Bool.true_and, ← HNE.out, HBB.out])
        rw [hbb]
        clear hbb
        cases bb
        · go_wp2_with fail
          go_roundw
          case rel =>
            refine ⟨k + 1, by omega, by go_num, Lib.hid fun q hq => ?_, Lib.hid (Hp.drop (A := []) HP1.out)⟩
            by_cases e : q = k
            · rw [e]; exact HUK.out
            · exact HU.out q (by omega)
          case measure => simp [intOf]; omega
        · go_wp2_with fail
          go_ret
          exact ⟨ret_int (provenF_bad hlt HUK.out).symm, HP1.out.below⟩
      · have HUK : Hid (unsetAt p f k = false) := Lib.hid (by rw [HUN.out]; unfold unsetB; rw [decide_eq_false hs0]; rfl)
        have hs1 : s < 0 := by omega
        clear hs0
        have hsw := HSW.out
        have hsd : decide (0 ≤ s) = false := decide_eq_false (by omega)
        go_quiet (fail)
        go_wp2_with fail
        go_roundw
        case rel =>
          refine ⟨k + 1, by omega, by go_num, Lib.hid fun q hq => ?_, Lib.hid (Hp.drop (A := []) (HP.out.drewN nq))⟩
          by_cases e : q = k
          · rw [e]; exact HUK.out
          · exact HU.out q (by omega)
        case measure => simp [intOf]; omega
    · obtain rfl : k = f.code.length := by omega
      obtain ⟨s, hs⟩ : ∃ s, (sureL f)[f.code.length]? = some s := ⟨_, List.getElem?_eq_getElem (by rw [sureL_len]; omega)⟩
      obtain ⟨hsb, hsc⟩ := HX5.out _ s hs
      have HSW := Lib.hid ((HP.out.alike (F := ⟨w5, Fresh w3 w5⟩) (.head _) (u5.add f.code.length) (by rw [block_of_add]; exact hsb)).trans hsc)
      have HEND := Lib.hid (endsAt_eq hs)
      clear hs hsc
      have hcl := HP.out.cell (.head _) 2 _ rfl
      have hsw := HSW.out
      by_cases hs0 : 0 ≤ s
      · have HS0 := Lib.hid hs0
        go_wp2_with fail
        go_ret
        refine ⟨ret_int ?_, HP.out.below⟩
        rw [provenF_good HU.out, HEND.out, decide_eq_true HS0.out]; rfl
      · have HS0 := Lib.hid hs0
        have hs1 : s < 0 := by omega
        clear hs0
        go_wp2_with fail
        go_ret
        refine ⟨ret_int ?_, HP.out.below⟩
        rw [provenF_good HU.out, HEND.out, decide_eq_false (by have := HS0.out; omega)]; rfl
end Go.Proofs.YtnabeibnaoahmaaDoor
namespace Go.Proofs.YtnabeibnaoahmaaDoor
open Go.RowKit Plain64
attribute [local irreducible] wpList Code.wp Oper.wp
theorem proven_bad {p : Prg} (h : prgFault p ≠ 0) : proven p = prgFault p := by unfold proven; rw [if_pos h]
theorem proven_at {p : Prg} (h : prgFault p = 0) (k : Nat) (hk : k < p.funcs.length) (hz : ∀ f ∈ p.funcs.take k, provenF p f = 0) (hne : provenF p p.funcs[k] ≠ 0) : proven p = provenF p p.funcs[k] := by
  unfold proven; rw [if_neg (by simpa using h)]; exact firstZ_map_at _ _ k hk hz hne
theorem proven_all {p : Prg} (h : prgFault p = 0) (hz : ∀ f ∈ p.funcs, provenF p f = 0) : proven p = 0 := by
  unfold proven; rw [if_neg (by simpa using h)]
  exact firstZ_eq_zero.2 fun y hy => by obtain ⟨f, hf, rfl⟩ := List.mem_map.1 hy; exact hz f hf
set_option maxRecDepth 10000 in
set_option maxHeartbeats 2000000 in
theorem proofCheck_any (p : Prg) (u : Value) (w : World) (hp : Lay.rep w (Lt w.heap.size) p [u]) (hh : Has w) :
    Calls Tryd.prog 25 #[.agg #[u]] w fun e w' => e = .returned (.int .i64 (proven p)) ∧ Below w.heap.size w w' := by
  obtain ⟨A, c, rfl, hc, hm, hx⟩ := rep_prg_at hp
  unfold maxLen at hm
  have HX := Lib.hid hx
  have HR := Lib.hid hp
  have HH := Lib.hid hh
  clear hx hp hh
  have HP := Lib.hid (Hp.start w)
  by_cases hz : prgFault p = 0
  · have ok := okP_of hz
    have HOK := Lib.hid ok
    obtain ⟨n1, n2⟩ := ok.len
    clear ok
    have HZ := Lib.hid hz
    clear hz
    go_enter Tryd.func25, Tryd.ntmps25
    go_wp2_with (first | (refine wpList_box_hp (o := ⟨some 1, _, _, _, _, _⟩) rfl _ _ rfl HP.out [_] rfl ?_; clear HP; intro g1 w1 HP; replace HP := Lib.hid HP) | (refine wpList_ldR0 rfl 24 _ rfl HP.out rfl Tryd.underlying24 rfl (by kernel_rfl) ?_) | (refine wpList_ld0 rfl 22 _ rfl HP.out rfl rfl Tryd.underlying22 rfl ?_) | (go_at_call 54; refine (codeCheck_any p _ _ (HP.out.rep (F := ⟨w, Lt w.heap.size⟩) (by simp) HR.out) (HH.out.keep HP.out.below rfl)).mono ?_; rintro e w4 ⟨rfl, hb⟩; replace HP := Lib.hid (HP.out.call0 hb); clear hb; rw [HZ.out]))
    go_loopw [15] (fun i wr => ∃ (k : Nat), k ≤ p.funcs.length ∧ i = .int .i64 k ∧ Hid (∀ f ∈ p.funcs.take k, provenF p f = 0) ∧ Hid (Hp w [{ w := w, S := Lt w.heap.size }] [Res.blk g1 24 [Value.slice A p.funcs.length c]] wr)) (fun i _ => p.funcs.length - (intOf i).toNat)
    case atStart => exact ⟨0, by omega, rfl, Lib.hid (fun f hf => by simp at hf), HP⟩
    case round =>
      clear HP
      obtain ⟨k, hk, rfl, HU, HP⟩ := hrel
      obtain ⟨wo, rfl⟩ : ∃ wo : World, wo = wr := ⟨_, rfl⟩
      by_cases hlt : k < p.funcs.length
      · have hlt2 : (k : Int) < (p.funcs.length : Int) := by omega
        obtain ⟨ad, v, rfl, hab, hat, hcode⟩ := HX.out k hlt
        have HBAD := Lib.hid (proven_at HZ.out k hlt HU.out)
        obtain ⟨f, hf⟩ : ∃ f, p.funcs[k] = f := ⟨_, rfl⟩
        rw [hf] at hat hcode HBAD
        have HF := Lib.hid (show p.funcs[k]? = some f by rw [← hf, List.getElem?_eq_getElem hlt])
        have HOF := Lib.hid (HOK.out.fns f (hf ▸ List.getElem_mem hlt))
        clear hf
        have HC := Lib.hid hcode
        obtain ⟨A2, c2, rfl, hc2, hm2, hx2⟩ := rep_code hcode
        unfold maxLen at hm2
        have HAT := Lib.hid hat
        clear hat hx2 hcode
        obtain ⟨e1, he1⟩ : ∃ e1, provenF p f = e1 := ⟨_, rfl⟩
        have HE1 := Lib.hid he1
        clear he1
        have HV2 := HC
        go_upto_region 7 with (first | (refine wpList_ld0 rfl 22 _ rfl HP.out rfl rfl Tryd.underlying22 rfl ?_) | (refine wpList_ld1 rfl 22 _ rfl HP.out rfl rfl Tryd.underlying22 rfl ?_) | (refine wpList_load_at rfl 57 _ rfl _ rfl _ _ (HP.out.at_ (F := ⟨w, Lt w.heap.size⟩) (by simp) HAT.out (by rw [block_of_add]; exact hab)) Tryd.underlying57 rfl (by kernel_rfl) ?_) | (refine wpList_alloc_hp (o := ⟨some 5, _, _, _, _, _⟩) rfl _ rfl HP.out (.agg #[.int .i64 0, .int .i64 0, .slice none 0 0]) (by kernel_rfl) [_, _, _] rfl ?_; clear HP; intro g5 w5 HP; replace HP := Lib.hid HP) | (refine wpList_stR0 rfl 57 _ _ rfl HP.out rfl (cs' := [_, _, _]) rfl rfl (by simp [Value.oneCell']) (by kernel_rfl) ?_; clear HP; intro wst HP; replace HP := Lib.hid HP))
        clear HV2
        by_cases he0 : e1 = 0
        · subst he0
          go_wp2_with (first | (refine wpList_ldR0 rfl 24 _ rfl HP.out rfl Tryd.underlying24 rfl (by kernel_rfl) ?_) | (refine wpList_ldR1 rfl 24 _ rfl HP.out rfl Tryd.underlying24 rfl (by kernel_rfl) ?_) | (refine wpList_ldR0 rfl 57 _ rfl HP.out rfl Tryd.underlying57 rfl (by kernel_rfl) ?_) | (refine wpList_ldR1 rfl 57 _ rfl HP.out rfl Tryd.underlying57 rfl (by kernel_rfl) ?_) | (go_at_call 55; refine (function_any p f _ _ _ (HP.out.rep (F := ⟨w, Lt w.heap.size⟩) (by simp) HR.out) (HP.out.rep (F := ⟨w, Lt w.heap.size⟩) (by simp) HC.out) HOK.out HOF.out).mono ?_; rintro e w8 ⟨rfl, hb8⟩; replace HP := Lib.hid (HP.out.call0 hb8); clear hb8; rw [HE1.out]))
          go_roundw
          case rel =>
            refine ⟨k + 1, by omega, by go_num, Lib.hid fun g hg => ?_, Lib.hid (Hp.drop (A := []) HP.out)⟩
            rw [List.take_add_one, HF.out] at hg
            rcases List.mem_append.1 hg with hg | hg
            · exact HU.out g hg
            · obtain rfl : g = f := by simpa using hg
              exact HE1.out
          case measure => simp [intOf]; omega
        · have HNE := Lib.hid he0
          have hzb : (e1 != 0) = true := by simpa using he0
          clear he0
          go_wp2_with (first | (refine wpList_ldR0 rfl 24 _ rfl HP.out rfl Tryd.underlying24 rfl (by kernel_rfl) ?_) | (refine wpList_ldR1 rfl 24 _ rfl HP.out rfl Tryd.underlying24 rfl (by kernel_rfl) ?_) | (refine wpList_ldR0 rfl 57 _ rfl HP.out rfl Tryd.underlying57 rfl (by kernel_rfl) ?_) | (refine wpList_ldR1 rfl 57 _ rfl HP.out rfl Tryd.underlying57 rfl (by kernel_rfl) ?_) | (go_at_call 55; refine (function_any p f _ _ _ (HP.out.rep (F := ⟨w, Lt w.heap.size⟩) (by simp) HR.out) (HP.out.rep (F := ⟨w, Lt w.heap.size⟩) (by simp) HC.out) HOK.out HOF.out).mono ?_; rintro e w8 ⟨rfl, hb8⟩; replace HP := Lib.hid (HP.out.call0 hb8); clear hb8; rw [HE1.out]))
          go_ret
          exact ⟨ret_int (by rw [HBAD.out (by rw [HE1.out]; exact HNE.out), HE1.out]), HP.out.below⟩
      · obtain rfl : k = p.funcs.length := by omega
        have HALL := Lib.hid (proven_all HZ.out (by have := HU.out; rwa [List.take_of_length_le (Nat.le_refl _)] at this))
        go_wp2_with fail
        go_ret
        exact ⟨ret_int HALL.out.symm, HP.out.below⟩
  · have HANS := Lib.hid (proven_bad hz)
    obtain ⟨e0, he0⟩ : ∃ e0, prgFault p = e0 := ⟨_, rfl⟩
    rw [he0] at hz HANS
    have HE0 := Lib.hid he0
    have hzb : (e0 != 0) = true := by simpa using hz
    clear he0 hz
    go_enter Tryd.func25, Tryd.ntmps25
    go_wp2_with (first | (refine wpList_box_hp (o := ⟨some 1, _, _, _, _, _⟩) rfl _ _ rfl HP.out [_] rfl ?_; clear HP; intro g1 w1 HP; replace HP := Lib.hid HP) | (refine wpList_ldR0 rfl 24 _ rfl HP.out rfl Tryd.underlying24 rfl (by kernel_rfl) ?_) | (go_at_call 54; refine (codeCheck_any p _ _ (HP.out.rep (F := ⟨w, Lt w.heap.size⟩) (by simp) HR.out) (HH.out.keep HP.out.below rfl)).mono ?_; rintro e w4 ⟨rfl, hb⟩; replace HP := Lib.hid (HP.out.call0 hb); clear hb; rw [HE0.out]))
    go_ret
    exact ⟨ret_int HANS.out.symm, HP.out.below⟩
end Go.Proofs.YtnabeibnaoahmaaDoor
