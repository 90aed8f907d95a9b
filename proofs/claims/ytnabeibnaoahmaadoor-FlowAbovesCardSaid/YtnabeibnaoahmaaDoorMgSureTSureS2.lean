/- proof.Sure, ref.SureOf. proof.Sure. -/
import Derived.Test.YtnabeibnaoahmaaDoorSure
import Derived.Deep.RegionHeld
set_option linter.unusedSimpArgs false
set_option linter.unusedVariables false
namespace Go.Proofs.YtnabeibnaoahmaaDoor
open Go.RowKit Plain64
attribute [local irreducible] wpList Code.wp Oper.wp
/-- P3.2, at every argument. -/
noncomputable def sureAns (p : Prg) (fn : Int) : List Int × Int :=
  if prgFault p ≠ 0 then ([], prgFault p) else
  if fn < 0 then ([], 2) else
  match p.funcs[fn.toNat]? with
  | none => ([], 2)
  | some f => ((sureL f).take f.code.length, 0)
theorem rep_ints_take {w : World} {S : Nat → Prop} {xs : List Int} {A : Option Addr} {m c : Nat} (h : Lay.rep w S xs [.slice A m c]) (n c' : Nat) (hn : n ≤ xs.length) (hnc : n ≤ c') (hc' : c' ≤ maxLen) : Lay.rep w S (xs.take n) [.slice A n c'] := by
  obtain ⟨A', c1, e, h1, h2, h3⟩ := h
  simp only [List.cons.injEq, and_true] at e
  cases e
  refine ⟨A, c', by rw [List.length_take, Nat.min_eq_left hn], by rw [List.length_take, Nat.min_eq_left hn]; exact hnc, hc', fun k x hx => h3 k x ?_⟩
  rw [List.getElem?_take] at hx
  split at hx
  · exact hx
  · cases hx
theorem rep_ints_cap {w : World} {S : Nat → Prop} {xs : List Int} {A : Option Addr} {m c : Nat} (h : Lay.rep w S xs [.slice A m c]) : m = xs.length ∧ xs.length ≤ c ∧ c ≤ maxLen := by
  obtain ⟨A', c1, e, h1, h2, h3⟩ := h
  simp only [List.cons.injEq, and_true] at e
  cases e
  exact ⟨rfl, h1, h2⟩
theorem sureAns_bad {p : Prg} (h : prgFault p ≠ 0) (fn : Int) : sureAns p fn = ([], prgFault p) := by unfold sureAns; rw [if_pos h]
theorem sureAns_out {p : Prg} (h : prgFault p = 0) {fn : Int} (hf : fn < 0 ∨ (p.funcs.length : Int) ≤ fn) : sureAns p fn = ([], 2) := by
  unfold sureAns
  rw [if_neg (by simpa using h)]
  split
  · rfl
  · rw [List.getElem?_eq_none (by omega)]
theorem sureAns_in {p : Prg} (h : prgFault p = 0) {k : Nat} {f : Fun} (hf : p.funcs[k]? = some f) : sureAns p (k : Int) = ((sureL f).take f.code.length, 0) := by
  unfold sureAns
  rw [if_neg (by simpa using h), if_neg (by omega), Int.toNat_natCast, hf]
end Go.Proofs.YtnabeibnaoahmaaDoor
namespace Go.Proofs.YtnabeibnaoahmaaDoor
open Go.RowKit Plain64
attribute [local irreducible] wpList Code.wp Oper.wp
set_option maxRecDepth 10000 in
set_option maxHeartbeats 1000000 in
theorem Sure_any (p : Prg) (u : Value) (fn : Int) (w : World) (hp : Lay.rep w (Lt w.heap.size) p [u]) (hh : Has w) :
    Calls Tryd.prog 26 #[.agg #[u], .int .i64 fn] w fun e w' => ∃ v, e = .returned (.tuple #[v, .int .i64 (sureAns p fn).2]) ∧ Lay.rep w' (Fresh w w') (sureAns p fn).1 [v] ∧ Below w.heap.size w w' := by
  obtain ⟨A, c, rfl, hc, hm, hx⟩ := rep_prg_at hp
  unfold maxLen at hm
  have HX := Lib.hid hx
  have HR := Lib.hid hp
  have HH := Lib.hid hh
  clear hx hp hh
  have HP := Lib.hid (Hp.start w)
  by_cases hz : prgFault p = 0
  · have ok := okP_of hz
    have HOK := Lib.hid ok
    obtain ⟨n1, n2⟩ := ok.len
    clear ok
    have HZ := Lib.hid hz
    clear hz
    go_enter Tryd.func26, Tryd.ntmps26
    go_upto_region 2 with (first | (refine wpList_box_hp (o := ⟨some 2, _, _, _, _, _⟩) rfl _ _ rfl HP.out [_] rfl ?_; clear HP; intro g2 w2 HP; replace HP := Lib.hid HP) | (refine wpList_ldR0 rfl 24 _ rfl HP.out rfl Tryd.underlying24 rfl (by kernel_rfl) ?_) | (go_at_call 54; refine (codeCheck_any p _ _ (HP.out.rep (F := ⟨w, Lt w.heap.size⟩) (by simp) HR.out) (HH.out.keep HP.out.below rfl)).mono ?_; rintro e w4 ⟨rfl, hb⟩; replace HP := Lib.hid (HP.out.call0 hb); clear hb; rw [HZ.out]))
    have hfs := HP.out.cell (.head _) 0 _ rfl
    by_cases hfn : 0 ≤ fn ∧ fn < p.funcs.length
    · obtain ⟨f1, f2⟩ := hfn
      obtain ⟨k, rfl⟩ := Int.eq_ofNat_of_zero_le f1
      have hkl : k < p.funcs.length := by omega
      obtain ⟨ad, v, rfl, hab, hat, hcode⟩ := HX.out k hkl
      obtain ⟨f, hf⟩ : ∃ f, p.funcs[k] = f := ⟨_, rfl⟩
      rw [hf] at hat hcode
      have HANS := Lib.hid (sureAns_in HZ.out (show p.funcs[k]? = some f by rw [← hf, List.getElem?_eq_getElem hkl]))
      have HOF := Lib.hid (HOK.out.fns f (hf ▸ List.getElem_mem hkl))
      clear hf
      have HC := Lib.hid hcode
      obtain ⟨A2, c2, rfl, hc2, hm2, hx2⟩ := rep_code hcode
      unfold maxLen at hm2
      clear hx2 hcode
      obtain ⟨l1, l2⟩ := HOF.out.len
      have HAT := Lib.hid hat
      clear hat
      go_upto_region 7 with (first | (refine wpList_alloc_hp (o := ⟨some 7, _, _, _, _, _⟩) rfl _ rfl HP.out (.agg #[.int .i64 0, .int .i64 0, .slice none 0 0]) (by kernel_rfl) [_, _, _] rfl ?_; clear HP; intro g7 w7 HP; replace HP := Lib.hid HP) | (refine wpList_stR0 rfl 57 _ _ rfl HP.out rfl (cs' := [_, _, _]) rfl rfl (by simp [Value.oneCell']) (by kernel_rfl) ?_; clear HP; intro wst HP; replace HP := Lib.hid HP) | (refine wpList_ld0 rfl 22 _ rfl HP.out rfl rfl Tryd.underlying22 rfl ?_) | (refine wpList_ld1 rfl 22 _ rfl HP.out rfl rfl Tryd.underlying22 rfl ?_) | (refine wpList_load_at rfl 57 _ rfl _ rfl _ _ (HP.out.at_ (F := ⟨w, Lt w.heap.size⟩) (by simp) HAT.out (by rw [block_of_add]; exact hab)) Tryd.underlying57 rfl (by kernel_rfl) ?_))
      (try simp only [Act.put, List.setIfInBounds_toArray, List.set_cons_zero, List.set_cons_succ])
      have HP0 := Lib.hid HP.out.drew
      go_region_held (fun w' => w'.cell? ⟨g7, 0, none⟩ = some (.int .i64 f.params) ∧ w'.cell? ⟨g7, 1, none⟩ = some (.int .i64 f.regs) ∧ w'.cell? ⟨g7, 2, none⟩ = some (.slice A2 f.code.length c2)) (first | exact ⟨HP1.out.cell (.head _) 0 _ rfl, HP1.out.cell (.head _) 1 _ rfl, HP1.out.cell (.head _) 2 _ rfl⟩ | exact ⟨HP0.out.cell (.head _) 0 _ rfl, HP0.out.cell (.head _) 1 _ rfl, HP0.out.cell (.head _) 2 _ rfl⟩) ((go_at_call 56; refine (sure_any f _ _ _ (HP0.out.rep (F := ⟨w, Lt w.heap.size⟩) (by simp) HC.out) HOF.out).mono ?_; rintro e w5 ⟨u5, c5, rfl, hu5, hb5⟩; have HP1 := Lib.hid (HP0.out.call hb5); have HU5 := Lib.hid hu5; obtain ⟨_, hc5, hx5⟩ := rep_ints_cap hu5; rw [sureL_len] at hc5; unfold maxLen at hx5; clear hu5 hb5))
      go_wp2
      go_ret2
      refine ⟨_, by rw [HANS.out]; rfl, ?_, HP1.out.below⟩
      rw [HANS.out]
      have h0 := HP1.out
      have hr := rep_ints_take HU5.out f.code.length f.code.length (by rw [sureL_len]; omega) (Nat.le_refl _) (by unfold maxLen; omega)
      exact Lay.more (fun b hb => ⟨Nat.le_trans HP0.out.size hb.1, hb.2⟩) hr
    · have HANS := Lib.hid (sureAns_out HZ.out (fn := fn) (by omega))
      by_cases q1 : 0 ≤ fn
      · have q2 : (p.funcs.length : Int) ≤ fn := by omega
        clear hfn
        go_wp2
        go_ret2
        exact ⟨_, by rw [HANS.out]; rfl, by rw [HANS.out]; exact rep_ints_nil, HP.out.below⟩
      · have q2 : fn < 0 := by omega
        clear hfn q1
        go_wp2
        go_ret2
        exact ⟨_, by rw [HANS.out]; rfl, by rw [HANS.out]; exact rep_ints_nil, HP.out.below⟩
  · have hans := sureAns_bad hz fn
    have HANS := Lib.hid hans
    obtain ⟨e0, he0⟩ : ∃ e0, prgFault p = e0 := ⟨_, rfl⟩
    rw [he0] at hz HANS
    have HE0 := Lib.hid he0
    have hzb : (e0 != 0) = true := by simpa using hz
    clear hans he0 hz
    go_enter Tryd.func26, Tryd.ntmps26
    go_wp2_with (first | (refine wpList_box_hp (o := ⟨some 2, _, _, _, _, _⟩) rfl _ _ rfl HP.out [_] rfl ?_; clear HP; intro g2 w2 HP; replace HP := Lib.hid HP) | (refine wpList_ldR0 rfl 24 _ rfl HP.out rfl Tryd.underlying24 rfl (by kernel_rfl) ?_) | (go_at_call 54; refine (codeCheck_any p _ _ (HP.out.rep (F := ⟨w, Lt w.heap.size⟩) (by simp) HR.out) (HH.out.keep HP.out.below rfl)).mono ?_; rintro e w4 ⟨rfl, hb⟩; replace HP := Lib.hid (HP.out.call0 hb); clear hb; rw [HE0.out]))
    go_ret2
    exact ⟨_, by rw [HANS.out]; rfl, by rw [HANS.out]; exact rep_ints_nil, HP.out.below⟩
end Go.Proofs.YtnabeibnaoahmaaDoor
