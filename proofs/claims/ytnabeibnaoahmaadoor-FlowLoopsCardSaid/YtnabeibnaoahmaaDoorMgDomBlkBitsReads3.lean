/- P7.3: the blocks' graph: all are come to; the nearest one above; counting. No program is named here. ref.oneBit, ref.hasBit; bits of small numbers. proof.reads. -/
import Derived.Test.YtnabeibnaoahmaaDoorMgBlkLawDomLaw2
import Derived.Test.YtnabeibnaoahmaaDoorHpOps
import Derived.Test.YtnabeibnaoahmaaDoorRows
import Derived.Test.YtnabeibnaoahmaaDoorPlain64
import Derived.Test.YtnabeibnaoahmaaDoorMgPrNestNestBFind4
import Derived.Test.YtnabeibnaoahmaaDoorValid
import Derived.BigQuiet
set_option linter.unusedSimpArgs false
set_option linter.unusedVariables false
namespace Go.Proofs.YtnabeibnaoahmaaDoor
open Go.RowKit Plain64
/-- Block i leads to block k. -/
def EB (f : Fun) (i k : Nat) : Prop := i < (headsL f).length ∧ k < (headsL f).length ∧ edgeB f i k = true
theorem to_exists {f : Fun} {funcs : Nat} (ok : OkF f funcs) (he : endsAt f = false) {pc : Nat} : ∀ (n t : Nat), f.code.length - t ≤ n → OnTo f pc t → ∃ u, OnTo f pc u ∧ (15 ≤ opAt f (u - 1) ∨ HeadP f u)
  | n, t, hn, h => by
    by_cases h1 : 15 ≤ opAt f (t - 1)
    · exact ⟨t, h, .inl h1⟩
    · by_cases h2 : HeadP f t
      · exact ⟨t, h, .inr h2⟩
      · have hl := (h.lt ok he h1).1
        cases n with
        | zero => omega
        | succ n => exact to_exists ok he n (t + 1) (by omega) (h.next ok he h1 h2)
theorem blk_to {f : Fun} {funcs : Nat} (ok : OkF f funcs) (he : endsAt f = false) {i : Nat} (hi : i < (headsL f).length) : ∃ t, OnTo f (begB f i) t ∧ (15 ≤ opAt f (t - 1) ∨ HeadP f t) ∧ toOf f (begB f i) = t := by
  have hm := mem_headsL.1 (begB_mem hi)
  obtain ⟨t, h1, h2⟩ := to_exists ok he (pc := begB f i) f.code.length (begB f i + 1) (by omega) (OnTo.start (hm.2.sure ok he).1 hm.1)
  exact ⟨t, h1, h2, (h1.done h2).eq⟩
theorem begB_zero {f : Fun} {funcs : Nat} (ok : OkF f funcs) : begB f 0 = 0 := by
  have h0 : 0 < (headsL f).length := headsL_pos ok
  obtain ⟨k, hk, e⟩ := head_at (f := f) (n := 0) (mem_headsL.2 ⟨ok.len.1, .inl rfl⟩)
  by_cases hk0 : k = 0
  · rw [hk0] at e; exact e
  · have hq := List.pairwise_iff_getElem.1 (headsL_lt f) 0 k h0 hk (by omega)
    have e1 := begB_get h0
    have e2 := begB_get hk
    rw [List.getElem?_eq_getElem h0] at e1
    rw [List.getElem?_eq_getElem hk] at e2
    have e1 := Option.some.inj e1
    have e2 := Option.some.inj e2
    omega
theorem way_blk {f : Fun} {funcs : Nat} (ok : OkF f funcs) (he : endsAt f = false) {pc : Nat} (h : Way f (-1) pc) : ∃ i, i < (headsL f).length ∧ begB f i ≤ pc ∧ pc < toOf f (begB f i) ∧ Rch0 (EB f) i := by
  induction h with
  | start _ =>
    have h0 : 0 < (headsL f).length := headsL_pos ok
    obtain ⟨t, h1, h2, h3⟩ := blk_to ok he h0
    refine ⟨0, h0, by rw [begB_zero ok]; exact Nat.le_refl _, ?_, .start⟩
    rw [h3]; have := h1.gt; omega
  | step hw hx hk hn ih =>
    rename_i pc x n
    obtain ⟨i, hi, h1, h2, h3⟩ := ih
    obtain ⟨t, g1, g2, g3⟩ := blk_to ok he hi
    rw [g3] at h2
    by_cases hl : pc = t - 1
    · subst hl
      obtain ⟨a, b⟩ := IsTo.heads ok he g1 g2 hx hn
      obtain ⟨k, hkl, e⟩ := head_at a
      obtain ⟨u, u1, u2, u3⟩ := blk_to ok he hkl
      refine ⟨k, hkl, by rw [e]; exact Nat.le_refl _, by rw [u3]; have := u1.gt; omega, .step h3 ⟨hi, hkl, ?_⟩⟩
      have e1 : lastB f i = t - 1 := by unfold lastB; rw [g3]
      have e2 : insB f (t - 1) = x := by unfold insB; rw [hx]; rfl
      unfold edgeB
      rw [e1, e2, decide_eq_true_iff, e, show ((n.toNat : Nat) : Int) = n by omega]
      exact hn
    · have hr := (g1.done g2).run (pc + 1) (by omega) (by omega)
      rw [Nat.add_sub_cancel, opAt_eq hx] at hr
      rw [nextZ_plain hr.1, List.mem_singleton] at hn
      have e : n.toNat = pc + 1 := by omega
      exact ⟨i, hi, by rw [e]; omega, by rw [e, g3]; omega, h3⟩
/-- Each block is come to. -/
theorem blk_rch {f : Fun} {funcs : Nat} (ok : OkF f funcs) (he : endsAt f = false) {i : Nat} (hi : i < (headsL f).length) : Rch0 (EB f) i := by
  have hm := mem_headsL.1 (begB_mem hi)
  have hs := (hm.2.sure ok he).1
  obtain ⟨k, hk, h1, h2, h3⟩ := way_blk ok he ((sure_iff (by omega)).1 hs)
  obtain ⟨t, g1, g2, g3⟩ := blk_to ok he hk
  rw [g3] at h2
  by_cases e : begB f k = begB f i
  · rw [begB_inj hi hk e.symm]; exact h3
  · exact absurd hm.2 ((g1.done g2).run (begB f i) (by omega) h2).2
variable {E : Nat → Nat → Prop} {m : Nat}
theorem rch_lt (hE : ∀ i k, E i k → k < m) (hm : 0 < m) {i : Nat} (h : Rch0 E i) : i < m := by
  cases h with
  | start => exact hm
  | step _ he => exact hE _ _ he
theorem sd_lt (hE : ∀ i k, E i k → k < m) (hm : 0 < m) {g i : Nat} (hr : Rch0 E i) (h : SD E g i) : g < m := by
  by_cases hg : g < m
  · exact hg
  · exfalso
    apply h.2
    clear h
    induction hr with
    | start => exact .start (by omega)
    | step _ he ih => exact .step ih he (by have := hE _ _ he; omega)
open Classical in
noncomputable def sdB (E : Nat → Nat → Prop) (g i : Nat) : Bool := decide (SD E g i)
theorem sdB_iff {g i : Nat} : sdB E g i = true ↔ SD E g i := by unfold sdB; simp
/-- How many stand above. -/
noncomputable def cntSD (E : Nat → Nat → Prop) (m g : Nat) : Nat := (List.range m).countP fun h => sdB E h g
theorem countP_ltD {p q : Nat → Bool} : ∀ {l : List Nat}, (∀ x ∈ l, p x = true → q x = true) → ∀ y ∈ l, q y = true → p y = false → l.countP p < l.countP q
  | [], _, y, hy, _, _ => by simp at hy
  | z :: l, h, y, hy, h1, h2 => by
    rw [List.countP_cons, List.countP_cons]
    have hm : l.countP p ≤ l.countP q := List.countP_mono_left (fun x hx => h x (by simp [hx]))
    rcases List.mem_cons.1 hy with e | e
    · subst e
      rw [h1, h2]; simp; omega
    · have := countP_ltD (fun x hx => h x (by simp [hx])) y e h1 h2
      have hz := h z (by simp)
      by_cases hp : p z = true
      · rw [hp, hz hp]; simp; omega
      · rw [if_neg hp]
        split <;> omega
theorem sd_sub {a b x : Nat} (hr : Rch0 E a) (hab : SD E a b) (hx : SD E x a) : SD E x b := by
  refine ⟨fun e => ?_, SD.trans hx.2 hab.2⟩
  subst e
  exact dom_anti hr (fun e => hab.1 e) hab.2 hx.2
theorem cnt_lt (hr : ∀ j, j < m → Rch0 E j) {a b : Nat} (ha : a < m) (hab : SD E a b) : cntSD E m a < cntSD E m b := by
  unfold cntSD
  refine countP_ltD (fun x _ hx => ?_) a (List.mem_range.2 ha) (sdB_iff.2 hab) ?_
  · exact sdB_iff.2 (sd_sub (hr a ha) hab (sdB_iff.1 hx))
  · cases h : sdB E a a with
    | false => rfl
    | true => exact absurd rfl (sdB_iff.1 h).1
/-- Of those above that one with most above itself is the nearest. -/
theorem abv_of_max (hr : ∀ j, j < m → Rch0 E j) (hE : ∀ i k, E i k → k < m) (hm : 0 < m) {i k : Nat} (hi : i < m) (hk : SD E k i) (hmax : ∀ g, SD E g i → cntSD E m g ≤ cntSD E m k) : IsAbv E i k := by
  refine ⟨hk, fun g hg => ?_⟩
  by_cases e : g = k
  · exact .inl e
  · right
    have hgm := sd_lt hE hm (hr i hi) hg
    have hkm := sd_lt hE hm (hr i hi) hk
    rcases dom_chain (hr i hi) e hg.2 hk.2 with h | h
    · exact ⟨e, h⟩
    · have h1 := cnt_lt hr hkm (show SD E k g from ⟨fun e2 => e e2.symm, h⟩)
      have h2 := hmax g hg
      omega
theorem max_exists {p : Nat → Prop} {c : Nat → Nat} : ∀ n, (∃ k, k < n ∧ p k) → ∃ k, k < n ∧ p k ∧ ∀ g, g < n → p g → c g ≤ c k
  | 0, ⟨k, hk, _⟩ => by omega
  | n + 1, ⟨k, hk, hp⟩ => by
    by_cases h : ∃ k, k < n ∧ p k
    · obtain ⟨a, ha, hpa, hmax⟩ := max_exists (p := p) (c := c) n h
      by_cases hn : p n ∧ c a < c n
      · refine ⟨n, by omega, hn.1, fun g hg hpg => ?_⟩
        by_cases e : g = n
        · subst e; exact Nat.le_refl _
        · have := hmax g (by omega) hpg; omega
      · refine ⟨a, by omega, hpa, fun g hg hpg => ?_⟩
        by_cases e : g = n
        · subst e
          by_cases h3 : c a < c g
          · exact absurd ⟨hpg, h3⟩ hn
          · omega
        · exact hmax g (by omega) hpg
    · have e : k = n := by
        by_cases e : k = n
        · exact e
        · exact absurd ⟨k, by omega, hp⟩ h
      subst e
      refine ⟨k, by omega, hp, fun g hg hpg => ?_⟩
      by_cases e : g = k
      · subst e; exact Nat.le_refl _
      · exact absurd ⟨g, by omega, hpg⟩ h
theorem abv_exists (hr : ∀ j, j < m → Rch0 E j) (hE : ∀ i k, E i k → k < m) (hm : 0 < m) {i : Nat} (hi : i < m) (h0 : i ≠ 0) : ∃ k, k < m ∧ IsAbv E i k := by
  obtain ⟨k, hk, hp, hmax⟩ := max_exists (p := fun g => SD E g i) (c := cntSD E m) m ⟨0, hm, zero_sd h0⟩
  exact ⟨k, hk, abv_of_max hr hE hm hi hp (fun g hg => hmax g (sd_lt hE hm (hr i hi) hg) hg)⟩
theorem eb_lt {f : Fun} (i k : Nat) (h : EB f i k) : k < (headsL f).length := h.2.1
open Classical in
noncomputable def abvZ (f : Fun) (i : Nat) : Int := if h : i ≠ 0 ∧ ∃ k, IsAbv (EB f) i k then ((h.2.choose : Nat) : Int) else -1
theorem abvZ_eq {f : Fun} {funcs : Nat} (ok : OkF f funcs) (he : endsAt f = false) {i k : Nat} (h0 : i ≠ 0) (h : IsAbv (EB f) i k) (hk : k < (headsL f).length) : abvZ f i = k := by
  have e : i ≠ 0 ∧ ∃ k, IsAbv (EB f) i k := ⟨h0, k, h⟩
  unfold abvZ
  rw [dif_pos e]
  have h2 := e.2.choose_spec
  have hx : ∀ l, IsAbv (EB f) i l → l = k := fun l hl => by
    rcases h.all l hl.sd with e | e
    · exact e
    · rcases hl.all k h.sd with e2 | e2
      · exact e2.symm
      · exact (dom_anti (blk_rch ok he hk) e2.1 e2.2 e.2).elim
  rw [hx _ h2]
theorem abvZ_zero (f : Fun) : abvZ f 0 = -1 := by unfold abvZ; rw [dif_neg (fun h => h.1 rfl)]
noncomputable def abvL (f : Fun) : List Int := (List.range (headsL f).length).map (abvZ f)
noncomputable def aboveAns (p : Prg) (fn : Int) : List Int × Int :=
  if proven p ≠ 0 then ([], proven p) else if fn < 0 then ([], 2) else match p.funcs[fn.toNat]? with | none => ([], 2) | some f => (abvL f, 0)
theorem above_bad {p : Prg} (h : proven p ≠ 0) (fn : Int) : aboveAns p fn = ([], proven p) := by unfold aboveAns; rw [if_pos h]
theorem above_out {p : Prg} (h : proven p = 0) {fn : Int} (hf : ¬ (0 ≤ fn ∧ fn < p.funcs.length)) : aboveAns p fn = ([], 2) := by
  unfold aboveAns
  rw [if_neg (by simpa using h)]
  by_cases h1 : fn < 0
  · rw [if_pos h1]
  · rw [if_neg h1, List.getElem?_eq_none (by omega)]
theorem above_in {p : Prg} (h : proven p = 0) {k : Nat} {f : Fun} (hf : p.funcs[k]? = some f) : aboveAns p (k : Int) = (abvL f, 0) := by
  unfold aboveAns
  rw [if_neg (by simpa using h), if_neg (by omega), Int.toNat_natCast, hf]
end Go.Proofs.YtnabeibnaoahmaaDoor
namespace Go.Proofs.YtnabeibnaoahmaaDoor
open Go.RowKit Plain64
attribute [local irreducible] wpList Code.wp Oper.wp

theorem pow_pos' (k : Nat) : (1 : Int) ≤ 2 ^ k := by
  have : (0 : Int) < 2 ^ k := Int.pow_pos (by decide)
  omega
theorem pow_le' {j k : Nat} (h : j ≤ k) : (2 : Int) ^ j ≤ 2 ^ k := by
  have := Nat.pow_le_pow_right (n := 2) (by decide) h
  have e : ∀ n : Nat, ((2 ^ n : Nat) : Int) = 2 ^ n := fun n => by simp
  rw [← e, ← e]; omega
set_option maxHeartbeats 400000 in
theorem hasBit_any (n : Int) (k : Nat) (hk : k ≤ 60) (hn : 0 ≤ n ∧ n ≤ 9223372036854775807) (w : World) :
    Calls Tryd.prog 47 #[.int .i64 n, .int .i64 k] w fun e w' => e = .returned (.bool (bitZ n k)) ∧ w = w' := by
  go_enter Tryd.func47, Tryd.ntmps47
  go_wp2
  go_loop [0, 5] (fun n' i => ∃ (j : Nat) (m : Int), j ≤ k ∧ i = .int .i64 j ∧ n' = .int .i64 m ∧ Hid (m = n / 2 ^ j) ∧ 0 ≤ m ∧ m ≤ 9223372036854775807) (fun _ i => k - (intOf i).toNat)
  case atStart => exact ⟨0, n, by omega, rfl, rfl, Lib.hid (by simp), hn.1, hn.2⟩
  case round =>
    obtain ⟨j, m, hj, rfl, rfl, hm, h1, h2⟩ := hrel
    by_cases hlt : j < k
    · go_wp2
      go_round
      case rel => exact ⟨j + 1, m / 2, by omega, by go_num, by go_num, Lib.hid (by rw [hm.out, half_step]), by omega, by omega⟩
      case measure => simp [intOf]; omega
    · obtain rfl : j = k := by omega
      go_wp2
      go_ret
      refine ⟨ret_bool ?_, rfl⟩
      rw [bitZ, ← hm.out, Bool.eq_iff_iff]
      simp
end Go.Proofs.YtnabeibnaoahmaaDoor
namespace Go.Proofs.YtnabeibnaoahmaaDoor
open Go.RowKit Plain64
attribute [local irreducible] wpList Code.wp Oper.wp
theorem rep_prg_at {p : Prg} {u : Value} {w : World} {S : Nat → Prop} (h : Lay.rep w S p [u]) : ∃ (A : Option Addr) (c : Nat), u = .slice A p.funcs.length c ∧ p.funcs.length ≤ c ∧ c ≤ maxLen ∧
    ∀ (k : Nat) (hk : k < p.funcs.length), ∃ (a : Addr) (v : Value), A = some a ∧ S a.block ∧ At w (a.add (k * 3)) [.int .i64 p.funcs[k].params, .int .i64 p.funcs[k].regs, v] ∧ Lay.rep w S p.funcs[k].code [v] := rep_funs_at (rep_prg.1 h)
theorem index0 (a b c : Int) (w : World) : (Instr.index 105 (.agg #[.int .i64 a, .int .i64 b, .int .i64 c]) (.int .i64 0)).run Tryd.prog w = .ok (.int .i64 a) w := by kernel_rfl
theorem index1 (a b c : Int) (w : World) : (Instr.index 105 (.agg #[.int .i64 a, .int .i64 b, .int .i64 c]) (.int .i64 1)).run Tryd.prog w = .ok (.int .i64 b) w := by kernel_rfl
theorem index2 (a b c : Int) (w : World) : (Instr.index 105 (.agg #[.int .i64 a, .int .i64 b, .int .i64 c]) (.int .i64 2)).run Tryd.prog w = .ok (.int .i64 c) w := by kernel_rfl
set_option maxRecDepth 10000 in
set_option maxHeartbeats 1000000 in
theorem reads_any (p : Prg) (u : Value) (x : Ins) (len : Nat) (w : World) (hp : Lay.rep w (Lt w.heap.size) p [u]) (ok : OkP p) (okx : OkI x len p.funcs.length) :
    Calls Tryd.prog 59 #[.agg #[u], .agg #[.int .i64 x.op, .int .i64 x.dst, .int .i64 x.a, .int .i64 x.b, .int .i64 x.imm]] w fun e w' => e = .returned (.int .i64 (bitsL (readsL p x))) ∧ Below w.heap.size w w' := by
  obtain ⟨A, c, rfl, hc, hm, hx⟩ := rep_prg_at hp
  unfold maxLen at hm
  have HX := Lib.hid hx
  have HO := Lib.hid okx
  have HK := Lib.hid ok
  obtain ⟨a1, a2⟩ := okx.a
  obtain ⟨b1, b2⟩ := okx.b
  obtain ⟨n1, n2⟩ := ok.len
  clear hx hp ok okx
  have HP := Lib.hid (Hp.start w)
  go_enter Tryd.func59, Tryd.ntmps59
  go_upto_region 1 with (first | (refine wpList_box_hp (o := ⟨some 2, _, _, _, _, _⟩) rfl _ _ rfl HP.out [_] rfl ?_; clear HP; intro g2 w2 HP; replace HP := Lib.hid HP) | (refine wpList_box_hp (o := ⟨some 3, _, _, _, _, _⟩) rfl _ _ rfl HP.out [_, _, _, _, _] rfl ?_; clear HP; intro g3 w3 HP; replace HP := Lib.hid HP))
  have ha := HP.out.cell (.head _) 2 _ rfl
  have hb := HP.out.cell (.head _) 3 _ rfl
  have hop := HP.out.cell (.head _) 0 _ rfl
  have himm := HP.out.cell (.head _) 4 _ rfl
  have hfs := HP.out.cell (.tail _ (.head _)) 0 _ rfl
  have ea : wrap64 (2 ^ x.a.toNat) = 2 ^ x.a.toNat := by have := pow_small x.a ⟨a1, a2⟩; unfold wrap64; omega
  have eb : wrap64 (2 ^ x.b.toNat) = 2 ^ x.b.toNat := by have := pow_small x.b ⟨b1, b2⟩; unfold wrap64; omega
  by_cases h17 : x.op = 17
  · obtain ⟨i1, i2⟩ := HO.out.cal h17
    obtain ⟨k, hk⟩ := Int.eq_ofNat_of_zero_le i1
    have hkl : k < p.funcs.length := by omega
    have hki : (k : Int) < (p.funcs.length : Int) := by omega
    obtain ⟨ad, v, rfl, hab, hat, _⟩ := HX.out k hkl
    have hpar : parZ p x.imm = p.funcs[k].params := by unfold parZ; rw [hk]; simp [hkl]
    have hq := (HK.out.fns _ (List.getElem_mem hkl)).params
    have hcp := (HP.out.at_ (F := ⟨w, Lt w.heap.size⟩) (by simp) hat (by rw [block_of_add]; exact hab)).cell 0 rfl
    have e0 : (ad.add (k * 3)).add 0 = ad.add (k * 3) := by simp [Addr.add]
    rw [e0] at hcp
    have HO17 := Lib.hid h17
    have HPAR := Lib.hid hpar
    rw [hk] at himm
    rw [h17] at hop
    have HKK := Lib.hid hk
    obtain ⟨r, hr⟩ : ∃ r, p.funcs[k].params = r := ⟨_, rfl⟩
    rw [hr] at hcp hq HPAR
    clear h17 hk hpar hat hr e0 i1 i2
    have hr3 : r = 0 ∨ r = 1 ∨ r = 2 := by omega
    clear hq
    rcases hr3 with rfl | rfl | rfl
    all_goals
      go_quiet (fail)
      have i0 := index0
      have i1 := index1
      have i2 := index2
      go_wp2
      go_ret
      refine ⟨ret_int ?_, (HP.out.drewN nq).below⟩
      unfold readsL
      rw [HPAR.out, HO17.out]
      first | rfl | exact or_bits _ _ ⟨a1, a2⟩ ⟨b1, b2⟩
  · have h17b : (x.op == 17) = false := by simpa using h17
    have HN := Lib.hid h17
    clear h17
    go_quiet (fail)
    go_wp2
    all_goals
      go_ret
      refine ⟨ret_int ?_, (HP.out.drewN nq).below⟩
      have h17 := HN.out
      simp only [beq_iff_eq, beq_eq_false_iff_ne, ne_eq] at *
      have h1 := HO.out.op
      unfold readsL
      (try rw [ea]); (try rw [eb])
      first
        | (rw [show readsAZ x.op = false by unfold readsAZ; simp; omega, show readsBZ x.op = false by unfold readsBZ; simp; omega]; rfl)
        | (rw [show readsAZ x.op = true by unfold readsAZ; simp; omega, show readsBZ x.op = false by unfold readsBZ; simp; omega, decide_eq_true h17]; rfl)
        | (rw [show readsAZ x.op = true by unfold readsAZ; simp; omega, show readsBZ x.op = true by unfold readsBZ; simp; omega, decide_eq_true h17]; exact or_bits _ _ ⟨a1, a2⟩ ⟨b1, b2⟩)
end Go.Proofs.YtnabeibnaoahmaaDoor
