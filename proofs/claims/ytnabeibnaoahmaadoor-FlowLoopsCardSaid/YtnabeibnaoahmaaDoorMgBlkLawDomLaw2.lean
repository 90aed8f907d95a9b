/- P7.1, P7.2: the blocks of a function. No program is named here. P7.3: which blocks stand on each way to a block. Of a graph; no program is named here. -/
import Derived.Test.YtnabeibnaoahmaaDoorMgProvenLawLiveLaw2
set_option linter.unusedSimpArgs false
set_option linter.unusedVariables false
namespace Go.Proofs.YtnabeibnaoahmaaDoor
open Go.RowKit Plain64
/-- Does a block begin at a place? -/
def HeadP (f : Fun) (pc : Nat) : Prop := pc = 0 ∨ ∃ (i : Nat) (x : Ins), f.code[i]? = some x ∧ SureAt f i ∧ 15 ≤ x.op ∧ (pc : Int) ∈ nextZ x i
open Classical in
noncomputable def headB (f : Fun) (pc : Nat) : Bool := decide (HeadP f pc)
theorem headB_iff {f : Fun} {pc : Nat} : headB f pc = true ↔ HeadP f pc := by unfold headB; simp
/-- The beginnings of blocks, rising. -/
noncomputable def headsL (f : Fun) : List Nat := (List.range f.code.length).filter (headB f)
theorem sure_zero {f : Fun} : SureAt f 0 := (sure_iff (Nat.zero_le _)).2 (.start (by omega))
theorem mem_headsL {f : Fun} {pc : Nat} : pc ∈ headsL f ↔ pc < f.code.length ∧ HeadP f pc := by
  unfold headsL; rw [List.mem_filter, List.mem_range, headB_iff]
theorem HeadP.sure {f : Fun} {funcs : Nat} (ok : OkF f funcs) (he : endsAt f = false) {pc : Nat} (h : HeadP f pc) : SureAt f pc ∧ pc < f.code.length := by
  rcases h with rfl | ⟨i, x, hx, hs, _, hn⟩
  · exact ⟨sure_zero, ok.len.1⟩
  · obtain ⟨h1, h2, h3⟩ := hs.nextLt ok he hx hn
    rw [Int.toNat_natCast] at h1
    exact ⟨h1, by omega⟩
def opAt (f : Fun) (pc : Nat) : Int := ((f.code[pc]?).map Ins.op).getD 0
theorem opAt_eq {f : Fun} {pc : Nat} {x : Ins} (h : f.code[pc]? = some x) : opAt f pc = x.op := by unfold opAt; rw [h]; rfl
/-- A block that begins at pc ends ahead of t. -/
structure IsTo (f : Fun) (pc t : Nat) : Prop where
  gt : pc < t
  le : t ≤ f.code.length
  stop : 15 ≤ opAt f (t - 1) ∨ HeadP f t
  run : ∀ s, pc < s → s < t → ¬ 15 ≤ opAt f (s - 1) ∧ ¬ HeadP f s
theorem IsTo.unique {f : Fun} {pc t u : Nat} (h : IsTo f pc t) (k : IsTo f pc u) : t = u := by
  rcases Nat.lt_trichotomy t u with h1 | h1 | h1
  · obtain ⟨a, b⟩ := k.run t h.gt h1
    rcases h.stop with c | c
    · exact absurd c a
    · exact absurd c b
  · exact h1
  · obtain ⟨a, b⟩ := h.run u k.gt h1
    rcases k.stop with c | c
    · exact absurd c a
    · exact absurd c b
open Classical in
noncomputable def toOf (f : Fun) (pc : Nat) : Nat := if h : ∃ t, IsTo f pc t then h.choose else 0
theorem IsTo.eq {f : Fun} {pc t : Nat} (h : IsTo f pc t) : toOf f pc = t := by
  have e : ∃ t, IsTo f pc t := ⟨t, h⟩
  unfold toOf; rw [dif_pos e]
  exact e.choose_spec.unique h
/-- A place on the way to a block's end. -/
structure OnTo (f : Fun) (pc t : Nat) : Prop where
  gt : pc < t
  le : t ≤ f.code.length
  sure : SureAt f (t - 1)
  run : ∀ s, pc < s → s < t → ¬ 15 ≤ opAt f (s - 1) ∧ ¬ HeadP f s
theorem OnTo.start {f : Fun} {pc : Nat} (h : SureAt f pc) (hl : pc < f.code.length) : OnTo f pc (pc + 1) := ⟨by omega, by omega, by rw [Nat.add_sub_cancel]; exact h, fun s h1 h2 => by omega⟩
theorem OnTo.done {f : Fun} {pc t : Nat} (h : OnTo f pc t) (hs : 15 ≤ opAt f (t - 1) ∨ HeadP f t) : IsTo f pc t := ⟨h.gt, h.le, hs, h.run⟩
theorem nextZ_plain {x : Ins} {pc : Nat} (h : ¬ 15 ≤ x.op) : nextZ x pc = [(pc : Int) + 1] := by
  unfold nextZ; rw [if_neg (by omega), if_neg (by omega), if_neg (by omega)]
theorem OnTo.lt {f : Fun} {funcs : Nat} (ok : OkF f funcs) (he : endsAt f = false) {pc t : Nat} (h : OnTo f pc t) (h1 : ¬ 15 ≤ opAt f (t - 1)) : t < f.code.length ∧ SureAt f t := by
  have hl : t - 1 < f.code.length := by have := h.gt; have := h.le; omega
  have hx := List.getElem?_eq_getElem hl
  rw [opAt_eq hx] at h1
  have hn : (((t - 1 : Nat) : Int) + 1) ∈ nextZ f.code[t - 1] (t - 1) := by rw [nextZ_plain h1]; simp
  obtain ⟨a, b, c⟩ := h.sure.nextLt ok he hx hn
  have e : (((t - 1 : Nat) : Int) + 1).toNat = t := by have := h.gt; omega
  rw [e] at a
  have := h.gt
  exact ⟨by omega, a⟩
theorem OnTo.next {f : Fun} {funcs : Nat} (ok : OkF f funcs) (he : endsAt f = false) {pc t : Nat} (h : OnTo f pc t) (h1 : ¬ 15 ≤ opAt f (t - 1)) (h2 : ¬ HeadP f t) : OnTo f pc (t + 1) := by
  obtain ⟨a, b⟩ := h.lt ok he h1
  refine ⟨by have := h.gt; omega, by omega, by rw [Nat.add_sub_cancel]; exact b, fun s g1 g2 => ?_⟩
  by_cases e : s = t
  · subst e; exact ⟨h1, h2⟩
  · exact h.run s g1 (by omega)
/-- What a block leads to are blocks' beginnings. -/
theorem IsTo.heads {f : Fun} {funcs : Nat} (ok : OkF f funcs) (he : endsAt f = false) {pc t : Nat} (h : OnTo f pc t) (hs : 15 ≤ opAt f (t - 1) ∨ HeadP f t) {x : Ins} (hx : f.code[t - 1]? = some x) {n : Int} (hn : n ∈ nextZ x (t - 1)) : n.toNat ∈ headsL f ∧ 0 ≤ n := by
  obtain ⟨a, b, c⟩ := h.sure.nextLt ok he hx hn
  refine ⟨mem_headsL.2 ⟨by omega, ?_⟩, b⟩
  by_cases h1 : 15 ≤ opAt f (t - 1)
  · rw [opAt_eq hx] at h1
    exact .inr ⟨t - 1, x, hx, h.sure, h1, by rw [show ((n.toNat : Nat) : Int) = n by omega]; exact hn⟩
  · rw [opAt_eq hx] at h1
    rw [nextZ_plain h1, List.mem_singleton] at hn
    have e : n.toNat = t := by have := h.gt; omega
    rw [e]
    rcases hs with c | c
    · rw [opAt_eq hx] at c; exact absurd c h1
    · exact c
structure Bk where
  frm : Int
  upto : Int
  nxt : List Int
  prv : List Int
def insB (f : Fun) (i : Nat) : Ins := (f.code[i]?).getD default
/-- Where the i-th block begins; its last place. -/
noncomputable def begB (f : Fun) (i : Nat) : Nat := (headsL f).getD i 0
noncomputable def lastB (f : Fun) (i : Nat) : Nat := toOf f (begB f i) - 1
/-- Does block i lead to block k? -/
noncomputable def edgeB (f : Fun) (i k : Nat) : Bool := decide ((begB f k : Int) ∈ nextZ (insB f (lastB f i)) (lastB f i))
noncomputable def nxtB (f : Fun) (i n : Nat) : List Int := ((List.range n).filter (fun k => edgeB f i k)).map fun k : Nat => (k : Int)
noncomputable def prvB (f : Fun) (k n : Nat) : List Int := ((List.range n).filter (fun i => edgeB f i k)).map fun i : Nat => (i : Int)
def preB (k : Nat) : List Int := if k = 0 then [-1] else []
noncomputable def blkOf (f : Fun) (i : Nat) : Bk := ⟨begB f i, toOf f (begB f i), nxtB f i (headsL f).length, preB i ++ prvB f i (headsL f).length⟩
noncomputable def blksL (f : Fun) : List Bk := (List.range (headsL f).length).map (blkOf f)
noncomputable def blocksAns (p : Prg) (fn : Int) : List Bk × Int :=
  if proven p ≠ 0 then ([], proven p) else if fn < 0 then ([], 2) else match p.funcs[fn.toNat]? with | none => ([], 2) | some f => (blksL f, 0)
theorem nxtB_succ (f : Fun) (i n : Nat) : nxtB f i (n + 1) = nxtB f i n ++ if edgeB f i n then [(n : Int)] else [] := by
  unfold nxtB
  rw [List.range_succ, List.filter_append, List.map_append]
  congr 1
  by_cases h : edgeB f i n = true
  · simp [h]
  · simp [h]
theorem prvB_succ (f : Fun) (k n : Nat) : prvB f k (n + 1) = prvB f k n ++ if edgeB f n k then [(n : Int)] else [] := by
  unfold prvB
  rw [List.range_succ, List.filter_append, List.map_append]
  congr 1
  by_cases h : edgeB f n k = true
  · simp [h]
  · simp [h]
theorem headsL_len (f : Fun) : (headsL f).length ≤ f.code.length := by
  unfold headsL; have := List.length_filter_le (headB f) (List.range f.code.length); rwa [List.length_range] at this
theorem headsL_pos {f : Fun} {funcs : Nat} (ok : OkF f funcs) : 0 < (headsL f).length := List.length_pos_of_mem (mem_headsL.2 ⟨ok.len.1, .inl rfl⟩)
theorem headsL_lt (f : Fun) : (headsL f).Pairwise (· < ·) := by
  unfold headsL; exact List.Pairwise.filter _ List.pairwise_lt_range
theorem begB_mem {f : Fun} {i : Nat} (h : i < (headsL f).length) : begB f i ∈ headsL f := by
  unfold begB; rw [List.getD_eq_getElem?_getD, List.getElem?_eq_getElem h]; exact List.getElem_mem h
theorem begB_get {f : Fun} {i : Nat} (h : i < (headsL f).length) : (headsL f)[i]? = some (begB f i) := by
  unfold begB; rw [List.getD_eq_getElem?_getD, List.getElem?_eq_getElem h]; rfl
theorem begB_inj {f : Fun} {i k : Nat} (hi : i < (headsL f).length) (hk : k < (headsL f).length) (h : begB f i = begB f k) : i = k := by
  have h1 := begB_get hi
  have h2 := begB_get hk
  rw [h] at h1
  obtain ⟨a, e1⟩ := List.getElem?_eq_some_iff.1 h1
  obtain ⟨b, e2⟩ := List.getElem?_eq_some_iff.1 h2
  have hp := List.pairwise_iff_getElem.1 (headsL_lt f)
  rcases Nat.lt_trichotomy i k with g | g | g
  · have := hp i k a b g; omega
  · exact g
  · have := hp k i b a g; omega
theorem head_at {f : Fun} {n : Nat} (h : n ∈ headsL f) : ∃ k, k < (headsL f).length ∧ begB f k = n := by
  obtain ⟨k, hk, e⟩ := List.mem_iff_getElem.1 h
  refine ⟨k, hk, ?_⟩
  have := begB_get hk
  rw [List.getElem?_eq_getElem hk, e] at this
  exact (Option.some.inj this).symm
end Go.Proofs.YtnabeibnaoahmaaDoor
namespace Go.Proofs.YtnabeibnaoahmaaDoor
open Go.RowKit Plain64
/-- There is a way from 0 to i that does not come to g. -/
inductive RA (E : Nat → Nat → Prop) (g : Nat) : Nat → Prop
  | start (h : 0 ≠ g) : RA E g 0
  | step {i k : Nat} (h : RA E g i) (he : E i k) (hk : k ≠ g) : RA E g k
/-- There is a way from 0 to i. -/
inductive Rch0 (E : Nat → Nat → Prop) : Nat → Prop
  | start : Rch0 E 0
  | step {i k : Nat} (h : Rch0 E i) (he : E i k) : Rch0 E k
variable {E : Nat → Nat → Prop}
theorem RA.ne {g i : Nat} (h : RA E g i) : i ≠ g := by
  cases h with
  | start h => exact h
  | step _ _ hk => exact hk
/-- g stands on each way to i, and is another one. -/
def SD (E : Nat → Nat → Prop) (g i : Nat) : Prop := g ≠ i ∧ ¬ RA E g i
theorem RA.or {a b i : Nat} (h : RA E a i) : RA E b i ∨ RA E a b := by
  induction h with
  | start h =>
    by_cases e : 0 = b
    · subst e; exact .inr (.start h)
    · exact .inl (.start e)
  | step h he hk ih =>
    rename_i j k
    rcases ih with ih | ih
    · by_cases e : k = b
      · subst e; exact .inr (.step h he hk)
      · exact .inl (.step ih he e)
    · exact .inr ih
theorem SD.trans {a b i : Nat} (h1 : ¬ RA E a b) (h2 : ¬ RA E b i) : ¬ RA E a i := fun h => by
  rcases h.or (b := b) with h3 | h3
  · exact h2 h3
  · exact h1 h3
/-- Of two that stand on each way to a block, one stands on each way to the other. -/
theorem dom_chain {a b i : Nat} (hr : Rch0 E i) (hab : a ≠ b) (ha : ¬ RA E a i) (hb : ¬ RA E b i) : ¬ RA E a b ∨ ¬ RA E b a := by
  by_cases h1 : RA E a b
  · right
    intro h2
    have key : ∀ j, Rch0 E j → RA E a j ∨ RA E b j := by
      intro j hj
      induction hj with
      | start =>
        by_cases e : 0 = a
        · exact .inr (.start (fun e2 => hab (e.symm.trans e2)))
        · exact .inl (.start e)
      | step h he ih =>
        rename_i j k
        rcases ih with ih | ih
        · by_cases e : k = a
          · exact .inr (e ▸ h2)
          · exact .inl (.step ih he e)
        · by_cases e : k = b
          · exact .inl (e ▸ h1)
          · exact .inr (.step ih he e)
    rcases key i hr with h3 | h3
    · exact ha h3
    · exact hb h3
  · exact .inl h1
theorem dom_anti {a b : Nat} (hr : Rch0 E a) (hab : a ≠ b) (h1 : ¬ RA E a b) (h2 : ¬ RA E b a) : False := by
  have key : ∀ j, Rch0 E j → RA E a j ∧ RA E b j := by
    intro j hj
    induction hj with
    | start =>
      refine ⟨.start fun e => ?_, .start fun e => ?_⟩
      · exact h2 (e ▸ .start (fun e2 => hab (e.symm.trans e2)))
      · exact h1 (e ▸ .start (fun e2 => hab (e2.symm.trans e)))
    | step h he ih =>
      rename_i j k
      by_cases e1 : k = a
      · exact absurd (e1 ▸ .step ih.2 he (fun e2 => hab (e1.symm.trans e2)) : RA E b a) h2
      · by_cases e2 : k = b
        · exact absurd (e2 ▸ .step ih.1 he e1 : RA E a b) h1
        · exact ⟨.step ih.1 he e1, .step ih.2 he e2⟩
  exact (key a hr).1.ne rfl
theorem ra_rch {g i : Nat} (h : RA E g i) : Rch0 E i := by
  induction h with
  | start _ => exact .start
  | step _ he _ ih => exact .step ih he
theorem sd_zero {g : Nat} (h : SD E g 0) : False := h.2 (.start (fun e => h.1 e.symm))
theorem zero_sd {i : Nat} (h : i ≠ 0) : SD E 0 i := by
  refine ⟨fun e => h e.symm, fun hr => ?_⟩
  have : ∀ j, RA E 0 j → False := by
    intro j hj
    induction hj with
    | start h => exact h rfl
    | step _ _ _ ih => exact ih
  exact this i hr
/-- The nearest one above a block: that which all others stand above. -/
structure IsAbv (E : Nat → Nat → Prop) (i k : Nat) : Prop where
  sd : SD E k i
  all : ∀ g, SD E g i → g = k ∨ SD E g k
theorem IsAbv.unique {i k l : Nat} (hr : ∀ j, Rch0 E j) (h : IsAbv E i k) (h2 : IsAbv E i l) : k = l := by
  rcases h.all l h2.sd with e | e
  · exact e.symm
  · rcases h2.all k h.sd with e2 | e2
    · exact e2
    · exact absurd (dom_anti (hr l) e.1 e.2 e2.2) id
end Go.Proofs.YtnabeibnaoahmaaDoor
