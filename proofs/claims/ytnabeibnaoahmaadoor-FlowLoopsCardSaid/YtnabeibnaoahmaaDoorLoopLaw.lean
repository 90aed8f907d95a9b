/- P7.5: loops: what comes to a block without a head. No program is named here. -/
import Derived.Test.YtnabeibnaoahmaaDoorMgDomBlkBitsReads3
import Derived.Test.YtnabeibnaoahmaaDoorMgPrNestNestBFind4
import Derived.Test.YtnabeibnaoahmaaDoorMgReadsOfState2
set_option linter.unusedSimpArgs false
set_option linter.unusedVariables false
namespace Go.Proofs.YtnabeibnaoahmaaDoor
open Go.RowKit Plain64
/-- There is a way from a block to t that does not come to g. -/
inductive RV (E : Nat → Nat → Prop) (g t : Nat) : Nat → Prop
  | here (h : t ≠ g) : RV E g t t
  | step {i k : Nat} (he : E i k) (h : RV E g t k) (hi : i ≠ g) : RV E g t i
/-- There is a way from s to a block that does not come to g. -/
inductive RF (E : Nat → Nat → Prop) (g s : Nat) : Nat → Prop
  | start (h : s ≠ g) : RF E g s s
  | step {i k : Nat} (h : RF E g s i) (he : E i k) (hk : k ≠ g) : RF E g s k
variable {E : Nat → Nat → Prop}
theorem RV.ne {g t i : Nat} (h : RV E g t i) : i ≠ g := by
  cases h with
  | here h => exact h
  | step _ _ h => exact h
theorem RV.snoc {g s i k : Nat} (h : RV E g i s) (he : E i k) (hk : k ≠ g) : RV E g k s := by
  induction h with
  | here h => exact .step he (.here hk) h
  | step h1 _ h3 ih => exact .step h1 ih h3
theorem RF.cons {g i k t : Nat} (h : RF E g k t) (he : E i k) (hi : i ≠ g) : RF E g i t := by
  induction h with
  | start h => exact .step (.start hi) he h
  | step _ h2 h3 ih => exact .step ih h2 h3
theorem rf_rv {g s t : Nat} : RF E g s t ↔ RV E g t s := by
  constructor
  · intro h
    induction h with
    | start h => exact .here h
    | step _ he hk ih => exact ih.snoc he hk
  · intro h
    induction h with
    | here h => exact .start h
    | step he _ hi ih => exact ih.cons he hi
theorem rv_self {g i : Nat} (h : RV E g g i) : False := by
  induction h with
  | here h => exact h rfl
  | step _ _ _ ih => exact ih
open Classical in
noncomputable def rvB (f : Fun) (g t i : Nat) : Bool := decide (RV (EB f) g t i)
theorem rvB_iff {f : Fun} {g t i : Nat} : rvB f g t i = true ↔ RV (EB f) g t i := by unfold rvB; simp
open Classical in
noncomputable def stB (f : Fun) (a b : Nat) : Bool := decide (a = b ∨ ¬ RA (EB f) a b)
theorem stB_iff {f : Fun} {a b : Nat} : stB f a b = true ↔ (a = b ∨ ¬ RA (EB f) a b) := by unfold stB; simp
/-- What of the first n blocks is in the loop, the head set aside. -/
noncomputable def inL (f : Fun) (h t n : Nat) : List Int := ((List.range n).filter (fun b => b != h && rvB f h t b)).map fun k : Nat => (k : Int)
theorem inL_succ (f : Fun) (h t n : Nat) : inL f h t (n + 1) = inL f h t n ++ if (n != h && rvB f h t n) then [(n : Int)] else [] := by
  unfold inL
  rw [List.range_succ, List.filter_append, List.map_append]
  congr 1
  rw [List.filter_cons, List.filter_nil]
  split <;> rfl
theorem inL_len (f : Fun) (h t n : Nat) : (inL f h t n).length ≤ n := by
  unfold inL; rw [List.length_map]; have := List.length_filter_le (fun b => b != h && rvB f h t b) (List.range n); rwa [List.length_range] at this
noncomputable def rowB (f : Fun) (h t : Nat) : List Int := (h : Int) :: inL f h t (headsL f).length
/-- The loops of one block, of these of the blocks that it leads to. -/
noncomputable def loopsAt (f : Fun) (i : Nat) (l : List Int) : List (List Int) := l.flatMap fun h => if stB f h.toNat i then [rowB f h.toNat i] else []
theorem loopsAt_snoc (f : Fun) (i h : Nat) (l : List Int) : loopsAt f i (l ++ [(h : Int)]) = loopsAt f i l ++ if stB f h i then [rowB f h i] else [] := by
  unfold loopsAt
  rw [List.flatMap_append, List.flatMap_cons, List.flatMap_nil, List.append_nil, Int.toNat_natCast]
theorem loopsAt_len (f : Fun) (i : Nat) : ∀ l, (loopsAt f i l).length ≤ l.length
  | [] => Nat.le_refl _
  | h :: l => by
    have := loopsAt_len f i l
    unfold loopsAt at this ⊢
    rw [List.flatMap_cons, List.length_append, List.length_cons]
    have h2 : (if stB f h.toNat i = true then [rowB f h.toNat i] else []).length ≤ 1 := by split <;> simp
    omega
noncomputable def loopsL (f : Fun) : Nat → List (List Int)
  | 0 => []
  | n + 1 => loopsL f n ++ loopsAt f n (nxtB f n (headsL f).length)
theorem loopsL_len (f : Fun) : ∀ n, (loopsL f n).length ≤ n * (headsL f).length
  | 0 => by rw [Nat.zero_mul]; exact Nat.le_refl _
  | n + 1 => by
    have h1 := loopsL_len f n
    have h2 := loopsAt_len f n (nxtB f n (headsL f).length)
    have h3 : (nxtB f n (headsL f).length).length ≤ (headsL f).length := by
      unfold nxtB; rw [List.length_map]; have := List.length_filter_le (fun k => edgeB f n k) (List.range (headsL f).length); rwa [List.length_range] at this
    rw [loopsL, List.length_append, Nat.succ_mul]; omega
/-- P7.5, at every argument. -/
noncomputable def loopsAns (p : Prg) (fn : Int) : List (List Int) × Int :=
  if proven p ≠ 0 then ([], proven p) else if fn < 0 then ([], 2) else match p.funcs[fn.toNat]? with | none => ([], 2) | some f => (loopsL f (headsL f).length, 0)
theorem loops_bad {p : Prg} (h : proven p ≠ 0) (fn : Int) : loopsAns p fn = ([], proven p) := by unfold loopsAns; rw [if_pos h]
theorem loops_out {p : Prg} (h : proven p = 0) {fn : Int} (hf : ¬ (0 ≤ fn ∧ fn < p.funcs.length)) : loopsAns p fn = ([], 2) := by
  unfold loopsAns
  rw [if_neg (by simpa using h)]
  by_cases h1 : fn < 0
  · rw [if_pos h1]
  · rw [if_neg h1, List.getElem?_eq_none (by omega)]
theorem loops_in {p : Prg} (h : proven p = 0) {k : Nat} {f : Fun} (hf : p.funcs[k]? = some f) : loopsAns p (k : Int) = (loopsL f (headsL f).length, 0) := by
  unfold loopsAns
  rw [if_neg (by simpa using h), if_neg (by omega), Int.toNat_natCast, hf]
/-- To stand above a block is to stand above the nearest one above it. -/
theorem stB_abv {f : Fun} {a b k : Nat} (hab : a ≠ b) (h : IsAbv (EB f) b k) (hk : Rch0 (EB f) k) : stB f a b = stB f a k := by
  rw [Bool.eq_iff_iff, stB_iff, stB_iff]
  constructor
  · rintro (e | h1)
    · exact absurd e hab
    · rcases h.all a ⟨hab, h1⟩ with e | e
      · exact .inl e
      · exact .inr e.2
  · rintro (e | h1)
    · subst e; exact .inr h.sd.2
    · by_cases e : a = k
      · subst e; exact .inr h.sd.2
      · exact .inr (sd_sub hk h.sd ⟨e, h1⟩).2
theorem stB_zero {f : Fun} {a : Nat} (h : a ≠ 0) : stB f a 0 = false := by
  cases e : stB f a 0 with
  | false => rfl
  | true =>
    rcases stB_iff.1 e with e | e
    · exact absurd e h
    · exact absurd (.start (fun e => h e.symm)) e
theorem stB_self {f : Fun} {a : Nat} : stB f a a = true := stB_iff.2 (.inl rfl)
section
variable {w0 w : World} {Fs : List Fro} {L : List Res}
theorem Hp.froNone' (h : Hp w0 Fs L w) : Hp w0 (⟨w, fun _ => False⟩ :: Fs) L w :=
  ⟨h.below, fun F hF b hb => by
    rcases List.mem_cons.1 hF with rfl | hF
    · exact hb.elim
    · exact h.fro F hF b hb, fun r hr => ⟨(h.own r hr).1, fun b hb => ⟨((h.own r hr).2 b hb).1, ((h.own r hr).2 b hb).2.1, fun F hF hS => by
      rcases List.mem_cons.1 hF with rfl | hF
      · exact hS
      · exact ((h.own r hr).2 b hb).2.2 F hF hS⟩⟩, h.apart⟩
/-- A row of numbers reads as these, in its own block. -/
theorem Hp.rowOwnInts {v : Value} {e : TypeId} {n : Nat} {xs : List Int} (h : Hp w0 Fs L w) (hm : Res.row v e 1 n (xs.map (Value.int .i64)) ∈ L) : Lay.rep w (fun b => (Res.row v e 1 n (xs.map (Value.int .i64))).foot = some b) xs [v] := by
  have ho := h.row hm
  have hl : xs.length = n := by have := ho.1; rw [List.length_map] at this; omega
  rcases ho.2 with ⟨rfl, hn⟩ | ⟨g, cap, cur, rfl, hb, hg, hle, hmx, hs, ht⟩
  · subst hn
    have : xs = [] := List.length_eq_zero_iff.1 hl
    subst this
    exact rep_ints_nil
  · subst hl
    refine ⟨_, _, rfl, hle, hmx, fun k x hx => ⟨_, [.int .i64 x], rfl, rfl, fun j u hu => ?_, rfl⟩⟩
    have hj : j = 0 := by have := (List.getElem?_eq_some_iff.1 hu).1; simpa using this
    subst hj
    simp only [List.getElem?_cons_zero, Option.some.injEq] at hu
    subst hu
    have := ho.cells (g := g) rfl k (.int .i64 x) (by rw [List.getElem?_map, hx]; rfl)
    rw [add_of_add]
    show w.cell? ((⟨g, 0, none⟩ : Addr).add (k * 1 + 0)) = _
    rwa [Nat.mul_one, Nat.add_zero]
/-- Two that stay are one. -/
theorem Hp.froJoin {F G : Fro} (h : Hp w0 (F :: G :: Fs) L w) : Hp w0 (⟨w, fun b => F.S b ∨ G.S b⟩ :: Fs) L w := by
  refine ⟨h.below, fun H hH b hb => ?_, fun r hr => ⟨(h.own r hr).1, fun b hb => ⟨((h.own r hr).2 b hb).1, ((h.own r hr).2 b hb).2.1, fun H hH hS => ?_⟩⟩, h.apart⟩
  · rcases List.mem_cons.1 hH with rfl | hH
    · rcases hb with hb | hb
      · exact ⟨(h.fro F (by simp) b hb).1, rfl⟩
      · exact ⟨(h.fro G (by simp) b hb).1, rfl⟩
    · exact h.fro H (by simp [hH]) b hb
  · rcases List.mem_cons.1 hH with rfl | hH
    · rcases hS with hS | hS
      · exact ((h.own r hr).2 b hb).2.2 F (by simp) hS
      · exact ((h.own r hr).2 b hb).2.2 G (by simp) hS
    · exact ((h.own r hr).2 b hb).2.2 H (by simp [hH]) hS
/-- Rows of numbers that lie in memory that stays. -/
structure RowsAt (F : Fro) (xss : List (List Int)) (vs : List Value) : Prop where
  len : vs.length = xss.length
  rep : ∀ (i : Nat) xs u, xss[i]? = some xs → vs[i]? = some u → Lay.rep F.w F.S xs [u]
theorem RowsAt.nil (F : Fro) : RowsAt F [] [] := ⟨rfl, fun i f u h => by simp at h⟩
theorem RowsAt.snocAt {F : Fro} {S : Nat → Prop} {xss : List (List Int)} {vs : List Value} (h : RowsAt F xss vs) (H : Hp w0 Fs L w) (hF : F ∈ Fs) (hS : ∀ b, F.S b → S b) {xs : List Int} {u : Value} (hr : Lay.rep w S xs [u]) : RowsAt ⟨w, S⟩ (xss ++ [xs]) (vs ++ [u]) := by
  refine ⟨by simp [h.len], fun i f' u' hf hu => ?_⟩
  by_cases hi : i < xss.length
  · rw [List.getElem?_append_left hi] at hf
    rw [List.getElem?_append_left (by rw [h.len]; exact hi)] at hu
    exact H.repMore hF (h.rep i f' u' hf hu) hS
  · rw [List.getElem?_append_right (by omega)] at hf
    rw [List.getElem?_append_right (by rw [h.len]; omega), h.len] at hu
    obtain ⟨h1, h2⟩ := List.getElem?_eq_some_iff.1 hf
    have hi0 : i - xss.length = 0 := by simp at h1; omega
    rw [hi0] at hf hu
    simp at hf hu
    subst hf hu
    exact hr
/-- One more, that a callee made. -/
theorem RowsAt.snoc {F G : Fro} {xss : List (List Int)} {vs : List Value} (h : RowsAt G xss vs) (H : Hp w0 (F :: G :: Fs) L w) {xs : List Int} {u : Value} (hr : Lay.rep F.w F.S xs [u]) : RowsAt ⟨w, fun b => F.S b ∨ G.S b⟩ (xss ++ [xs]) (vs ++ [u]) :=
  h.snocAt H (.tail _ (.head _)) (fun _ hb => .inr hb) (H.repMore (.head _) hr (fun _ hb => .inl hb))
/-- One more, that was owned till now. -/
theorem RowsAt.snocRow {F : Fro} {A B : List Res} {xss : List (List Int)} {vs : List Value} (h : RowsAt F xss vs) {v : Value} {e : TypeId} {n : Nat} {xs : List Int} (H : Hp w0 (F :: Fs) (A ++ .row v e 1 n (xs.map (Value.int .i64)) :: B) w) : RowsAt ⟨w, fun b => F.S b ∨ (Res.row v e 1 n (xs.map (Value.int .i64))).foot = some b⟩ (xss ++ [xs]) (vs ++ [v]) :=
  h.snocAt H (.head _) (fun _ hb => .inl hb) (Lay.more (fun _ hb => .inr hb) (H.rowOwnInts (by simp)))
theorem Hp.rowRows {F : Fro} {v : Value} {e : TypeId} {n : Nat} {vs : List Value} {xss : List (List Int)} (h : Hp w0 Fs L w) (hF : F ∈ Fs) (hm : Res.row v e 1 n vs ∈ L) (ha : RowsAt F xss vs) (hS : ∀ b, F.S b → w0.heap.size ≤ b) : Lay.rep w (Fresh w0 w) xss [v] := by
  have ho := h.row hm
  have hf := (h.own _ hm).2
  have hl : xss.length = n := by have := ho.1; rw [ha.len] at this; omega
  rcases ho.2 with ⟨rfl, hn⟩ | ⟨g, cap, cur, rfl, hb, hg, hle, hmx, hs, ht⟩
  · subst hn
    have : xss = [] := List.length_eq_zero_iff.1 hl
    subst this
    exact rep_rows_nil
  · subst hl
    refine ⟨_, _, rfl, hle, hmx, fun k xs hk => ?_⟩
    have hkl := (List.getElem?_eq_some_iff.1 hk).1
    obtain ⟨u, hu⟩ : ∃ u, vs[k]? = some u := ⟨_, List.getElem?_eq_getElem (by rw [ha.len]; exact hkl)⟩
    refine ⟨_, [u], rfl, ⟨(hf g rfl).1, (hf g rfl).2.1⟩, fun j y hy => ?_, ?_⟩
    · have hj : j = 0 := by have := (List.getElem?_eq_some_iff.1 hy).1; simpa using this
      subst hj
      simp only [List.getElem?_cons_zero, Option.some.injEq] at hy
      subst hy
      have := ho.cells (g := g) rfl k _ hu
      rw [add_of_add]
      show w.cell? ((⟨g, 0, none⟩ : Addr).add (k * 1 + 0)) = _
      rwa [Nat.mul_one, Nat.add_zero]
    · exact h.repMore hF (ha.rep k xs u hk hu) (fun b hb => ⟨hS b hb, (h.fro F hF b hb).1⟩)
end
end Go.Proofs.YtnabeibnaoahmaaDoor
