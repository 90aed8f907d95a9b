/- P2.3, as the document reads a text: numerals, a line's instruction. No program is named here. -/
import Derived.Test.YtpnapnmkjpolmaaDoorReadLaw
import Derived.Test.YtpnapnmkjpolmaaDoorPlain64
set_option linter.unusedSimpArgs false
set_option linter.unusedVariables false
namespace Go.Proofs.YtpnapnmkjpolmaaDoor
open Go.RowKit

instance (c : UInt8) : Decidable (isDig c) := by unfold isDig; infer_instance
def numN (l : List UInt8) : Int := l.foldl (fun n c => wrap64 (wrap64 (10 * n) - ((c.toNat : Int) - 48))) 0
theorem numN_snoc (l : List UInt8) (c : UInt8) : numN (l ++ [c]) = wrap64 (wrap64 (10 * numN l) - ((c.toNat : Int) - 48)) := by unfold numN; rw [List.foldl_append]; rfl
theorem numN_range (l : List UInt8) : -9223372036854775808 ≤ numN l ∧ numN l ≤ 9223372036854775807 := by
  rcases List.eq_nil_or_concat l with rfl | ⟨l', c, rfl⟩
  · unfold numN; simp
  · rw [List.concat_eq_append, numN_snoc]; exact Plain64.wrap64_range _
theorem numN_digits (u : Nat) (hu : u ≤ 9223372036854775808) : numN (Lib.decDigits u) = -(u : Int) := by
  induction u using Nat.strongRecOn with
  | _ u ih =>
    rw [Lib.decDigits]
    split
    · rename_i h
      show wrap64 (wrap64 (10 * 0) - (((UInt8.ofNat (48 + u)).toNat : Int) - 48)) = _
      rw [dig_byte h]
      unfold wrap64
      omega
    · rename_i h
      rw [numN_snoc, ih (u / 10) (by omega) (by omega), dig_byte (by omega)]
      unfold wrap64
      omega
theorem digits_len : ∀ (k u : Nat), u < 10 ^ (k + 1) → (Lib.decDigits u).length ≤ k + 1
  | 0, u, h => by rw [Lib.decDigits, dif_pos (by omega)]; simp
  | k + 1, u, h => by
    rw [Lib.decDigits]
    split
    · simp
    · have := digits_len k (u / 10) (by have : 10 ^ (k + 1 + 1) = 10 ^ (k + 1) * 10 := Nat.pow_succ ..; omega)
      rw [List.length_append]
      simp only [List.length_singleton]
      omega
/-- What stands behind the sign. -/
def numS (w : List UInt8) : List UInt8 := if w.head? = some 45 then w.tail else w
def numV (w : List UInt8) : Int := if w.head? = some 45 then numN (numS w) else wrap64 (-(numN (numS w)))
def numAns (w : List UInt8) : Int × Bool :=
  if numS w = [] ∨ 20 < w.length ∨ ¬ (∀ c ∈ numS w, isDig c) then (0, false) else (numV w, decide (Lib.itoa (numV w) = w))
theorem numV_range (w : List UInt8) : -9223372036854775808 ≤ numV w ∧ numV w ≤ 9223372036854775807 := by
  unfold numV
  split
  · exact numN_range _
  · exact Plain64.wrap64_range _
theorem numAns_range (w : List UInt8) : -9223372036854775808 ≤ (numAns w).1 ∧ (numAns w).1 ≤ 9223372036854775807 := by
  unfold numAns
  split
  · simp
  · exact numV_range w
theorem numAns_ok {w : List UInt8} (h : (numAns w).2 = true) : w = Lib.itoa (numAns w).1 := by
  unfold numAns at h ⊢
  split at h
  · cases h
  · rename_i h'
    rw [if_neg h']
    exact (of_decide_eq_true h).symm
theorem numAns_itoa (n : Int) (h0 : -9223372036854775808 ≤ n) (h1 : n ≤ 9223372036854775807) : numAns (Lib.itoa n) = (n, true) := by
  by_cases hn : n < 0
  · have e : Lib.itoa n = 45 :: Lib.decDigits n.natAbs := by unfold Lib.itoa; rw [if_pos hn]
    have hs : numS (Lib.itoa n) = Lib.decDigits n.natAbs := by rw [e]; rfl
    have hv : numV (Lib.itoa n) = n := by
      unfold numV
      rw [hs, e, if_pos (by rfl), numN_digits _ (by omega)]
      omega
    have hl := digits_len 18 n.natAbs (by omega)
    unfold numAns
    rw [if_neg, hv, decide_eq_true rfl]
    rintro (h | h | h)
    · rw [hs] at h; exact decDigits_ne _ h
    · rw [e, List.length_cons] at h; omega
    · rw [hs] at h; exact h (decDigits_dig _)
  · have e : Lib.itoa n = Lib.decDigits n.toNat := by unfold Lib.itoa; rw [if_neg hn]
    have hh : (Lib.itoa n).head? ≠ some 45 := by
      rw [e]
      intro h
      have := decDigits_dig _ _ (List.mem_of_mem_head? h)
      exact absurd this (by decide)
    have hs : numS (Lib.itoa n) = Lib.decDigits n.toNat := by unfold numS; rw [if_neg hh, e]
    have hv : numV (Lib.itoa n) = n := by
      unfold numV
      rw [hs, if_neg hh, numN_digits _ (by omega)]
      unfold wrap64
      omega
    have hl := digits_len 18 n.toNat (by omega)
    unfold numAns
    rw [if_neg, hv, decide_eq_true rfl]
    rintro (h | h | h)
    · rw [hs] at h; exact decDigits_ne _ h
    · rw [e] at h; omega
    · rw [hs] at h; exact h (decDigits_dig _)
def regAns (w : List UInt8) : Int × Bool := if w.length < 2 ∨ w.head? ≠ some 114 then (0, false) else numAns w.tail
theorem regAns_range (w : List UInt8) : -9223372036854775808 ≤ (regAns w).1 ∧ (regAns w).1 ≤ 9223372036854775807 := by
  unfold regAns
  split
  · simp
  · exact numAns_range _
theorem regAns_itoa (n : Int) (h0 : -9223372036854775808 ≤ n) (h1 : n ≤ 9223372036854775807) : regAns (114 :: Lib.itoa n) = (n, true) := by
  unfold regAns
  rw [if_neg]
  · exact numAns_itoa n h0 h1
  · have := List.length_pos_iff.2 (itoa_ne n)
    simp
    omega
/-- The words behind the first, one by one. -/
structure Rst where
  x : Ins
  k : Nat
  ok : Bool
def argAns (l : List (List UInt8)) (c : UInt8) (k : Nat) : Int × Bool := if c = 105 then numAns (l.getD k []) else regAns (l.getD k [])
def refArg (l : List (List UInt8)) (want : Bool) (c : UInt8) (s : Rst) : Rst :=
  if want = true ∧ s.k < l.length then ⟨setF s.x c (argAns l c s.k).1, s.k + 1, s.ok && (argAns l c s.k).2⟩ else s
noncomputable def refArgs (l : List (List UInt8)) (op : Int) (s : Rst) : Rst :=
  refArg l (decide (op = 15 ∨ op = 16)) 105 (refArg l (readsBZ op) 98 (refArg l (readsAZ op) 97 (refArg l (decide (op = 17 ∨ op = 1)) 105 (refArg l (setsZ op) 100 s))))
def refFold (l : List (List UInt8)) (cs : List UInt8) (s : Rst) : Rst := cs.foldl (fun s c => refArg l true c s) s
theorem refArgs_fold (l : List (List UInt8)) (op : Int) (h1 : 1 ≤ op) (h2 : op ≤ 19) (s : Rst) : refArgs l op s = refFold l (formL op) s := by
  have hF : ∀ c s, refArg l false c s = s := fun c s => by unfold refArg; rw [if_neg (by simp)]
  have : op = 1 ∨ op = 2 ∨ op = 3 ∨ op = 4 ∨ op = 5 ∨ op = 6 ∨ op = 7 ∨ op = 8 ∨ op = 9 ∨ op = 10 ∨ op = 11 ∨ op = 12 ∨ op = 13 ∨ op = 14 ∨ op = 15 ∨ op = 16 ∨ op = 17 ∨ op = 18 ∨ op = 19 := by omega
  unfold refArgs refFold
  rcases this with rfl | rfl | rfl | rfl | rfl | rfl | rfl | rfl | rfl | rfl | rfl | rfl | rfl | rfl | rfl | rfl | rfl | rfl | rfl <;> simp [setsZ, readsAZ, readsBZ, formL, hF]
noncomputable def refEnd (l : List (List UInt8)) (s : List UInt8) (op : Int) : Ins × Bool :=
  ((refArgs l op ⟨⟨op, 0, 0, 0, 0⟩, 1, true⟩).x, (refArgs l op ⟨⟨op, 0, 0, 0, 0⟩, 1, true⟩).ok && decide ((refArgs l op ⟨⟨op, 0, 0, 0, 0⟩, 1, true⟩).k = l.length) && decide (lineB (refArgs l op ⟨⟨op, 0, 0, 0, 0⟩, 1, true⟩).x = s))
noncomputable def refIns (s : List UInt8) : Ins × Bool := if opOf ((splitSp s).headD []) = 0 then (⟨0, 0, 0, 0, 0⟩, false) else refEnd (splitSp s) s (opOf ((splitSp s).headD []))
theorem argAns_range (l : List (List UInt8)) (c : UInt8) (k : Nat) : -9223372036854775808 ≤ (argAns l c k).1 ∧ (argAns l c k).1 ≤ 9223372036854775807 := by
  unfold argAns
  split
  · exact numAns_range _
  · exact regAns_range _
theorem refArg_op (l : List (List UInt8)) (w : Bool) (c : UInt8) (s : Rst) : (refArg l w c s).x.op = s.x.op := by
  unfold refArg
  split
  · exact setF_op _ _ _
  · rfl
theorem refFold_op (l : List (List UInt8)) : ∀ (cs : List UInt8) (s : Rst), (refFold l cs s).x.op = s.x.op
  | [], _ => rfl
  | c :: cs, s => by
    rw [show refFold l (c :: cs) s = refFold l cs (refArg l true c s) from rfl, refFold_op l cs, refArg_op]
theorem refFold_ok (l : List (List UInt8)) (S : UInt8 → Prop) : ∀ (cs : List UInt8) (s : Rst), (∀ c ∈ cs, (c = 100 ∨ c = 97 ∨ c = 98 ∨ c = 105) ∧ S c) →
    (∀ d : UInt8, d = 100 ∨ d = 97 ∨ d = 98 ∨ d = 105 → (-9223372036854775808 ≤ fieldZ s.x d ∧ fieldZ s.x d ≤ 9223372036854775807) ∧ (¬ S d → fieldZ s.x d = 0)) →
    ∀ d : UInt8, d = 100 ∨ d = 97 ∨ d = 98 ∨ d = 105 → (-9223372036854775808 ≤ fieldZ (refFold l cs s).x d ∧ fieldZ (refFold l cs s).x d ≤ 9223372036854775807) ∧ (¬ S d → fieldZ (refFold l cs s).x d = 0)
  | [], _, _, h => h
  | c :: cs, s, hc, h => by
    rw [show refFold l (c :: cs) s = refFold l cs (refArg l true c s) from rfl]
    refine refFold_ok l S cs _ (fun c' hc' => hc c' (by simp [hc'])) fun d hd => ?_
    unfold refArg
    split
    · show (-9223372036854775808 ≤ fieldZ (setF s.x c _) d ∧ fieldZ (setF s.x c _) d ≤ 9223372036854775807) ∧ (¬ S d → fieldZ (setF s.x c _) d = 0)
      rw [fieldZ_setF s.x c d _ (hc c (by simp)).1 hd]
      split
      · rename_i e
        exact ⟨argAns_range _ _ _, fun hn => absurd (hc c (by simp)).2 (e ▸ hn)⟩
      · exact h d hd
    · exact h d hd
theorem refIns_ok {s : List UInt8} (h : (refIns s).2 = true) : InsC (refIns s).1 ∧ lineB (refIns s).1 = s := by
  unfold refIns at h ⊢
  split at h
  · cases h
  · rename_i h0
    rw [if_neg h0]
    have ho := opOf_is h0
    generalize hop : opOf ((splitSp s).headD []) = op at *
    unfold refEnd at h ⊢
    simp only [Bool.and_eq_true, decide_eq_true_eq] at h
    refine ⟨?_, h.2⟩
    simp only
    rw [refArgs_fold _ _ ho.1 ho.2.1]
    have hq := refFold_op (splitSp s) (formL op) ⟨⟨op, 0, 0, 0, 0⟩, 1, true⟩
    have hk := refFold_ok (splitSp s) (· ∈ formL op) (formL op) ⟨⟨op, 0, 0, 0, 0⟩, 1, true⟩ (fun c hc => ⟨formL_mem _ c hc, hc⟩) (fun d hd => by
      rcases hd with rfl | rfl | rfl | rfl <;> simp [fieldZ])
    refine ⟨by rw [hq]; exact ⟨ho.1, ho.2.1⟩, fun c => ?_, fun c hc hn => ?_⟩
    · obtain ⟨e, he, h1⟩ := fieldZ_any (refFold (splitSp s) (formL op) ⟨⟨op, 0, 0, 0, 0⟩, 1, true⟩).x c
      rw [h1]
      exact (hk e he).1
    · rw [hq] at hn
      exact (hk c hc).2 hn
theorem refFold_line (x0 : Ins) (hr : ∀ c, -9223372036854775808 ≤ fieldZ x0 c ∧ fieldZ x0 c ≤ 9223372036854775807) (l : List (List UInt8)) : ∀ (cs : List UInt8) (s : Rst), (∀ j (hj : j < cs.length), l[s.k + j]? = some (argW x0 cs[j])) →
    refFold l cs s = ⟨cs.foldl (fun y c => setF y c (fieldZ x0 c)) s.x, s.k + cs.length, s.ok⟩
  | [], _, _ => rfl
  | c :: cs, s, h => by
    have h0 : l[s.k]? = some (argW x0 c) := h 0 (by simp)
    have hlt : s.k < l.length := (List.getElem?_eq_some_iff.1 h0).1
    have hg : l.getD s.k [] = argW x0 c := by rw [List.getD_eq_getElem?_getD, h0]; rfl
    have ha : argAns l c s.k = (fieldZ x0 c, true) := by
      unfold argAns
      rw [hg]
      unfold argW
      split
      · rw [List.nil_append]; exact numAns_itoa _ (hr c).1 (hr c).2
      · exact regAns_itoa _ (hr c).1 (hr c).2
    have h1 : refArg l true c s = ⟨setF s.x c (fieldZ x0 c), s.k + 1, s.ok⟩ := by
      unfold refArg
      rw [if_pos ⟨rfl, hlt⟩, ha]
      simp
    rw [show refFold l (c :: cs) s = refFold l cs (refArg l true c s) from rfl, h1, refFold_line x0 hr l cs _ (fun j hj => by
      have := h (j + 1) (by simpa using hj)
      rw [show s.k + (j + 1) = s.k + 1 + j by omega] at this
      simpa using this)]
    simp only [List.foldl_cons, List.length_cons, Rst.mk.injEq, and_true, true_and]
    omega
theorem fold_line {x : Ins} (h : InsC x) : (formL x.op).foldl (fun y c => setF y c (fieldZ x c)) ⟨x.op, 0, 0, 0, 0⟩ = x := by
  have hz := h.zero
  obtain ⟨op, d, a, b, i⟩ := x
  have z1 := hz 100
  have z2 := hz 97
  have z3 := hz 98
  have z4 := hz 105
  clear hz h
  simp only [fieldZ] at z1 z2 z3 z4
  simp only at z1 z2 z3 z4 ⊢
  rcases formL_is op with e | e | e | e | e | e | e | e <;> rw [e] at z1 z2 z3 z4 ⊢ <;> simp at z1 z2 z3 z4 <;> simp [setF, fieldZ] <;> simp [*]
theorem refIns_line {x : Ins} (h : InsC x) : refIns (lineB x) = (x, true) := by
  have ho := opOf_word h.op.1 h.op.2
  have hw := lineB_words x h.op.1 h.op.2
  have hd : opOf ((splitSp (lineB x)).headD []) = x.op := by rw [hw]; exact ho
  unfold refIns
  rw [hd, if_neg (by have := h.op.1; omega)]
  unfold refEnd
  rw [refArgs_fold _ _ h.op.1 h.op.2, refFold_line x h.i64 _ _ _ (fun j hj => by
    rw [hw, show 1 + j = j + 1 by omega, List.getElem?_cons_succ, List.getElem?_map, List.getElem?_eq_getElem hj]; rfl)]
  simp only [fold_line h]
  rw [hw]
  simp
  omega
/-- The document's reading of an instruction's line is the program's. -/
theorem insOf_ref (s : List UInt8) : insOf (s ++ [10]) = if (refIns s).2 = true then some (refIns s).1 else none := by
  split
  · rename_i h
    obtain ⟨h1, h2⟩ := refIns_ok h
    have := insOf_line h1
    unfold lineS at this
    rwa [h2] at this
  · rename_i h
    cases hi : insOf (s ++ [10]) with
    | none => rfl
    | some x =>
      obtain ⟨h1, h2⟩ := insOf_is hi
      obtain rfl : s = lineB x := by unfold lineS at h2; exact List.append_cancel_right h2
      rw [refIns_line h1] at h
      exact absurd rfl h
/-! ### A line that begins a function -/
def joinSp : List (List UInt8) → List UInt8
  | [] => []
  | [w] => w
  | w :: ws => w ++ 32 :: joinSp ws
theorem join_split : ∀ s : List UInt8, joinSp (splitSp s) = s
  | [] => rfl
  | c :: r => by
    have ih := join_split r
    by_cases h : c = 32
    · subst h
      rw [splitSp_sp]
      cases hs : splitSp r with
      | nil => exact absurd hs (splitSp_ne r)
      | cons w ws => rw [hs] at ih; rw [joinSp, ih]; rfl; simp
    · rw [splitSp_other _ h]
      cases hs : splitSp r with
      | nil => exact absurd hs (splitSp_ne r)
      | cons w ws =>
        rw [hs] at ih
        rw [← ih]
        cases ws with
        | nil => rfl
        | cons w' ws' => simp [joinSp]
def refHead (s : List UInt8) : Option Fun :=
  if (splitSp s).length = 3 ∧ (numAns ((splitSp s).getD 1 [])).2 = true ∧ (numAns ((splitSp s).getD 2 [])).2 = true ∧ 0 ≤ (numAns ((splitSp s).getD 1 [])).1 ∧ 0 ≤ (numAns ((splitSp s).getD 2 [])).1
  then some ⟨(numAns ((splitSp s).getD 1 [])).1, (numAns ((splitSp s).getD 2 [])).1, []⟩ else none
theorem headOf_ref {s : List UInt8} (hf : (splitSp s).headD [] = funcW) : headOf (s ++ [10]) = refHead s := by
  unfold refHead
  split
  · rename_i h
    obtain ⟨hl, h1, h2, h3, h4⟩ := h
    have e1 := numAns_ok h1
    have e2 := numAns_ok h2
    have r1 := numAns_range ((splitSp s).getD 1 [])
    have r2 := numAns_range ((splitSp s).getD 2 [])
    have hj := join_split s
    obtain ⟨w0, w1, w2, hw⟩ : ∃ w0 w1 w2, splitSp s = [w0, w1, w2] := by
      match splitSp s, hl with
      | [a, b, c], _ => exact ⟨a, b, c, rfl⟩
    rw [hw] at e1 e2 r1 r2 hj hf h3 h4 ⊢
    simp only [List.getD_cons_succ, List.getD_cons_zero, List.headD_cons] at e1 e2 r1 r2 hf h3 h4 ⊢
    have hs : s ++ [10] = headS ⟨(numAns w1).1, (numAns w2).1, []⟩ := by
      rw [headS_eq, ← hj]
      unfold headB
      simp only [joinSp, ← e1, ← e2, hf]
    rw [hs]
    exact headOf_line ⟨rfl, ⟨h3, r1.2⟩, h4, r2.2⟩
  · rename_i h
    cases hi : headOf (s ++ [10]) with
    | none => rfl
    | some f =>
      obtain ⟨h1, h2⟩ := headOf_is hi
      obtain rfl : s = headB f := by rw [headS_eq] at h2; exact List.append_cancel_right h2
      exfalso
      apply h
      rw [headB_words]
      simp only [List.getD_cons_succ, List.getD_cons_zero]
      have p1 := h1.params
      have p2 := h1.regs
      rw [numAns_itoa _ (by omega) (by omega), numAns_itoa _ (by omega) (by omega)]
      exact ⟨rfl, rfl, rfl, p1.1, p2.1⟩
/-- A line as the document takes it: what it holds ahead of its line feed. -/
noncomputable def refLn (fs : List Fun) (s : List UInt8) : Option (List Fun) :=
  if (splitSp s).headD [] = funcW then (refHead s).map fun f => fs ++ [f] else if (refIns s).2 = true ∧ fs ≠ [] then some (addIns fs (refIns s).1) else none
theorem stepLn_ref (fs : List Fun) (s : List UInt8) : stepLn fs (s ++ [10]) = refLn fs s := by
  have hw : lineWs (s ++ [10]) = splitSp s := by unfold lineWs; rw [trimSuffix_nl]
  unfold stepLn refLn
  rw [hw]
  split
  · rename_i hf
    rw [headOf_ref hf]
  · rw [insOf_ref]
    by_cases h1 : fs = []
    · simp [h1]
    · rw [if_neg h1]
      by_cases h2 : (refIns s).2 = true
      · rw [if_pos h2, if_pos ⟨h2, h1⟩]; rfl
      · rw [if_neg h2, if_neg (fun h => h2 h.1)]; rfl
/-- A last line without a line feed is none. -/
theorem stepLn_last (fs : List Fun) {s : List UInt8} (h : ∀ c ∈ s, c ≠ 10) : stepLn fs s = none := by
  unfold stepLn
  have h1 : headOf s = none := by
    cases hi : headOf s with
    | none => rfl
    | some f => obtain ⟨_, h2⟩ := headOf_is hi; exact absurd rfl (h 10 (by rw [h2, headS_eq]; simp))
  have h2 : insOf s = none := by
    cases hi : insOf s with
    | none => rfl
    | some x => obtain ⟨_, h2⟩ := insOf_is hi; exact absurd rfl (h 10 (by rw [h2]; unfold lineS; simp))
  rw [h1, h2]
  split
  · rfl
  · split <;> rfl
end Go.Proofs.YtpnapnmkjpolmaaDoor
