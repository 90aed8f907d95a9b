/- P2.3: a text read as a program: its lines, one by one. No program is named here. -/
import Derived.Test.YtpnapnmkjpolmaaDoorWordsLaw
set_option linter.unusedSimpArgs false
set_option linter.unusedVariables false
namespace Go.Proofs.YtpnapnmkjpolmaaDoor
open Go.RowKit

/-- The first line with its line feed, and what is behind it. -/
def cutLn : List UInt8 → List UInt8 × List UInt8
  | [] => ([], [])
  | c :: r => if c = 10 then ([10], r) else (c :: (cutLn r).1, (cutLn r).2)
theorem cutLn_le : ∀ s, (cutLn s).2.length ≤ s.length
  | [] => Nat.le_refl _
  | c :: r => by
    unfold cutLn
    split
    · simp
    · have := cutLn_le r
      simp only [List.length_cons]; omega
theorem cutLn_lt {s : List UInt8} (h : s ≠ []) : (cutLn s).2.length < s.length := by
  cases s with
  | nil => exact absurd rfl h
  | cons c r =>
    unfold cutLn
    split
    · simp
    · have := cutLn_le r
      simp only [List.length_cons]; omega
theorem cutLn_has : ∀ (a b : List UInt8), (∀ c ∈ a, c ≠ 10) → cutLn (a ++ 10 :: b) = (a ++ [10], b)
  | [], b, _ => rfl
  | c :: a, b, h => by
    rw [List.cons_append, cutLn, if_neg (h c (by simp)), cutLn_has a b (fun d hd => h d (by simp [hd]))]
    rfl
theorem cutLn_hasnt : ∀ a : List UInt8, (∀ c ∈ a, c ≠ 10) → cutLn a = (a, [])
  | [], _ => rfl
  | c :: a, h => by
    rw [cutLn, if_neg (h c (by simp)), cutLn_hasnt a (fun d hd => h d (by simp [hd]))]

/-! ### A line's instruction -/
def opUp (w : List UInt8) : Nat → Nat
  | 0 => 0
  | k + 1 => if 0 < k ∧ wordsT.getD k [] = w then k else opUp w k
def opOf (w : List UInt8) : Int := opUp w 20
theorem opUp_is (w : List UInt8) : ∀ k, opUp w k = 0 ∨ (0 < opUp w k ∧ opUp w k < k ∧ wordsT.getD (opUp w k) [] = w)
  | 0 => .inl rfl
  | k + 1 => by
    unfold opUp
    split
    · rename_i h
      exact .inr ⟨h.1, by omega, h.2⟩
    · rcases opUp_is w k with h | h
      · exact .inl h
      · exact .inr ⟨h.1, by omega, h.2.2⟩
theorem opOf_fin : ∀ k : Fin 20, 0 < k.val → opUp (wordsT.getD k.val []) 20 = k.val := by decide +kernel
theorem opOf_word {op : Int} (h1 : 1 ≤ op) (h2 : op ≤ 19) : opOf (wordL op) = op := by
  obtain ⟨k, rfl⟩ := Int.eq_ofNat_of_zero_le (show 0 ≤ op by omega)
  unfold opOf wordL
  have := opOf_fin ⟨k, by omega⟩ (by simp; omega)
  simp only [Int.toNat_natCast] at this ⊢
  rw [this]
theorem opOf_is {w : List UInt8} (h : opOf w ≠ 0) : 1 ≤ opOf w ∧ opOf w ≤ 19 ∧ wordL (opOf w) = w := by
  unfold opOf at h ⊢
  rcases opUp_is w 20 with h' | ⟨h1, h2, h3⟩
  · rw [h'] at h; exact absurd rfl h
  · refine ⟨by omega, by omega, ?_⟩
    unfold wordL
    rw [Int.toNat_natCast]
    exact h3
def setF (x : Ins) (c : UInt8) (v : Int) : Ins := if c = 100 then { x with dst := v } else if c = 97 then { x with a := v } else if c = 98 then { x with b := v } else { x with imm := v }
/-- The fields behind the word, as far as there are words. -/
def argIns (l : List (List UInt8)) : List UInt8 → Nat → Ins → Ins
  | [], _, x => x
  | c :: cs, i, x => argIns l cs (i + 1) (if i + 1 < l.length then setF x c (atoiV (Lib.trimPrefix (l.getD (i + 1) []) [114])) else x)
def parseIns (l : List (List UInt8)) : Ins := if opOf (l.headD []) = 0 then ⟨0, 0, 0, 0, 0⟩ else argIns l (formL (opOf (l.headD []))) 0 ⟨opOf (l.headD []), 0, 0, 0, 0⟩
def funcW : List UInt8 := [102, 117, 110, 99]
def parseFun (l : List (List UInt8)) : Fun := if 2 < l.length then ⟨atoiV (l.getD 1 []), atoiV (l.getD 2 []), []⟩ else ⟨0, 0, []⟩
def lineWs (t : List UInt8) : List (List UInt8) := splitSp (Lib.trimSuffix t [10])
def insOf (t : List UInt8) : Option Ins := if (parseIns (lineWs t)).op ≠ 0 ∧ lineS (parseIns (lineWs t)) = t then some (parseIns (lineWs t)) else none
def headOf (t : List UInt8) : Option Fun := if headS (parseFun (lineWs t)) = t ∧ 0 ≤ (parseFun (lineWs t)).params ∧ 0 ≤ (parseFun (lineWs t)).regs then some (parseFun (lineWs t)) else none

/-- What a line says. -/
structure InsC (x : Ins) : Prop where
  op : 1 ≤ x.op ∧ x.op ≤ 19
  i64 : ∀ c : UInt8, -9223372036854775808 ≤ fieldZ x c ∧ fieldZ x c ≤ 9223372036854775807
  zero : ∀ c : UInt8, c = 100 ∨ c = 97 ∨ c = 98 ∨ c = 105 → c ∉ formL x.op → fieldZ x c = 0
def argW (x : Ins) (c : UInt8) : List UInt8 := (if c = 105 then [] else [114]) ++ Lib.itoa (fieldZ x c)

theorem splitSp_line (f : UInt8 → List UInt8) (hf : ∀ c, ∀ d ∈ f c, d ≠ 32) : ∀ (cs : List UInt8) (w : List UInt8), (∀ d ∈ w, d ≠ 32) → splitSp (w ++ cs.flatMap fun c => 32 :: f c) = w :: cs.map f
  | [], w, hw => by simpa using splitSp_one w hw
  | c :: cs, w, hw => by
    rw [List.flatMap_cons, List.cons_append, splitSp_app _ _ hw, splitSp_line f hf cs (f c) (hf c)]
    rfl
theorem argW_no_sp (x : Ins) (c : UInt8) : ∀ d ∈ argW x c, d ≠ 32 := by
  intro d hd
  unfold argW at hd
  rcases List.mem_append.1 hd with h | h
  · split at h
    · cases h
    · obtain rfl := List.mem_singleton.1 h
      decide
  · exact itoa_no_sp _ d h
theorem argW_no_nl (x : Ins) (c : UInt8) : ∀ d ∈ argW x c, d ≠ 10 := by
  intro d hd
  unfold argW at hd
  rcases List.mem_append.1 hd with h | h
  · split at h
    · cases h
    · obtain rfl := List.mem_singleton.1 h
      decide
  · exact itoa_no_nl _ d h
theorem argS_eq (x : Ins) (c : UInt8) : argS x c = 32 :: argW x c := by
  unfold argS argW
  simp
theorem words_fin : ∀ k : Fin 20, ∀ d ∈ wordsT.getD k.val [], d ≠ 32 ∧ d ≠ 10 := by decide +kernel
theorem wordL_no {op : Int} (h1 : 1 ≤ op) (h2 : op ≤ 19) : ∀ d ∈ wordL op, d ≠ 32 ∧ d ≠ 10 := by
  obtain ⟨k, rfl⟩ := Int.eq_ofNat_of_zero_le (show 0 ≤ op by omega)
  have := words_fin ⟨k, by omega⟩
  unfold wordL
  simpa only [Int.toNat_natCast] using this
theorem lineB_words (x : Ins) (h1 : 1 ≤ x.op) (h2 : x.op ≤ 19) : splitSp (lineB x) = wordL x.op :: (formL x.op).map (argW x) := by
  unfold lineB
  rw [show argS x = fun c => 32 :: argW x c from funext (argS_eq x)]
  exact splitSp_line (argW x) (argW_no_sp x) _ _ (fun d hd => (wordL_no h1 h2 d hd).1)
theorem trim_argW (x : Ins) (c : UInt8) : Lib.trimPrefix (argW x c) [114] = Lib.itoa (fieldZ x c) := by
  unfold argW Lib.trimPrefix Lib.hasPrefix
  split
  · rw [List.nil_append]
    cases hi : Lib.itoa (fieldZ x c) with
    | nil => exact absurd hi (itoa_ne _)
    | cons d r =>
      have hd : d ≠ 114 := itoa_no_r (fieldZ x c) d (by rw [hi]; simp)
      have : List.isPrefixOf [114] (d :: r) = false := by simp [List.isPrefixOf, Ne.symm hd]
      rw [this]; rfl
  · simp [List.isPrefixOf]
theorem trimSuffix_nl (s : List UInt8) : Lib.trimSuffix (s ++ [10]) [10] = s := by
  unfold Lib.trimSuffix Lib.hasSuffix
  have : List.isSuffixOf [10] (s ++ [10]) = true := List.isSuffixOf_iff_suffix.2 ⟨s, rfl⟩
  rw [if_pos this]
  simp

theorem argIns_fold (x0 : Ins) (hr : ∀ c, -9223372036854775808 ≤ fieldZ x0 c ∧ fieldZ x0 c ≤ 9223372036854775807) (l : List (List UInt8)) : ∀ (cs : List UInt8) (i : Nat) (x : Ins), (∀ j (hj : j < cs.length), l[i + 1 + j]? = some (argW x0 cs[j])) →
    argIns l cs i x = cs.foldl (fun y c => setF y c (fieldZ x0 c)) x
  | [], _, _, _ => rfl
  | c :: cs, i, x, h => by
    have h0 : l[i + 1]? = some (argW x0 c) := h 0 (by simp)
    have hlt : i + 1 < l.length := (List.getElem?_eq_some_iff.1 h0).1
    have hg : l.getD (i + 1) [] = argW x0 c := by rw [List.getD_eq_getElem?_getD, h0]; rfl
    rw [argIns, if_pos hlt, hg, trim_argW, atoiV_itoa _ (hr c).1 (hr c).2, argIns_fold x0 hr l cs (i + 1) _ (fun j hj => by
      have := h (j + 1) (by simpa using hj)
      rw [show i + 1 + (j + 1) = i + 1 + 1 + j by omega] at this
      simpa using this)]
    rfl

theorem formL_is (op : Int) : formL op = [100, 105] ∨ formL op = [100, 97] ∨ formL op = [97, 98] ∨ formL op = [105] ∨ formL op = [97, 105] ∨ formL op = [100, 105, 97, 98] ∨ formL op = [97] ∨ formL op = [100, 97, 98] := by
  unfold formL
  repeat' split
  all_goals simp
theorem parse_line {x : Ins} (h : InsC x) : parseIns (splitSp (lineB x)) = x := by
  have ho := opOf_word h.op.1 h.op.2
  rw [lineB_words x h.op.1 h.op.2]
  unfold parseIns
  rw [List.headD_cons, ho, if_neg (by have := h.op.1; omega), argIns_fold x h.i64 _ _ _ _ (fun j hj => by
    rw [show 0 + 1 + j = j + 1 by omega, List.getElem?_cons_succ, List.getElem?_map, List.getElem?_eq_getElem hj]; rfl)]
  have hz := h.zero
  obtain ⟨op, d, a, b, i⟩ := x
  have z1 := hz 100
  have z2 := hz 97
  have z3 := hz 98
  have z4 := hz 105
  clear hz h ho
  simp only [fieldZ] at z1 z2 z3 z4
  simp only at z1 z2 z3 z4 ⊢
  rcases formL_is op with e | e | e | e | e | e | e | e <;> rw [e] at z1 z2 z3 z4 ⊢ <;> simp at z1 z2 z3 z4 <;> simp [setF, fieldZ] <;> simp [*]
theorem lineB_no_nl {x : Ins} (h : InsC x) : ∀ d ∈ lineB x, d ≠ 10 := by
  intro d hd
  unfold lineB at hd
  rcases List.mem_append.1 hd with hd | hd
  · exact (wordL_no h.op.1 h.op.2 d hd).2
  · obtain ⟨c, _, hd⟩ := List.mem_flatMap.1 hd
    rw [argS_eq] at hd
    rcases List.mem_cons.1 hd with rfl | hd
    · decide
    · exact argW_no_nl x c d hd
theorem insOf_line {x : Ins} (h : InsC x) : insOf (lineS x) = some x := by
  have hp : parseIns (lineWs (lineS x)) = x := by unfold lineWs lineS; rw [trimSuffix_nl, parse_line h]
  unfold insOf
  rw [hp, if_pos ⟨by have := h.op.1; omega, rfl⟩]
theorem fieldZ_setF (x : Ins) (c d : UInt8) (v : Int) (hc : c = 100 ∨ c = 97 ∨ c = 98 ∨ c = 105) (hd : d = 100 ∨ d = 97 ∨ d = 98 ∨ d = 105) : fieldZ (setF x c v) d = if d = c then v else fieldZ x d := by
  rcases hc with rfl | rfl | rfl | rfl <;> rcases hd with rfl | rfl | rfl | rfl <;> simp [fieldZ, setF]
theorem fieldZ_any (x : Ins) (d : UInt8) : ∃ e : UInt8, (e = 100 ∨ e = 97 ∨ e = 98 ∨ e = 105) ∧ fieldZ x d = fieldZ x e := by
  by_cases h1 : d = 100
  · exact ⟨100, by simp, by rw [h1]⟩
  by_cases h2 : d = 97
  · exact ⟨97, by simp, by rw [h2]⟩
  by_cases h3 : d = 98
  · exact ⟨98, by simp, by rw [h3]⟩
  · exact ⟨105, by simp, by simp [fieldZ, h1, h2, h3]⟩
theorem setF_op (x : Ins) (c : UInt8) (v : Int) : (setF x c v).op = x.op := by
  unfold setF
  repeat' split
  all_goals rfl
theorem argIns_op (l : List (List UInt8)) : ∀ (cs : List UInt8) (i : Nat) (x : Ins), (argIns l cs i x).op = x.op
  | [], _, _ => rfl
  | c :: cs, i, x => by
    rw [argIns, argIns_op l cs]
    split
    · exact setF_op _ _ _
    · rfl
theorem argIns_ok (l : List (List UInt8)) (S : UInt8 → Prop) : ∀ (cs : List UInt8) (i : Nat) (x : Ins), (∀ c ∈ cs, (c = 100 ∨ c = 97 ∨ c = 98 ∨ c = 105) ∧ S c) →
    (∀ d : UInt8, d = 100 ∨ d = 97 ∨ d = 98 ∨ d = 105 → (-9223372036854775808 ≤ fieldZ x d ∧ fieldZ x d ≤ 9223372036854775807) ∧ (¬ S d → fieldZ x d = 0)) →
    ∀ d : UInt8, d = 100 ∨ d = 97 ∨ d = 98 ∨ d = 105 → (-9223372036854775808 ≤ fieldZ (argIns l cs i x) d ∧ fieldZ (argIns l cs i x) d ≤ 9223372036854775807) ∧ (¬ S d → fieldZ (argIns l cs i x) d = 0)
  | [], _, _, _, h => h
  | c :: cs, i, x, hc, h => by
    rw [argIns]
    refine argIns_ok l S cs (i + 1) _ (fun c' hc' => hc c' (by simp [hc'])) fun d hd => ?_
    split
    · rw [fieldZ_setF x c d _ (hc c (by simp)).1 hd]
      split
      · rename_i e
        refine ⟨atoiV_range _, fun hn => absurd (hc c (by simp)).2 (e ▸ hn)⟩
      · exact h d hd
    · exact h d hd
theorem formL_mem (op : Int) : ∀ c ∈ formL op, c = 100 ∨ c = 97 ∨ c = 98 ∨ c = 105 := by
  rcases formL_is op with e | e | e | e | e | e | e | e <;> rw [e] <;> simp
theorem parse_ok {l : List (List UInt8)} (h : (parseIns l).op ≠ 0) : InsC (parseIns l) := by
  unfold parseIns at h ⊢
  split at h
  · exact absurd rfl h
  · rename_i h0
    rw [if_neg h0]
    have ho := opOf_is h0
    have hop := argIns_op l (formL (opOf (l.headD []))) 0 ⟨opOf (l.headD []), 0, 0, 0, 0⟩
    have hk := argIns_ok l (· ∈ formL (opOf (l.headD []))) (formL (opOf (l.headD []))) 0 ⟨opOf (l.headD []), 0, 0, 0, 0⟩ (fun c hc => ⟨formL_mem _ c hc, hc⟩) (fun d hd => by
      rcases hd with rfl | rfl | rfl | rfl <;> simp [fieldZ])
    refine ⟨by rw [hop]; exact ⟨ho.1, ho.2.1⟩, fun c => ?_, fun c hc hn => ?_⟩
    · obtain ⟨e, he, h1⟩ := fieldZ_any (argIns l (formL (opOf (l.headD []))) 0 ⟨opOf (l.headD []), 0, 0, 0, 0⟩) c
      rw [h1]
      exact (hk e he).1
    · rw [hop] at hn
      exact (hk c hc).2 hn
theorem insOf_is {t : List UInt8} {x : Ins} (h : insOf t = some x) : InsC x ∧ t = lineS x := by
  unfold insOf at h
  split at h
  · rename_i h'
    obtain rfl := Option.some.inj h
    exact ⟨parse_ok h'.1, h'.2.symm⟩
  · cases h

/-! ### A line that begins a function -/
structure FunC (f : Fun) : Prop where
  code : f.code = []
  params : 0 ≤ f.params ∧ f.params ≤ 9223372036854775807
  regs : 0 ≤ f.regs ∧ f.regs ≤ 9223372036854775807
def headB (f : Fun) : List UInt8 := funcW ++ 32 :: (Lib.itoa f.params ++ 32 :: Lib.itoa f.regs)
theorem headS_eq (f : Fun) : headS f = headB f ++ [10] := by unfold headS headB funcW; simp
theorem headB_words (f : Fun) : splitSp (headB f) = [funcW, Lib.itoa f.params, Lib.itoa f.regs] := by
  unfold headB
  rw [splitSp_app _ _ (by decide), splitSp_app _ _ (itoa_no_sp _), splitSp_one _ (itoa_no_sp _)]
theorem headB_no_nl (f : Fun) : ∀ d ∈ headB f, d ≠ 10 := by
  intro d hd
  unfold headB at hd
  simp only [List.mem_append, List.mem_cons] at hd
  rcases hd with hd | rfl | hd | rfl | hd
  · unfold funcW at hd
    simp only [List.mem_cons, List.not_mem_nil, or_false] at hd
    rcases hd with rfl | rfl | rfl | rfl <;> decide
  · decide
  · exact itoa_no_nl _ d hd
  · decide
  · exact itoa_no_nl _ d hd
theorem lineWs_head (f : Fun) : lineWs (headS f) = [funcW, Lib.itoa f.params, Lib.itoa f.regs] := by unfold lineWs; rw [headS_eq, trimSuffix_nl, headB_words]
theorem headOf_line {f : Fun} (h : FunC f) : headOf (headS f) = some f := by
  have hp : parseFun (lineWs (headS f)) = f := by
    rw [lineWs_head]
    unfold parseFun
    have h1 := h.params
    have h2 := h.regs
    simp only [List.length_cons, List.length_nil, List.getD_cons_succ, List.getD_cons_zero]
    rw [if_pos (by omega), atoiV_itoa _ (by omega) (by omega), atoiV_itoa _ (by omega) (by omega)]
    obtain ⟨p, r, c⟩ := f
    have := h.code
    simp only at this
    rw [this]
  unfold headOf
  rw [hp, if_pos ⟨rfl, h.params.1, h.regs.1⟩]
theorem headOf_is {t : List UInt8} {f : Fun} (h : headOf t = some f) : FunC f ∧ t = headS f := by
  unfold headOf at h
  split at h
  · rename_i h'
    obtain rfl := Option.some.inj h
    refine ⟨⟨?_, ⟨h'.2.1, ?_⟩, h'.2.2, ?_⟩, h'.1.symm⟩
    · unfold parseFun; split <;> rfl
    · unfold parseFun; split
      · exact (atoiV_range _).2
      · simp
    · unfold parseFun; split
      · exact (atoiV_range _).2
      · simp
  · cases h
theorem opOf_func : opOf funcW = 0 := by decide +kernel
theorem insOf_func {t : List UInt8} (h : (lineWs t).headD [] = funcW) : insOf t = none := by
  unfold insOf
  rw [if_neg]
  rintro ⟨h1, _⟩
  apply h1
  unfold parseIns
  rw [h, opOf_func]
  rfl
theorem headOf_other {t : List UInt8} (h : (lineWs t).headD [] ≠ funcW) : headOf t = none := by
  cases ho : headOf t with
  | none => rfl
  | some f =>
    obtain ⟨_, rfl⟩ := headOf_is ho
    rw [lineWs_head] at h
    exact absurd rfl h

/-! ### The whole text -/
def addIns (fs : List Fun) (x : Ins) : List Fun := match fs.getLast? with
  | some f => fs.dropLast ++ [{ f with code := f.code ++ [x] }]
  | none => fs
def stepLn (fs : List Fun) (t : List UInt8) : Option (List Fun) :=
  if (lineWs t).headD [] = funcW then (headOf t).map fun f => fs ++ [f] else if fs = [] then none else (insOf t).map (addIns fs)
noncomputable def readEnd (fs : List Fun) : Prg × Int × Int := if prgFault ⟨fs⟩ ≠ 0 then (⟨[]⟩, 0, prgFault ⟨fs⟩) else (⟨fs⟩, 0, 0)
noncomputable def readFrom (fs : List Fun) (k : Int) (r : List UInt8) : Prg × Int × Int :=
  if _h : r = [] then readEnd fs else match stepLn fs (cutLn r).1 with
    | none => (⟨[]⟩, k, 5)
    | some fs' => readFrom fs' (k + 1) (cutLn r).2
termination_by r.length
decreasing_by exact cutLn_lt _h
noncomputable def readAns (s : List UInt8) : Prg × Int × Int := if 10000 < s.length then (⟨[]⟩, 0, 1) else readFrom [] 0 s
theorem readFrom_nil (fs : List Fun) (k : Int) : readFrom fs k [] = readEnd fs := by rw [readFrom]; rfl
theorem readFrom_bad {fs : List Fun} {k : Int} {r : List UInt8} (hr : r ≠ []) (h : stepLn fs (cutLn r).1 = none) : readFrom fs k r = (⟨[]⟩, k, 5) := by rw [readFrom, dif_neg hr, h]
theorem readFrom_go {fs fs' : List Fun} {k : Int} {r : List UInt8} (hr : r ≠ []) (h : stepLn fs (cutLn r).1 = some fs') : readFrom fs k r = readFrom fs' (k + 1) (cutLn r).2 := by rw [readFrom, dif_neg hr, h]
end Go.Proofs.YtpnapnmkjpolmaaDoor
