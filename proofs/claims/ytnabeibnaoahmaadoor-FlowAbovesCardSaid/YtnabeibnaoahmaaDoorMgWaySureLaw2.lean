/- P3.2: the ways through a function; a list of truths that is closed under them. No program is named here. P3.2: the sure registers of a function. No program is named here. -/
import Derived.Test.YtnabeibnaoahmaaDoorValid
import Derived.Test.YtnabeibnaoahmaaDoorMgPrNestNestBFind4
set_option linter.unusedSimpArgs false
set_option linter.unusedVariables false
namespace Go.Proofs.YtnabeibnaoahmaaDoor
open Go.RowKit
theorem nextZ_len (x : Ins) (pc : Nat) : (nextZ x pc).length ≤ 2 := by
  unfold nextZ; split <;> (try split) <;> (try split) <;> simp
theorem nextZ_in {x : Ins} {len funcs : Nat} (h : OkI x len funcs) {pc : Nat} (hp : pc < len) : ∀ n ∈ nextZ x pc, 0 ≤ n ∧ n ≤ len := by
  unfold nextZ
  intro n hn
  split at hn
  · cases hn
  · split at hn
    · rename_i h1 h2
      have := h.tgt (.inl h2)
      rw [List.mem_singleton.1 hn]; omega
    · split at hn
      · rename_i h1 h2 h3
        have := h.tgt (.inr h3)
        simp at hn
        rcases hn with rfl | rfl <;> omega
      · rw [List.mem_singleton.1 hn]; omega
def Kill (r : Int) (x : Ins) : Bool := decide (0 ≤ r) && setsZ x.op && decide (x.dst = r)
/-- Is there a way to a place on which a register is not set (-1: whatever is set)? -/
inductive Way (f : Fun) (r : Int) : Nat → Prop
  | start (h : ¬ (0 ≤ r ∧ r < f.params)) : Way f r 0
  | step {pc : Nat} {x : Ins} {n : Int} (h : Way f r pc) (hx : f.code[pc]? = some x) (hk : Kill r x = false) (hn : n ∈ nextZ x pc) : Way f r n.toNat
open Classical in
noncomputable def wayL (f : Fun) (r : Int) : List Bool := (List.range (f.code.length + 1)).map fun pc => decide (Way f r pc)
theorem wayL_len (f : Fun) (r : Int) : (wayL f r).length = f.code.length + 1 := by simp [wayL]
theorem wayL_at (f : Fun) (r : Int) (pc : Nat) (h : pc ≤ f.code.length) : (wayL f r)[pc]? = some true ↔ Way f r pc := by
  unfold wayL
  rw [List.getElem?_map, List.getElem?_range (by omega)]
  simp
/-- So far as is known there is a way. -/
def Sound (f : Fun) (r : Int) (bs : List Bool) : Prop := ∀ pc : Nat, bs[pc]? = some true → Way f r pc
def ClosedAt (f : Fun) (r : Int) (bs : List Bool) (pc : Nat) : Prop := bs[pc]? = some true → ∀ x, f.code[pc]? = some x → Kill r x = false → ∀ n ∈ nextZ x pc, bs[n.toNat]? = some true
theorem way_closed {f : Fun} {funcs : Nat} (ok : OkF f funcs) {r : Int} {bs : List Bool} (hl : bs.length = f.code.length + 1) (h0 : ¬ (0 ≤ r ∧ r < f.params) → bs[0]? = some true) (hs : Sound f r bs) (hc : ∀ pc, pc < f.code.length → ClosedAt f r bs pc) : bs = wayL f r := by
  have hw : ∀ pc, Way f r pc → bs[pc]? = some true := fun pc h => by
    induction h with
    | start h => exact h0 h
    | step h hx hk hn ih => exact hc _ (List.getElem?_eq_some_iff.1 hx).1 ih _ hx hk _ hn
  apply List.ext_getElem?
  intro pc
  by_cases hpc : pc ≤ f.code.length
  · have hb : ∃ b, bs[pc]? = some b := ⟨_, List.getElem?_eq_getElem (by omega)⟩
    obtain ⟨b, hb⟩ := hb
    have hx : (wayL f r)[pc]? = some ((wayL f r)[pc]'(by rw [wayL_len]; omega)) := List.getElem?_eq_getElem _
    rw [hb]
    cases b
    · generalize (wayL f r)[pc]'(by rw [wayL_len]; omega) = c at hx
      cases c
      · exact hx.symm
      · have := hw pc ((wayL_at f r pc hpc).1 hx)
        rw [hb] at this; cases this
    · exact ((wayL_at f r pc hpc).2 (hs pc hb)).symm
  · rw [List.getElem?_eq_none (by omega), List.getElem?_eq_none (by rw [wayL_len]; omega)]
theorem wayL_none {f : Fun} {r : Int} (h : 0 ≤ r ∧ r < f.params) : List.replicate (f.code.length + 1) false = wayL f r := by
  have hw : ∀ pc, ¬ Way f r pc := fun pc hw => by
    induction hw with
    | start h' => exact h' h
    | step _ _ _ _ ih => exact ih
  apply List.ext_getElem
  · simp [wayL_len]
  · intro i h1 h2
    simp [wayL, hw]
theorem count_set {bs : List Bool} {n : Nat} (h : bs[n]? = some false) : (bs.set n true).count false + 1 = bs.count false := by
  induction bs generalizing n with
  | nil => simp at h
  | cons b bs ih =>
    cases n with
    | zero => simp at h; subst h; simp
    | succ n =>
      have := ih (n := n) (by simpa using h)
      simp only [List.set_cons_succ, List.count_cons]
      omega
/-- A round so far: whether something was found, and what is known by now. -/
structure Rnd (f : Fun) (r : Int) (bs0 bs : List Bool) (again : Bool) : Prop where
  len : bs.length = f.code.length + 1
  sound : Sound f r bs
  first : ¬ (0 ≤ r ∧ r < f.params) → bs[0]? = some true
  no : again = false → bs = bs0
  yes : again = true → bs.count false < bs0.count false
theorem Rnd.set {f : Fun} {r : Int} {bs0 bs : List Bool} {again : Bool} (h : Rnd f r bs0 bs again) {n : Nat} (hn : bs[n]? = some false) (hw : Way f r n) : Rnd f r bs0 (bs.set n true) true := by
  refine ⟨by simpa using h.len, fun pc hp => ?_, fun hf => ?_, fun e => (by cases e), fun _ => ?_⟩
  · by_cases e : n = pc
    · subst e; exact hw
    · rw [List.getElem?_set_ne e] at hp; exact h.sound pc hp
  · by_cases e : n = 0
    · subst e; rw [h.first hf] at hn; cases hn
    · rw [List.getElem?_set_ne e]; exact h.first hf
  · have := count_set hn
    cases again
    · have e := h.no rfl
      rw [← e]; omega
    · have := h.yes rfl; omega
end Go.Proofs.YtnabeibnaoahmaaDoor
namespace Go.Proofs.YtnabeibnaoahmaaDoor
open Go.RowKit Plain64
/-- Numbers below k that are so, as bits. -/
def mskZ (g : Nat → Bool) : Nat → Int
  | 0 => 0
  | k + 1 => mskZ g k + if g k then 2 ^ k else 0
theorem mskZ_range (g : Nat → Bool) : ∀ k, 0 ≤ mskZ g k ∧ mskZ g k ≤ 2 ^ k - 1
  | 0 => by simp [mskZ]
  | k + 1 => by
    have := mskZ_range g k
    have h : (0 : Int) < 2 ^ k := Int.pow_pos (by decide)
    rw [mskZ, Int.pow_succ]
    split <;> omega
/-- Up to a register: what is known of a place. -/
noncomputable def sureUpto (f : Fun) (r pc : Nat) : Int := if (wayL f (-1)).getD pc false then mskZ (fun r => !(wayL f r).getD pc false) r else -1
noncomputable def sureL (f : Fun) : List Int := (List.range (f.code.length + 1)).map (sureUpto f 12)
theorem sureL_len (f : Fun) : (sureL f).length = f.code.length + 1 := by simp [sureL]
theorem sureUpto_range (f : Fun) (r pc : Nat) (hr : r ≤ 12) : -1 ≤ sureUpto f r pc ∧ sureUpto f r pc ≤ 4095 := by
  unfold sureUpto
  split
  · have h1 := mskZ_range (fun r => !(wayL f r).getD pc false) r
    have h2 := Nat.pow_le_pow_right (n := 2) (by decide) hr
    have e : ((2 ^ r : Nat) : Int) = 2 ^ r := by simp
    have : (2 : Int) ^ r ≤ 4096 := by rw [← e]; exact Int.ofNat_le.2 h2
    omega
  · omega
theorem sureL_of {f : Fun} {os : List Int} (hl : os.length = f.code.length + 1) (h : ∀ q, q < f.code.length + 1 → os[q]? = some (sureUpto f 12 q)) : os = sureL f := by
  apply List.ext_getElem?
  intro q
  by_cases hq : q < f.code.length + 1
  · rw [h q hq, sureL, List.getElem?_map, List.getElem?_range hq]; rfl
  · rw [List.getElem?_eq_none (by omega), List.getElem?_eq_none (by rw [sureL_len]; omega)]
theorem sureUpto_succ (f : Fun) (r pc : Nat) : sureUpto f (r + 1) pc = sureUpto f r pc + if (wayL f (-1)).getD pc false && !(wayL f r).getD pc false then 2 ^ r else 0 := by
  unfold sureUpto
  cases (wayL f (-1)).getD pc false
  · simp
  · simp only [if_true, mskZ, Bool.true_and]
end Go.Proofs.YtnabeibnaoahmaaDoor
