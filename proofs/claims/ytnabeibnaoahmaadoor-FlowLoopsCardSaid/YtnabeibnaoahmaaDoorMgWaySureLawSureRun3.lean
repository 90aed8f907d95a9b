/- P3.2: the ways through a function; a list of truths that is closed under them. No program is named here. P3.2: the sure registers of a function. No program is named here. P3.2: the sure registers by a list of places still to do. No program is named here. -/
import Derived.Test.YtnabeibnaoahmaaDoorValid
import Derived.Test.YtnabeibnaoahmaaDoorMgPrNestNestBFind4
set_option linter.unusedSimpArgs false
set_option linter.unusedVariables false
namespace Go.Proofs.YtnabeibnaoahmaaDoor
open Go.RowKit
theorem nextZ_len (x : Ins) (pc : Nat) : (nextZ x pc).length ≤ 2 := by
  unfold nextZ; split <;> (try split) <;> (try split) <;> simp
theorem nextZ_in {x : Ins} {len funcs : Nat} (h : OkI x len funcs) {pc : Nat} (hp : pc < len) : ∀ n ∈ nextZ x pc, 0 ≤ n ∧ n ≤ len := by
  unfold nextZ
  intro n hn
  split at hn
  · cases hn
  · split at hn
    · rename_i h1 h2
      have := h.tgt (.inl h2)
      rw [List.mem_singleton.1 hn]; omega
    · split at hn
      · rename_i h1 h2 h3
        have := h.tgt (.inr h3)
        simp at hn
        rcases hn with rfl | rfl <;> omega
      · rw [List.mem_singleton.1 hn]; omega
def Kill (r : Int) (x : Ins) : Bool := decide (0 ≤ r) && setsZ x.op && decide (x.dst = r)
/-- Is there a way to a place on which a register is not set (-1: whatever is set)? -/
inductive Way (f : Fun) (r : Int) : Nat → Prop
  | start (h : ¬ (0 ≤ r ∧ r < f.params)) : Way f r 0
  | step {pc : Nat} {x : Ins} {n : Int} (h : Way f r pc) (hx : f.code[pc]? = some x) (hk : Kill r x = false) (hn : n ∈ nextZ x pc) : Way f r n.toNat
open Classical in
noncomputable def wayL (f : Fun) (r : Int) : List Bool := (List.range (f.code.length + 1)).map fun pc => decide (Way f r pc)
theorem wayL_len (f : Fun) (r : Int) : (wayL f r).length = f.code.length + 1 := by simp [wayL]
theorem wayL_at (f : Fun) (r : Int) (pc : Nat) (h : pc ≤ f.code.length) : (wayL f r)[pc]? = some true ↔ Way f r pc := by
  unfold wayL
  rw [List.getElem?_map, List.getElem?_range (by omega)]
  simp
/-- So far as is known there is a way. -/
def Sound (f : Fun) (r : Int) (bs : List Bool) : Prop := ∀ pc : Nat, bs[pc]? = some true → Way f r pc
def ClosedAt (f : Fun) (r : Int) (bs : List Bool) (pc : Nat) : Prop := bs[pc]? = some true → ∀ x, f.code[pc]? = some x → Kill r x = false → ∀ n ∈ nextZ x pc, bs[n.toNat]? = some true
theorem way_closed {f : Fun} {funcs : Nat} (ok : OkF f funcs) {r : Int} {bs : List Bool} (hl : bs.length = f.code.length + 1) (h0 : ¬ (0 ≤ r ∧ r < f.params) → bs[0]? = some true) (hs : Sound f r bs) (hc : ∀ pc, pc < f.code.length → ClosedAt f r bs pc) : bs = wayL f r := by
  have hw : ∀ pc, Way f r pc → bs[pc]? = some true := fun pc h => by
    induction h with
    | start h => exact h0 h
    | step h hx hk hn ih => exact hc _ (List.getElem?_eq_some_iff.1 hx).1 ih _ hx hk _ hn
  apply List.ext_getElem?
  intro pc
  by_cases hpc : pc ≤ f.code.length
  · have hb : ∃ b, bs[pc]? = some b := ⟨_, List.getElem?_eq_getElem (by omega)⟩
    obtain ⟨b, hb⟩ := hb
    have hx : (wayL f r)[pc]? = some ((wayL f r)[pc]'(by rw [wayL_len]; omega)) := List.getElem?_eq_getElem _
    rw [hb]
    cases b
    · generalize (wayL f r)[pc]'(by rw [wayL_len]; omega) = c at hx
      cases c
      · exact hx.symm
      · have := hw pc ((wayL_at f r pc hpc).1 hx)
        rw [hb] at this; cases this
    · exact ((wayL_at f r pc hpc).2 (hs pc hb)).symm
  · rw [List.getElem?_eq_none (by omega), List.getElem?_eq_none (by rw [wayL_len]; omega)]
theorem wayL_none {f : Fun} {r : Int} (h : 0 ≤ r ∧ r < f.params) : List.replicate (f.code.length + 1) false = wayL f r := by
  have hw : ∀ pc, ¬ Way f r pc := fun pc hw => by
    induction hw with
    | start h' => exact h' h
    | step _ _ _ _ ih => exact ih
  apply List.ext_getElem
  · simp [wayL_len]
  · intro i h1 h2
    simp [wayL, hw]
theorem count_set {bs : List Bool} {n : Nat} (h : bs[n]? = some false) : (bs.set n true).count false + 1 = bs.count false := by
  induction bs generalizing n with
  | nil => simp at h
  | cons b bs ih =>
    cases n with
    | zero => simp at h; subst h; simp
    | succ n =>
      have := ih (n := n) (by simpa using h)
      simp only [List.set_cons_succ, List.count_cons]
      omega
/-- A round so far: whether something was found, and what is known by now. -/
structure Rnd (f : Fun) (r : Int) (bs0 bs : List Bool) (again : Bool) : Prop where
  len : bs.length = f.code.length + 1
  sound : Sound f r bs
  first : ¬ (0 ≤ r ∧ r < f.params) → bs[0]? = some true
  no : again = false → bs = bs0
  yes : again = true → bs.count false < bs0.count false
theorem Rnd.set {f : Fun} {r : Int} {bs0 bs : List Bool} {again : Bool} (h : Rnd f r bs0 bs again) {n : Nat} (hn : bs[n]? = some false) (hw : Way f r n) : Rnd f r bs0 (bs.set n true) true := by
  refine ⟨by simpa using h.len, fun pc hp => ?_, fun hf => ?_, fun e => (by cases e), fun _ => ?_⟩
  · by_cases e : n = pc
    · subst e; exact hw
    · rw [List.getElem?_set_ne e] at hp; exact h.sound pc hp
  · by_cases e : n = 0
    · subst e; rw [h.first hf] at hn; cases hn
    · rw [List.getElem?_set_ne e]; exact h.first hf
  · have := count_set hn
    cases again
    · have e := h.no rfl
      rw [← e]; omega
    · have := h.yes rfl; omega
end Go.Proofs.YtnabeibnaoahmaaDoor
namespace Go.Proofs.YtnabeibnaoahmaaDoor
open Go.RowKit Plain64
/-- Numbers below k that are so, as bits. -/
def mskZ (g : Nat → Bool) : Nat → Int
  | 0 => 0
  | k + 1 => mskZ g k + if g k then 2 ^ k else 0
theorem mskZ_range (g : Nat → Bool) : ∀ k, 0 ≤ mskZ g k ∧ mskZ g k ≤ 2 ^ k - 1
  | 0 => by simp [mskZ]
  | k + 1 => by
    have := mskZ_range g k
    have h : (0 : Int) < 2 ^ k := Int.pow_pos (by decide)
    rw [mskZ, Int.pow_succ]
    split <;> omega
/-- Up to a register: what is known of a place. -/
noncomputable def sureUpto (f : Fun) (r pc : Nat) : Int := if (wayL f (-1)).getD pc false then mskZ (fun r => !(wayL f r).getD pc false) r else -1
noncomputable def sureL (f : Fun) : List Int := (List.range (f.code.length + 1)).map (sureUpto f 12)
theorem sureL_len (f : Fun) : (sureL f).length = f.code.length + 1 := by simp [sureL]
theorem sureUpto_range (f : Fun) (r pc : Nat) (hr : r ≤ 12) : -1 ≤ sureUpto f r pc ∧ sureUpto f r pc ≤ 4095 := by
  unfold sureUpto
  split
  · have h1 := mskZ_range (fun r => !(wayL f r).getD pc false) r
    have h2 := Nat.pow_le_pow_right (n := 2) (by decide) hr
    have e : ((2 ^ r : Nat) : Int) = 2 ^ r := by simp
    have : (2 : Int) ^ r ≤ 4096 := by rw [← e]; exact Int.ofNat_le.2 h2
    omega
  · omega
theorem sureL_of {f : Fun} {os : List Int} (hl : os.length = f.code.length + 1) (h : ∀ q, q < f.code.length + 1 → os[q]? = some (sureUpto f 12 q)) : os = sureL f := by
  apply List.ext_getElem?
  intro q
  by_cases hq : q < f.code.length + 1
  · rw [h q hq, sureL, List.getElem?_map, List.getElem?_range hq]; rfl
  · rw [List.getElem?_eq_none (by omega), List.getElem?_eq_none (by rw [sureL_len]; omega)]
theorem sureUpto_succ (f : Fun) (r pc : Nat) : sureUpto f (r + 1) pc = sureUpto f r pc + if (wayL f (-1)).getD pc false && !(wayL f r).getD pc false then 2 ^ r else 0 := by
  unfold sureUpto
  cases (wayL f (-1)).getD pc false
  · simp
  · simp only [if_true, mskZ, Bool.true_and]
end Go.Proofs.YtnabeibnaoahmaaDoor
namespace Go.Proofs.YtnabeibnaoahmaaDoor
open Go.RowKit Plain64
/-! ### Masks of twelve bits -/
theorem bitZ_toInt (x : BitVec 64) (i : Nat) (hi : i < 64) : bitZ x.toInt i = x.getLsbD i := by
  rw [bitZ_eq _ _ hi, BitVec.ofInt_toInt]
theorem bitZ_and (a b : Int) (i : Nat) (hi : i < 64) : bitZ (bits .and .i64 a b) i = (bitZ a i && bitZ b i) := by
  rw [bits_and, bitZ_toInt _ _ hi, BitVec.getLsbD_and, bitZ_eq _ _ hi, bitZ_eq _ _ hi]
theorem bitZ_or (a b : Int) (i : Nat) (hi : i < 64) : bitZ (bits .or .i64 a b) i = (bitZ a i || bitZ b i) := by
  rw [bits_or, bitZ_toInt _ _ hi, BitVec.getLsbD_or, bitZ_eq _ _ hi, bitZ_eq _ _ hi]
theorem bitZ_high (a : Int) (h : 0 ≤ a ∧ a ≤ 4095) (i : Nat) (hi : 12 ≤ i) : bitZ a i = false := by
  unfold bitZ
  have h2 : (4096 : Int) ≤ 2 ^ i := by
    have := Nat.pow_le_pow_right (n := 2) (by decide) hi
    have e : ((2 ^ i : Nat) : Int) = 2 ^ i := by simp
    rw [← e]; omega
  rw [Int.ediv_eq_zero_of_lt h.1 (by omega)]
  rfl
theorem small12 (x : BitVec 64) (h : ∀ i, 12 ≤ i → i < 64 → x.getLsbD i = false) : 0 ≤ x.toInt ∧ x.toInt ≤ 4095 := by
  have hn : x.toNat < 2 ^ 12 := Nat.lt_pow_two_of_testBit _ fun i hi => by
    by_cases h64 : i < 64
    · exact h i hi h64
    · exact Nat.testBit_lt_two_pow (Nat.lt_of_lt_of_le x.isLt (Nat.pow_le_pow_right (by decide) (by omega)))
  rw [BitVec.toInt_eq_toNat_of_lt (by omega)]
  omega
theorem and_range (a b : Int) (ha : 0 ≤ a ∧ a ≤ 4095) : 0 ≤ bits .and .i64 a b ∧ bits .and .i64 a b ≤ 4095 := by
  rw [bits_and]
  exact small12 _ fun i h1 h2 => by rw [BitVec.getLsbD_and, ← bitZ_eq _ _ h2, bitZ_high a ha i h1]; rfl
theorem or_range (a b : Int) (ha : 0 ≤ a ∧ a ≤ 4095) (hb : 0 ≤ b ∧ b ≤ 4095) : 0 ≤ bits .or .i64 a b ∧ bits .or .i64 a b ≤ 4095 := by
  rw [bits_or]
  exact small12 _ fun i h1 h2 => by rw [BitVec.getLsbD_or, ← bitZ_eq _ _ h2, ← bitZ_eq _ _ h2, bitZ_high a ha i h1, bitZ_high b hb i h1]; rfl
theorem mskZ_bits (a : Int) (h : 0 ≤ a) : ∀ k, mskZ (bitZ a) k = a % 2 ^ k
  | 0 => by simp [mskZ]
  | k + 1 => by
    rw [mskZ, mskZ_bits a h k, Int.pow_succ]
    have hp : (0 : Int) < 2 ^ k := Int.pow_pos (by decide)
    have e1 := Int.emod_add_mul_ediv a (2 ^ k)
    have e2 := Int.emod_add_mul_ediv a (2 ^ k * 2)
    have e3 : a / (2 ^ k * 2) = a / 2 ^ k / 2 := by rw [Int.ediv_ediv_of_nonneg (by omega)]
    rw [e3] at e2
    unfold bitZ
    have e5 : 2 ^ k * 2 * (a / 2 ^ k / 2) = 2 ^ k * (2 * (a / 2 ^ k / 2)) := by rw [Int.mul_assoc]
    rw [e5] at e2
    generalize a / 2 ^ k = y at *
    by_cases hy : y % 2 = 1
    · rw [decide_eq_true hy, if_pos rfl]
      obtain ⟨h', hh⟩ : ∃ h', y = 2 * h' + 1 := ⟨y / 2, by omega⟩
      have e7 : y / 2 = h' := by omega
      rw [e7] at e2
      subst hh
      have e6 : 2 ^ k * (2 * h' + 1) = 2 ^ k * (2 * h') + 2 ^ k := by rw [Int.mul_add, Int.mul_one]
      omega
    · rw [decide_eq_false hy]
      obtain ⟨h', hh⟩ : ∃ h', y = 2 * h' := ⟨y / 2, by omega⟩
      have e7 : y / 2 = h' := by omega
      rw [e7] at e2
      subst hh
      simp only [Bool.false_eq_true, if_false]
      omega
theorem mskZ_congr {g h : Nat → Bool} : ∀ k, (∀ r, r < k → g r = h r) → mskZ g k = mskZ h k
  | 0, _ => rfl
  | k + 1, e => by rw [mskZ, mskZ, mskZ_congr k (fun r hr => e r (by omega)), e k (by omega)]
theorem mask_eq {a : Int} (ha : 0 ≤ a ∧ a ≤ 4095) : mskZ (bitZ a) 12 = a := by
  rw [mskZ_bits a ha.1]; omega
theorem mask_ext {a b : Int} (ha : 0 ≤ a ∧ a ≤ 4095) (hb : 0 ≤ b ∧ b ≤ 4095) (h : ∀ r, r < 12 → bitZ a r = bitZ b r) : a = b := by
  rw [← mask_eq ha, ← mask_eq hb]; exact mskZ_congr 12 h
theorem bit_one_nat : ∀ d r : Fin 12, bitZ (2 ^ d.1) r.1 = decide ((d.1 : Int) = r.1) := by decide +kernel
theorem bit_one (d : Int) (hd : 0 ≤ d ∧ d ≤ 11) (r : Nat) (hr : r < 12) : bitZ (2 ^ d.toNat) r = decide (d = r) := by
  have := bit_one_nat ⟨d.toNat, by omega⟩ ⟨r, hr⟩
  simp only at this
  rw [this, decide_eq_decide]; omega
/-- What is set behind an instruction. -/
def aftZ (z : Int) (x : Ins) : Int := if setsZ x.op then bits .or .i64 z (2 ^ x.dst.toNat) else z
theorem aftZ_range {z : Int} {x : Ins} (hz : 0 ≤ z ∧ z ≤ 4095) (hd : 0 ≤ x.dst ∧ x.dst ≤ 11) : 0 ≤ aftZ z x ∧ aftZ z x ≤ 4095 := by
  unfold aftZ
  split
  · have := pow_small x.dst hd
    exact or_range _ _ hz (by omega)
  · exact hz
theorem aftZ_bit {z : Int} {x : Ins} (hd : 0 ≤ x.dst ∧ x.dst ≤ 11) (r : Nat) (hr : r < 12) : bitZ (aftZ z x) r = (bitZ z r || (setsZ x.op && decide (x.dst = r))) := by
  unfold aftZ
  split
  · rename_i h; rw [bitZ_or _ _ _ (by omega), bit_one _ hd _ hr, h]; simp
  · rename_i h; simp at h; rw [h]; simp
/-- How much may still be taken away from a place. -/
def wtZ (z : Int) : Nat := if z < 0 then 13 else (List.range 12).countP (bitZ z)
theorem wtZ_new {y : Int} (hy : 0 ≤ y) : wtZ y < wtZ (-1) := by
  have : (List.range 12).countP (bitZ y) ≤ 12 := by have := List.countP_le_length (p := bitZ y) (l := List.range 12); simpa using this
  unfold wtZ
  rw [if_neg (by omega), if_pos (by omega)]; omega
theorem countP_lt {p q : Nat → Bool} : ∀ (l : List Nat), (∀ r ∈ l, p r = true → q r = true) → (∃ r ∈ l, p r = false ∧ q r = true) → l.countP p < l.countP q
  | [], _, ⟨_, h, _⟩ => by cases h
  | x :: l, hs, ⟨r, hr, h1, h2⟩ => by
    have hle : l.countP p ≤ l.countP q := List.countP_mono_left fun r hr => hs r (by simp [hr])
    rw [List.countP_cons, List.countP_cons]
    rcases List.mem_cons.1 hr with rfl | hr
    · rw [h1, h2]; simp; omega
    · have := countP_lt l (fun r hr => hs r (by simp [hr])) ⟨r, hr, h1, h2⟩
      have hx := hs x (by simp)
      cases hpx : p x
      · simp; split <;> omega
      · rw [hx hpx]; simp; omega
theorem wtZ_and {z b : Int} (hz : 0 ≤ z ∧ z ≤ 4095) (hne : bits .and .i64 z b ≠ z) : wtZ (bits .and .i64 z b) < wtZ z := by
  have hy := and_range z b hz
  unfold wtZ
  rw [if_neg (by omega), if_neg (by omega)]
  refine countP_lt _ (fun r hr h => ?_) ?_
  · rw [bitZ_and _ _ _ (by simp at hr; omega)] at h
    simp at h; exact h.1
  · apply Classical.byContradiction
    intro hno
    apply hne
    refine mask_ext hy hz fun r hr => ?_
    rw [bitZ_and _ _ _ (by omega)]
    cases h1 : bitZ z r
    · rfl
    · cases h2 : bitZ b r
      · exact absurd ⟨r, by simpa using hr, by rw [bitZ_and _ _ _ (by omega), h1, h2]; rfl, h1⟩ hno
      · rfl
def muZ (os : List Int) : Nat := (os.map wtZ).sum
theorem muZ_set {os : List Int} {n : Nat} {z y : Int} (h : os[n]? = some z) (hw : wtZ y < wtZ z) : muZ (os.set n y) + 1 ≤ muZ os := by
  unfold muZ
  induction os generalizing n with
  | nil => simp at h
  | cons a os ih =>
    cases n with
    | zero => simp at h; subst h; simp; omega
    | succ n =>
      have := ih (n := n) (by simpa using h)
      simp only [List.set_cons_succ, List.map_cons, List.sum_cons]; omega
/-! ### The run -/
def Sub (a b : Int) : Prop := ∀ r, r < 12 → bitZ a r = true → bitZ b r = true
/-- What stands at a place is a mask, and less than another one. -/
def Und (os : List Int) (n : Nat) (b : Int) : Prop := ∃ z, os[n]? = some z ∧ 0 ≤ z ∧ Sub z b
structure Inv0 (f : Fun) (os : List Int) (ts : List Nat) : Prop where
  len : os.length = f.code.length + 1
  ent : ∀ (q : Nat) z, os[q]? = some z → z = -1 ∨ (0 ≤ z ∧ z ≤ 4095)
  way : ∀ (q : Nat) z, os[q]? = some z → 0 ≤ z → Way f (-1) q
  wayR : ∀ (q : Nat) z, os[q]? = some z → 0 ≤ z → ∀ r : Nat, r < 12 → bitZ z r = false → Way f r q
  start : ∃ z, os[0]? = some z ∧ 0 ≤ z ∧ ∀ r : Nat, r < 12 → f.params ≤ r → bitZ z r = false
  todo : ∀ t ∈ ts, t ≤ f.code.length ∧ ∃ z, os[t]? = some z ∧ 0 ≤ z
/-- The places behind a place know of it. -/
def ClosedS (f : Fun) (os : List Int) (q : Nat) : Prop := ∀ z, os[q]? = some z → 0 ≤ z → ∀ x, f.code[q]? = some x → ∀ n ∈ nextZ x q, Und os n.toNat (aftZ z x)
structure Inv (f : Fun) (os : List Int) (ts : List Nat) : Prop extends Inv0 f os ts where
  closed : ∀ q, q < f.code.length → q ∉ ts → ClosedS f os q
/-- In the middle of a place's own round: j of what stands behind it is done. -/
structure InvIn (f : Fun) (os : List Int) (ts : List Nat) (pc : Nat) (b : Int) (l : List Int) (j : Nat) : Prop extends Inv0 f os ts where
  others : ∀ q, q < f.code.length → q ∉ ts → q ≠ pc → ClosedS f os q
  own : pc ∈ ts ∨ ((∀ z, os[pc]? = some z → ∀ x, f.code[pc]? = some x → aftZ z x = b) ∧ ∀ (i : Nat) n, i < j → l[i]? = some n → Und os n.toNat b)
theorem Sub.trans {a b c : Int} (h : Sub a b) (k : Sub b c) : Sub a c := fun r hr ha => k r hr (h r hr ha)
theorem Sub.refl (a : Int) : Sub a a := fun _ _ h => h
theorem Und.set {os : List Int} {n m : Nat} {b y z : Int} (h : Und os m b) (hn : os[n]? = some z) (hy : 0 ≤ y) (hs : 0 ≤ z → Sub y z) : Und (os.set n y) m b := by
  obtain ⟨u, hu, h0, h1⟩ := h
  by_cases e : n = m
  · subst e
    rw [hn] at hu; cases hu
    exact ⟨y, List.getElem?_set_self (List.getElem?_eq_some_iff.1 hn).1, hy, (hs h0).trans h1⟩
  · exact ⟨u, by rw [List.getElem?_set_ne e]; exact hu, h0, h1⟩
/-- A place behind the one that is being done gets less. -/
theorem InvIn.upd {f : Fun} {os : List Int} {ts : List Nat} {pc : Nat} {b : Int} {l : List Int} {j : Nat} (h : InvIn f os ts pc b l j) {n : Nat} {z y : Int} (hl : l[j]? = some (n : Int)) (hn : os[n]? = some z)
    (hy : 0 ≤ y ∧ y ≤ 4095) (hb : Sub y b) (hs : 0 ≤ z → Sub y z) (hw : Way f (-1) n) (hr : ∀ r : Nat, r < 12 → bitZ y r = false → Way f r n) (hle : n ≤ f.code.length) : InvIn f (os.set n y) (ts ++ [n]) pc b l (j + 1) := by
  have hlt : n < os.length := (List.getElem?_eq_some_iff.1 hn).1
  have hat : ∀ (q : Nat) u, (os.set n y)[q]? = some u → (q = n ∧ u = y) ∨ (q ≠ n ∧ os[q]? = some u) := fun q u hu => by
    by_cases e : n = q
    · subst e; rw [List.getElem?_set_self hlt] at hu; cases hu; exact .inl ⟨rfl, rfl⟩
    · rw [List.getElem?_set_ne e] at hu; exact .inr ⟨Ne.symm e, hu⟩
  refine ⟨⟨by simpa using h.len, fun q u hu => ?_, fun q u hu h0 => ?_, fun q u hu h0 r hr' hb' => ?_, ?_, fun t ht => ?_⟩, fun q hq hqt hqp => ?_, ?_⟩
  · rcases hat q u hu with ⟨rfl, rfl⟩ | ⟨_, hu⟩
    · exact .inr hy
    · exact h.ent q u hu
  · rcases hat q u hu with ⟨rfl, rfl⟩ | ⟨_, hu⟩
    · exact hw
    · exact h.way q u hu h0
  · rcases hat q u hu with ⟨rfl, rfl⟩ | ⟨_, hu⟩
    · exact hr r hr' hb'
    · exact h.wayR q u hu h0 r hr' hb'
  · obtain ⟨z0, h1, h2, h3⟩ := h.start
    by_cases e : n = 0
    · subst e
      rw [hn] at h1; cases h1
      refine ⟨y, List.getElem?_set_self hlt, hy.1, fun r hr' hp => ?_⟩
      cases hb' : bitZ y r
      · rfl
      · rw [← h3 r hr' hp, hs h2 r hr' hb']
    · exact ⟨z0, by rw [List.getElem?_set_ne e]; exact h1, h2, h3⟩
  · rcases List.mem_append.1 ht with ht | ht
    · obtain ⟨h1, u, h2, h3⟩ := h.todo t ht
      refine ⟨h1, ?_⟩
      by_cases e : n = t
      · subst e; exact ⟨y, List.getElem?_set_self hlt, hy.1⟩
      · exact ⟨u, by rw [List.getElem?_set_ne e]; exact h2, h3⟩
    · obtain rfl := List.mem_singleton.1 ht
      exact ⟨hle, y, List.getElem?_set_self hlt, hy.1⟩
  · intro u hu h0 x hx m hm
    have hqn : q ≠ n := fun e => hqt (by simp [e])
    have hqt' : q ∉ ts := fun e => hqt (by simp [e])
    rcases hat q u hu with ⟨e, _⟩ | ⟨_, hu⟩
    · exact absurd e hqn
    · exact (h.others q hq hqt' hqp u hu h0 x hx m hm).set hn hy.1 hs
  · by_cases e : pc = n
    · exact .inl (by simp [e])
    · rcases h.own with h1 | ⟨h1, h2⟩
      · exact .inl (by simp [h1])
      · refine .inr ⟨fun u hu => ?_, fun i m hi hm => ?_⟩
        · rcases hat pc u hu with ⟨e', _⟩ | ⟨_, hu⟩
          · exact absurd e' e
          · exact h1 u hu
        · by_cases hij : i < j
          · exact (h2 i m hij hm).set hn hy.1 hs
          · obtain rfl : i = j := by omega
            rw [hl] at hm; cases hm
            exact ⟨y, by rw [Int.toNat_natCast]; exact List.getElem?_set_self hlt, hy.1, hb⟩
/-- .. or has no more than that already. -/
theorem InvIn.skip {f : Fun} {os : List Int} {ts : List Nat} {pc : Nat} {b : Int} {l : List Int} {j : Nat} (h : InvIn f os ts pc b l j) {n : Nat} {z : Int} (hl : l[j]? = some (n : Int)) (hn : os[n]? = some z)
    (h0 : 0 ≤ z) (hb : Sub z b) : InvIn f os ts pc b l (j + 1) :=
  ⟨h.toInv0, h.others, h.own.imp id fun ⟨h1, h2⟩ => ⟨h1, fun i m hi hm => by
    by_cases hij : i < j
    · exact h2 i m hij hm
    · obtain rfl : i = j := by omega
      rw [hl] at hm; cases hm
      exact ⟨z, by rw [Int.toNat_natCast]; exact hn, h0, hb⟩⟩⟩
theorem InvIn.begin {f : Fun} {os : List Int} {ts : List Nat} {pc : Nat} {z : Int} {x : Ins} {l : List Int} (h : Inv f os (ts ++ [pc])) (hz : os[pc]? = some z) (hx : f.code[pc]? = some x) : InvIn f os ts pc (aftZ z x) l 0 :=
  ⟨⟨h.len, h.ent, h.way, h.wayR, h.start, fun t ht => h.todo t (by simp [ht])⟩, fun q hq hqt hqp => h.closed q hq (by simp [hqt, hqp]), .inr ⟨fun u hu y hy => by rw [hz] at hu; rw [hx] at hy; cases hu; cases hy; rfl, fun i n hi => by omega⟩⟩
theorem InvIn.ends {f : Fun} {os : List Int} {ts : List Nat} {pc : Nat} {b : Int} {x : Ins} (h : InvIn f os ts pc b (nextZ x pc) (nextZ x pc).length) (hx : f.code[pc]? = some x) : Inv f os ts :=
  ⟨h.toInv0, fun q hq hqt => by
    by_cases e : q = pc
    · subst e
      rcases h.own with h1 | ⟨h1, h2⟩
      · exact absurd h1 hqt
      · intro u hu h0 y hy n hn
        rw [hx] at hy; cases hy
        rw [h1 u hu x hx]
        obtain ⟨i, hi, rfl⟩ := List.getElem_of_mem hn
        exact h2 i _ hi (List.getElem?_eq_getElem hi)
    · exact h.others q hq hqt e⟩
theorem Inv.pop {f : Fun} {os : List Int} {ts : List Nat} (h : Inv f os (ts ++ [f.code.length])) : Inv f os ts :=
  ⟨⟨h.len, h.ent, h.way, h.wayR, h.start, fun t ht => h.todo t (by simp [ht])⟩, fun q hq hqt => h.closed q hq (by simp [hqt]; omega)⟩
/-- What is behind a place that is reached. -/
theorem step_way {f : Fun} {os : List Int} {ts : List Nat} {pc : Nat} {z : Int} {x : Ins} {n : Nat} (h : Inv0 f os ts) (hz : os[pc]? = some z) (h0 : 0 ≤ z) (hx : f.code[pc]? = some x) (hd : 0 ≤ x.dst ∧ x.dst ≤ 11) (hn : (n : Int) ∈ nextZ x pc) :
    Way f (-1) n ∧ ∀ r : Nat, r < 12 → bitZ (aftZ z x) r = false → Way f r n := by
  refine ⟨?_, fun r hr hb => ?_⟩
  · have := Way.step (h.way pc z hz h0) hx (by simp [Kill]) hn
    simpa using this
  · rw [aftZ_bit hd r hr] at hb
    simp only [Bool.or_eq_false_iff] at hb
    have := Way.step (h.wayR pc z hz h0 r hr hb.1) hx (by unfold Kill; rw [Bool.and_assoc, hb.2]; simp) hn
    simpa using this
theorem inv_done {f : Fun} {funcs : Nat} (ok : OkF f funcs) {os : List Int} (h : Inv f os []) : os = sureL f := by
  have hw : ∀ (r : Int) (n : Nat), Way f r n → ∃ z, os[n]? = some z ∧ 0 ≤ z ∧ ∀ k : Nat, k < 12 → (k : Int) = r → bitZ z k = false := fun r n hn => by
    induction hn with
    | start hp =>
      obtain ⟨z, h1, h2, h3⟩ := h.start
      exact ⟨z, h1, h2, fun k hk e => h3 k hk (by omega)⟩
    | @step pc x n hq hx hk hn ih =>
      obtain ⟨z, h1, h2, h3⟩ := ih
      obtain ⟨u, g1, g2, g3⟩ := h.closed pc (List.getElem?_eq_some_iff.1 hx).1 (by simp) z h1 h2 x hx n hn
      refine ⟨u, g1, g2, fun k hk' e => ?_⟩
      cases hb : bitZ u k
      · rfl
      · exfalso
        have ha := g3 k hk' hb
        have hz := h3 k hk' e
        unfold aftZ at ha
        split at ha
        · rename_i hs
          rw [bitZ_or _ _ _ (by omega), hz, Bool.false_or] at ha
          unfold Kill at hk
          rw [hs, ← e] at hk
          simp at hk
          rw [bit_one _ (ok.ins x (List.mem_of_getElem? hx)).dst _ hk'] at ha
          simp at ha; exact hk ha
        · rw [hz] at ha; cases ha
  refine sureL_of h.len fun q hq => ?_
  obtain ⟨z, hz⟩ : ∃ z, os[q]? = some z := ⟨_, List.getElem?_eq_getElem (by rw [h.len]; exact hq)⟩
  have gw : ∀ r : Int, (wayL f r).getD q false = true ↔ Way f r q := fun r => by
    rw [← wayL_at f r q (by omega), List.getD_eq_getElem?_getD]
    rcases hh : (wayL f r)[q]? with _ | c
    · simp
    · cases c <;> simp
  rw [hz]
  unfold sureUpto
  by_cases hway : Way f (-1) q
  · rw [if_pos ((gw _).2 hway)]
    obtain ⟨u, h1, h2, _⟩ := hw _ _ hway
    rw [hz] at h1; cases h1
    have he := (h.ent q z hz).resolve_left (by omega)
    rw [← mask_eq he]
    congr 1
    refine mskZ_congr 12 fun r hr => ?_
    cases hb : bitZ z r
    · have := (gw r).2 (h.wayR q z hz h2 r hr hb)
      rw [this]; rfl
    · cases hg : (wayL f r).getD q false
      · rfl
      · obtain ⟨u, h1, _, h3⟩ := hw _ _ ((gw r).1 hg)
        rw [hz] at h1; cases h1
        rw [h3 r hr rfl] at hb; cases hb
  · have : (wayL f (-1)).getD q false = false := by
      cases hg : (wayL f (-1)).getD q false
      · rfl
      · exact absurd ((gw _).1 hg) hway
    rw [this]
    rcases h.ent q z hz with rfl | hz0
    · rfl
    · exact absurd (h.way q z hz hz0.1) hway
end Go.Proofs.YtnabeibnaoahmaaDoor
