/- P2: a line's words; numerals. No program is named here. -/
import Derived.Test.YtpnapnmkjpolmaaDoorStrLaw
import Derived.Lib.SplitLaws
import Derived.Lib.AtoiAllCases
import Derived.Lib.IndexBytes
set_option linter.unusedSimpArgs false
set_option linter.unusedVariables false
namespace Go.Proofs.YtpnapnmkjpolmaaDoor
open Go.RowKit

/-- A line cut at its blanks. -/
def splitSp : List UInt8 → List (List UInt8)
  | [] => [[]]
  | c :: r => if c = 32 then [] :: splitSp r else (c :: (splitSp r).headD []) :: (splitSp r).tail

theorem splitSp_ne : ∀ l, splitSp l ≠ []
  | [] => by simp [splitSp]
  | c :: r => by unfold splitSp; split <;> simp
theorem splitSp_sp (r : List UInt8) : splitSp (32 :: r) = [] :: splitSp r := by simp [splitSp]
theorem splitSp_other {c : UInt8} (r : List UInt8) (h : c ≠ 32) : splitSp (c :: r) = (c :: (splitSp r).headD []) :: (splitSp r).tail := by simp [splitSp, h]
theorem splitSp_app : ∀ (a r : List UInt8), (∀ c ∈ a, c ≠ 32) → splitSp (a ++ 32 :: r) = a :: splitSp r
  | [], r, _ => splitSp_sp r
  | c :: a, r, h => by
    rw [List.cons_append, splitSp_other _ (h c (by simp)), splitSp_app a r (fun d hd => h d (by simp [hd]))]
    rfl
theorem splitSp_one : ∀ a : List UInt8, (∀ c ∈ a, c ≠ 32) → splitSp a = [a]
  | [], _ => rfl
  | c :: a, h => by
    rw [splitSp_other _ (h c (by simp)), splitSp_one a (fun d hd => h d (by simp [hd]))]
    rfl

theorem splitK_sp : ∀ s : List UInt8, Lib.splitK [32] 0 (s.count 32) s = splitSp s
  | [] => rfl
  | c :: r => by
    have ih := splitK_sp r
    by_cases hc : c = 32
    · subst hc
      rw [List.count_cons_self, splitSp_sp, ← ih]
      have h0 : Lib.index (32 :: r) [32] = 0 := by rw [Lib.index]; simp [List.isPrefixOf]
      rw [Lib.splitK, h0]
      rfl
    · rw [List.count_cons_of_ne (by simpa using hc), splitSp_other _ hc]
      have hx : Lib.index (c :: r) [32] = if Lib.index r [32] == -1 then -1 else Lib.index r [32] + 1 := by
        rw [Lib.index]
        have : List.isPrefixOf [32] (c :: r) = false := by simp [List.isPrefixOf, Ne.symm hc]
        rw [this]; simp
      cases hk : r.count 32 with
      | zero =>
        rw [hk] at ih
        rw [← ih]
        rfl
      | succ k =>
        rw [hk] at ih
        rw [Lib.splitK, hx]
        rw [Lib.splitK] at ih
        by_cases hm : Lib.index r [32] = -1
        · rw [hm] at ih ⊢
          rw [← ih]
          rfl
        · have hge := Lib.index_ge r [32]
          obtain ⟨j, hj⟩ : ∃ j : Nat, Lib.index r [32] = j := ⟨(Lib.index r [32]).toNat, by omega⟩
          rw [hj] at ih ⊢
          have e1 : ((j : Int) == -1) = false := beq_eq_false_iff_ne.2 (by omega)
          have e2 : ((j : Int) + 1 == -1) = false := beq_eq_false_iff_ne.2 (by omega)
          have e3 : ((j : Int) + 1).toNat = j + 1 := by omega
          rw [e1] at ih ⊢
          simp only [Bool.false_eq_true, if_false, e2, e3, Int.toNat_natCast, Nat.add_zero, List.length_singleton] at ih ⊢
          rw [← ih]
          rfl

/-! ### Numerals -/
def isDig (c : UInt8) : Prop := 48 ≤ c.toNat ∧ c.toNat ≤ 57
theorem dig_byte {u : Nat} (h : u < 10) : (UInt8.ofNat (48 + u)).toNat = 48 + u := by rw [UInt8.toNat_ofNat']; omega
theorem decDigits_ne (u : Nat) : Lib.decDigits u ≠ [] := by
  rw [Lib.decDigits]; split <;> simp
theorem decDigits_dig (u : Nat) : ∀ c ∈ Lib.decDigits u, isDig c := by
  induction u using Nat.strongRecOn with
  | _ u ih =>
    intro c hc
    rw [Lib.decDigits] at hc
    split at hc
    · rename_i h
      obtain rfl := List.mem_singleton.1 hc
      unfold isDig
      rw [dig_byte h]; omega
    · rename_i h
      rcases List.mem_append.1 hc with hc | hc
      · exact ih (u / 10) (by omega) c hc
      · obtain rfl := List.mem_singleton.1 hc
        unfold isDig
        rw [dig_byte (by omega)]; omega
theorem itoa_no_sp (n : Int) : ∀ c ∈ Lib.itoa n, c ≠ 32 := by
  intro c hc e
  subst e
  unfold Lib.itoa at hc
  split at hc
  · rcases List.mem_cons.1 hc with h | h
    · exact absurd h (by decide)
    · have := (decDigits_dig _ _ h).1
      exact absurd this (by decide)
  · have := (decDigits_dig _ _ hc).1
    exact absurd this (by decide)
theorem itoa_no_nl (n : Int) : ∀ c ∈ Lib.itoa n, c ≠ 10 := by
  intro c hc e
  subst e
  unfold Lib.itoa at hc
  split at hc
  · rcases List.mem_cons.1 hc with h | h
    · exact absurd h (by decide)
    · have := (decDigits_dig _ _ h).1
      exact absurd this (by decide)
  · have := (decDigits_dig _ _ hc).1
    exact absurd this (by decide)
theorem itoa_no_r (n : Int) : ∀ c ∈ Lib.itoa n, c ≠ 114 := by
  intro c hc e
  subst e
  unfold Lib.itoa at hc
  split at hc
  · rcases List.mem_cons.1 hc with h | h
    · exact absurd h (by decide)
    · have := (decDigits_dig _ _ h).2
      exact absurd this (by decide)
  · have := (decDigits_dig _ _ hc).2
    exact absurd this (by decide)
theorem pu_app : ∀ (l : List UInt8) (acc v : Nat) (c : UInt8), Lib.parseUint10 acc l = .ok v → Lib.parseUint10 acc (l ++ [c]) = Lib.parseUint10 v [c]
  | [], acc, v, c, h => by
    simp only [Lib.parseUint10] at h
    injection h with h
    subst h
    rfl
  | d :: l, acc, v, c, h => by
    rw [List.cons_append]
    simp only [Lib.parseUint10] at h ⊢
    split at h
    · rename_i h1
      rw [if_pos h1]
      split at h
      · cases h
      · rename_i h2
        rw [if_neg h2]
        split at h
        · cases h
        · rename_i h3
          rw [if_neg h3]
          have := pu_app l _ v c h
          simpa only [Lib.parseUint10] using this
    · cases h
theorem pu_digits (u : Nat) (hu : u < 18446744073709551616) : Lib.parseUint10 0 (Lib.decDigits u) = .ok u := by
  induction u using Nat.strongRecOn with
  | _ u ih =>
    rw [Lib.decDigits]
    split
    · rename_i h
      simp only [Lib.parseUint10, dig_byte h]
      rw [if_pos (by omega), if_neg (by omega), if_neg (by omega)]
      congr 1
      omega
    · rename_i h
      rw [pu_app _ _ _ _ (ih (u / 10) (by omega) (by omega))]
      have hb := dig_byte (u := u % 10) (by omega)
      simp only [Lib.parseUint10, hb]
      rw [if_pos (by omega), if_neg (by omega), if_neg (by omega)]
      congr 1
      omega
theorem atoi_itoa (n : Int) (h0 : -9223372036854775808 ≤ n) (h1 : n ≤ 9223372036854775807) : Lib.atoiAll (Lib.itoa n) = .ok n := by
  unfold Lib.itoa
  split
  · rename_i h
    rw [Lib.atoiAll_minus, Lib.parseMag, if_neg (decDigits_ne _), pu_digits _ (by omega)]
    simp only [Lib.signed]
    rw [if_neg (by omega)]
    congr 1
    omega
  · rename_i h
    have hm : Lib.parseMag (Lib.decDigits n.toNat) = .ok n.toNat := by rw [Lib.parseMag, if_neg (decDigits_ne _), pu_digits _ (by omega)]
    cases hd : Lib.decDigits n.toNat with
    | nil => exact absurd hd (decDigits_ne _)
    | cons c r =>
      have hc := decDigits_dig n.toNat c (by rw [hd]; simp)
      unfold isDig at hc
      rw [Lib.atoiAll_plain c r (by omega) (by omega), ← hd, hm]
      simp only [Lib.signless]
      rw [if_neg (by omega)]
      congr 1
      omega
/-- The number that Atoi hands back, whatever else. -/
def atoiV (l : List UInt8) : Int := match Lib.atoiAll l with
  | .ok v => v
  | .syntax => 0
  | .range => Lib.atoiSat l
theorem atoiV_itoa (n : Int) (h0 : -9223372036854775808 ≤ n) (h1 : n ≤ 9223372036854775807) : atoiV (Lib.itoa n) = n := by unfold atoiV; rw [atoi_itoa n h0 h1]
theorem atoiV_range (l : List UInt8) : -9223372036854775808 ≤ atoiV l ∧ atoiV l ≤ 9223372036854775807 := by
  unfold atoiV
  split
  · exact Lib.atoiAll_bounds (by assumption)
  · omega
  · unfold Lib.atoiSat; split <;> omega
theorem itoa_inj {m n : Int} (hm0 : -9223372036854775808 ≤ m) (hm1 : m ≤ 9223372036854775807) (hn0 : -9223372036854775808 ≤ n) (hn1 : n ≤ 9223372036854775807) (h : Lib.itoa m = Lib.itoa n) : m = n := by
  rw [← atoiV_itoa m hm0 hm1, ← atoiV_itoa n hn0 hn1, h]
theorem itoa_ne (n : Int) : Lib.itoa n ≠ [] := by
  unfold Lib.itoa
  split
  · simp
  · exact decDigits_ne _
end Go.Proofs.YtpnapnmkjpolmaaDoor
