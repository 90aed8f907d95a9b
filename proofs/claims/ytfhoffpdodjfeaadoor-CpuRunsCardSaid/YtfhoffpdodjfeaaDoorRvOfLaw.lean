/- ref.RvOf: what it gathers stays small. No program is named here. -/
import Derived.Test.YtfhoffpdodjfeaaDoorRvDecLaw
import Derived.Test.YtfhoffpdodjfeaaDoorWordOf
set_option linter.unusedSimpArgs false
set_option linter.unusedVariables false
namespace Go.Proofs.YtfhoffpdodjfeaaDoor
open Go.RowKit Plain64
structure AccOk (a : Acc) (i : Nat) : Prop where
  rd : 0 ≤ a.rd ∧ a.rd ≤ 16 * i
  r1 : 0 ≤ a.r1 ∧ a.r1 ≤ 16 * i
  r2 : 0 ≤ a.r2 ∧ a.r2 ≤ 16 * i
  imm : 0 ≤ a.imm ∧ a.imm ≤ 1048576 * i
  top : -1 ≤ a.top ∧ a.top ≤ 20
theorem pow_nat (j : Nat) : ((2 : Int) ^ j) = ((2 ^ j : Nat) : Int) := by simp
theorem mul_bit {b : Int} {n m : Int} (hb : 0 ≤ b ∧ b ≤ 1) (hn : 0 ≤ n ∧ n ≤ m) : 0 ≤ b * n ∧ b * n ≤ m := by
  have h : b = 0 ∨ b = 1 := by omega
  rcases h with rfl | rfl
  · omega
  · omega
theorem pow_le_of {j k : Nat} (h : j ≤ k) : (0 : Int) ≤ 2 ^ j ∧ (2 : Int) ^ j ≤ ((2 ^ k : Nat) : Int) := by
  rw [pow_nat]
  have := Nat.pow_le_pow_right (n := 2) (by decide) h
  exact ⟨Int.natCast_nonneg _, by exact_mod_cast this⟩
theorem pow20 {j : Nat} (h : j ≤ 20) : (0 : Int) ≤ 2 ^ j ∧ (2 : Int) ^ j ≤ 1048576 := pow_le_of h
theorem pow4 {j : Nat} (h : j ≤ 4) : (0 : Int) ≤ 2 ^ j ∧ (2 : Int) ^ j ≤ 16 := pow_le_of h
theorem acc_ok (w : Int) (s : Nat) (hs : s < 8) : ∀ i, i ≤ 32 → AccOk (accN w s i) i
  | 0, _ => ⟨by simp [accN], by simp [accN], by simp [accN], by simp [accN], by simp [accN]⟩
  | i + 1, hi => by
    have h := acc_ok w s hs i (by omega)
    obtain ⟨⟨a1, a2⟩, ⟨b1, b2⟩, ⟨c1, c2⟩, ⟨d1, d2⟩, ⟨e1, e2⟩⟩ := h
    have hb := bI_01 w i
    have hv := layV_at s i hs (by omega)
    rw [accN]
    generalize (layL s).getD i 0 = v at *
    unfold accStep
    rcases lay_cases hv with h | ⟨j, hj, rfl⟩ | ⟨j, hj, rfl⟩ | ⟨j, hj, rfl⟩ | ⟨j, hj, rfl⟩ | ⟨j, hj, rfl⟩ | ⟨j, hj, rfl⟩
    · rw [if_pos (by omega)]
      have := mul_bit hb (pow20 (j := v) (by omega))
      refine ⟨⟨a1, by show (accN w s i).rd ≤ _; omega⟩, ⟨b1, by show (accN w s i).r1 ≤ _; omega⟩, ⟨c1, by show (accN w s i).r2 ≤ _; omega⟩, ?_, ?_⟩
      · show 0 ≤ (accN w s i).imm + _ ∧ (accN w s i).imm + _ ≤ _
        omega
      · show -1 ≤ (if _ then _ else _) ∧ (if _ then _ else _) ≤ (20 : Int)
        split <;> omega
    · rw [if_neg (by omega), if_pos (by omega), show 100 + j - 100 = j by omega]
      have := mul_bit hb (pow4 (j := j) (by omega))
      refine ⟨?_, ⟨b1, by show (accN w s i).r1 ≤ _; omega⟩, ⟨c1, by show (accN w s i).r2 ≤ _; omega⟩, ⟨d1, by show (accN w s i).imm ≤ _; omega⟩, ⟨e1, e2⟩⟩
      show 0 ≤ (accN w s i).rd + _ ∧ (accN w s i).rd + _ ≤ _
      omega
    · rw [if_neg (by omega), if_neg (by omega), if_pos (by omega), show 110 + j - 110 = j by omega]
      have := mul_bit hb (pow4 (j := j) (by omega))
      refine ⟨⟨a1, by show (accN w s i).rd ≤ _; omega⟩, ?_, ⟨c1, by show (accN w s i).r2 ≤ _; omega⟩, ⟨d1, by show (accN w s i).imm ≤ _; omega⟩, ⟨e1, e2⟩⟩
      show 0 ≤ (accN w s i).r1 + _ ∧ (accN w s i).r1 + _ ≤ _
      omega
    · rw [if_neg (by omega), if_neg (by omega), if_neg (by omega), if_pos (by omega), show 120 + j - 120 = j by omega]
      have := mul_bit hb (pow4 (j := j) (by omega))
      refine ⟨⟨a1, by show (accN w s i).rd ≤ _; omega⟩, ⟨b1, by show (accN w s i).r1 ≤ _; omega⟩, ?_, ⟨d1, by show (accN w s i).imm ≤ _; omega⟩, ⟨e1, e2⟩⟩
      show 0 ≤ (accN w s i).r2 + _ ∧ (accN w s i).r2 + _ ≤ _
      omega
    all_goals
      rw [if_neg (by omega), if_neg (by omega), if_neg (by omega), if_neg (by omega)]
      exact ⟨⟨a1, by omega⟩, ⟨b1, by omega⟩, ⟨c1, by omega⟩, ⟨d1, by omega⟩, ⟨e1, e2⟩⟩
end Go.Proofs.YtfhoffpdodjfeaaDoor
