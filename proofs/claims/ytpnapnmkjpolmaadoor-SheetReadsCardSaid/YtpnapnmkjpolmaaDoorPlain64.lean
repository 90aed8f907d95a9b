/- Plain facts on numbers of 64 bits: no program is named here. -/
import Derived.IntWalk
import Derived.Laws.BitsAllLaws
import Derived.Laws.BitsLemmas
set_option linter.unusedSimpArgs false
set_option linter.unusedVariables false
namespace Go.Proofs.YtpnapnmkjpolmaaDoor.Plain64
open Go.RowKit

theorem wrap64_bmod (n : Int) : wrap64 n = n.bmod (2 ^ 64) := by
  unfold wrap64; simp [Int.bmod]; omega
theorem wrap64_ofInt (n : Int) : wrap64 n = (BitVec.ofInt 64 n).toInt := by
  rw [BitVec.toInt_ofInt, wrap64_bmod]
theorem wrap64_toNat (x : BitVec 64) : wrap64 (x.toNat : Int) = x.toInt := by
  rw [wrap64_bmod, BitVec.toInt_eq_toNat_bmod]
theorem wrap64_range (n : Int) : -9223372036854775808 ≤ wrap64 n ∧ wrap64 n ≤ 9223372036854775807 := by
  unfold wrap64; omega

/-- The bit i of a number in two's complement. -/
def bitZ (n : Int) (i : Nat) : Bool := decide (n / 2 ^ i % 2 = 1)

theorem bitZ_zero (n : Int) : bitZ n 0 = decide (n % 2 = 1) := by simp [bitZ]
theorem half_step (n : Int) (i : Nat) : n / 2 ^ (i + 1) = n / 2 ^ i / 2 := by
  rw [Int.pow_succ, Int.mul_comm, Int.mul_comm]
  rw [Int.ediv_ediv_of_nonneg (Int.pow_nonneg (by decide))]

theorem ofInt_toNat (n : Int) : ((BitVec.ofInt 64 n).toNat : Int) = n % 2 ^ 64 := by
  rw [BitVec.toNat_ofInt]
  have : 0 ≤ n % 2 ^ 64 := Int.emod_nonneg _ (by decide)
  simp; omega

theorem bitZ_eq (n : Int) (i : Nat) (hi : i < 64) : bitZ n i = (BitVec.ofInt 64 n).getLsbD i := by
  have e := ofInt_toNat n
  rw [BitVec.getLsbD, Nat.testBit_eq_decide_div_mod_eq]
  have h : (((BitVec.ofInt 64 n).toNat / 2 ^ i % 2 : Nat) : Int) = n / 2 ^ i % 2 := by
    rw [Int.natCast_emod, Int.natCast_ediv, e]
    have hp : (((2 : Nat) ^ i : Nat) : Int) = (2 : Int) ^ i := by simp
    rw [hp]
    have hm : (2 : Int) ^ 64 = 2 ^ i * (2 ^ (63 - i) * 2) := by
      rw [← Int.pow_succ, ← Int.pow_add]; congr 1; omega
    have hq : n % 2 ^ 64 = n + 2 ^ i * (-(2 ^ (63 - i) * (n / 2 ^ 64)) * 2) := by
      have := Int.emod_add_mul_ediv n (2 ^ 64)
      have h2 : (2 : Int) ^ 64 * (n / 2 ^ 64) = 2 ^ i * (2 ^ (63 - i) * (n / 2 ^ 64) * 2) := by
        rw [show (2 : Int) ^ i * (2 ^ (63 - i) * (n / 2 ^ 64) * 2) = (2 ^ i * (2 ^ (63 - i) * 2)) * (n / 2 ^ 64) by ac_rfl, ← hm]
      have h3 : (2 : Int) ^ i * (-(2 ^ (63 - i) * (n / 2 ^ 64)) * 2) = - (2 ^ i * (2 ^ (63 - i) * (n / 2 ^ 64) * 2)) := by
        rw [Int.neg_mul, Int.mul_neg]
      rw [h3, ← h2]; omega
    rw [hq, Int.add_mul_ediv_left _ _ (Int.ne_of_gt (Int.pow_pos (by decide)))]
    omega
  unfold bitZ
  rw [decide_eq_decide]
  omega

/-- Bits put together from the top one on: behind m of them. -/
def vTop (b : Nat → Bool) : Nat → Nat
  | 0 => 0
  | m + 1 => 2 * vTop b m + (b (63 - m)).toNat

theorem vTop_eq (b : Nat → Bool) (x : Nat) (hx : x < 2 ^ 64) (hb : ∀ i, i < 64 → b i = x.testBit i) (m : Nat) (hm : m ≤ 64) : vTop b m = x / 2 ^ (64 - m) := by
  induction m with
  | zero => simp [vTop]; omega
  | succ m ih =>
    rw [vTop, ih (by omega), hb _ (by omega)]
    have e : 64 - m = (64 - (m + 1)) + 1 := by omega
    have e2 : 63 - m = 64 - (m + 1) := by omega
    rw [e, Nat.pow_succ, ← Nat.div_div_eq_div_mul, e2, Nat.testBit_eq_decide_div_mod_eq]
    generalize x / 2 ^ (64 - (m + 1)) = y
    by_cases h : y % 2 = 1 <;> simp [h] <;> omega

theorem vTop_all (b : Nat → Bool) (x : BitVec 64) (hb : ∀ i, i < 64 → b i = x.getLsbD i) : wrap64 (vTop b 64 : Nat) = x.toInt := by
  rw [vTop_eq b x.toNat x.isLt (fun i hi => hb i hi) 64 (Nat.le_refl _)]
  simpa using wrap64_toNat x

theorem bits_and (a b : Int) : bits .and .i64 a b = (BitVec.ofInt 64 a &&& BitVec.ofInt 64 b).toInt := by
  show IntKind.i64.wrap _ = _
  rw [IntWalk.i64_left]; exact wrap64_toNat _
theorem bits_or (a b : Int) : bits .or .i64 a b = (BitVec.ofInt 64 a ||| BitVec.ofInt 64 b).toInt := by
  show IntKind.i64.wrap _ = _
  rw [IntWalk.i64_left]; exact wrap64_toNat _
theorem bits_xor (a b : Int) : bits .xor .i64 a b = (BitVec.ofInt 64 a ^^^ BitVec.ofInt 64 b).toInt := by
  show IntKind.i64.wrap _ = _
  rw [IntWalk.i64_left]; exact wrap64_toNat _

/-- What the lowest six bits say. -/
theorem and63 (b : Int) : bits .and .i64 b 63 = b % 64 := by
  rw [bits_and]
  have h : (BitVec.ofInt 64 b &&& BitVec.ofInt 64 63).toNat = (BitVec.ofInt 64 b).toNat % 64 := by
    rw [BitVec.toNat_and]
    have : (BitVec.ofInt 64 63).toNat = 2 ^ 6 - 1 := by decide
    rw [this, Nat.and_two_pow_sub_one_eq_mod]
  have e := ofInt_toNat b
  rw [← wrap64_toNat, h, Int.natCast_emod, e]
  unfold wrap64; omega

theorem and1 (n : Int) : bits .and .i64 n 1 = n % 2 := by
  rw [bits_and]
  have h : (BitVec.ofInt 64 n &&& BitVec.ofInt 64 1).toNat = (BitVec.ofInt 64 n).toNat % 2 := by
    rw [BitVec.toNat_and]
    have : (BitVec.ofInt 64 1).toNat = 2 ^ 1 - 1 := by decide
    rw [this, Nat.and_two_pow_sub_one_eq_mod]
  have e := ofInt_toNat n
  rw [← wrap64_toNat, h, Int.natCast_emod, e]
  unfold wrap64; omega

theorem ofInt_toInt (a : Int) (h : -9223372036854775808 ≤ a ∧ a ≤ 9223372036854775807) : (BitVec.ofInt 64 a).toInt = a := by
  rw [← wrap64_ofInt]; exact IntWalk.wrap64_in a h

/-- Shifted left: as BitVec says. -/
theorem shl_eq (a : Int) (s : Nat) : wrap64 (a * 2 ^ s) = (BitVec.ofInt 64 a <<< s).toInt := by
  rw [← wrap64_toNat, BitVec.toNat_shiftLeft, Nat.shiftLeft_eq, Int.natCast_emod, Int.natCast_mul, ofInt_toNat]
  have h1 : (((2 : Nat) ^ s : Nat) : Int) = (2 : Int) ^ s := by simp
  have h64 : (((2 : Nat) ^ 64 : Nat) : Int) = 18446744073709551616 := by decide
  have hx : (a % 2 ^ 64 * 2 ^ s) % 18446744073709551616 = (a * 2 ^ s) % 18446744073709551616 := by
    rw [show (2 : Int) ^ 64 = 18446744073709551616 from rfl, Int.mul_emod, Int.emod_emod_of_dvd _ (Int.dvd_refl _), ← Int.mul_emod]
  rw [h1, h64, hx]
  generalize a * 2 ^ s = y
  unfold wrap64; omega

theorem sar_eq (a : Int) (h : -9223372036854775808 ≤ a ∧ a ≤ 9223372036854775807) (s : Nat) : a / 2 ^ s = ((BitVec.ofInt 64 a).sshiftRight s).toInt := by
  rw [BitVec.toInt_sshiftRight, ofInt_toInt a h, Int.shiftRight_eq_div_pow]
  simp
end Go.Proofs.YtpnapnmkjpolmaaDoor.Plain64
