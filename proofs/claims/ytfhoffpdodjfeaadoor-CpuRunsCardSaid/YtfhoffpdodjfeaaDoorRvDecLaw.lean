/- P11.3: a word's instruction, op by op. No program is named here. -/
import Derived.Test.YtfhoffpdodjfeaaDoorWordLaw
import Derived.Test.YtfhoffpdodjfeaaDoorMgRvTabRvLawRvVecOpenInts4
set_option linter.unusedSimpArgs false
set_option linter.unusedVariables false
namespace Go.Proofs.YtfhoffpdodjfeaaDoor
open Go.RowKit Plain64
def bI (w : Int) (i : Nat) : Int := ((bitZ w i).toNat : Int)
theorem bI_01 (w : Int) (i : Nat) : 0 ≤ bI w i ∧ bI w i ≤ 1 := by
  unfold bI
  have := Bool.toNat_le (bitZ w i)
  omega
/-- Bits from a place on, added up. -/
def sumB (w : Int) (a : Nat) : Nat → Int
  | 0 => 0
  | m + 1 => sumB w a m + bI w (a + m) * 2 ^ m
theorem piece_sum (w : Int) (a m : Nat) : (piece w a m : Int) = sumB w a m := by
  induction m with
  | zero => simp [piece, sumB, Int.emod_one]
  | succ m ih =>
    rw [sumB, ← ih]
    unfold piece bI bitZ
    have h0 := Int.emod_nonneg (w / 2 ^ a) (b := 2 ^ (m + 1)) (Int.ne_of_gt (Int.pow_pos (by decide)))
    have h1 := Int.emod_nonneg (w / 2 ^ a) (b := 2 ^ m) (Int.ne_of_gt (Int.pow_pos (by decide)))
    rw [Int.toNat_of_nonneg h0, Int.toNat_of_nonneg h1]
    have h2 : w / 2 ^ (a + m) = w / 2 ^ a / 2 ^ m := by rw [Int.pow_add, Int.ediv_ediv_of_nonneg (Int.le_of_lt (Int.pow_pos (by decide)))]
    rw [h2]
    generalize w / 2 ^ a = y
    have hp : (0 : Int) < 2 ^ m := Int.pow_pos (by decide)
    have h3 : y % 2 ^ (m + 1) = y % 2 ^ m + 2 ^ m * (y / 2 ^ m % 2) := by
      rw [Int.pow_succ]
      have e1 := Int.emod_add_mul_ediv y (2 ^ m)
      have e2 := Int.emod_add_mul_ediv (y / 2 ^ m) 2
      have e3 := Int.emod_add_mul_ediv y (2 ^ m * 2)
      have e4 : y / (2 ^ m * 2) = y / 2 ^ m / 2 := by rw [Int.ediv_ediv_of_nonneg (Int.le_of_lt hp)]
      rw [e4] at e3
      generalize y / 2 ^ m = z at *
      generalize z / 2 = t at *
      have e5 : (2 ^ m : Int) * 2 * t = 2 ^ m * (2 * t) := by rw [Int.mul_assoc]
      have e6 : (2 ^ m : Int) * z = 2 ^ m * (z % 2) + 2 ^ m * (2 * t) := by rw [← Int.mul_add, e2]
      omega
    rw [h3, Int.mul_comm (2 ^ m)]
    congr 2
    generalize y / 2 ^ m = z
    have h4 : z % 2 = 0 ∨ z % 2 = 1 := by omega
    rcases h4 with h4 | h4 <;> simp [h4]
def sgn (n : Int) (m : Nat) : Int := if n / 2 ^ (m - 1) % 2 = 1 then n - 2 ^ m else n
def numZ (s : Nat) (w : Int) : Int := match s with
  | 1 => sgn (piece w 20 12) 12
  | 2 => piece w 20 6
  | 3 => sgn (piece w 25 7 * 32 + piece w 7 5) 12
  | 4 => sgn (piece w 31 1 * 4096 + piece w 7 1 * 2048 + piece w 25 6 * 32 + piece w 8 4 * 2) 13
  | 5 => sgn (piece w 31 1 * 1048576 + piece w 12 8 * 4096 + piece w 20 1 * 2048 + piece w 21 10 * 2) 21
  | 6 => sgn (piece w 12 20) 20
  | _ => 0
def candZ (op w : Int) : Rvi := ⟨op, if fieldB (shapeZ op) 0 then piece w 7 5 else 0, if fieldB (shapeZ op) 1 then piece w 15 5 else 0, if fieldB (shapeZ op) 2 then piece w 20 5 else 0, numZ (shapeZ op) w⟩
/-- What the document's answer gathers, bit by bit. -/
structure Acc where
  rd : Int
  r1 : Int
  r2 : Int
  imm : Int
  top : Int
def accStep (w : Int) (i v : Nat) (a : Acc) : Acc :=
  if v ≤ 20 then { a with imm := a.imm + bI w i * 2 ^ v, top := if a.top < v then v else a.top }
  else if v < 110 then { a with rd := a.rd + bI w i * 2 ^ (v - 100) }
  else if v < 120 then { a with r1 := a.r1 + bI w i * 2 ^ (v - 110) }
  else if v < 130 then { a with r2 := a.r2 + bI w i * 2 ^ (v - 120) }
  else a
def accN (w : Int) (s : Nat) : Nat → Acc
  | 0 => ⟨0, 0, 0, 0, -1⟩
  | i + 1 => accStep w i ((layL s).getD i 0) (accN w s i)
/-- The number with its sign. -/
def accImm (s : Nat) (a : Acc) : Int := if s ≠ 2 ∧ 0 ≤ a.top ∧ 2 ^ a.top.toNat ≤ a.imm then a.imm - 2 * 2 ^ a.top.toNat else a.imm
def accCand (op : Int) (s : Nat) (a : Acc) : Rvi := if s = 7 then ⟨op, 0, 0, 0, 0⟩ else ⟨op, a.rd, a.r1, a.r2, accImm s a⟩
theorem sgn_top {n : Int} {m : Nat} (k : Int) (hk : (2 : Int) ^ (m - 1) = k) (h2 : (2 : Int) ^ m = 2 * k) (h : 0 ≤ n ∧ n < 2 * k) (h0 : 0 < k) : sgn n m = if k ≤ n then n - 2 * k else n := by
  unfold sgn
  rw [hk, h2]
  by_cases hc : k ≤ n
  · rw [if_pos hc, if_pos]
    have : n / k = 1 := by rw [Int.ediv_eq_iff_of_pos h0]; omega
    rw [this]; rfl
  · rw [if_neg hc, if_neg]
    have : n / k = 0 := Int.ediv_eq_zero_of_lt h.1 (by omega)
    rw [this]; decide
set_option maxRecDepth 100000 in
theorem acc_imm1 (w : Int) : (accN w 1 32).imm = sumB w 20 12 ∧ (accN w 1 32).top = 11 := ⟨rfl, rfl⟩
theorem acc_imm2 (w : Int) : (accN w 2 32).imm = sumB w 20 6 := rfl
set_option maxRecDepth 100000 in
theorem acc_imm6 (w : Int) : (accN w 6 32).imm = sumB w 12 20 ∧ (accN w 6 32).top = 19 := ⟨rfl, rfl⟩
set_option maxRecDepth 100000 in
theorem acc_rd (w : Int) (s : Nat) (h : s = 0 ∨ s = 1 ∨ s = 2 ∨ s = 5 ∨ s = 6) : (accN w s 32).rd = sumB w 7 5 := by rcases h with rfl | rfl | rfl | rfl | rfl <;> rfl
theorem acc_r1 (w : Int) (s : Nat) (h : s = 0 ∨ s = 1 ∨ s = 2 ∨ s = 3 ∨ s = 4) : (accN w s 32).r1 = sumB w 15 5 := by rcases h with rfl | rfl | rfl | rfl | rfl <;> rfl
theorem acc_r2 (w : Int) (s : Nat) (h : s = 0 ∨ s = 3 ∨ s = 4) : (accN w s 32).r2 = sumB w 20 5 := by rcases h with rfl | rfl | rfl <;> rfl
set_option maxRecDepth 100000 in
theorem acc_none (w : Int) : (accN w 3 32).rd = 0 ∧ (accN w 4 32).rd = 0 ∧ (accN w 5 32).r1 = 0 ∧ (accN w 6 32).r1 = 0 ∧ (accN w 1 32).r2 = 0 ∧ (accN w 2 32).r2 = 0 ∧ (accN w 5 32).r2 = 0 ∧ (accN w 6 32).r2 = 0 ∧ (accN w 0 32).imm = 0 ∧ (accN w 0 32).top = -1 := ⟨rfl, rfl, rfl, rfl, rfl, rfl, rfl, rfl, rfl, rfl⟩
set_option maxRecDepth 100000 in
theorem acc_imm3 (w : Int) : (accN w 3 32).imm = sumB w 25 7 * 32 + sumB w 7 5 ∧ (accN w 3 32).top = 11 := by
  refine ⟨?_, rfl⟩
  show 0 + bI w 7 * 1 + bI w 8 * 2 + bI w 9 * 4 + bI w 10 * 8 + bI w 11 * 16 + bI w 25 * 32 + bI w 26 * 64 + bI w 27 * 128 + bI w 28 * 256 + bI w 29 * 512 + bI w 30 * 1024 + bI w 31 * 2048 = (0 + bI w 25 * 1 + bI w 26 * 2 + bI w 27 * 4 + bI w 28 * 8 + bI w 29 * 16 + bI w 30 * 32 + bI w 31 * 64) * 32 + (0 + bI w 7 * 1 + bI w 8 * 2 + bI w 9 * 4 + bI w 10 * 8 + bI w 11 * 16)
  omega
set_option maxRecDepth 100000 in
theorem acc_imm4 (w : Int) : (accN w 4 32).imm = sumB w 31 1 * 4096 + sumB w 7 1 * 2048 + sumB w 25 6 * 32 + sumB w 8 4 * 2 ∧ (accN w 4 32).top = 12 := by
  refine ⟨?_, rfl⟩
  show 0 + bI w 7 * 2048 + bI w 8 * 2 + bI w 9 * 4 + bI w 10 * 8 + bI w 11 * 16 + bI w 25 * 32 + bI w 26 * 64 + bI w 27 * 128 + bI w 28 * 256 + bI w 29 * 512 + bI w 30 * 1024 + bI w 31 * 4096 = (0 + bI w 31 * 1) * 4096 + (0 + bI w 7 * 1) * 2048 + (0 + bI w 25 * 1 + bI w 26 * 2 + bI w 27 * 4 + bI w 28 * 8 + bI w 29 * 16 + bI w 30 * 32) * 32 + (0 + bI w 8 * 1 + bI w 9 * 2 + bI w 10 * 4 + bI w 11 * 8) * 2
  omega
set_option maxRecDepth 100000 in
theorem acc_imm5 (w : Int) : (accN w 5 32).imm = sumB w 31 1 * 1048576 + sumB w 12 8 * 4096 + sumB w 20 1 * 2048 + sumB w 21 10 * 2 ∧ (accN w 5 32).top = 20 := by
  refine ⟨?_, rfl⟩
  show 0 + bI w 12 * 4096 + bI w 13 * 8192 + bI w 14 * 16384 + bI w 15 * 32768 + bI w 16 * 65536 + bI w 17 * 131072 + bI w 18 * 262144 + bI w 19 * 524288 + bI w 20 * 2048 + bI w 21 * 2 + bI w 22 * 4 + bI w 23 * 8 + bI w 24 * 16 + bI w 25 * 32 + bI w 26 * 64 + bI w 27 * 128 + bI w 28 * 256 + bI w 29 * 512 + bI w 30 * 1024 + bI w 31 * 1048576 = (0 + bI w 31 * 1) * 1048576 + (0 + bI w 12 * 1 + bI w 13 * 2 + bI w 14 * 4 + bI w 15 * 8 + bI w 16 * 16 + bI w 17 * 32 + bI w 18 * 64 + bI w 19 * 128) * 4096 + (0 + bI w 20 * 1) * 2048 + (0 + bI w 21 * 1 + bI w 22 * 2 + bI w 23 * 4 + bI w 24 * 8 + bI w 25 * 16 + bI w 26 * 32 + bI w 27 * 64 + bI w 28 * 128 + bI w 29 * 256 + bI w 30 * 512) * 2
  omega
theorem piece_lo (w : Int) (a m : Nat) : (0 : Int) ≤ piece w a m := Int.natCast_nonneg _
theorem piece_hi (w : Int) (a m : Nat) : (piece w a m : Int) < 2 ^ m := by have := piece_lt w a m; exact_mod_cast this
/-- Both answers try the same instruction. -/
theorem cand_eq (op w : Int) : accCand op (shapeZ op) (accN w (shapeZ op) 32) = candZ op w := by
  have hs := shapeZ_lt op
  unfold candZ
  generalize shapeZ op = s at *
  have h8 : s = 0 ∨ s = 1 ∨ s = 2 ∨ s = 3 ∨ s = 4 ∨ s = 5 ∨ s = 6 ∨ s = 7 := by omega
  obtain ⟨n0, n1, n2, n3, n4, n5, n6, n7, n8, n9⟩ := acc_none w
  rcases h8 with rfl | rfl | rfl | rfl | rfl | rfl | rfl | rfl
  · unfold accCand accImm
    rw [if_neg (by decide), acc_rd w 0 (by simp), acc_r1 w 0 (by simp), acc_r2 w 0 (by simp), n8, n9, ← piece_sum, ← piece_sum, ← piece_sum]
    rfl
  · unfold accCand accImm
    rw [if_neg (by decide), acc_rd w 1 (by simp), acc_r1 w 1 (by simp), n4, (acc_imm1 w).1, (acc_imm1 w).2, ← piece_sum, ← piece_sum, ← piece_sum]
    have h := sgn_top (n := piece w 20 12) (m := 12) 2048 rfl rfl ⟨piece_lo _ _ _, piece_hi w 20 12⟩ (by decide)
    show Rvi.mk op _ _ 0 _ = Rvi.mk op _ _ 0 (sgn (piece w 20 12) 12)
    rw [h]
    congr 1
    by_cases hc : (2048 : Int) ≤ piece w 20 12
    · rw [if_pos hc, if_pos ⟨by decide, by decide, hc⟩]; rfl
    · rw [if_neg hc, if_neg (fun x => hc x.2.2)]
  · unfold accCand accImm
    rw [if_neg (by decide), acc_rd w 2 (by simp), acc_r1 w 2 (by simp), n5, acc_imm2, ← piece_sum, ← piece_sum, ← piece_sum, if_neg (fun h => h.1 rfl)]
    rfl
  · unfold accCand accImm
    rw [if_neg (by decide), acc_r1 w 3 (by simp), acc_r2 w 3 (by simp), n0, (acc_imm3 w).1, (acc_imm3 w).2]
    simp only [← piece_sum]
    have h := sgn_top (n := (piece w 25 7 * 32 + piece w 7 5 : Int)) (m := 12) 2048 rfl rfl (by have := piece_lo w 25 7; have := piece_hi w 25 7; have := piece_lo w 7 5; have := piece_hi w 7 5; omega) (by decide)
    show Rvi.mk op 0 _ _ _ = Rvi.mk op 0 _ _ (sgn ((piece w 25 7 * 32 + piece w 7 5 : Int)) 12)
    rw [h]
    congr 1
    generalize (piece w 25 7 * 32 + piece w 7 5 : Int) = t
    by_cases hc : (2048 : Int) ≤ t
    · rw [if_pos hc, if_pos ⟨by decide, by decide, hc⟩]; rfl
    · rw [if_neg hc, if_neg (fun x => hc x.2.2)]
  · unfold accCand accImm
    rw [if_neg (by decide), acc_r1 w 4 (by simp), acc_r2 w 4 (by simp), n1, (acc_imm4 w).1, (acc_imm4 w).2]
    simp only [← piece_sum]
    have h := sgn_top (n := (piece w 31 1 * 4096 + piece w 7 1 * 2048 + piece w 25 6 * 32 + piece w 8 4 * 2 : Int)) (m := 13) 4096 rfl rfl (by have := piece_lo w 31 1; have := piece_hi w 31 1; have := piece_lo w 7 1; have := piece_hi w 7 1; have := piece_lo w 25 6; have := piece_hi w 25 6; have := piece_lo w 8 4; have := piece_hi w 8 4; omega) (by decide)
    show Rvi.mk op 0 _ _ _ = Rvi.mk op 0 _ _ (sgn ((piece w 31 1 * 4096 + piece w 7 1 * 2048 + piece w 25 6 * 32 + piece w 8 4 * 2 : Int)) 13)
    rw [h]
    congr 1
    generalize (piece w 31 1 * 4096 + piece w 7 1 * 2048 + piece w 25 6 * 32 + piece w 8 4 * 2 : Int) = t
    by_cases hc : (4096 : Int) ≤ t
    · rw [if_pos hc, if_pos ⟨by decide, by decide, hc⟩]; rfl
    · rw [if_neg hc, if_neg (fun x => hc x.2.2)]
  · unfold accCand accImm
    rw [if_neg (by decide), acc_rd w 5 (by simp), n2, n6, (acc_imm5 w).1, (acc_imm5 w).2]
    simp only [← piece_sum]
    have h := sgn_top (n := (piece w 31 1 * 1048576 + piece w 12 8 * 4096 + piece w 20 1 * 2048 + piece w 21 10 * 2 : Int)) (m := 21) 1048576 rfl rfl (by have := piece_lo w 31 1; have := piece_hi w 31 1; have := piece_lo w 12 8; have := piece_hi w 12 8; have := piece_lo w 20 1; have := piece_hi w 20 1; have := piece_lo w 21 10; have := piece_hi w 21 10; omega) (by decide)
    show Rvi.mk op _ 0 0 _ = Rvi.mk op _ 0 0 (sgn ((piece w 31 1 * 1048576 + piece w 12 8 * 4096 + piece w 20 1 * 2048 + piece w 21 10 * 2 : Int)) 21)
    rw [h]
    congr 1
    generalize (piece w 31 1 * 1048576 + piece w 12 8 * 4096 + piece w 20 1 * 2048 + piece w 21 10 * 2 : Int) = t
    by_cases hc : (1048576 : Int) ≤ t
    · rw [if_pos hc, if_pos ⟨by decide, by decide, hc⟩]; rfl
    · rw [if_neg hc, if_neg (fun x => hc x.2.2)]
  · unfold accCand accImm
    rw [if_neg (by decide), acc_rd w 6 (by simp), n3, n7, (acc_imm6 w).1, (acc_imm6 w).2]
    simp only [← piece_sum]
    have h := sgn_top (n := (piece w 12 20 : Int)) (m := 20) 524288 rfl rfl (by have := piece_lo w 12 20; have := piece_hi w 12 20; omega) (by decide)
    show Rvi.mk op _ 0 0 _ = Rvi.mk op _ 0 0 (sgn ((piece w 12 20 : Int)) 20)
    rw [h]
    congr 1
    generalize (piece w 12 20 : Int) = t
    by_cases hc : (524288 : Int) ≤ t
    · rw [if_pos hc, if_pos ⟨by decide, by decide, hc⟩]; rfl
    · rw [if_neg hc, if_neg (fun x => hc x.2.2)]
  · rfl
end Go.Proofs.YtfhoffpdodjfeaaDoor
