/- P11.2: the word of an instruction, bit by bit and field by field. No program is named here. -/
import Derived.Test.YtfhoffpdodjfeaaDoorMgRvTabRvLawRvVecOpenInts4
import Derived.Test.YtfhoffpdodjfeaaDoorPlain64
set_option linter.unusedSimpArgs false
set_option linter.unusedVariables false
namespace Go.Proofs.YtfhoffpdodjfeaaDoor
open Go.RowKit Plain64
/-- What stands at each of the 32 bits of a word of a shape. -/
def layL (s : Nat) : List Nat := match s with
  | 1 => [130, 131, 132, 133, 134, 135, 136, 100, 101, 102, 103, 104, 140, 141, 142, 110, 111, 112, 113, 114, 0, 1, 2, 3, 4, 5, 6, 7, 8, 9, 10, 11]
  | 2 => [130, 131, 132, 133, 134, 135, 136, 100, 101, 102, 103, 104, 140, 141, 142, 110, 111, 112, 113, 114, 0, 1, 2, 3, 4, 5, 150, 151, 152, 153, 154, 155]
  | 3 => [130, 131, 132, 133, 134, 135, 136, 0, 1, 2, 3, 4, 140, 141, 142, 110, 111, 112, 113, 114, 120, 121, 122, 123, 124, 5, 6, 7, 8, 9, 10, 11]
  | 4 => [130, 131, 132, 133, 134, 135, 136, 11, 1, 2, 3, 4, 140, 141, 142, 110, 111, 112, 113, 114, 120, 121, 122, 123, 124, 5, 6, 7, 8, 9, 10, 12]
  | 5 => [130, 131, 132, 133, 134, 135, 136, 100, 101, 102, 103, 104, 12, 13, 14, 15, 16, 17, 18, 19, 11, 1, 2, 3, 4, 5, 6, 7, 8, 9, 10, 20]
  | 6 => [130, 131, 132, 133, 134, 135, 136, 100, 101, 102, 103, 104, 0, 1, 2, 3, 4, 5, 6, 7, 8, 9, 10, 11, 12, 13, 14, 15, 16, 17, 18, 19]
  | _ => [130, 131, 132, 133, 134, 135, 136, 100, 101, 102, 103, 104, 140, 141, 142, 110, 111, 112, 113, 114, 120, 121, 122, 123, 124, 150, 151, 152, 153, 154, 155, 156]
theorem layL_len (s : Nat) : (layL s).length = 32 := by unfold layL; split <;> rfl
/-- The fields of an instruction: its seven, three and top bits, its registers. -/
structure Fld where
  c : Nat
  t : Nat
  u : Nat
  rd : Nat
  r1 : Nat
  r2 : Nat
def wordBit (x : Fld) (n : Int) (v : Nat) : Bool :=
  if v < 100 then bitZ n v else if v < 110 then x.rd.testBit (v - 100) else if v < 120 then x.r1.testBit (v - 110) else if v < 130 then x.r2.testBit (v - 120) else if v < 140 then x.c.testBit (v - 130) else if v < 150 then x.t.testBit (v - 140) else x.u.testBit (v - 150)
/-- Bits put together from bit 31 on: behind m of them. -/
def wTop (b : Nat → Bool) : Nat → Nat
  | 0 => 0
  | m + 1 => 2 * wTop b m + (b (31 - m)).toNat
theorem wTop_lt (b : Nat → Bool) : ∀ m, wTop b m < 2 ^ m
  | 0 => by simp [wTop]
  | m + 1 => by
    have := wTop_lt b m
    rw [wTop, Nat.pow_succ]
    cases b (31 - m) <;> simp <;> omega
theorem wTop_eq (b : Nat → Bool) (x : Nat) (hx : x < 2 ^ 32) (hb : ∀ i, i < 32 → x.testBit i = b i) (m : Nat) (hm : m ≤ 32) : wTop b m = x / 2 ^ (32 - m) := by
  induction m with
  | zero => simp [wTop]; omega
  | succ m ih =>
    rw [wTop, ih (by omega), ← hb _ (by omega)]
    have e : 32 - m = (32 - (m + 1)) + 1 := by omega
    have e2 : 31 - m = 32 - (m + 1) := by omega
    rw [e, Nat.pow_succ, ← Nat.div_div_eq_div_mul, e2, Nat.testBit_eq_decide_div_mod_eq]
    generalize x / 2 ^ (32 - (m + 1)) = y
    by_cases h : y % 2 = 1 <;> simp [h] <;> omega
/-- So many bits of a number, from a place on. -/
def piece (n : Int) (at_ many : Nat) : Nat := (n / 2 ^ at_ % 2 ^ many).toNat
theorem mod_bit (y : Int) (j m : Nat) (h : j < m) : y % 2 ^ m / 2 ^ j % 2 = y / 2 ^ j % 2 := by
  have hm : (2 : Int) ^ m = 2 ^ j * (2 * 2 ^ (m - j - 1)) := by
    rw [Int.mul_comm 2, ← Int.pow_succ, ← Int.pow_add]; congr 1; omega
  have e : y = y % 2 ^ m + 2 ^ j * (2 * (2 ^ (m - j - 1) * (y / 2 ^ m))) := by
    have h1 := Int.emod_add_mul_ediv y (2 ^ m)
    have h2 : (2 : Int) ^ j * (2 * (2 ^ (m - j - 1) * (y / 2 ^ m))) = 2 ^ m * (y / 2 ^ m) := by
      rw [show (2 : Int) ^ j * (2 * (2 ^ (m - j - 1) * (y / 2 ^ m))) = (2 ^ j * (2 * 2 ^ (m - j - 1))) * (y / 2 ^ m) by ac_rfl, ← hm]
    rw [h2]; omega
  have e3 : y / 2 ^ j = y % 2 ^ m / 2 ^ j + 2 * (2 ^ (m - j - 1) * (y / 2 ^ m)) := by
    conv => lhs; rw [e]
    rw [Int.add_mul_ediv_left _ _ (Int.ne_of_gt (Int.pow_pos (by decide)))]
  rw [e3]; omega
theorem toNat_bit {n : Int} (h : 0 ≤ n) (j : Nat) : n.toNat.testBit j = bitZ n j := by
  obtain ⟨k, rfl⟩ := Int.eq_ofNat_of_zero_le h
  rw [Nat.testBit_eq_decide_div_mod_eq, bitZ, decide_eq_decide, Int.toNat_natCast]
  have hp : (((2 : Nat) ^ j : Nat) : Int) = (2 : Int) ^ j := by simp
  rw [← hp]
  show k / 2 ^ j % 2 = 1 ↔ ((k / 2 ^ j % 2 : Nat) : Int) = 1
  omega
theorem piece_nn (n : Int) (f m : Nat) : 0 ≤ n / 2 ^ f % 2 ^ m := Int.emod_nonneg _ (Int.ne_of_gt (Int.pow_pos (by decide)))
theorem piece_lt (n : Int) (f m : Nat) : piece n f m < 2 ^ m := by
  have h1 := piece_nn n f m
  have h2 : n / 2 ^ f % 2 ^ m < 2 ^ m := Int.emod_lt_of_pos _ (Int.pow_pos (by decide))
  have hp : (((2 : Nat) ^ m : Nat) : Int) = (2 : Int) ^ m := by simp
  unfold piece
  rw [← hp] at h2 ⊢
  rw [← hp] at h1
  omega
theorem piece_bit (n : Int) (f m j : Nat) : (piece n f m).testBit j = (decide (j < m) && bitZ n (f + j)) := by
  by_cases h : j < m
  · rw [piece, toNat_bit (piece_nn n f m), bitZ, mod_bit _ _ _ h, bitZ, Int.ediv_ediv_of_nonneg (Int.pow_nonneg (by decide)), ← Int.pow_add]
    simp [h]
  · rw [Nat.testBit_lt_two_pow (Nat.lt_of_lt_of_le (piece_lt n f m) (Nat.pow_le_pow_right (by decide) (by omega)))]
    simp [h]
def encBase (x : Fld) : Nat := x.c ||| x.t <<< 12 ||| x.rd <<< 7 ||| x.r1 <<< 15 ||| x.r2 <<< 20
def encN (s : Nat) (x : Fld) (n : Int) : Nat := match s with
  | 0 => encBase x ||| x.u <<< 25
  | 1 => encBase x ||| piece n 0 12 <<< 20
  | 2 => encBase x ||| (x.u <<< 26 ||| n.toNat <<< 20)
  | 3 => encBase x ||| (piece n 5 7 <<< 25 ||| piece n 0 5 <<< 7)
  | 4 => encBase x ||| (piece n 12 1 <<< 31 ||| piece n 5 6 <<< 25 ||| piece n 1 4 <<< 8 ||| piece n 11 1 <<< 7)
  | 5 => encBase x ||| (piece n 20 1 <<< 31 ||| piece n 1 10 <<< 21 ||| piece n 11 1 <<< 20 ||| piece n 12 8 <<< 12)
  | 6 => encBase x ||| piece n 0 20 <<< 12
  | _ => encBase x
/-- What the fields of a shape may be. -/
structure FldOk (s : Nat) (x : Fld) (n : Int) : Prop where
  c : x.c < 128
  t : x.t < 8
  u : x.u < 128
  rd : x.rd < 32
  r1 : x.r1 < 32
  r2 : x.r2 < 32
  u0 : s = 0 ∨ s = 2 ∨ x.u = 0
  u2 : s = 2 → x.u < 64
  t0 : s = 5 ∨ s = 6 ∨ s = 7 → x.t = 0
  rd0 : s = 3 ∨ s = 4 ∨ s = 7 → x.rd = 0
  r10 : s = 5 ∨ s = 6 ∨ s = 7 → x.r1 = 0
  r20 : s = 1 ∨ s = 2 ∨ s = 5 ∨ s = 6 ∨ s = 7 → x.r2 = 0
  sh : s = 2 → 0 ≤ n ∧ n < 64
theorem low_bit {x k : Nat} (h : x < 2 ^ k) (j : Nat) (hj : k ≤ j) : x.testBit j = false := Nat.testBit_lt_two_pow (Nat.lt_of_lt_of_le h (Nat.pow_le_pow_right (by decide) hj))
theorem lt32 {i : Nat} (h : i < 32) : i = 0 ∨ i = 1 ∨ i = 2 ∨ i = 3 ∨ i = 4 ∨ i = 5 ∨ i = 6 ∨ i = 7 ∨ i = 8 ∨ i = 9 ∨ i = 10 ∨ i = 11 ∨ i = 12 ∨ i = 13 ∨ i = 14 ∨ i = 15 ∨ i = 16 ∨ i = 17 ∨ i = 18 ∨ i = 19 ∨ i = 20 ∨ i = 21 ∨ i = 22 ∨ i = 23 ∨ i = 24 ∨ i = 25 ∨ i = 26 ∨ i = 27 ∨ i = 28 ∨ i = 29 ∨ i = 30 ∨ i = 31 := by omega
set_option maxHeartbeats 4000000 in
theorem enc_bit (s : Nat) (hs : s < 8) (x : Fld) (n : Int) (ok : FldOk s x n) (i : Nat) (hi : i < 32) : (encN s x n).testBit i = wordBit x n ((layL s).getD i 0) := by
  obtain ⟨c, t, u, rd, r1, r2⟩ := x
  obtain ⟨hc, ht, hu, hd, h1, h2, u0, u2, t0, d0, e1, e2, sh⟩ := ok
  simp only at hc ht hu hd h1 h2 u0 u2 t0 d0 e1 e2
  have bc := low_bit (k := 7) hc
  have bt := low_bit (k := 3) ht
  have bd := low_bit (k := 5) hd
  have b1 := low_bit (k := 5) h1
  have b2 := low_bit (k := 5) h2
  have bu := low_bit (k := 7) hu
  have hs8 : s = 0 ∨ s = 1 ∨ s = 2 ∨ s = 3 ∨ s = 4 ∨ s = 5 ∨ s = 6 ∨ s = 7 := by omega
  rcases hs8 with rfl | rfl | rfl | rfl | rfl | rfl | rfl | rfl
  case inr.inr.inl =>
    obtain rfl : r2 = 0 := e2 (by omega)
    have bu' := low_bit (k := 6) (u2 rfl)
    obtain ⟨n1, n2⟩ := sh rfl
    have bn := low_bit (k := 6) (show n.toNat < 2 ^ 6 by omega)
    have bz : ∀ j, n.toNat.testBit j = bitZ n j := toNat_bit n1
    have bz' : ∀ j, 6 ≤ j → bitZ n j = false := fun j hj => by rw [← bz j]; exact bn j hj
    clear hc ht hu hd h1 h2 u0 u2 t0 d0 e1 e2 sh bn
    rcases lt32 hi with rfl | rfl | rfl | rfl | rfl | rfl | rfl | rfl | rfl | rfl | rfl | rfl | rfl | rfl | rfl | rfl | rfl | rfl | rfl | rfl | rfl | rfl | rfl | rfl | rfl | rfl | rfl | rfl | rfl | rfl | rfl | rfl
    all_goals simp [-Nat.testBit_zero, encN, encBase, layL, wordBit, Nat.testBit_or, Nat.testBit_shiftLeft, bc, bt, bd, b1, bu', bz, bz']
  · clear hc ht hu hd h1 h2 u0 u2 t0 d0 e1 e2 sh
    rcases lt32 hi with rfl | rfl | rfl | rfl | rfl | rfl | rfl | rfl | rfl | rfl | rfl | rfl | rfl | rfl | rfl | rfl | rfl | rfl | rfl | rfl | rfl | rfl | rfl | rfl | rfl | rfl | rfl | rfl | rfl | rfl | rfl | rfl
    all_goals simp [-Nat.testBit_zero, encN, encBase, layL, wordBit, Nat.testBit_or, Nat.testBit_shiftLeft, piece_bit, bc, bd, b1, b2, bt, bu]
  · obtain rfl : r2 = 0 := e2 (by omega)
    obtain rfl : u = 0 := by omega
    clear hc ht hu hd h1 h2 u0 u2 t0 d0 e1 e2 sh
    rcases lt32 hi with rfl | rfl | rfl | rfl | rfl | rfl | rfl | rfl | rfl | rfl | rfl | rfl | rfl | rfl | rfl | rfl | rfl | rfl | rfl | rfl | rfl | rfl | rfl | rfl | rfl | rfl | rfl | rfl | rfl | rfl | rfl | rfl
    all_goals simp [-Nat.testBit_zero, encN, encBase, layL, wordBit, Nat.testBit_or, Nat.testBit_shiftLeft, piece_bit, bc, bd, b1, bt]
  · obtain rfl : rd = 0 := d0 (by omega)
    obtain rfl : u = 0 := by omega
    clear hc ht hu hd h1 h2 u0 u2 t0 d0 e1 e2 sh
    rcases lt32 hi with rfl | rfl | rfl | rfl | rfl | rfl | rfl | rfl | rfl | rfl | rfl | rfl | rfl | rfl | rfl | rfl | rfl | rfl | rfl | rfl | rfl | rfl | rfl | rfl | rfl | rfl | rfl | rfl | rfl | rfl | rfl | rfl
    all_goals simp [-Nat.testBit_zero, encN, encBase, layL, wordBit, Nat.testBit_or, Nat.testBit_shiftLeft, piece_bit, bc, b1, b2, bt]
  · obtain rfl : rd = 0 := d0 (by omega)
    obtain rfl : u = 0 := by omega
    clear hc ht hu hd h1 h2 u0 u2 t0 d0 e1 e2 sh
    rcases lt32 hi with rfl | rfl | rfl | rfl | rfl | rfl | rfl | rfl | rfl | rfl | rfl | rfl | rfl | rfl | rfl | rfl | rfl | rfl | rfl | rfl | rfl | rfl | rfl | rfl | rfl | rfl | rfl | rfl | rfl | rfl | rfl | rfl
    all_goals simp [-Nat.testBit_zero, encN, encBase, layL, wordBit, Nat.testBit_or, Nat.testBit_shiftLeft, piece_bit, bc, b1, b2, bt]
  · obtain rfl : r1 = 0 := e1 (by omega)
    obtain rfl : r2 = 0 := e2 (by omega)
    obtain rfl : t = 0 := t0 (by omega)
    obtain rfl : u = 0 := by omega
    clear hc ht hu hd h1 h2 u0 u2 t0 d0 e1 e2 sh
    rcases lt32 hi with rfl | rfl | rfl | rfl | rfl | rfl | rfl | rfl | rfl | rfl | rfl | rfl | rfl | rfl | rfl | rfl | rfl | rfl | rfl | rfl | rfl | rfl | rfl | rfl | rfl | rfl | rfl | rfl | rfl | rfl | rfl | rfl
    all_goals simp [-Nat.testBit_zero, encN, encBase, layL, wordBit, Nat.testBit_or, Nat.testBit_shiftLeft, piece_bit, bc, bd]
  · obtain rfl : r1 = 0 := e1 (by omega)
    obtain rfl : r2 = 0 := e2 (by omega)
    obtain rfl : t = 0 := t0 (by omega)
    obtain rfl : u = 0 := by omega
    clear hc ht hu hd h1 h2 u0 u2 t0 d0 e1 e2 sh
    rcases lt32 hi with rfl | rfl | rfl | rfl | rfl | rfl | rfl | rfl | rfl | rfl | rfl | rfl | rfl | rfl | rfl | rfl | rfl | rfl | rfl | rfl | rfl | rfl | rfl | rfl | rfl | rfl | rfl | rfl | rfl | rfl | rfl | rfl
    all_goals simp [-Nat.testBit_zero, encN, encBase, layL, wordBit, Nat.testBit_or, Nat.testBit_shiftLeft, piece_bit, bc, bd]
  · obtain rfl : rd = 0 := d0 (by omega)
    obtain rfl : r1 = 0 := e1 (by omega)
    obtain rfl : r2 = 0 := e2 (by omega)
    obtain rfl : t = 0 := t0 (by omega)
    obtain rfl : u = 0 := by omega
    clear hc ht hu hd h1 h2 u0 u2 t0 d0 e1 e2 sh
    rcases lt32 hi with rfl | rfl | rfl | rfl | rfl | rfl | rfl | rfl | rfl | rfl | rfl | rfl | rfl | rfl | rfl | rfl | rfl | rfl | rfl | rfl | rfl | rfl | rfl | rfl | rfl | rfl | rfl | rfl | rfl | rfl | rfl | rfl
    all_goals simp [-Nat.testBit_zero, encN, encBase, layL, wordBit, Nat.testBit_or, Nat.testBit_shiftLeft, piece_bit, bc]
theorem or_lt {a b k : Nat} (ha : a < 2 ^ k) (hb : b < 2 ^ k) : a ||| b < 2 ^ k := Nat.or_lt_two_pow ha hb
theorem shl_lt {a k s : Nat} (ha : a < 2 ^ k) : a <<< s < 2 ^ (k + s) := by
  rw [Nat.shiftLeft_eq, Nat.pow_add]; exact Nat.mul_lt_mul_of_pos_right ha (Nat.pow_pos (by decide))
theorem up32 {x k : Nat} (h : x < 2 ^ k) (hk : k ≤ 32) : x < 2 ^ 32 := Nat.lt_of_lt_of_le h (Nat.pow_le_pow_right (by decide) hk)
theorem encBase_lt {x : Fld} (hc : x.c < 128) (ht : x.t < 8) (hd : x.rd < 32) (h1 : x.r1 < 32) (h2 : x.r2 < 32) : encBase x < 2 ^ 25 :=
  or_lt (or_lt (or_lt (or_lt (Nat.lt_of_lt_of_le hc (by decide)) (Nat.lt_of_lt_of_le (shl_lt (k := 3) ht) (by decide))) (Nat.lt_of_lt_of_le (shl_lt (k := 5) hd) (by decide))) (Nat.lt_of_lt_of_le (shl_lt (k := 5) h1) (by decide))) (shl_lt (k := 5) h2)
theorem encN_lt (s : Nat) (hs : s < 8) (x : Fld) (n : Int) (ok : FldOk s x n) : encN s x n < 2 ^ 32 := by
  have hb := up32 (encBase_lt ok.c ok.t ok.rd ok.r1 ok.r2) (by decide)
  have p := piece_lt n
  have hs8 : s = 0 ∨ s = 1 ∨ s = 2 ∨ s = 3 ∨ s = 4 ∨ s = 5 ∨ s = 6 ∨ s = 7 := by omega
  rcases hs8 with rfl | rfl | rfl | rfl | rfl | rfl | rfl | rfl
  · exact or_lt hb (shl_lt (k := 7) ok.u)
  · exact or_lt hb (shl_lt (p 0 12))
  · have := ok.sh rfl
    exact or_lt hb (or_lt (shl_lt (k := 6) (ok.u2 rfl)) (up32 (shl_lt (k := 6) (show n.toNat < 2 ^ 6 by omega)) (by decide)))
  · exact or_lt hb (or_lt (shl_lt (p 5 7)) (up32 (shl_lt (p 0 5)) (by decide)))
  · exact or_lt hb (or_lt (or_lt (or_lt (shl_lt (p 12 1)) (up32 (shl_lt (p 5 6)) (by decide))) (up32 (shl_lt (p 1 4)) (by decide))) (up32 (shl_lt (p 11 1)) (by decide)))
  · exact or_lt hb (or_lt (or_lt (or_lt (shl_lt (p 20 1)) (up32 (shl_lt (p 1 10)) (by decide))) (up32 (shl_lt (p 11 1)) (by decide))) (up32 (shl_lt (p 12 8)) (by decide)))
  · exact or_lt hb (shl_lt (p 0 20))
  · exact hb
def wordN (s : Nat) (x : Fld) (n : Int) : Nat := wTop (fun i => wordBit x n ((layL s).getD i 0)) 32
theorem enc_word (s : Nat) (hs : s < 8) (x : Fld) (n : Int) (ok : FldOk s x n) : encN s x n = wordN s x n := by
  unfold wordN
  rw [wTop_eq _ (encN s x n) (encN_lt s hs x n ok) (fun i hi => enc_bit s hs x n ok i hi) 32 (Nat.le_refl _)]
  simp
/-- The fields of an instruction, as rv.forms has them. -/
def formZ (op : Int) : FormZ := formsL.getD op.toNat default
def fldOf (x : Rvi) : Fld := ⟨(formZ x.op).code.toNat, (formZ x.op).f3.toNat, (formZ x.op).f7.toNat, x.rd.toNat, x.rs1.toNat, x.rs2.toNat⟩
def formOk (f : FormZ) : Bool := decide (0 ≤ f.code) && decide (f.code < 128) && decide (0 ≤ f.f3) && decide (f.f3 < 8) && decide (0 ≤ f.f7) && decide (f.f7 < 128) && decide (f.shape.toNat = 0 ∨ f.shape.toNat = 2 ∨ f.f7 = 0) && decide (f.shape.toNat = 2 → f.f7 < 64) && decide (f.shape.toNat = 5 ∨ f.shape.toNat = 6 ∨ f.shape.toNat = 7 → f.f3 = 0)
theorem form_ok (op : Int) (h : 1 ≤ op ∧ op ≤ 29) : formOk (formZ op) = true := by
  obtain ⟨k, rfl⟩ := Int.eq_ofNat_of_zero_le (show 0 ≤ op by omega)
  have : ∀ k : Fin 30, formOk (formZ (k.1 : Int)) = true := by decide +kernel
  exact this ⟨k, by omega⟩
theorem regZ_range {n : Int} {b : Bool} (h : regZ n b = true) : 0 ≤ n ∧ n < 32 ∧ (b = false → n = 0) := by
  unfold regZ at h
  simp at h
  cases b
  · simp at h; omega
  · simp at h; exact ⟨h.1, by omega, fun e => by cases e⟩
theorem rvFault_zero {x : Rvi} (h : rvFault x = 0) : (1 ≤ x.op ∧ x.op ≤ 29) ∧ regZ x.rd (fieldB (shapeZ x.op) 0) = true ∧ regZ x.rs1 (fieldB (shapeZ x.op) 1) = true ∧ regZ x.rs2 (fieldB (shapeZ x.op) 2) = true ∧ immZ (shapeZ x.op) x.imm = true := by
  unfold rvFault at h
  split at h
  · cases h
  · rename_i h1
    refine ⟨by omega, ?_⟩
    split at h
    · rename_i h2
      simp only [Bool.and_eq_true] at h2
      exact ⟨h2.1.1.1, h2.1.1.2, h2.1.2, h2.2⟩
    · cases h
/-- An instruction without a fault. -/
structure RvOk (x : Rvi) : Prop where
  op : 1 ≤ x.op ∧ x.op ≤ 29
  fld : FldOk (shapeZ x.op) (fldOf x) x.imm
  rd : 0 ≤ x.rd
  r1 : 0 ≤ x.rs1
  r2 : 0 ≤ x.rs2
  code : 0 ≤ (formZ x.op).code
  f3 : 0 ≤ (formZ x.op).f3
  f7 : 0 ≤ (formZ x.op).f7
  imm : -1048576 ≤ x.imm ∧ x.imm ≤ 1048575
theorem rv_ok {x : Rvi} (h : rvFault x = 0) : RvOk x := by
  obtain ⟨ho, h0, h1, h2, hi⟩ := rvFault_zero h
  obtain ⟨d1, d2, d3⟩ := regZ_range h0
  obtain ⟨e1, e2, e3⟩ := regZ_range h1
  obtain ⟨g1, g2, g3⟩ := regZ_range h2
  have hf := form_ok x.op ho
  unfold formOk at hf
  simp only [Bool.and_eq_true, decide_eq_true_eq] at hf
  obtain ⟨⟨⟨⟨⟨⟨⟨⟨c1, c2⟩, t1⟩, t2⟩, u1⟩, u2⟩, u3⟩, u4⟩, t3⟩ := hf
  have hsh : (formZ x.op).shape.toNat = shapeZ x.op := rfl
  rw [hsh] at u3 u4 t3
  have hs8 := shapeZ_lt x.op
  refine ⟨ho, ⟨?_, ?_, ?_, ?_, ?_, ?_, ?_, ?_, ?_, ?_, ?_, ?_, ?_⟩, d1, e1, g1, c1, t1, u1, ?_⟩
  · show (formZ x.op).code.toNat < 128; omega
  · show (formZ x.op).f3.toNat < 8; omega
  · show (formZ x.op).f7.toNat < 128; omega
  · show x.rd.toNat < 32; omega
  · show x.rs1.toNat < 32; omega
  · show x.rs2.toNat < 32; omega
  · show _ ∨ _ ∨ (formZ x.op).f7.toNat = 0; omega
  · intro e; show (formZ x.op).f7.toNat < 64; have := u4 e; omega
  · intro e; show (formZ x.op).f3.toNat = 0; have := t3 e; omega
  · intro e; show x.rd.toNat = 0
    have := d3 (by rcases e with e | e | e <;> rw [e] <;> rfl)
    omega
  · intro e; show x.rs1.toNat = 0
    have := e3 (by rcases e with e | e | e <;> rw [e] <;> rfl)
    omega
  · intro e; show x.rs2.toNat = 0
    have := g3 (by rcases e with e | e | e | e | e <;> rw [e] <;> rfl)
    omega
  · intro e
    rw [e] at hi
    simp [immZ, lowZ, highZ, stepZ] at hi
    omega
  · simp only [immZ, Bool.and_eq_true, decide_eq_true_eq] at hi
    obtain ⟨⟨i1, i2⟩, -⟩ := hi
    generalize shapeZ x.op = s at i1 i2 hs8
    have hl : -1048576 ≤ lowZ s ∧ highZ s ≤ 1048575 := by
      have : ∀ s : Fin 8, -1048576 ≤ lowZ s.1 ∧ highZ s.1 ≤ 1048575 := by decide
      exact this ⟨s, hs8⟩
    omega
/-- P11.2, at every argument. -/
def encZ (x : Rvi) : Int := if rvFault x = 0 then (encN (shapeZ x.op) (fldOf x) x.imm : Nat) else 0
/-- Numbers below 2 ^ 62, put together. -/
theorem or_nat (a b : Nat) (ha : a < 2 ^ 62) (hb : b < 2 ^ 62) : bits .or .i64 (a : Int) (b : Int) = ((a ||| b : Nat) : Int) := by
  rw [bits_or, ← wrap64_toNat, BitVec.toNat_or]
  have e : ∀ n : Nat, n < 2 ^ 62 → (BitVec.ofInt 64 (n : Int)).toNat = n := fun n hn => by
    have := ofInt_toNat (n : Int)
    omega
  rw [e a ha, e b hb]
  have := or_lt ha hb
  exact IntWalk.wrap64_in _ (by omega)
theorem shl_nat (a s k : Nat) (ha : a < 2 ^ k) (hk : k + s ≤ 62) : wrap64 ((a : Int) * 2 ^ s) = ((a <<< s : Nat) : Int) := by
  have h := Nat.lt_of_lt_of_le (shl_lt (s := s) ha) (Nat.pow_le_pow_right (by decide) hk)
  have e : ((a <<< s : Nat) : Int) = (a : Int) * 2 ^ s := by rw [Nat.shiftLeft_eq]; simp
  rw [← e]
  clear e
  generalize a <<< s = y at *
  exact IntWalk.wrap64_in _ (by omega)
theorem shlI (a s : Nat) (k : Int) (hk : k = 2 ^ s) : (a : Int) * k = ((a <<< s : Nat) : Int) := by
  rw [hk, Nat.shiftLeft_eq]; simp
theorem orI {a b : Nat} {u v : Int} (hu : u = (a : Int)) (hv : v = (b : Int)) (ha : a < 2 ^ 32) (hb : b < 2 ^ 32) : bits .or .i64 u v = ((a ||| b : Nat) : Int) := by
  rw [hu, hv]
  exact or_nat a b (Nat.lt_of_lt_of_le ha (by decide)) (Nat.lt_of_lt_of_le hb (by decide))
theorem shl32 {a k : Nat} (s : Nat) (ha : a < 2 ^ k) (hk : k + s ≤ 32) : a <<< s < 2 ^ 32 := up32 (shl_lt ha) hk
theorem base_int (x : Fld) (hc : x.c < 128) (ht : x.t < 8) (hd : x.rd < 32) (h1 : x.r1 < 32) (h2 : x.r2 < 32) :
    bits .or .i64 (bits .or .i64 (bits .or .i64 (bits .or .i64 (x.c : Int) ((x.t : Int) * 4096)) ((x.rd : Int) * 128)) ((x.r1 : Int) * 32768)) ((x.r2 : Int) * 1048576) = ((encBase x : Nat) : Int) := by
  have c1 := up32 (k := 7) hc (by decide)
  have c2 := shl32 (k := 3) 12 ht (by decide)
  have c3 := shl32 (k := 5) 7 hd (by decide)
  have c4 := shl32 (k := 5) 15 h1 (by decide)
  have c5 := shl32 (k := 5) 20 h2 (by decide)
  exact orI (orI (orI (orI rfl (shlI _ 12 _ (by decide)) c1 c2) (shlI _ 7 _ (by decide)) (or_lt c1 c2) c3) (shlI _ 15 _ (by decide)) (or_lt (or_lt c1 c2) c3) c4) (shlI _ 20 _ (by decide)) (or_lt (or_lt (or_lt c1 c2) c3) c4) c5
theorem and_mask (b : Int) (m : Nat) (hm : m ≤ 62) : bits .and .i64 b (2 ^ m - 1) = b % 2 ^ m := by
  have hp : (((2 : Nat) ^ m : Nat) : Int) = (2 : Int) ^ m := by simp
  have hpos : 0 < 2 ^ m := Nat.pow_pos (by decide)
  have hle : 2 ^ m ≤ 2 ^ 62 := Nat.pow_le_pow_right (by decide) hm
  rw [bits_and]
  have h : (BitVec.ofInt 64 b &&& BitVec.ofInt 64 (2 ^ m - 1)).toNat = (BitVec.ofInt 64 b).toNat % 2 ^ m := by
    rw [BitVec.toNat_and]
    have : (BitVec.ofInt 64 (2 ^ m - 1)).toNat = 2 ^ m - 1 := by
      have := ofInt_toNat ((2 : Int) ^ m - 1)
      rw [← hp] at this ⊢
      omega
    rw [this, Nat.and_two_pow_sub_one_eq_mod]
  have e := ofInt_toNat b
  rw [← wrap64_toNat, h, Int.natCast_emod, e, hp]
  have hd : (2 : Int) ^ m ∣ 2 ^ 64 := ⟨2 ^ (64 - m), by rw [← Int.pow_add]; congr 1; omega⟩
  rw [Int.emod_emod_of_dvd _ hd]
  have h1 : 0 ≤ b % 2 ^ m := Int.emod_nonneg _ (by omega)
  have h2 : b % 2 ^ m < 2 ^ m := Int.emod_lt_of_pos _ (by omega)
  exact IntWalk.wrap64_in _ (by omega)
end Go.Proofs.YtfhoffpdodjfeaaDoor
