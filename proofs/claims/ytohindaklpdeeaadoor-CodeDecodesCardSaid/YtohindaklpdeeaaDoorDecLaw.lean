/- P1.5: programs out of bytes. No program is named here. -/
import Derived.Test.YtohindaklpdeeaaDoorPlain64
import Derived.Test.YtohindaklpdeeaaDoorData
import Derived.Test.YtohindaklpdeeaaDoorCodeA
set_option linter.unusedSimpArgs false
set_option linter.unusedVariables false
namespace Go.Proofs.YtohindaklpdeeaaDoor
open Go.RowKit Plain64
theorem or_byte (a b : Int) (ha : -9223372036854775808 ≤ a ∧ a < 9223372036854775808) (hm : a % 256 = 0) (hb : 0 ≤ b ∧ b < 256) : bits .or .i64 a b = a + b := by
  rw [bits_or]
  obtain ⟨n, rfl⟩ := Int.eq_ofNat_of_zero_le hb.1
  have hx : (BitVec.ofInt 64 a).toNat = (a % 18446744073709551616).toNat := BitVec.toNat_ofInt ..
  have hy : (BitVec.ofInt 64 (n : Int)).toNat = n := by
    rw [BitVec.toNat_ofInt]
    omega
  obtain ⟨q, hq⟩ : ∃ q : Nat, (a % 18446744073709551616).toNat = 256 * q := ⟨(a % 18446744073709551616).toNat / 256, by omega⟩
  have hor : (BitVec.ofInt 64 a ||| BitVec.ofInt 64 (n : Int)).toNat = 256 * q + n := by
    rw [BitVec.toNat_or, hx, hy, hq]
    have := Nat.shiftLeft_add_eq_or_of_lt (i := 8) (b := n) (by omega) q
    rw [Nat.shiftLeft_eq] at this
    rw [Nat.mul_comm 256 q]
    exact this.symm
  rw [BitVec.toInt_eq_toNat_cond, hor]
  split <;> omega
/-- A number with one more byte behind it. -/
def immN (n b : Int) : Int := wrap64 (n * 256) + b
theorem immN_ok (n b : Int) (hb : 0 ≤ b ∧ b < 256) : wrap64 (wrap64 (n * 256) + b) = immN n b ∧ bits .or .i64 (wrap64 (n * 256)) b = immN n b := by
  have h1 : -9223372036854775808 ≤ wrap64 (n * 256) ∧ wrap64 (n * 256) < 9223372036854775808 := by unfold wrap64; omega
  have h2 : wrap64 (n * 256) % 256 = 0 := by unfold wrap64; omega
  refine ⟨?_, or_byte _ _ h1 h2 hb⟩
  unfold immN
  obtain ⟨x, hx⟩ : ∃ x, wrap64 (n * 256) = x := ⟨_, rfl⟩
  rw [hx] at h1 h2 ⊢
  unfold wrap64
  omega
def immD (l : List Int) : Nat → Int
  | 0 => 0
  | k + 1 => immN (immD l k) (l.getD (4 + k) 0)
def insD (l : List Int) : Ins := ⟨l.getD 0 0, l.getD 1 0, l.getD 2 0, l.getD 3 0, immD l 8⟩
def codeD (l : List Int) : Nat → List Ins
  | 0 => []
  | n + 1 => codeD l n ++ [insD (l.drop (12 * n))]
theorem codeD_len (l : List Int) : ∀ n, (codeD l n).length = n
  | 0 => rfl
  | n + 1 => by rw [codeD, List.length_append, codeD_len l n]; rfl
/-- How many instructions a function says that it has. -/
def cntD (l : List Int) : Nat := (l.getD 2 0).toNat
def funD (l : List Int) : Fun := ⟨l.getD 0 0, l.getD 1 0, codeD (l.drop 3) (cntD l)⟩
/-- Are a function's bytes all there? -/
def enough (l : List Int) : Bool := decide (3 + 12 * cntD l ≤ l.length)
/-- What is left behind n functions. -/
def restD : List Int → Nat → Option (List Int)
  | l, 0 => some l
  | l, n + 1 => match restD l n with
    | none => none
    | some r => if enough r then some (r.drop (3 + 12 * cntD r)) else none
def funsD (l : List Int) : Nat → List Fun
  | 0 => []
  | n + 1 => funsD l n ++ [funD ((restD l n).getD [])]
theorem funsD_len (l : List Int) : ∀ n, (funsD l n).length = n
  | 0 => rfl
  | n + 1 => by rw [funsD, List.length_append, funsD_len l n]; rfl
theorem restD_none {l : List Int} {n : Nat} (h : restD l n = none) : ∀ k, restD l (n + k) = none
  | 0 => h
  | k + 1 => by rw [← Nat.add_assoc, restD, restD_none h k]
theorem restD_step {l r : List Int} {n : Nat} (h : restD l n = some r) : restD l (n + 1) = if enough r then some (r.drop (3 + 12 * cntD r)) else none := by rw [restD, h]
/-- P1.5, at every list of bytes. -/
noncomputable def decAns (l : List Int) : Prg × Int :=
  if 4000 < l.length then (⟨[]⟩, 1) else match l with
  | [] => (⟨[]⟩, 4)
  | b :: rest => match restD rest b.toNat with
    | none => (⟨[]⟩, 4)
    | some r => if r ≠ [] then (⟨[]⟩, 5) else if prgFault ⟨funsD rest b.toNat⟩ ≠ 0 then (⟨[]⟩, prgFault ⟨funsD rest b.toNat⟩) else (⟨funsD rest b.toNat⟩, 0)
theorem dec_big {l : List Int} (h : 4000 < l.length) : decAns l = (⟨[]⟩, 1) := by unfold decAns; rw [if_pos h]
theorem dec_nil : decAns [] = (⟨[]⟩, 4) := by unfold decAns; rw [if_neg (by simp)]
theorem dec_short {b : Int} {rest : List Int} (h : (b :: rest).length ≤ 4000) (hr : restD rest b.toNat = none) : decAns (b :: rest) = (⟨[]⟩, 4) := by
  unfold decAns; rw [if_neg (by omega)]; simp only [hr]
theorem dec_long {b : Int} {rest r : List Int} (h : (b :: rest).length ≤ 4000) (hr : restD rest b.toNat = some r) (hn : r ≠ []) : decAns (b :: rest) = (⟨[]⟩, 5) := by
  unfold decAns; rw [if_neg (by omega)]; simp only [hr]; rw [if_pos hn]
theorem dec_bad {b : Int} {rest : List Int} (h : (b :: rest).length ≤ 4000) (hr : restD rest b.toNat = some []) (hf : prgFault ⟨funsD rest b.toNat⟩ ≠ 0) : decAns (b :: rest) = (⟨[]⟩, prgFault ⟨funsD rest b.toNat⟩) := by
  unfold decAns; rw [if_neg (by omega)]; simp only [hr]; rw [if_neg (by simp), if_pos hf]
theorem dec_ok {b : Int} {rest : List Int} (h : (b :: rest).length ≤ 4000) (hr : restD rest b.toNat = some []) (hf : prgFault ⟨funsD rest b.toNat⟩ = 0) : decAns (b :: rest) = (⟨funsD rest b.toNat⟩, 0) := by
  unfold decAns; rw [if_neg (by omega)]; simp only [hr]; rw [if_neg (by simp), if_neg (by simpa using hf)]
end Go.Proofs.YtohindaklpdeeaaDoor
