/- tierlineref.Made answers what step.Make answers. -/
import Derived.Test.YtfhoffpdodjfeaaDoorMdC
import Derived.Test.YtfhoffpdodjfeaaDoorMdD
set_option linter.unusedSimpArgs false
set_option linter.unusedVariables false
namespace Go.Proofs.YtfhoffpdodjfeaaDoor
open Go.RowKit Plain64

theorem made_and (a b : Int) : wrap64 (vTop (fun j => bitZ a j && bitZ b j) 64 : Nat) = bits .and .i64 a b := by
  rw [bits_and]
  exact vTop_all _ _ fun i hi => by rw [bitZ_eq a i hi, bitZ_eq b i hi, BitVec.getLsbD_and]
theorem made_or (a b : Int) : wrap64 (vTop (fun j => bitZ a j || bitZ b j) 64 : Nat) = bits .or .i64 a b := by
  rw [bits_or]
  exact vTop_all _ _ fun i hi => by rw [bitZ_eq a i hi, bitZ_eq b i hi, BitVec.getLsbD_or]
theorem made_xor (a b : Int) : wrap64 (vTop (fun j => bitZ a j != bitZ b j) 64 : Nat) = bits .xor .i64 a b := by
  rw [bits_xor]
  exact vTop_all _ _ fun i hi => by
    rw [bitZ_eq a i hi, bitZ_eq b i hi, BitVec.getLsbD_xor]
    try cases (BitVec.ofInt 64 a).getLsbD i <;> cases (BitVec.ofInt 64 b).getLsbD i <;> rfl
theorem made_shl (a : Int) (s : Nat) : wrap64 (vTop (fun j => decide (s ≤ j) && bitZ a (j - s)) 64 : Nat) = wrap64 (a * 2 ^ s) := by
  rw [shl_eq]
  exact vTop_all _ _ fun i hi => by
    rw [BitVec.getLsbD_shiftLeft]
    by_cases h : s ≤ i
    · rw [bitZ_eq a (i - s) (by omega)]; simp [h, hi, Nat.not_lt.2 h]
    · simp [h]; try omega
theorem made_sar (a : Int) (h : -9223372036854775808 ≤ a ∧ a ≤ 9223372036854775807) (s : Nat) : wrap64 (vTop (fun j => if j + s < 64 then bitZ a (j + s) else bitZ a 63) 64 : Nat) = a / 2 ^ s := by
  rw [sar_eq a h]
  exact vTop_all _ _ fun i hi => by
    rw [BitVec.getLsbD_sshiftRight]
    by_cases h : i + s < 64
    · rw [if_pos h, if_pos (by omega), bitZ_eq a _ h, Nat.add_comm s i]; simp; intro; omega
    · rw [if_neg h, if_neg (by omega), bitZ_eq a 63 (by omega), BitVec.msb_eq_getLsbD_last]; simp; intro; omega

theorem made_any (op a b imm : Int) (w : World) (ha : -9223372036854775808 ≤ a ∧ a ≤ 9223372036854775807) (hb : -9223372036854775808 ≤ b ∧ b ≤ 9223372036854775807) :
    Calls Tryd.prog 85 #[.int .i64 op, .int .i64 a, .int .i64 b, .int .i64 imm] w fun e w' => e = .returned (.tuple #[.int .i64 (pureV op a b imm), .int .i64 (makeE op b)]) ∧ Below w.heap.size w w' := by
  by_cases h : op < 6 ∨ 10 < op
  · exact (made_else op a b imm w h).mono fun e w' ⟨he, hw⟩ => ⟨he, hw ▸ Below.refl _ _⟩
  · have h5 : op = 6 ∨ op = 7 ∨ op = 8 ∨ op = 9 ∨ op = 10 := by omega
    rcases h5 with rfl | rfl | rfl | rfl | rfl
    · exact (made_6 a b imm w ha hb).mono fun e w' ⟨he, hw⟩ => ⟨by rw [he, made_and]; rfl, hw⟩
    · exact (made_7 a b imm w ha hb).mono fun e w' ⟨he, hw⟩ => ⟨by rw [he, made_or]; rfl, hw⟩
    · exact (made_8 a b imm w ha hb).mono fun e w' ⟨he, hw⟩ => ⟨by rw [he, made_xor]; rfl, hw⟩
    · exact (made_9 a b imm w ha hb).mono fun e w' ⟨he, hw⟩ => ⟨by rw [he, made_shl]; rfl, hw⟩
    · exact (made_10 a b imm w ha hb).mono fun e w' ⟨he, hw⟩ => ⟨by rw [he, made_sar a ha]; rfl, hw⟩
end Go.Proofs.YtfhoffpdodjfeaaDoor
