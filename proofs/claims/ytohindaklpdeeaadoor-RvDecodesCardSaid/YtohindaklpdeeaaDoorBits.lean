/- ref.oneBit, ref.hasBit; bits of small numbers. -/
import Derived.Test.YtohindaklpdeeaaDoorHpOps
import Derived.Test.YtohindaklpdeeaaDoorRows
import Derived.Test.YtohindaklpdeeaaDoorPlain64
set_option linter.unusedSimpArgs false
set_option linter.unusedVariables false
namespace Go.Proofs.YtohindaklpdeeaaDoor
open Go.RowKit Plain64
attribute [local irreducible] wpList Code.wp Oper.wp

theorem pow_pos' (k : Nat) : (1 : Int) ≤ 2 ^ k := by
  have : (0 : Int) < 2 ^ k := Int.pow_pos (by decide)
  omega
theorem pow_le' {j k : Nat} (h : j ≤ k) : (2 : Int) ^ j ≤ 2 ^ k := by
  have := Nat.pow_le_pow_right (n := 2) (by decide) h
  have e : ∀ n : Nat, ((2 ^ n : Nat) : Int) = 2 ^ n := fun n => by simp
  rw [← e, ← e]; omega
set_option maxHeartbeats 400000 in
theorem oneBit_any (k : Nat) (hk : k ≤ 60) (w : World) :
    Calls Tryd.prog 24 #[.int .i64 k] w fun e w' => e = .returned (.int .i64 (2 ^ k)) ∧ w = w' := by
  go_enter Tryd.func24, Tryd.ntmps24
  go_wp2
  go_loop [3, 4] (fun n i => ∃ (j : Nat) (m : Int), j ≤ k ∧ i = .int .i64 j ∧ n = .int .i64 m ∧ Hid (m = 2 ^ j) ∧ 1 ≤ m ∧ m ≤ 1152921504606846976) (fun _ i => k - (intOf i).toNat)
  case atStart => exact ⟨0, 1, by omega, rfl, rfl, Lib.hid rfl, by omega, by omega⟩
  case round =>
    obtain ⟨j, m, hj, rfl, rfl, hm, h1, h2⟩ := hrel
    by_cases hlt : j < k
    · have h3 : m * 2 ≤ 1152921504606846976 := by
        have := pow_le' (show j + 1 ≤ 60 by omega)
        rw [Int.pow_succ, ← hm.out] at this
        omega
      go_wp2
      go_round
      case rel => exact ⟨j + 1, m * 2, by omega, by go_num, by go_num, Lib.hid (by rw [hm.out, Int.pow_succ]), by omega, h3⟩
      case measure => simp [intOf]; omega
    · obtain rfl : j = k := by omega
      go_wp2
      go_ret
      exact ⟨ret_int hm.out, rfl⟩
end Go.Proofs.YtohindaklpdeeaaDoor
