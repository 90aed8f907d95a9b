/- ref.oneBit, ref.hasBit; bits of small numbers. -/
import Derived.Test.YtnabeibnaoahmaaDoorHpOps
import Derived.Test.YtnabeibnaoahmaaDoorRows
import Derived.Test.YtnabeibnaoahmaaDoorPlain64
set_option linter.unusedSimpArgs false
set_option linter.unusedVariables false
namespace Go.Proofs.YtnabeibnaoahmaaDoor
open Go.RowKit Plain64
attribute [local irreducible] wpList Code.wp Oper.wp

theorem pow_pos' (k : Nat) : (1 : Int) ≤ 2 ^ k := by
  have : (0 : Int) < 2 ^ k := Int.pow_pos (by decide)
  omega
theorem pow_le' {j k : Nat} (h : j ≤ k) : (2 : Int) ^ j ≤ 2 ^ k := by
  have := Nat.pow_le_pow_right (n := 2) (by decide) h
  have e : ∀ n : Nat, ((2 ^ n : Nat) : Int) = 2 ^ n := fun n => by simp
  rw [← e, ← e]; omega
set_option maxHeartbeats 400000 in
theorem hasBit_any (n : Int) (k : Nat) (hk : k ≤ 60) (hn : 0 ≤ n ∧ n ≤ 9223372036854775807) (w : World) :
    Calls Tryd.prog 47 #[.int .i64 n, .int .i64 k] w fun e w' => e = .returned (.bool (bitZ n k)) ∧ w = w' := by
  go_enter Tryd.func47, Tryd.ntmps47
  go_wp2
  go_loop [0, 5] (fun n' i => ∃ (j : Nat) (m : Int), j ≤ k ∧ i = .int .i64 j ∧ n' = .int .i64 m ∧ Hid (m = n / 2 ^ j) ∧ 0 ≤ m ∧ m ≤ 9223372036854775807) (fun _ i => k - (intOf i).toNat)
  case atStart => exact ⟨0, n, by omega, rfl, rfl, Lib.hid (by simp), hn.1, hn.2⟩
  case round =>
    obtain ⟨j, m, hj, rfl, rfl, hm, h1, h2⟩ := hrel
    by_cases hlt : j < k
    · go_wp2
      go_round
      case rel => exact ⟨j + 1, m / 2, by omega, by go_num, by go_num, Lib.hid (by rw [hm.out, half_step]), by omega, by omega⟩
      case measure => simp [intOf]; omega
    · obtain rfl : j = k := by omega
      go_wp2
      go_ret
      refine ⟨ret_bool ?_, rfl⟩
      rw [bitZ, ← hm.out, Bool.eq_iff_iff]
      simp
end Go.Proofs.YtnabeibnaoahmaaDoor
