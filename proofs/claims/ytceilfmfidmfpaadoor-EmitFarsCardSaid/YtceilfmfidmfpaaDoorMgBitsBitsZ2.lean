/- ref.oneBit, ref.hasBit; bits of small numbers. ref.bits, ref.bitOf. -/
import Derived.Test.YtceilfmfidmfpaaDoorMgHpOpsHpRowHpB3
import Derived.Test.YtceilfmfidmfpaaDoorRows
import Derived.Test.YtceilfmfidmfpaaDoorPlain64
set_option linter.unusedSimpArgs false
set_option linter.unusedVariables false
namespace Go.Proofs.YtceilfmfidmfpaaDoor
open Go.RowKit Plain64
attribute [local irreducible] wpList Code.wp Oper.wp

theorem pow_pos' (k : Nat) : (1 : Int) ≤ 2 ^ k := by
  have : (0 : Int) < 2 ^ k := Int.pow_pos (by decide)
  omega
theorem pow_le' {j k : Nat} (h : j ≤ k) : (2 : Int) ^ j ≤ 2 ^ k := by
  have := Nat.pow_le_pow_right (n := 2) (by decide) h
  have e : ∀ n : Nat, ((2 ^ n : Nat) : Int) = 2 ^ n := fun n => by simp
  rw [← e, ← e]; omega
set_option maxHeartbeats 400000 in
theorem hasBit_any (n : Int) (k : Nat) (hk : k ≤ 60) (hn : 0 ≤ n ∧ n ≤ 9223372036854775807) (w : World) :
    Calls Tryd.prog 71 #[.int .i64 n, .int .i64 k] w fun e w' => e = .returned (.bool (bitZ n k)) ∧ w = w' := by
  go_enter Tryd.func71, Tryd.ntmps71
  go_wp2
  go_loop [0, 5] (fun n' i => ∃ (j : Nat) (m : Int), j ≤ k ∧ i = .int .i64 j ∧ n' = .int .i64 m ∧ Hid (m = n / 2 ^ j) ∧ 0 ≤ m ∧ m ≤ 9223372036854775807) (fun _ i => k - (intOf i).toNat)
  case atStart => exact ⟨0, n, by omega, rfl, rfl, Lib.hid (by simp), hn.1, hn.2⟩
  case round =>
    obtain ⟨j, m, hj, rfl, rfl, hm, h1, h2⟩ := hrel
    by_cases hlt : j < k
    · go_wp2
      go_round
      case rel => exact ⟨j + 1, m / 2, by omega, by go_num, by go_num, Lib.hid (by rw [hm.out, half_step]), by omega, by omega⟩
      case measure => simp [intOf]; omega
    · obtain rfl : j = k := by omega
      go_wp2
      go_ret
      refine ⟨ret_bool ?_, rfl⟩
      rw [bitZ, ← hm.out, Bool.eq_iff_iff]
      simp
end Go.Proofs.YtceilfmfidmfpaaDoor
namespace Go.Proofs.YtceilfmfidmfpaaDoor
open Go.RowKit Plain64
/-- 64 truths. -/
def boolArr (f : Nat → Bool) : Array Value := ((List.range 64).map fun j => Value.bool (f j)).toArray
theorem boolArr_size (f : Nat → Bool) : (boolArr f).size = 64 := by simp [boolArr]
theorem boolArr_at (f : Nat → Bool) (k : Nat) (h : k < 64) : (boolArr f)[k]? = some (.bool (f k)) := by simp [boolArr, h]
theorem boolArr_one (f : Nat → Bool) : (boolArr f).all (·.oneCell') = true := by
  rw [Array.all_eq_true_iff_forall_mem]; intro x hx
  simp [boolArr] at hx
  obtain ⟨a, _, rfl⟩ := hx
  rfl
theorem boolArr_congr {f g : Nat → Bool} (h : ∀ j, j < 64 → f j = g j) : boolArr f = boolArr g := by
  unfold boolArr; congr 1
  apply List.map_congr_left
  intro j hj
  rw [h j (by simpa using hj)]
theorem boolArr_set (f : Nat → Bool) (k : Nat) (b : Bool) (hk : k < 64) : (boolArr f).setIfInBounds k (.bool b) = boolArr (fun j => if j = k then b else f j) := by
  apply Array.ext_getElem?
  intro i
  rw [Array.getElem?_setIfInBounds, boolArr_size]
  by_cases hi : i < 64
  · by_cases e : k = i
    · subst e; simp [boolArr, hi]
    · have e' : ¬ i = k := fun h => e h.symm
      rw [if_neg e]; simp [boolArr, hi, e']
  · rw [if_neg (by omega)]
    simp [boolArr, hi]
theorem boolArr_size33 (f : Nat → Bool) : (Tryd.prog.info? 96).map (·.size) = some (boolArr f).size := by rw [boolArr_size]; kernel_rfl
def bitArr (n : Int) (k : Nat) : Array Value := boolArr fun j => decide (j < k) && bitZ n j
theorem bitArr_all (n : Int) : bitArr n 64 = boolArr (bitZ n) := boolArr_congr fun j hj => by simp [hj]
theorem bitArr_size (n : Int) (k : Nat) : (bitArr n k).size = 64 := boolArr_size _
theorem bitArr_succ (n : Int) (k : Nat) (h : k < 64) : (bitArr n k).setIfInBounds k (.bool (bitZ n k)) = bitArr n (k + 1) := by
  unfold bitArr
  rw [boolArr_set _ _ _ h]
  apply boolArr_congr
  intro j _
  by_cases e : j = k
  · subst e; simp
  · rw [if_neg e]; congr 1; rw [decide_eq_decide]; omega
theorem bitArr_one (n : Int) (k : Nat) : (bitArr n k).all (·.oneCell') = true := boolArr_one _
theorem half_t (x : Int) : (x - x % 2).tdiv 2 = x / 2 := by
  rw [show x - x % 2 = 2 * (x / 2) by omega, Int.mul_tdiv_cancel_left _ (by decide)]
theorem odd_t (x : Int) : (x.tmod 2 != 0) = decide (x % 2 = 1) := by
  rw [Bool.eq_iff_iff]
  simp only [bne_iff_ne, decide_eq_true_eq, ne_eq]
  rw [← Int.dvd_iff_tmod_eq_zero]; omega
theorem size33 (n : Int) (k : Nat) : (Tryd.prog.info? 96).map (·.size) = some (bitArr n k).size := by rw [bitArr_size]; kernel_rfl
set_option maxRecDepth 100000 in
set_option maxHeartbeats 800000 in
theorem bits_any (n : Int) (w : World) (hn : -9223372036854775808 ≤ n ∧ n ≤ 9223372036854775807) :
    Calls Tryd.prog 58 #[.int .i64 n] w fun e w' => e = .returned (.agg (boolArr (bitZ n))) ∧ Below w.heap.size w w' := by
  go_enter Tryd.func58, Tryd.ntmps58
  go_wp2
  go_loopw [0, 4] (fun v i wr => ∃ k : Nat, k ≤ 64 ∧ i = .int .i64 k ∧ v = .int .i64 (n / 2 ^ k) ∧ Blk wr w.heap.size 96 (bitArr 0 0) ∧ Blk wr (w.heap.size + 1) 96 (bitArr n k) ∧ Below w.heap.size w wr) (fun _ i _ => 64 - (intOf i).toNat)
  case atStart =>
    refine ⟨0, by omega, rfl, by simp, ?_, ?_, ?_⟩
    · exact heap_alloc2_old w _ _
    · exact heap_alloc2_new w _ _
    · exact ((Below.refl _ _).alloc (Nat.le_refl _) _).alloc (by simp) _
  case round =>
    obtain ⟨k, hk, rfl, rfl, hz, hb, hbel⟩ := hrel
    have hx : -9223372036854775808 ≤ n / 2 ^ k ∧ n / 2 ^ k ≤ 9223372036854775807 := by
      have hp : (0 : Int) < 2 ^ k := Int.pow_pos (by decide)
      generalize (2 : Int) ^ k = p at hp
      constructor
      · rw [Int.le_ediv_iff_mul_le hp]
        have : -9223372036854775808 * p ≤ -9223372036854775808 * 1 := Int.mul_le_mul_of_nonpos_left (by decide) (by omega)
        omega
      · have := Int.ediv_le_ediv hp (show n ≤ 9223372036854775807 * p by
          have : (9223372036854775807 : Int) * 1 ≤ 9223372036854775807 * p := Int.mul_le_mul_of_nonneg_left (by omega) (by decide)
          omega)
        rwa [Int.mul_ediv_cancel _ (by omega)] at this
    have hs := half_step n k
    have hbit : bitZ n k = decide (n / 2 ^ k % 2 = 1) := rfl
    generalize n / 2 ^ k = x at *
    have h1 := and1 x
    have H1 := Lib.hid (And.intro hz (And.intro hb hs))
    have H2 := Lib.hid hbit
    clear hz hb hs hbit
    by_cases hlt : k < 64
    · have hc : wr.cell? ⟨w.heap.size + 1, k, none⟩ = some (.bool false) := by
        rw [cell_of_row _ _ _ _ _ _ H1.out.2.1, bitArr, boolArr_at _ _ hlt]; simp
      have hf : wr.frozen? ⟨w.heap.size + 1, k, none⟩ = false := frozen_of_row _ _ _ _ _ H1.out.2.1
      go_wp2
      go_roundw
      case rel =>
        obtain ⟨hz, hb, hs⟩ := H1.out
        refine ⟨k + 1, by omega, by go_num, ?_, ?_, ?_, ?_⟩
        · rw [hs, ← half_t]
        · exact (heap_setCell_other _ _ _ _ (by simp)).trans hz
        · have := heap_setCell_same _ _ k _ _ (Value.bool (bitZ n k)) hb
          rw [bitArr_succ n k hlt] at this
          have e : (x.tmod 2 != 0) = bitZ n k := by
            rw [H2.out, odd_t]
          rw [e]; exact this
        · exact hbel.setCell (by simp) _
      case measure => simp [intOf]; omega
    · obtain rfl : k = 64 := by omega
      go_wp2_with (first | (refine wpList_load_row rfl 96 _ rfl _ rfl 96 (bitArr n 64) (0, 0) _ H1.out.2.1 Tryd.underlying96 rfl (size33 _ _) ?_) | (refine wpList_store_row rfl 96 _ _ rfl _ (bitArr n 64) rfl rfl 96 (bitArr 0 0) H1.out.1 (size33 _ _) ((bitArr_size _ _).trans (bitArr_size _ _).symm) (bitArr_one _ _) ?_))
      refine bodyPost_ret (results_cell_row rfl _ _ w.heap.size 96 (bitArr n 64) (0, 0) _ rfl (setRow_heap _ _ _ _ _ _ H1.out.1) Tryd.underlying96 rfl (size33 _ _)) rfl ⟨by rw [bitArr_all], below_setRow hbel (Nat.le_refl _) _⟩

end Go.Proofs.YtceilfmfidmfpaaDoor
