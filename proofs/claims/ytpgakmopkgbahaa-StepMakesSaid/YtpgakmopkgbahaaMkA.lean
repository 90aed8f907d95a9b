/- The walks of step.Make and of what it calls, of bits and ofBits. -/
import Derived.Test.YtpgakmopkgbahaaRows
import Derived.Test.YtpgakmopkgbahaaPlain64
import Derived.Test.YtpgakmopkgbahaaMem
namespace Go.Proofs.Ytpgakmopkgbahaa
open Go.RowKit Plain64
/-- A block that is known whole. -/
def Blk (w : World) (g : Nat) (t : TypeId) (cs : Array Value) : Prop := w.heap[g]? = some (.cells cs t (0, 0))
theorem ret_int {k : IntKind} {a b : Int} (h : a = b) : Ending.returned (.int k a) = .returned (.int k b) := by rw [h]

set_option maxHeartbeats 400000 in
theorem flag_any (b : Bool) (w : World) :
    Calls Try.prog 12 #[.bool b] w fun e w' => e = .returned (.int .i64 (if b then 1 else 0)) ∧ w = w' := by
  cases b
  all_goals
    go_enter Try.func12, Try.ntmps12
    go_wp2
    go_ret
    exact ⟨rfl, rfl⟩
set_option maxHeartbeats 400000 in
theorem In_any (a b c : Int) (w : World) :
    Calls Try.prog 9 #[.int .i64 a, .int .i64 b, .int .i64 c] w fun e w' => e = .returned (.bool (decide (b ≤ a) && decide (a ≤ c))) ∧ w = w' := by
  go_enter Try.func9, Try.ntmps9
  go_wp2
  all_goals (go_ret; refine ⟨?_, rfl⟩; congr 2; simp [*] <;> omega)

def pureV (op a b imm : Int) : Int := if op = 1 then imm else if op = 2 then wrap64 (a + b) else if op = 3 then wrap64 (a - b) else if op = 4 then wrap64 (a * b) else if op = 5 then (if b = 0 then 0 else wrap64 (a.tdiv b))
  else if op = 6 then bits .and .i64 a b else if op = 7 then bits .or .i64 a b else if op = 8 then bits .xor .i64 a b else if op = 9 then wrap64 (a * 2 ^ (b % 64).toNat) else if op = 10 then a / 2 ^ (b % 64).toNat
  else if op = 11 then (if a < b then 1 else 0) else if op = 12 then (if a = b then 1 else 0) else 0
def pureB (op b : Int) : Bool := decide (1 ≤ op) && decide (op ≤ 12) && !(decide (op = 5) && decide (b = 0))


theorem shl_at (a b : Int) : Op.shift .shl .i64 a .i64 (b % 64) = pure (.int .i64 (wrap64 (a * 2 ^ (b % 64).toNat))) := by
  rw [shift_shl_any _ _ _ _ (by omega), IntWalk.i64_left, Nat.min_eq_left (by simp [IntKind.bits]; omega)]
theorem shr_at (a b : Int) : Op.shift .shr .i64 a .i64 (b % 64) = pure (.int .i64 (a / 2 ^ (b % 64).toNat)) := by
  rw [shift_shr_any _ _ _ _ (by omega), Nat.min_eq_left (by simp [IntKind.bits]; omega)]

set_option maxHeartbeats 400000 in
theorem pure_any (op a b imm : Int) (w : World) :
    Calls Try.prog 8 #[.int .i64 op, .int .i64 a, .int .i64 b, .int .i64 imm] w fun e w' => e = .returned (.tuple #[.int .i64 (pureV op a b imm), .bool (pureB op b)]) ∧ w = w' := by
  have h63 := Plain64.and63 b
  have hl := shl_at a b
  have hr := shr_at a b
  by_cases hb : b = 0
  · have hb0 : (b == 0) = true := by simpa using hb
    have HB := Lib.hid hb
    clear hb
    go_enter Try.func8, Try.ntmps8
    go_wp2_with (go_at_call 12; refine (flag_any _ _).mono ?_; rintro e w' ⟨rfl, rfl⟩)
    all_goals (go_ret2; refine ⟨?_, rfl⟩; have hb := HB.out; simp only [beq_iff_eq, beq_eq_false_iff_ne, ne_eq] at *; simp [pureV, pureB, *]; try omega)
  · go_enter Try.func8, Try.ntmps8
    go_wp2_with (go_at_call 12; refine (flag_any _ _).mono ?_; rintro e w' ⟨rfl, rfl⟩)
    all_goals (go_ret2; refine ⟨?_, rfl⟩; simp only [beq_iff_eq, beq_eq_false_iff_ne, ne_eq] at *; simp [pureV, pureB, *]; try omega)
/-- 64 truths. -/
def boolArr (f : Nat → Bool) : Array Value := ((List.range 64).map fun j => Value.bool (f j)).toArray
theorem boolArr_size (f : Nat → Bool) : (boolArr f).size = 64 := by simp [boolArr]
theorem boolArr_at (f : Nat → Bool) (k : Nat) (h : k < 64) : (boolArr f)[k]? = some (.bool (f k)) := by simp [boolArr, h]
theorem boolArr_one (f : Nat → Bool) : (boolArr f).all (·.oneCell') = true := by
  rw [Array.all_eq_true_iff_forall_mem]; intro x hx
  simp [boolArr] at hx
  obtain ⟨a, _, rfl⟩ := hx
  rfl
theorem boolArr_congr {f g : Nat → Bool} (h : ∀ j, j < 64 → f j = g j) : boolArr f = boolArr g := by
  unfold boolArr; congr 1
  apply List.map_congr_left
  intro j hj
  rw [h j (by simpa using hj)]
theorem boolArr_set (f : Nat → Bool) (k : Nat) (b : Bool) (hk : k < 64) : (boolArr f).setIfInBounds k (.bool b) = boolArr (fun j => if j = k then b else f j) := by
  apply Array.ext_getElem?
  intro i
  rw [Array.getElem?_setIfInBounds, boolArr_size]
  by_cases hi : i < 64
  · by_cases e : k = i
    · subst e; simp [boolArr, hi]
    · have e' : ¬ i = k := fun h => e h.symm
      rw [if_neg e]; simp [boolArr, hi, e']
  · rw [if_neg (by omega)]
    simp [boolArr, hi]
theorem boolArr_size33 (f : Nat → Bool) : (Try.prog.info? 33).map (·.size) = some (boolArr f).size := by rw [boolArr_size]; kernel_rfl
def bitArr (n : Int) (k : Nat) : Array Value := boolArr fun j => decide (j < k) && bitZ n j
theorem bitArr_all (n : Int) : bitArr n 64 = boolArr (bitZ n) := boolArr_congr fun j hj => by simp [hj]
theorem bitArr_size (n : Int) (k : Nat) : (bitArr n k).size = 64 := boolArr_size _
theorem bitArr_succ (n : Int) (k : Nat) (h : k < 64) : (bitArr n k).setIfInBounds k (.bool (bitZ n k)) = bitArr n (k + 1) := by
  unfold bitArr
  rw [boolArr_set _ _ _ h]
  apply boolArr_congr
  intro j _
  by_cases e : j = k
  · subst e; simp
  · rw [if_neg e]; congr 1; rw [decide_eq_decide]; omega
theorem bitArr_one (n : Int) (k : Nat) : (bitArr n k).all (·.oneCell') = true := boolArr_one _
theorem half_t (x : Int) : (x - x % 2).tdiv 2 = x / 2 := by
  rw [show x - x % 2 = 2 * (x / 2) by omega, Int.mul_tdiv_cancel_left _ (by decide)]
theorem odd_t (x : Int) : (x.tmod 2 != 0) = decide (x % 2 = 1) := by
  rw [Bool.eq_iff_iff]
  simp only [bne_iff_ne, decide_eq_true_eq, ne_eq]
  rw [← Int.dvd_iff_tmod_eq_zero]; omega
theorem size33 (n : Int) (k : Nat) : (Try.prog.info? 33).map (·.size) = some (bitArr n k).size := by rw [bitArr_size]; kernel_rfl
theorem below_setRow {B : Nat} {a w : World} (h : Below B a w) {g : Nat} (hp : B ≤ g) (cs : Array Value) : Below B a (w.setRow g cs) :=
  h.trans ⟨rfl, rfl, rfl, by simp, fun k hk => setRow_other w g k cs (by omega)⟩
set_option maxRecDepth 100000 in
set_option maxHeartbeats 800000 in
theorem bits_any (n : Int) (w : World) (hn : -9223372036854775808 ≤ n ∧ n ≤ 9223372036854775807) :
    Calls Try.prog 10 #[.int .i64 n] w fun e w' => e = .returned (.agg (boolArr (bitZ n))) ∧ Below w.heap.size w w' := by
  go_enter Try.func10, Try.ntmps10
  go_wp2
  go_loopw [0, 4] (fun v i wr => ∃ k : Nat, k ≤ 64 ∧ i = .int .i64 k ∧ v = .int .i64 (n / 2 ^ k) ∧ Blk wr w.heap.size 33 (bitArr 0 0) ∧ Blk wr (w.heap.size + 1) 33 (bitArr n k) ∧ Below w.heap.size w wr) (fun _ i _ => 64 - (intOf i).toNat)
  case atStart =>
    refine ⟨0, by omega, rfl, by simp, ?_, ?_, ?_⟩
    · exact heap_alloc2_old w _ _
    · exact heap_alloc2_new w _ _
    · exact ((Below.refl _ _).alloc (Nat.le_refl _) _).alloc (by simp) _
  case round =>
    obtain ⟨k, hk, rfl, rfl, hz, hb, hbel⟩ := hrel
    have hx : -9223372036854775808 ≤ n / 2 ^ k ∧ n / 2 ^ k ≤ 9223372036854775807 := by
      have hp : (0 : Int) < 2 ^ k := Int.pow_pos (by decide)
      generalize (2 : Int) ^ k = p at hp
      constructor
      · rw [Int.le_ediv_iff_mul_le hp]
        have : -9223372036854775808 * p ≤ -9223372036854775808 * 1 := Int.mul_le_mul_of_nonpos_left (by decide) (by omega)
        omega
      · have := Int.ediv_le_ediv hp (show n ≤ 9223372036854775807 * p by
          have : (9223372036854775807 : Int) * 1 ≤ 9223372036854775807 * p := Int.mul_le_mul_of_nonneg_left (by omega) (by decide)
          omega)
        rwa [Int.mul_ediv_cancel _ (by omega)] at this
    have hs := half_step n k
    have hbit : bitZ n k = decide (n / 2 ^ k % 2 = 1) := rfl
    generalize n / 2 ^ k = x at *
    have h1 := and1 x
    have H1 := Lib.hid (And.intro hz (And.intro hb hs))
    have H2 := Lib.hid hbit
    clear hz hb hs hbit
    by_cases hlt : k < 64
    · have hc : wr.cell? ⟨w.heap.size + 1, k, none⟩ = some (.bool false) := by
        rw [cell_of_row _ _ _ _ _ _ H1.out.2.1, bitArr, boolArr_at _ _ hlt]; simp
      have hf : wr.frozen? ⟨w.heap.size + 1, k, none⟩ = false := frozen_of_row _ _ _ _ _ H1.out.2.1
      go_wp2
      go_roundw
      case rel =>
        obtain ⟨hz, hb, hs⟩ := H1.out
        refine ⟨k + 1, by omega, by go_num, ?_, ?_, ?_, ?_⟩
        · rw [hs, ← half_t]
        · exact (heap_setCell_other _ _ _ _ (by simp)).trans hz
        · have := heap_setCell_same _ _ k _ _ (Value.bool (bitZ n k)) hb
          rw [bitArr_succ n k hlt] at this
          have e : (x.tmod 2 != 0) = bitZ n k := by
            rw [H2.out, odd_t]
          rw [e]; exact this
        · exact hbel.setCell (by simp) _
      case measure => simp [intOf]; omega
    · obtain rfl : k = 64 := by omega
      go_wp2_with (first | (refine wpList_load_row rfl 33 _ rfl _ rfl 33 (bitArr n 64) (0, 0) _ H1.out.2.1 Try.underlying33 rfl (size33 _ _) ?_) | (refine wpList_store_row rfl 33 _ _ rfl _ (bitArr n 64) rfl rfl 33 (bitArr 0 0) H1.out.1 (size33 _ _) ((bitArr_size _ _).trans (bitArr_size _ _).symm) (bitArr_one _ _) ?_))
      refine bodyPost_ret (results_cell_row rfl _ _ w.heap.size 33 (bitArr n 64) (0, 0) _ rfl (setRow_heap _ _ _ _ _ _ H1.out.1) Try.underlying33 rfl (size33 _ _)) rfl ⟨by rw [bitArr_all], below_setRow hbel (Nat.le_refl _) _⟩

theorem vTop_step0 (f : Nat → Bool) (m : Nat) (h : f (63 - m) = false) : wrap64 (wrap64 (vTop f m : Nat) + wrap64 (vTop f m : Nat)) = wrap64 (vTop f (m + 1) : Nat) := by
  rw [vTop, h]; unfold wrap64; simp; omega
theorem vTop_step1 (f : Nat → Bool) (m : Nat) (h : f (63 - m) = true) : wrap64 (wrap64 (wrap64 (vTop f m : Nat) + wrap64 (vTop f m : Nat)) + 1) = wrap64 (vTop f (m + 1) : Nat) := by
  rw [vTop, h]; unfold wrap64; simp; omega
set_option maxRecDepth 100000 in
set_option maxHeartbeats 800000 in
theorem ofBits_any (f : Nat → Bool) (w : World) :
    Calls Try.prog 11 #[.agg (boolArr f)] w fun e w' => e = .returned (.int .i64 (wrap64 (vTop f 64 : Nat))) ∧ Below w.heap.size w w' := by
  go_enter Try.func11, Try.ntmps11
  go_wp2
  go_loopw [3, 4] (fun v i wr => ∃ m : Nat, m ≤ 64 ∧ i = .int .i64 (63 - m) ∧ v = .int .i64 (wrap64 (vTop f m : Nat)) ∧ Blk wr w.heap.size 33 (boolArr f) ∧ Below w.heap.size w wr) (fun _ i _ => (1 + intOf i).toNat)
  case atStart =>
    exact ⟨0, by omega, rfl, by simp [vTop, wrap64], heap_alloc_new w _, (Below.refl _ _).alloc (Nat.le_refl _) _⟩
  case round =>
    obtain ⟨m, hm, rfl, rfl, hb, hbel⟩ := hrel
    have hr := wrap64_range (vTop f m : Nat)
    have h0 := vTop_step0 f m
    have h1 := vTop_step1 f m
    generalize hx : wrap64 (vTop f m : Nat) = x at *
    have H1 := Lib.hid (And.intro hb (And.intro h0 h1))
    have H2 := Lib.hid hx
    clear hb h0 h1 hx
    by_cases hlt : m < 64
    · have hc : wr.cell? ⟨w.heap.size, 63 - m, none⟩ = some (.bool (f (63 - m))) := by
        rw [cell_of_row _ _ _ _ _ _ H1.out.1, boolArr_at _ _ (by omega)]
      cases hb : f (63 - m)
      all_goals
        rw [hb] at hc
        have HB := Lib.hid hb
        clear hb
        go_wp2
        go_roundw
        case rel =>
          obtain ⟨hb, h0, h1⟩ := H1.out
          refine ⟨m + 1, by omega, by go_num, ?_, hb, hbel⟩
          first | rw [h0 HB.out] | rw [h1 HB.out]
        case measure => simp [intOf]; omega
    · obtain rfl : m = 64 := by omega
      go_wp2
      go_ret
      exact ⟨by rw [H2.out]; rfl, hbel⟩

def makeE (op b : Int) : Int := if op < 1 ∨ 12 < op then 3 else if op = 5 ∧ b = 0 then 9 else 0
set_option maxHeartbeats 400000 in
theorem make_any (op a b imm : Int) (w : World) :
    Calls Try.prog 6 #[.int .i64 op, .int .i64 a, .int .i64 b, .int .i64 imm] w fun e w' => e = .returned (.tuple #[.int .i64 (pureV op a b imm), .int .i64 (makeE op b)]) ∧ w = w' := by
  cases hq : pureB op b
  all_goals
    have hp := pure_any op a b imm w
    rw [hq] at hp
    have HP := Lib.hid hp
    have HQ := Lib.hid hq
    clear hp hq
    go_enter Try.func6, Try.ntmps6
    go_wp2_with (go_at_call 8; refine HP.out.mono ?_; rintro e w' ⟨rfl, rfl⟩)
    all_goals (go_ret2; refine ⟨?_, rfl⟩; have hq := HQ.out; simp only [pureB, Bool.and_eq_true, Bool.and_eq_false_iff, Bool.not_eq_true', Bool.not_eq_false', decide_eq_true_eq, decide_eq_false_iff_not] at hq; congr 3; simp [pureV, makeE]; try omega)

/-- What a shift is behind m of its bits. -/
def shTop (b : Int) (m : Nat) : Int := b % 64 / 2 ^ (6 - m)
theorem shTop_step (b : Int) (m : Nat) (h : m < 6) : shTop b (m + 1) = 2 * shTop b m + (if bitZ b (5 - m) then 1 else 0) := by
  unfold shTop bitZ
  have : m = 0 ∨ m = 1 ∨ m = 2 ∨ m = 3 ∨ m = 4 ∨ m = 5 := by omega
  rcases this with rfl | rfl | rfl | rfl | rfl | rfl <;> simp <;> split <;> omega
theorem shTop_range (b : Int) (m : Nat) : 0 ≤ shTop b m ∧ shTop b m ≤ 63 := by
  unfold shTop
  have h0 : 0 ≤ b % 64 := by omega
  have hp : (0 : Int) < 2 ^ (6 - m) := Int.pow_pos (by decide)
  exact ⟨Int.ediv_nonneg h0 (by omega), by have := Int.ediv_le_self (2 ^ (6 - m)) h0; omega⟩
theorem shTop_all (b : Int) : shTop b 6 = b % 64 := by simp [shTop]
theorem shTop_zero (b : Int) : shTop b 0 = 0 := by unfold shTop; simp; omega
end Go.Proofs.Ytpgakmopkgbahaa
