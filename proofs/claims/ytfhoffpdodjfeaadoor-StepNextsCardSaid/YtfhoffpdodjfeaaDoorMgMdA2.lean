/- tierlineref.ofBits. tierlineref.Made: the ways that need no bits; words for the others. -/
import Derived.Test.YtfhoffpdodjfeaaDoorMgPureLaw4
import Derived.Test.YtfhoffpdodjfeaaDoorMgStepdL2
import Derived.Test.YtfhoffpdodjfeaaDoorCodeA
set_option linter.unusedSimpArgs false
set_option linter.unusedVariables false
namespace Go.Proofs.YtfhoffpdodjfeaaDoor
open Go.RowKit Plain64
theorem vTop_step0 (f : Nat → Bool) (m : Nat) (h : f (63 - m) = false) : wrap64 (wrap64 (vTop f m : Nat) + wrap64 (vTop f m : Nat)) = wrap64 (vTop f (m + 1) : Nat) := by
  rw [vTop, h]; unfold wrap64; simp; omega
theorem vTop_step1 (f : Nat → Bool) (m : Nat) (h : f (63 - m) = true) : wrap64 (wrap64 (wrap64 (vTop f m : Nat) + wrap64 (vTop f m : Nat)) + 1) = wrap64 (vTop f (m + 1) : Nat) := by
  rw [vTop, h]; unfold wrap64; simp; omega
set_option maxRecDepth 100000 in
set_option maxHeartbeats 800000 in
theorem ofBits_any (f : Nat → Bool) (w : World) :
    Calls Tryd.prog 107 #[.agg (boolArr f)] w fun e w' => e = .returned (.int .i64 (wrap64 (vTop f 64 : Nat))) ∧ Below w.heap.size w w' := by
  go_enter Tryd.func107, Tryd.ntmps107
  go_wp2
  go_loopw [3, 4] (fun v i wr => ∃ m : Nat, m ≤ 64 ∧ i = .int .i64 (63 - m) ∧ v = .int .i64 (wrap64 (vTop f m : Nat)) ∧ Blk wr w.heap.size 132 (boolArr f) ∧ Below w.heap.size w wr) (fun _ i _ => (1 + intOf i).toNat)
  case atStart =>
    exact ⟨0, by omega, rfl, by simp [vTop, wrap64], heap_alloc_new w _, (Below.refl _ _).alloc (Nat.le_refl _) _⟩
  case round =>
    obtain ⟨m, hm, rfl, rfl, hb, hbel⟩ := hrel
    have hr := wrap64_range (vTop f m : Nat)
    have h0 := vTop_step0 f m
    have h1 := vTop_step1 f m
    generalize hx : wrap64 (vTop f m : Nat) = x at *
    have H1 := Lib.hid (And.intro hb (And.intro h0 h1))
    have H2 := Lib.hid hx
    clear hb h0 h1 hx
    by_cases hlt : m < 64
    · have hc : wr.cell? ⟨w.heap.size, 63 - m, none⟩ = some (.bool (f (63 - m))) := by
        rw [cell_of_row _ _ _ _ _ _ H1.out.1, boolArr_at _ _ (by omega)]
      cases hb : f (63 - m)
      all_goals
        rw [hb] at hc
        have HB := Lib.hid hb
        clear hb
        go_wp2
        go_roundw
        case rel =>
          obtain ⟨hb, h0, h1⟩ := H1.out
          refine ⟨m + 1, by omega, by go_num, ?_, hb, hbel⟩
          first | rw [h0 HB.out] | rw [h1 HB.out]
        case measure => simp [intOf]; omega
    · obtain rfl : m = 64 := by omega
      go_wp2
      go_ret
      exact ⟨by rw [H2.out]; rfl, hbel⟩

/-- What a shift is behind m of its bits. -/
def shTop (b : Int) (m : Nat) : Int := b % 64 / 2 ^ (6 - m)
theorem shTop_step (b : Int) (m : Nat) (h : m < 6) : shTop b (m + 1) = 2 * shTop b m + (if bitZ b (5 - m) then 1 else 0) := by
  unfold shTop bitZ
  have : m = 0 ∨ m = 1 ∨ m = 2 ∨ m = 3 ∨ m = 4 ∨ m = 5 := by omega
  rcases this with rfl | rfl | rfl | rfl | rfl | rfl <;> simp <;> split <;> omega
theorem shTop_range (b : Int) (m : Nat) : 0 ≤ shTop b m ∧ shTop b m ≤ 63 := by
  unfold shTop
  have h0 : 0 ≤ b % 64 := by omega
  have hp : (0 : Int) < 2 ^ (6 - m) := Int.pow_pos (by decide)
  exact ⟨Int.ediv_nonneg h0 (by omega), by have := Int.ediv_le_self (2 ^ (6 - m)) h0; omega⟩
theorem shTop_all (b : Int) : shTop b 6 = b % 64 := by simp [shTop]
theorem shTop_zero (b : Int) : shTop b 0 = 0 := by unfold shTop; simp; omega
end Go.Proofs.YtfhoffpdodjfeaaDoor
namespace Go.Proofs.YtfhoffpdodjfeaaDoor
open Go.RowKit Plain64
set_option maxHeartbeats 400000 in
theorem made_else (op a b imm : Int) (w : World) (h : op < 6 ∨ 10 < op) :
    Calls Tryd.prog 85 #[.int .i64 op, .int .i64 a, .int .i64 b, .int .i64 imm] w fun e w' => e = .returned (.tuple #[.int .i64 (pureV op a b imm), .int .i64 (makeE op b)]) ∧ w = w' := by
  by_cases hb : b = 0
  · have hb0 : (b == 0) = true := by simpa using hb
    have HB := Lib.hid hb
    clear hb
    go_enter Tryd.func85, Tryd.ntmps85
    go_wp2_with (go_at_call 47; refine (In_any _ _ _ _).mono ?_; rintro e w' ⟨rfl, rfl⟩)
    all_goals first
      | (go_ret2; refine ⟨?_, rfl⟩; have hb := HB.out; simp only [Bool.not_eq_true', Bool.not_eq_false', decide_eq_true_eq, decide_eq_false_iff_not, beq_iff_eq, beq_eq_false_iff_ne, ne_eq] at *; congr 3; simp [pureV, makeE, *]; try omega)
      | (exfalso; simp only [Bool.not_eq_true', Bool.not_eq_false', decide_eq_true_eq, decide_eq_false_iff_not, beq_iff_eq, beq_eq_false_iff_ne, ne_eq] at *; omega)
  · have HB := Lib.hid hb
    go_enter Tryd.func85, Tryd.ntmps85
    go_wp2_with (go_at_call 47; refine (In_any _ _ _ _).mono ?_; rintro e w' ⟨rfl, rfl⟩)
    all_goals first
      | (go_ret2; refine ⟨?_, rfl⟩; have hb := HB.out; simp only [Bool.not_eq_true', Bool.not_eq_false', decide_eq_true_eq, decide_eq_false_iff_not, beq_iff_eq, beq_eq_false_iff_ne, ne_eq] at *; congr 3; simp [pureV, makeE, *]; try omega)
      | (exfalso; simp only [Bool.not_eq_true', Bool.not_eq_false', decide_eq_true_eq, decide_eq_false_iff_not, beq_iff_eq, beq_eq_false_iff_ne, ne_eq] at *; omega)

/-- The first k of 64 truths are told. -/
def upTo (g : Nat → Bool) (k : Nat) : Array Value := boolArr fun j => decide (j < k) && g j
theorem upTo_size (g : Nat → Bool) (k : Nat) : (upTo g k).size = 64 := boolArr_size _
theorem upTo_all (g : Nat → Bool) : upTo g 64 = boolArr g := boolArr_congr fun j hj => by simp [hj]
theorem upTo_at (g : Nat → Bool) (k : Nat) (h : k < 64) : (upTo g k)[k]? = some (.bool false) := by rw [upTo, boolArr_at _ _ h]; simp
theorem upTo_succ (g : Nat → Bool) (k : Nat) (h : k < 64) : (upTo g k).setIfInBounds k (.bool (g k)) = upTo g (k + 1) := by
  unfold upTo
  rw [boolArr_set _ _ _ h]
  apply boolArr_congr
  intro j _
  by_cases e : j = k
  · subst e; simp
  · rw [if_neg e]; congr 1; rw [decide_eq_decide]; omega
theorem upTo_skip (g : Nat → Bool) (k : Nat) (h : k < 64) (hg : g k = false) : upTo g k = upTo g (k + 1) := by
  rw [← upTo_succ g k h, hg]
  unfold upTo
  rw [boolArr_set _ _ _ h]
  apply boolArr_congr
  intro j _
  by_cases e : j = k
  · subst e; simp
  · rw [if_neg e]


theorem vTop_congr {f g : Nat → Bool} (h : ∀ j, j < 64 → f j = g j) (m : Nat) (hm : m ≤ 64) : vTop f m = vTop g m := by
  induction m with
  | zero => rfl
  | succ m ih => rw [vTop, vTop, ih (by omega), h _ (by omega)]
theorem upTo_store {w : World} {b : Nat} {g : Nat → Bool} {k : Nat} {x : Bool} (h : Blk w b 132 (upTo g k)) (hk : k < 64) (hx : x = g k) : Blk (w.setCell ⟨b, k, none⟩ (.bool x)) b 132 (upTo g (k + 1)) := by
  subst hx
  have := heap_setCell_same _ _ k _ _ (Value.bool (g k)) h
  rwa [upTo_succ g k hk] at this
theorem upTo_done (g : Nat → Bool) : wrap64 (vTop (fun j => decide (j < 64) && g j) 64 : Nat) = wrap64 (vTop g 64 : Nat) := by
  rw [vTop_congr (f := fun j => decide (j < 64) && g j) (g := g) (fun j hj => by simp [hj]) 64 (Nat.le_refl _)]
end Go.Proofs.YtfhoffpdodjfeaaDoor
