/- tierlineref.Made: the ways that need no bits; words for the others. -/
import Derived.Test.YtpgakmopkgbahaaMkA
namespace Go.Proofs.Ytpgakmopkgbahaa
open Go.RowKit Plain64
set_option maxHeartbeats 400000 in
theorem made_else (op a b imm : Int) (w : World) (h : op < 6 ∨ 10 < op) :
    Calls Try.prog 7 #[.int .i64 op, .int .i64 a, .int .i64 b, .int .i64 imm] w fun e w' => e = .returned (.tuple #[.int .i64 (pureV op a b imm), .int .i64 (makeE op b)]) ∧ w = w' := by
  by_cases hb : b = 0
  · have hb0 : (b == 0) = true := by simpa using hb
    have HB := Lib.hid hb
    clear hb
    go_enter Try.func7, Try.ntmps7
    go_wp2_with (go_at_call 9; refine (In_any _ _ _ _).mono ?_; rintro e w' ⟨rfl, rfl⟩)
    all_goals first
      | (go_ret2; refine ⟨?_, rfl⟩; have hb := HB.out; simp only [Bool.not_eq_true', Bool.not_eq_false', decide_eq_true_eq, decide_eq_false_iff_not, beq_iff_eq, beq_eq_false_iff_ne, ne_eq] at *; congr 3; simp [pureV, makeE, *]; try omega)
      | (exfalso; simp only [Bool.not_eq_true', Bool.not_eq_false', decide_eq_true_eq, decide_eq_false_iff_not, beq_iff_eq, beq_eq_false_iff_ne, ne_eq] at *; omega)
  · have HB := Lib.hid hb
    go_enter Try.func7, Try.ntmps7
    go_wp2_with (go_at_call 9; refine (In_any _ _ _ _).mono ?_; rintro e w' ⟨rfl, rfl⟩)
    all_goals first
      | (go_ret2; refine ⟨?_, rfl⟩; have hb := HB.out; simp only [Bool.not_eq_true', Bool.not_eq_false', decide_eq_true_eq, decide_eq_false_iff_not, beq_iff_eq, beq_eq_false_iff_ne, ne_eq] at *; congr 3; simp [pureV, makeE, *]; try omega)
      | (exfalso; simp only [Bool.not_eq_true', Bool.not_eq_false', decide_eq_true_eq, decide_eq_false_iff_not, beq_iff_eq, beq_eq_false_iff_ne, ne_eq] at *; omega)

theorem below_alloc_new {B : Nat} {a w w' : World} (h : Below B a w) (hB : B ≤ w.heap.size) (o : Obj) (k : Below (w.heap.size + 1) (w.alloc o) w') : Below B a w' :=
  (h.alloc hB o).trans (k.mono (by omega))
theorem wp_world {P : Program} {c : Code} {Q : Exit → Act → World → Prop} {a : Act} {W W' : World} (h : W = W') (k : c.wp P Q a W') : c.wp P Q a W := h ▸ k
/-- The first k of 64 truths are told. -/
def upTo (g : Nat → Bool) (k : Nat) : Array Value := boolArr fun j => decide (j < k) && g j
theorem upTo_size (g : Nat → Bool) (k : Nat) : (upTo g k).size = 64 := boolArr_size _
theorem upTo_all (g : Nat → Bool) : upTo g 64 = boolArr g := boolArr_congr fun j hj => by simp [hj]
theorem upTo_at (g : Nat → Bool) (k : Nat) (h : k < 64) : (upTo g k)[k]? = some (.bool false) := by rw [upTo, boolArr_at _ _ h]; simp
theorem upTo_succ (g : Nat → Bool) (k : Nat) (h : k < 64) : (upTo g k).setIfInBounds k (.bool (g k)) = upTo g (k + 1) := by
  unfold upTo
  rw [boolArr_set _ _ _ h]
  apply boolArr_congr
  intro j _
  by_cases e : j = k
  · subst e; simp
  · rw [if_neg e]; congr 1; rw [decide_eq_decide]; omega
theorem upTo_skip (g : Nat → Bool) (k : Nat) (h : k < 64) (hg : g k = false) : upTo g k = upTo g (k + 1) := by
  rw [← upTo_succ g k h, hg]
  unfold upTo
  rw [boolArr_set _ _ _ h]
  apply boolArr_congr
  intro j _
  by_cases e : j = k
  · subst e; simp
  · rw [if_neg e]


theorem vTop_congr {f g : Nat → Bool} (h : ∀ j, j < 64 → f j = g j) (m : Nat) (hm : m ≤ 64) : vTop f m = vTop g m := by
  induction m with
  | zero => rfl
  | succ m ih => rw [vTop, vTop, ih (by omega), h _ (by omega)]
theorem upTo_store {w : World} {b : Nat} {g : Nat → Bool} {k : Nat} {x : Bool} (h : Blk w b 33 (upTo g k)) (hk : k < 64) (hx : x = g k) : Blk (w.setCell ⟨b, k, none⟩ (.bool x)) b 33 (upTo g (k + 1)) := by
  subst hx
  have := heap_setCell_same _ _ k _ _ (Value.bool (g k)) h
  rwa [upTo_succ g k hk] at this
theorem upTo_done (g : Nat → Bool) : wrap64 (vTop (fun j => decide (j < 64) && g j) 64 : Nat) = wrap64 (vTop g 64 : Nat) := by
  rw [vTop_congr (f := fun j => decide (j < 64) && g j) (g := g) (fun j hj => by simp [hj]) 64 (Nat.le_refl _)]
theorem ret_two {k l : IntKind} {a b c : Int} (h : a = b) : Ending.returned (.tuple #[.int k a, .int l c]) = .returned (.tuple #[.int k b, .int l c]) := by rw [h]
end Go.Proofs.Ytpgakmopkgbahaa
