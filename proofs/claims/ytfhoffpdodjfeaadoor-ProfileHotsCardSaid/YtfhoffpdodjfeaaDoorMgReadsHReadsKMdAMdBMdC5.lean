/- P3.4: what proof.Reads answers. Numbers of read registers as bits. tierlineref.ofBits. tierlineref.Made: the ways that need no bits; words for the others. tierlineref.Made: And, Or, Xor. -/
import Derived.Test.YtfhoffpdodjfeaaDoorMgReadsOfStateNextLaw3
import Derived.Test.YtfhoffpdodjfeaaDoorMgValidPureLaw2
import Derived.Test.YtfhoffpdodjfeaaDoorMgBitsBitsZ2
import Derived.Test.YtfhoffpdodjfeaaDoorMgCodeACodeB2
set_option linter.unusedSimpArgs false
set_option linter.unusedVariables false
namespace Go.Proofs.YtfhoffpdodjfeaaDoor
open Go.RowKit Plain64
attribute [local irreducible] wpList Code.wp Oper.wp
/-- P3.4. -/
def readsAns (p : Prg) (fn pc : Int) : Int × Int × Int :=
  if prgFault p ≠ 0 then (0, 0, prgFault p) else
  match p.funcs[fn.toNat]? with
  | none => (0, 0, 2)
  | some f => match f.code[pc.toNat]? with
    | none => (0, 0, 2)
    | some x => if fn < 0 ∨ pc < 0 then (0, 0, 2) else (bitsL (readsL p x), if setsZ x.op then 2 ^ x.dst.toNat else 0, 0)
theorem sets_ok (op : Int) (h : 1 ≤ op) : (decide (op ≤ 13) || decide (op = 17) || decide (op = 18)) = setsZ op := by
  unfold setsZ; rw [Bool.eq_iff_iff]; simp; omega
theorem and_all_nat : ∀ d : Fin 12, bits .and .i64 (2 ^ d.1) 4095 = 2 ^ d.1 := by decide +kernel
theorem and_all (d : Int) (h : 0 ≤ d ∧ d ≤ 11) : bits .and .i64 (2 ^ d.toNat) 4095 = 2 ^ d.toNat := and_all_nat ⟨d.toNat, by omega⟩
theorem and_all0 : bits .and .i64 0 4095 = 0 := by decide +kernel
theorem rep_code {f : List Ins} {u : Value} {w : World} {S : Nat → Prop} (h : Lay.rep w S f [u]) : ∃ (A : Option Addr) (c : Nat), u = .slice A f.length c ∧ f.length ≤ c ∧ c ≤ maxLen ∧
    ∀ (k : Nat) (hk : k < f.length), ∃ (a : Addr), A = some a ∧ S a.block ∧ At w (a.add (k * 5)) [.int .i64 f[k].op, .int .i64 f[k].dst, .int .i64 f[k].a, .int .i64 f[k].b, .int .i64 f[k].imm] := rep_code_at h
end Go.Proofs.YtfhoffpdodjfeaaDoor
namespace Go.Proofs.YtfhoffpdodjfeaaDoor
open Go.RowKit Plain64
attribute [local irreducible] wpList Code.wp Oper.wp
theorem bit_pow_nat : ∀ a b : Fin 12, bitZ (2 ^ a.1) b.1 = decide ((a.1 : Int) = b.1) := by decide +kernel
theorem readsL_len (p : Prg) (x : Ins) : (readsL p x).length ≤ 2 := by
  unfold readsL; split <;> split <;> simp
theorem readsL_in (p : Prg) (x : Ins) {len funcs : Nat} (h : OkI x len funcs) : ∀ a ∈ readsL p x, 0 ≤ a ∧ a ≤ 11 := by
  unfold readsL
  intro a ha
  rcases List.mem_append.1 ha with ha | ha
  · split at ha
    · rw [List.mem_singleton.1 ha]; exact h.a
    · cases ha
  · split at ha
    · rw [List.mem_singleton.1 ha]; exact h.b
    · cases ha
theorem bits_step (l : List Int) (hl : l.length ≤ 2) (hb : ∀ a ∈ l, 0 ≤ a ∧ a ≤ 11) (k : Nat) (hk : k < l.length) :
    bitsL (l.take (k + 1)) = (if bitZ (bitsL (l.take k)) l[k].toNat then bitsL (l.take k) else bitsL (l.take k) + 2 ^ l[k].toNat) ∧ 0 ≤ bitsL (l.take k) ∧ bitsL (l.take k) ≤ 4095 ∧ 0 ≤ bitsL (l.take (k + 1)) ∧ bitsL (l.take (k + 1)) ≤ 4095 := by
  match l, hl, hk with
  | [a], _, hk =>
    obtain rfl : k = 0 := by simpa using hk
    have := pow_small a (hb a (by simp))
    simp [bitsL, bitZ]; omega
  | [a, b], _, hk =>
    have h1 := pow_small a (hb a (by simp))
    have h2 := pow_small b (hb b (by simp))
    have h3 : 0 ≤ bitsL [a, b] ∧ bitsL [a, b] ≤ 4095 := by
      show 0 ≤ (if a = b then _ else _) ∧ (if a = b then _ else _) ≤ _
      by_cases e : a = b
      · rw [if_pos e]; omega
      · rw [if_neg e]
        have : (2 : Int) ^ a.toNat + 2 ^ b.toNat ≤ 4095 := by
          have hn : ∀ a b : Fin 12, a ≠ b → (2 : Int) ^ a.1 + 2 ^ b.1 ≤ 4095 := by decide +kernel
          have ha := hb a (by simp)
          have hb' := hb b (by simp)
          exact hn ⟨a.toNat, by omega⟩ ⟨b.toNat, by omega⟩ (fun h => e (by have := congrArg Fin.val h; simp at this; omega))
        omega
    have hk2 : k = 0 ∨ k = 1 := by simp at hk; omega
    rcases hk2 with rfl | rfl
    · refine ⟨by simp [bitsL, bitZ], by simp [bitsL], by simp [bitsL], by simp [bitsL]; omega, by simp [bitsL]; omega⟩
    · have ha := hb a (by simp)
      have hb' := hb b (by simp)
      have := bit_pow_nat ⟨a.toNat, by omega⟩ ⟨b.toNat, by omega⟩
      simp only at this
      refine ⟨?_, by simp [bitsL]; omega, by simp [bitsL]; omega, h3⟩
      show (if a = b then _ else _) = if bitZ (2 ^ a.toNat) b.toNat then _ else _
      rw [this]
      by_cases e : a = b
      · rw [if_pos e, if_pos (by simp; omega)]; rfl
      · rw [if_neg e, if_neg (by simp; omega)]; rfl
end Go.Proofs.YtfhoffpdodjfeaaDoor
namespace Go.Proofs.YtfhoffpdodjfeaaDoor
open Go.RowKit Plain64
theorem vTop_step0 (f : Nat → Bool) (m : Nat) (h : f (63 - m) = false) : wrap64 (wrap64 (vTop f m : Nat) + wrap64 (vTop f m : Nat)) = wrap64 (vTop f (m + 1) : Nat) := by
  rw [vTop, h]; unfold wrap64; simp; omega
theorem vTop_step1 (f : Nat → Bool) (m : Nat) (h : f (63 - m) = true) : wrap64 (wrap64 (wrap64 (vTop f m : Nat) + wrap64 (vTop f m : Nat)) + 1) = wrap64 (vTop f (m + 1) : Nat) := by
  rw [vTop, h]; unfold wrap64; simp; omega
set_option maxRecDepth 100000 in
set_option maxHeartbeats 800000 in
theorem ofBits_any (f : Nat → Bool) (w : World) :
    Calls Tryd.prog 107 #[.agg (boolArr f)] w fun e w' => e = .returned (.int .i64 (wrap64 (vTop f 64 : Nat))) ∧ Below w.heap.size w w' := by
  go_enter Tryd.func107, Tryd.ntmps107
  go_wp2
  go_loopw [3, 4] (fun v i wr => ∃ m : Nat, m ≤ 64 ∧ i = .int .i64 (63 - m) ∧ v = .int .i64 (wrap64 (vTop f m : Nat)) ∧ Blk wr w.heap.size 132 (boolArr f) ∧ Below w.heap.size w wr) (fun _ i _ => (1 + intOf i).toNat)
  case atStart =>
    exact ⟨0, by omega, rfl, by simp [vTop, wrap64], heap_alloc_new w _, (Below.refl _ _).alloc (Nat.le_refl _) _⟩
  case round =>
    obtain ⟨m, hm, rfl, rfl, hb, hbel⟩ := hrel
    have hr := wrap64_range (vTop f m : Nat)
    have h0 := vTop_step0 f m
    have h1 := vTop_step1 f m
    generalize hx : wrap64 (vTop f m : Nat) = x at *
    have H1 := Lib.hid (And.intro hb (And.intro h0 h1))
    have H2 := Lib.hid hx
    clear hb h0 h1 hx
    by_cases hlt : m < 64
    · have hc : wr.cell? ⟨w.heap.size, 63 - m, none⟩ = some (.bool (f (63 - m))) := by
        rw [cell_of_row _ _ _ _ _ _ H1.out.1, boolArr_at _ _ (by omega)]
      cases hb : f (63 - m)
      all_goals
        rw [hb] at hc
        have HB := Lib.hid hb
        clear hb
        go_wp2
        go_roundw
        case rel =>
          obtain ⟨hb, h0, h1⟩ := H1.out
          refine ⟨m + 1, by omega, by go_num, ?_, hb, hbel⟩
          first | rw [h0 HB.out] | rw [h1 HB.out]
        case measure => simp [intOf]; omega
    · obtain rfl : m = 64 := by omega
      go_wp2
      go_ret
      exact ⟨by rw [H2.out]; rfl, hbel⟩

/-- What a shift is behind m of its bits. -/
def shTop (b : Int) (m : Nat) : Int := b % 64 / 2 ^ (6 - m)
theorem shTop_step (b : Int) (m : Nat) (h : m < 6) : shTop b (m + 1) = 2 * shTop b m + (if bitZ b (5 - m) then 1 else 0) := by
  unfold shTop bitZ
  have : m = 0 ∨ m = 1 ∨ m = 2 ∨ m = 3 ∨ m = 4 ∨ m = 5 := by omega
  rcases this with rfl | rfl | rfl | rfl | rfl | rfl <;> simp <;> split <;> omega
theorem shTop_range (b : Int) (m : Nat) : 0 ≤ shTop b m ∧ shTop b m ≤ 63 := by
  unfold shTop
  have h0 : 0 ≤ b % 64 := by omega
  have hp : (0 : Int) < 2 ^ (6 - m) := Int.pow_pos (by decide)
  exact ⟨Int.ediv_nonneg h0 (by omega), by have := Int.ediv_le_self (2 ^ (6 - m)) h0; omega⟩
theorem shTop_all (b : Int) : shTop b 6 = b % 64 := by simp [shTop]
theorem shTop_zero (b : Int) : shTop b 0 = 0 := by unfold shTop; simp; omega
end Go.Proofs.YtfhoffpdodjfeaaDoor
namespace Go.Proofs.YtfhoffpdodjfeaaDoor
open Go.RowKit Plain64
set_option maxHeartbeats 400000 in
theorem made_else (op a b imm : Int) (w : World) (h : op < 6 ∨ 10 < op) :
    Calls Tryd.prog 85 #[.int .i64 op, .int .i64 a, .int .i64 b, .int .i64 imm] w fun e w' => e = .returned (.tuple #[.int .i64 (pureV op a b imm), .int .i64 (makeE op b)]) ∧ w = w' := by
  by_cases hb : b = 0
  · have hb0 : (b == 0) = true := by simpa using hb
    have HB := Lib.hid hb
    clear hb
    go_enter Tryd.func85, Tryd.ntmps85
    go_wp2_with (go_at_call 47; refine (In_any _ _ _ _).mono ?_; rintro e w' ⟨rfl, rfl⟩)
    all_goals first
      | (go_ret2; refine ⟨?_, rfl⟩; have hb := HB.out; simp only [Bool.not_eq_true', Bool.not_eq_false', decide_eq_true_eq, decide_eq_false_iff_not, beq_iff_eq, beq_eq_false_iff_ne, ne_eq] at *; congr 3; simp [pureV, makeE, *]; try omega)
      | (exfalso; simp only [Bool.not_eq_true', Bool.not_eq_false', decide_eq_true_eq, decide_eq_false_iff_not, beq_iff_eq, beq_eq_false_iff_ne, ne_eq] at *; omega)
  · have HB := Lib.hid hb
    go_enter Tryd.func85, Tryd.ntmps85
    go_wp2_with (go_at_call 47; refine (In_any _ _ _ _).mono ?_; rintro e w' ⟨rfl, rfl⟩)
    all_goals first
      | (go_ret2; refine ⟨?_, rfl⟩; have hb := HB.out; simp only [Bool.not_eq_true', Bool.not_eq_false', decide_eq_true_eq, decide_eq_false_iff_not, beq_iff_eq, beq_eq_false_iff_ne, ne_eq] at *; congr 3; simp [pureV, makeE, *]; try omega)
      | (exfalso; simp only [Bool.not_eq_true', Bool.not_eq_false', decide_eq_true_eq, decide_eq_false_iff_not, beq_iff_eq, beq_eq_false_iff_ne, ne_eq] at *; omega)

/-- The first k of 64 truths are told. -/
def upTo (g : Nat → Bool) (k : Nat) : Array Value := boolArr fun j => decide (j < k) && g j
theorem upTo_size (g : Nat → Bool) (k : Nat) : (upTo g k).size = 64 := boolArr_size _
theorem upTo_all (g : Nat → Bool) : upTo g 64 = boolArr g := boolArr_congr fun j hj => by simp [hj]
theorem upTo_at (g : Nat → Bool) (k : Nat) (h : k < 64) : (upTo g k)[k]? = some (.bool false) := by rw [upTo, boolArr_at _ _ h]; simp
theorem upTo_succ (g : Nat → Bool) (k : Nat) (h : k < 64) : (upTo g k).setIfInBounds k (.bool (g k)) = upTo g (k + 1) := by
  unfold upTo
  rw [boolArr_set _ _ _ h]
  apply boolArr_congr
  intro j _
  by_cases e : j = k
  · subst e; simp
  · rw [if_neg e]; congr 1; rw [decide_eq_decide]; omega
theorem upTo_skip (g : Nat → Bool) (k : Nat) (h : k < 64) (hg : g k = false) : upTo g k = upTo g (k + 1) := by
  rw [← upTo_succ g k h, hg]
  unfold upTo
  rw [boolArr_set _ _ _ h]
  apply boolArr_congr
  intro j _
  by_cases e : j = k
  · subst e; simp
  · rw [if_neg e]


theorem vTop_congr {f g : Nat → Bool} (h : ∀ j, j < 64 → f j = g j) (m : Nat) (hm : m ≤ 64) : vTop f m = vTop g m := by
  induction m with
  | zero => rfl
  | succ m ih => rw [vTop, vTop, ih (by omega), h _ (by omega)]
theorem upTo_store {w : World} {b : Nat} {g : Nat → Bool} {k : Nat} {x : Bool} (h : Blk w b 132 (upTo g k)) (hk : k < 64) (hx : x = g k) : Blk (w.setCell ⟨b, k, none⟩ (.bool x)) b 132 (upTo g (k + 1)) := by
  subst hx
  have := heap_setCell_same _ _ k _ _ (Value.bool (g k)) h
  rwa [upTo_succ g k hk] at this
theorem upTo_done (g : Nat → Bool) : wrap64 (vTop (fun j => decide (j < 64) && g j) 64 : Nat) = wrap64 (vTop g 64 : Nat) := by
  rw [vTop_congr (f := fun j => decide (j < 64) && g j) (g := g) (fun j hj => by simp [hj]) 64 (Nat.le_refl _)]
end Go.Proofs.YtfhoffpdodjfeaaDoor
namespace Go.Proofs.YtfhoffpdodjfeaaDoor
open Go.RowKit Plain64
set_option maxRecDepth 100000 in
set_option maxHeartbeats 2000000 in
theorem made_6 (a b imm : Int) (w : World) (ha : -9223372036854775808 ≤ a ∧ a ≤ 9223372036854775807) (hb : -9223372036854775808 ≤ b ∧ b ≤ 9223372036854775807) :
    Calls Tryd.prog 85 #[.int .i64 6, .int .i64 a, .int .i64 b, .int .i64 imm] w fun e w' => e = .returned (.tuple #[.int .i64 (wrap64 (vTop (fun j => bitZ a j && bitZ b j) 64 : Nat)), .int .i64 0]) ∧ Below w.heap.size w w' := by
  go_enter Tryd.func85, Tryd.ntmps85
  go_wp2_with (go_at_call 47; refine (In_any _ _ _ _).mono ?_; rintro e w' ⟨rfl, rfl⟩)
  refine (bits_any a _ ha).mono ?_
  rintro e w1 ⟨rfl, hw1⟩
  go_wp2_with (refine wpList_store_row rfl 132 _ _ rfl _ (boolArr (bitZ a)) rfl rfl 132 _ (heap_alloc_new _ _) (boolArr_size33 _) (boolArr_size _).symm (boolArr_one _) ?_)
  rw [World.setRow_alloc_new]
  refine (bits_any b _ hb).mono ?_
  rintro e w2 ⟨rfl, hw2⟩
  go_wp2_with (refine wpList_store_row rfl 132 _ _ rfl _ (boolArr (bitZ b)) rfl rfl 132 _ (heap_alloc_new _ _) (boolArr_size33 _) (boolArr_size _).symm (boolArr_one _) ?_)
  rw [World.setRow_alloc_new]
  obtain ⟨g, hg⟩ : ∃ g : Nat → Bool, g = fun j => bitZ a j && bitZ b j := ⟨_, rfl⟩
  obtain ⟨W3, hW⟩ : ∃ W3, W3 = (w2.alloc (.cells (boolArr (bitZ b)) 132)).alloc (.cells (upTo g 0) 132) := ⟨_, rfl⟩
  refine wp_world (W' := W3) (by rw [hW]; rfl) ?_
  have hle : w.heap.size ≤ w1.heap.size := hw1.size
  have hlt : w1.heap.size < w2.heap.size := by have := hw2.size; simp at this; omega
  have hA : Blk W3 w1.heap.size 132 (boolArr (bitZ a)) := by
    unfold Blk
    rw [hW, Below.heap_alloc _ _ _ (by simp; omega), Below.heap_alloc _ _ _ hlt, hw2.block _ (by simp), heap_alloc_new]
  have hB : Blk W3 w2.heap.size 132 (boolArr (bitZ b)) := by unfold Blk; rw [hW]; exact heap_alloc2_old w2 _ _
  have hO : Blk W3 (w2.heap.size + 1) 132 (upTo g 0) := by unfold Blk; rw [hW]; exact heap_alloc2_new w2 _ _
  have hbel : Below w.heap.size w W3 := by
    have h0 := hw1.size
    have h1 : Below w.heap.size w w2 := (hw1.alloc h0 _).trans (hw2.mono (by simp; omega))
    rw [hW]; exact (h1.alloc (by omega) _).alloc (by simp; omega) _
  clear hW hw1 hw2
  have H := Lib.hid (And.intro hA (And.intro hB hO))
  have HG := Lib.hid hg
  clear hA hB hO hg
  go_loop [13, 14] (fun v i => ∃ m : Nat, m ≤ 6 ∧ i = .int .i64 (5 - m) ∧ v = .int .i64 (shTop b m)) (fun _ i => (1 + intOf i).toNat)
  case atStart => exact ⟨0, by omega, rfl, by rw [shTop_zero]⟩
  case round =>
    obtain ⟨m, hm, rfl, rfl⟩ := hrel
    have hr := shTop_range b m
    have hst := shTop_step b m
    generalize hx : shTop b m = x at *
    by_cases h6 : m < 6
    · have hc : W3.cell? ⟨w2.heap.size, 5 - m, none⟩ = some (.bool (bitZ b (5 - m))) := by
        rw [cell_of_row _ _ _ _ _ _ H.out.2.1, boolArr_at _ _ (by omega)]
      have HS := Lib.hid (hst h6)
      clear hst hx
      cases hbb : bitZ b (5 - m)
      all_goals
        rw [hbb] at hc
        have HB := Lib.hid hbb
        clear hbb
        go_wp2
        go_round
        case rel =>
          refine ⟨m + 1, by omega, by go_num, ?_⟩
          rw [HS.out, HB.out]
          simp
          omega
        case measure => simp [intOf]; omega
    · obtain rfl : m = 6 := by omega
      rw [shTop_all] at hx
      obtain ⟨s, rfl⟩ := Int.eq_ofNat_of_zero_le hr.1
      have HX := Lib.hid hx
      clear hx hst
      go_wp2
      go_loopw [15] (fun i wr => ∃ k : Nat, k ≤ 64 ∧ i = .int .i64 k ∧ Blk wr w1.heap.size 132 (boolArr (bitZ a)) ∧ Blk wr w2.heap.size 132 (boolArr (bitZ b)) ∧ Blk wr (w2.heap.size + 1) 132 (upTo g k) ∧ Below w.heap.size w wr) (fun i _ => 64 - (intOf i).toNat)
      case atStart => exact ⟨0, by omega, rfl, H.out.1, H.out.2.1, H.out.2.2, hbel⟩
      case round =>
        obtain ⟨k, hk, rfl, hA, hB, hO, hbr⟩ := hrel
        have H3 := Lib.hid (And.intro hA (And.intro hB hO))
        clear hA hB hO
        by_cases h64 : k < 64
        · have hca : wr.cell? ⟨w1.heap.size, k, none⟩ = some (.bool (bitZ a k)) := by rw [cell_of_row _ _ _ _ _ _ H3.out.1, boolArr_at _ _ h64]
          have hcb : wr.cell? ⟨w2.heap.size, k, none⟩ = some (.bool (bitZ b k)) := by rw [cell_of_row _ _ _ _ _ _ H3.out.2.1, boolArr_at _ _ h64]
          have hco : wr.cell? ⟨w2.heap.size + 1, k, none⟩ = some (.bool false) := by rw [cell_of_row _ _ _ _ _ _ H3.out.2.2, upTo_at _ _ h64]
          have hfo : wr.frozen? ⟨w2.heap.size + 1, k, none⟩ = false := frozen_of_row _ _ _ _ _ H3.out.2.2
          go_wp2
          all_goals
            go_roundw
            case rel =>
              refine ⟨k + 1, by omega, by go_num, ?_, ?_, ?_, ?_⟩
              · exact (heap_setCell_other _ _ _ _ (by simp; omega)).trans H3.out.1
              · exact (heap_setCell_other _ _ _ _ (by simp)).trans H3.out.2.1
              · exact upTo_store H3.out.2.2 h64 (by rw [HG.out]; simp [*])
              · exact hbr.setCell (by simp; omega) _
            case measure => simp [intOf]; omega
        · obtain rfl : k = 64 := by omega
          go_wp2_with (first | (refine wpList_load_row rfl 132 _ rfl _ rfl 132 (upTo g 64) (0, 0) _ H3.out.2.2 Tryd.underlying132 rfl (boolArr_size33 _) ?_) | (go_at_call 107; refine (ofBits_any _ _).mono ?_; rintro e w' ⟨rfl, hw'⟩))
          go_ret2
          exact ⟨ret_two (by rw [← HG.out]; exact upTo_done g) rfl, hbr.trans (hw'.mono hbr.size)⟩
set_option maxRecDepth 100000 in
set_option maxHeartbeats 2000000 in
theorem made_7 (a b imm : Int) (w : World) (ha : -9223372036854775808 ≤ a ∧ a ≤ 9223372036854775807) (hb : -9223372036854775808 ≤ b ∧ b ≤ 9223372036854775807) :
    Calls Tryd.prog 85 #[.int .i64 7, .int .i64 a, .int .i64 b, .int .i64 imm] w fun e w' => e = .returned (.tuple #[.int .i64 (wrap64 (vTop (fun j => bitZ a j || bitZ b j) 64 : Nat)), .int .i64 0]) ∧ Below w.heap.size w w' := by
  go_enter Tryd.func85, Tryd.ntmps85
  go_wp2_with (go_at_call 47; refine (In_any _ _ _ _).mono ?_; rintro e w' ⟨rfl, rfl⟩)
  refine (bits_any a _ ha).mono ?_
  rintro e w1 ⟨rfl, hw1⟩
  go_wp2_with (refine wpList_store_row rfl 132 _ _ rfl _ (boolArr (bitZ a)) rfl rfl 132 _ (heap_alloc_new _ _) (boolArr_size33 _) (boolArr_size _).symm (boolArr_one _) ?_)
  rw [World.setRow_alloc_new]
  refine (bits_any b _ hb).mono ?_
  rintro e w2 ⟨rfl, hw2⟩
  go_wp2_with (refine wpList_store_row rfl 132 _ _ rfl _ (boolArr (bitZ b)) rfl rfl 132 _ (heap_alloc_new _ _) (boolArr_size33 _) (boolArr_size _).symm (boolArr_one _) ?_)
  rw [World.setRow_alloc_new]
  obtain ⟨g, hg⟩ : ∃ g : Nat → Bool, g = fun j => bitZ a j || bitZ b j := ⟨_, rfl⟩
  obtain ⟨W3, hW⟩ : ∃ W3, W3 = (w2.alloc (.cells (boolArr (bitZ b)) 132)).alloc (.cells (upTo g 0) 132) := ⟨_, rfl⟩
  refine wp_world (W' := W3) (by rw [hW]; rfl) ?_
  have hle : w.heap.size ≤ w1.heap.size := hw1.size
  have hlt : w1.heap.size < w2.heap.size := by have := hw2.size; simp at this; omega
  have hA : Blk W3 w1.heap.size 132 (boolArr (bitZ a)) := by
    unfold Blk
    rw [hW, Below.heap_alloc _ _ _ (by simp; omega), Below.heap_alloc _ _ _ hlt, hw2.block _ (by simp), heap_alloc_new]
  have hB : Blk W3 w2.heap.size 132 (boolArr (bitZ b)) := by unfold Blk; rw [hW]; exact heap_alloc2_old w2 _ _
  have hO : Blk W3 (w2.heap.size + 1) 132 (upTo g 0) := by unfold Blk; rw [hW]; exact heap_alloc2_new w2 _ _
  have hbel : Below w.heap.size w W3 := by
    have h0 := hw1.size
    have h1 : Below w.heap.size w w2 := (hw1.alloc h0 _).trans (hw2.mono (by simp; omega))
    rw [hW]; exact (h1.alloc (by omega) _).alloc (by simp; omega) _
  clear hW hw1 hw2
  have H := Lib.hid (And.intro hA (And.intro hB hO))
  have HG := Lib.hid hg
  clear hA hB hO hg
  go_loop [13, 14] (fun v i => ∃ m : Nat, m ≤ 6 ∧ i = .int .i64 (5 - m) ∧ v = .int .i64 (shTop b m)) (fun _ i => (1 + intOf i).toNat)
  case atStart => exact ⟨0, by omega, rfl, by rw [shTop_zero]⟩
  case round =>
    obtain ⟨m, hm, rfl, rfl⟩ := hrel
    have hr := shTop_range b m
    have hst := shTop_step b m
    generalize hx : shTop b m = x at *
    by_cases h6 : m < 6
    · have hc : W3.cell? ⟨w2.heap.size, 5 - m, none⟩ = some (.bool (bitZ b (5 - m))) := by
        rw [cell_of_row _ _ _ _ _ _ H.out.2.1, boolArr_at _ _ (by omega)]
      have HS := Lib.hid (hst h6)
      clear hst hx
      cases hbb : bitZ b (5 - m)
      all_goals
        rw [hbb] at hc
        have HB := Lib.hid hbb
        clear hbb
        go_wp2
        go_round
        case rel =>
          refine ⟨m + 1, by omega, by go_num, ?_⟩
          rw [HS.out, HB.out]
          simp
          omega
        case measure => simp [intOf]; omega
    · obtain rfl : m = 6 := by omega
      rw [shTop_all] at hx
      obtain ⟨s, rfl⟩ := Int.eq_ofNat_of_zero_le hr.1
      have HX := Lib.hid hx
      clear hx hst
      go_wp2
      go_loopw [15] (fun i wr => ∃ k : Nat, k ≤ 64 ∧ i = .int .i64 k ∧ Blk wr w1.heap.size 132 (boolArr (bitZ a)) ∧ Blk wr w2.heap.size 132 (boolArr (bitZ b)) ∧ Blk wr (w2.heap.size + 1) 132 (upTo g k) ∧ Below w.heap.size w wr) (fun i _ => 64 - (intOf i).toNat)
      case atStart => exact ⟨0, by omega, rfl, H.out.1, H.out.2.1, H.out.2.2, hbel⟩
      case round =>
        obtain ⟨k, hk, rfl, hA, hB, hO, hbr⟩ := hrel
        have H3 := Lib.hid (And.intro hA (And.intro hB hO))
        clear hA hB hO
        by_cases h64 : k < 64
        · have hca : wr.cell? ⟨w1.heap.size, k, none⟩ = some (.bool (bitZ a k)) := by rw [cell_of_row _ _ _ _ _ _ H3.out.1, boolArr_at _ _ h64]
          have hcb : wr.cell? ⟨w2.heap.size, k, none⟩ = some (.bool (bitZ b k)) := by rw [cell_of_row _ _ _ _ _ _ H3.out.2.1, boolArr_at _ _ h64]
          have hco : wr.cell? ⟨w2.heap.size + 1, k, none⟩ = some (.bool false) := by rw [cell_of_row _ _ _ _ _ _ H3.out.2.2, upTo_at _ _ h64]
          have hfo : wr.frozen? ⟨w2.heap.size + 1, k, none⟩ = false := frozen_of_row _ _ _ _ _ H3.out.2.2
          go_wp2
          all_goals
            go_roundw
            case rel =>
              refine ⟨k + 1, by omega, by go_num, ?_, ?_, ?_, ?_⟩
              · exact (heap_setCell_other _ _ _ _ (by simp; omega)).trans H3.out.1
              · exact (heap_setCell_other _ _ _ _ (by simp)).trans H3.out.2.1
              · exact upTo_store H3.out.2.2 h64 (by rw [HG.out]; simp [*])
              · exact hbr.setCell (by simp; omega) _
            case measure => simp [intOf]; omega
        · obtain rfl : k = 64 := by omega
          go_wp2_with (first | (refine wpList_load_row rfl 132 _ rfl _ rfl 132 (upTo g 64) (0, 0) _ H3.out.2.2 Tryd.underlying132 rfl (boolArr_size33 _) ?_) | (go_at_call 107; refine (ofBits_any _ _).mono ?_; rintro e w' ⟨rfl, hw'⟩))
          go_ret2
          exact ⟨ret_two (by rw [← HG.out]; exact upTo_done g) rfl, hbr.trans (hw'.mono hbr.size)⟩
set_option maxRecDepth 100000 in
set_option maxHeartbeats 2000000 in
theorem made_8 (a b imm : Int) (w : World) (ha : -9223372036854775808 ≤ a ∧ a ≤ 9223372036854775807) (hb : -9223372036854775808 ≤ b ∧ b ≤ 9223372036854775807) :
    Calls Tryd.prog 85 #[.int .i64 8, .int .i64 a, .int .i64 b, .int .i64 imm] w fun e w' => e = .returned (.tuple #[.int .i64 (wrap64 (vTop (fun j => bitZ a j != bitZ b j) 64 : Nat)), .int .i64 0]) ∧ Below w.heap.size w w' := by
  go_enter Tryd.func85, Tryd.ntmps85
  go_wp2_with (go_at_call 47; refine (In_any _ _ _ _).mono ?_; rintro e w' ⟨rfl, rfl⟩)
  refine (bits_any a _ ha).mono ?_
  rintro e w1 ⟨rfl, hw1⟩
  go_wp2_with (refine wpList_store_row rfl 132 _ _ rfl _ (boolArr (bitZ a)) rfl rfl 132 _ (heap_alloc_new _ _) (boolArr_size33 _) (boolArr_size _).symm (boolArr_one _) ?_)
  rw [World.setRow_alloc_new]
  refine (bits_any b _ hb).mono ?_
  rintro e w2 ⟨rfl, hw2⟩
  go_wp2_with (refine wpList_store_row rfl 132 _ _ rfl _ (boolArr (bitZ b)) rfl rfl 132 _ (heap_alloc_new _ _) (boolArr_size33 _) (boolArr_size _).symm (boolArr_one _) ?_)
  rw [World.setRow_alloc_new]
  obtain ⟨g, hg⟩ : ∃ g : Nat → Bool, g = fun j => bitZ a j != bitZ b j := ⟨_, rfl⟩
  obtain ⟨W3, hW⟩ : ∃ W3, W3 = (w2.alloc (.cells (boolArr (bitZ b)) 132)).alloc (.cells (upTo g 0) 132) := ⟨_, rfl⟩
  refine wp_world (W' := W3) (by rw [hW]; rfl) ?_
  have hle : w.heap.size ≤ w1.heap.size := hw1.size
  have hlt : w1.heap.size < w2.heap.size := by have := hw2.size; simp at this; omega
  have hA : Blk W3 w1.heap.size 132 (boolArr (bitZ a)) := by
    unfold Blk
    rw [hW, Below.heap_alloc _ _ _ (by simp; omega), Below.heap_alloc _ _ _ hlt, hw2.block _ (by simp), heap_alloc_new]
  have hB : Blk W3 w2.heap.size 132 (boolArr (bitZ b)) := by unfold Blk; rw [hW]; exact heap_alloc2_old w2 _ _
  have hO : Blk W3 (w2.heap.size + 1) 132 (upTo g 0) := by unfold Blk; rw [hW]; exact heap_alloc2_new w2 _ _
  have hbel : Below w.heap.size w W3 := by
    have h0 := hw1.size
    have h1 : Below w.heap.size w w2 := (hw1.alloc h0 _).trans (hw2.mono (by simp; omega))
    rw [hW]; exact (h1.alloc (by omega) _).alloc (by simp; omega) _
  clear hW hw1 hw2
  have H := Lib.hid (And.intro hA (And.intro hB hO))
  have HG := Lib.hid hg
  clear hA hB hO hg
  go_loop [13, 14] (fun v i => ∃ m : Nat, m ≤ 6 ∧ i = .int .i64 (5 - m) ∧ v = .int .i64 (shTop b m)) (fun _ i => (1 + intOf i).toNat)
  case atStart => exact ⟨0, by omega, rfl, by rw [shTop_zero]⟩
  case round =>
    obtain ⟨m, hm, rfl, rfl⟩ := hrel
    have hr := shTop_range b m
    have hst := shTop_step b m
    generalize hx : shTop b m = x at *
    by_cases h6 : m < 6
    · have hc : W3.cell? ⟨w2.heap.size, 5 - m, none⟩ = some (.bool (bitZ b (5 - m))) := by
        rw [cell_of_row _ _ _ _ _ _ H.out.2.1, boolArr_at _ _ (by omega)]
      have HS := Lib.hid (hst h6)
      clear hst hx
      cases hbb : bitZ b (5 - m)
      all_goals
        rw [hbb] at hc
        have HB := Lib.hid hbb
        clear hbb
        go_wp2
        go_round
        case rel =>
          refine ⟨m + 1, by omega, by go_num, ?_⟩
          rw [HS.out, HB.out]
          simp
          omega
        case measure => simp [intOf]; omega
    · obtain rfl : m = 6 := by omega
      rw [shTop_all] at hx
      obtain ⟨s, rfl⟩ := Int.eq_ofNat_of_zero_le hr.1
      have HX := Lib.hid hx
      clear hx hst
      go_wp2
      go_loopw [15] (fun i wr => ∃ k : Nat, k ≤ 64 ∧ i = .int .i64 k ∧ Blk wr w1.heap.size 132 (boolArr (bitZ a)) ∧ Blk wr w2.heap.size 132 (boolArr (bitZ b)) ∧ Blk wr (w2.heap.size + 1) 132 (upTo g k) ∧ Below w.heap.size w wr) (fun i _ => 64 - (intOf i).toNat)
      case atStart => exact ⟨0, by omega, rfl, H.out.1, H.out.2.1, H.out.2.2, hbel⟩
      case round =>
        obtain ⟨k, hk, rfl, hA, hB, hO, hbr⟩ := hrel
        have H3 := Lib.hid (And.intro hA (And.intro hB hO))
        clear hA hB hO
        by_cases h64 : k < 64
        · have hca : wr.cell? ⟨w1.heap.size, k, none⟩ = some (.bool (bitZ a k)) := by rw [cell_of_row _ _ _ _ _ _ H3.out.1, boolArr_at _ _ h64]
          have hcb : wr.cell? ⟨w2.heap.size, k, none⟩ = some (.bool (bitZ b k)) := by rw [cell_of_row _ _ _ _ _ _ H3.out.2.1, boolArr_at _ _ h64]
          have hco : wr.cell? ⟨w2.heap.size + 1, k, none⟩ = some (.bool false) := by rw [cell_of_row _ _ _ _ _ _ H3.out.2.2, upTo_at _ _ h64]
          have hfo : wr.frozen? ⟨w2.heap.size + 1, k, none⟩ = false := frozen_of_row _ _ _ _ _ H3.out.2.2
          go_wp2
          go_region
          all_goals go_wp2
          all_goals
            go_roundw
            case rel =>
              refine ⟨k + 1, by omega, by go_num, ?_, ?_, ?_, ?_⟩
              · exact (heap_setCell_other _ _ _ _ (by simp; omega)).trans H3.out.1
              · exact (heap_setCell_other _ _ _ _ (by simp)).trans H3.out.2.1
              · exact upTo_store H3.out.2.2 h64 (by rw [HG.out]; show _ = (bitZ a k != bitZ b k); cases bitZ a k <;> cases bitZ b k <;> rfl)
              · exact (hbr.setCell (p := ⟨w2.heap.size + 1, k, none⟩) (by simp; omega) _).drew
            case measure => simp [intOf]; omega
        · obtain rfl : k = 64 := by omega
          go_wp2_with (first | (refine wpList_load_row rfl 132 _ rfl _ rfl 132 (upTo g 64) (0, 0) _ H3.out.2.2 Tryd.underlying132 rfl (boolArr_size33 _) ?_) | (go_at_call 107; refine (ofBits_any _ _).mono ?_; rintro e w' ⟨rfl, hw'⟩))
          go_ret2
          exact ⟨ret_two (by rw [← HG.out]; exact upTo_done g) rfl, hbr.trans (hw'.mono hbr.size)⟩
end Go.Proofs.YtfhoffpdodjfeaaDoor
