/- States: their cells; rows of flat elements. No program is named here. tierlineref.ofBits. tierlineref.Made: the ways that need no bits; words for the others. -/
import Derived.Test.YtfhoffpdodjfeaaDoorHpRow
import Derived.Test.YtfhoffpdodjfeaaDoorReadsOf
import Derived.Test.YtfhoffpdodjfeaaDoorMgValidPureLaw2
import Derived.Test.YtfhoffpdodjfeaaDoorMgBitsBitsZ2
import Derived.Test.YtfhoffpdodjfeaaDoorCodeA
set_option linter.unusedSimpArgs false
set_option linter.unusedVariables false
namespace Go.Proofs.YtfhoffpdodjfeaaDoor
open Go.RowKit
/-- A register of a frame. -/
def Frm.rg (x : Frm) (i : Nat) : Int := x.regs.toList.getD i 0
/-- A word of a state's memory. -/
def Sta.mm (x : Sta) (i : Nat) : Int := x.memory.toList.getD i 0
abbrev iV (n : Int) : Value := .int .i64 n
def frmCells (x : Frm) : List Value := [iV x.fn, iV x.pc, iV (x.rg 0), iV (x.rg 1), iV (x.rg 2), iV (x.rg 3), iV (x.rg 4), iV (x.rg 5), iV (x.rg 6), iV (x.rg 7), iV (x.rg 8), iV (x.rg 9), iV (x.rg 10), iV (x.rg 11)]
theorem vec12 (v : Vector Int 12) : v.toList = [v.toList.getD 0 0, v.toList.getD 1 0, v.toList.getD 2 0, v.toList.getD 3 0, v.toList.getD 4 0, v.toList.getD 5 0, v.toList.getD 6 0, v.toList.getD 7 0, v.toList.getD 8 0, v.toList.getD 9 0, v.toList.getD 10 0, v.toList.getD 11 0] := by
  have hl : v.toList.length = 12 := by simp
  generalize v.toList = l at *
  match l, hl with
  | [a0, a1, a2, a3, a4, a5, a6, a7, a8, a9, a10, a11], _ => rfl
theorem vec16 (v : Vector Int 16) : v.toList = [v.toList.getD 0 0, v.toList.getD 1 0, v.toList.getD 2 0, v.toList.getD 3 0, v.toList.getD 4 0, v.toList.getD 5 0, v.toList.getD 6 0, v.toList.getD 7 0, v.toList.getD 8 0, v.toList.getD 9 0, v.toList.getD 10 0, v.toList.getD 11 0, v.toList.getD 12 0, v.toList.getD 13 0, v.toList.getD 14 0, v.toList.getD 15 0] := by
  have hl : v.toList.length = 16 := by simp
  generalize v.toList = l at *
  match l, hl with
  | [a0, a1, a2, a3, a4, a5, a6, a7, a8, a9, a10, a11, a12, a13, a14, a15], _ => rfl
section
variable {w w' : World} {B : Nat → Prop} {cs : List Value}
theorem rep_frm' {x : Frm} : Lay.rep w B x cs ↔ cs = frmCells x := by
  rw [rep_frm, vec12]; rfl
def staCells (x : Sta) (u e a : Value) : List Value := [iV x.status, iV x.value, u, iV (x.mm 0), iV (x.mm 1), iV (x.mm 2), iV (x.mm 3), iV (x.mm 4), iV (x.mm 5), iV (x.mm 6), iV (x.mm 7), iV (x.mm 8), iV (x.mm 9), iV (x.mm 10), iV (x.mm 11), iV (x.mm 12), iV (x.mm 13), iV (x.mm 14), iV (x.mm 15), iV x.fuel, e, a]
theorem rep_sta {x : Sta} : Lay.rep w B x cs ↔ ∃ u e a, cs = staCells x u e a ∧ Lay.rep w B x.frames [u] ∧ Lay.rep w B x.events [e] ∧ Lay.rep w B x.answers [a] := by
  constructor
  · rintro ⟨_, _, rfl, rfl, _, _, rfl, rfl, c1, d1, rfl, hf, c2, d2, rfl, hm, _, _, rfl, rfl, c3, d3, rfl, he, ha⟩
    rw [rep_vec_int, vec16] at hm
    subst hm
    obtain ⟨A1, n1, rfl, h1⟩ := hf
    obtain ⟨A2, n2, rfl, h2⟩ := he
    obtain ⟨A3, n3, rfl, h3⟩ := ha
    exact ⟨_, _, _, rfl, ⟨A1, n1, rfl, h1⟩, ⟨A2, n2, rfl, h2⟩, ⟨A3, n3, rfl, h3⟩⟩
  · rintro ⟨u, e, a, rfl, hf, he, ha⟩
    exact ⟨_, _, rfl, rfl, _, _, rfl, rfl, [u], _, rfl, hf, _, _, rfl, rep_vec_int.2 (by rw [vec16]), _, _, rfl, rfl, [e], _, rfl, he, ha⟩
/-- An element of a slice of frames. -/
theorem rep_frames_at {xs : List Frm} {v : Value} (h : Lay.rep w B xs [v]) : ∃ (A : Option Addr) (c : Nat), v = .slice A xs.length c ∧ xs.length ≤ c ∧ c ≤ maxLen ∧
    ∀ (k : Nat) (hk : k < xs.length), ∃ (a : Addr), A = some a ∧ B a.block ∧ At w (a.add (k * 14)) (frmCells xs[k]) := by
  obtain ⟨A, c, e, h1, h2, h3⟩ := rep_list h
  injection e with e
  refine ⟨A, c, e, h1, h2, fun k hk => ?_⟩
  obtain ⟨a, ds, ha, hb, hat, hr⟩ := h3 k hk
  rw [rep_frm'] at hr
  subst hr
  exact ⟨a, ha, hb, hat⟩
theorem flat_at {α : Type} (enc : α → List Value) (sz : Nat) (henc : ∀ x, (enc x).length = sz) (xs : List α) (k : Nat) (x : α) (hx : xs[k]? = some x) (j : Nat) (v : Value) (hv : (enc x)[j]? = some v) : (xs.flatMap enc)[k * sz + j]? = some v := by
  induction xs generalizing k with
  | nil => simp at hx
  | cons y ys ih =>
    rw [List.flatMap_cons]
    cases k with
    | zero =>
      simp at hx; subst hx
      rw [Nat.zero_mul, Nat.zero_add, List.getElem?_append_left (List.getElem?_eq_some_iff.1 hv).1]; exact hv
    | succ k =>
      have := ih k (by simpa using hx)
      rw [List.getElem?_append_right (by rw [henc, Nat.succ_mul]; omega), henc, show (k + 1) * sz + j - sz = k * sz + j by rw [Nat.succ_mul]; omega]
      exact this
theorem flat_len {α : Type} (enc : α → List Value) (sz : Nat) (henc : ∀ x, (enc x).length = sz) (xs : List α) : (xs.flatMap enc).length = xs.length * sz := by
  induction xs with
  | nil => simp
  | cons y ys ih => rw [List.flatMap_cons, List.length_append, henc, ih, List.length_cons, Nat.succ_mul]; omega
/-- A row of flat elements reads as these. -/
theorem Hp.rowFlat {α : Type} [Lay α] (enc : α → List Value) (sz : Nat) (hsz : Lay.size α = sz) (hpos : 0 < sz) (henc : ∀ x, (enc x).length = sz) (hrep : ∀ (w : World) (S : Nat → Prop) (x : α), Lay.rep w S x (enc x))
    {w0 w : World} {Fs : List Fro} {L : List Res} {v : Value} {e : TypeId} {n : Nat} {cs : List Value} {xs : List α} (h : Hp w0 Fs L w) (hm : Res.row v e sz n cs ∈ L) (hx : cs = xs.flatMap enc) : Lay.rep w (Fresh w0 w) xs [v] := by
  subst hx
  have ho := h.row hm
  have hf := (h.own _ hm).2
  have hl : xs.length = n := by
    have := ho.1
    rw [flat_len enc sz henc] at this
    exact Nat.eq_of_mul_eq_mul_right hpos this
  rcases ho.2 with ⟨rfl, hn⟩ | ⟨g, cap, cur, rfl, hb, hg, hle, hmx, hs, ht⟩
  · subst hn
    have : xs = [] := by cases xs; rfl; simp at hl
    subst this
    exact ⟨none, 0, rfl, Nat.le_refl _, by unfold maxLen; omega, fun k x h => by simp at h⟩
  · subst hl
    refine ⟨_, _, rfl, hle, hmx, fun k x hx => ⟨_, enc x, rfl, ⟨(hf g rfl).1, (hf g rfl).2.1⟩, fun j u hu => ?_, hrep _ _ x⟩⟩
    have := ho.cells (g := g) rfl (k * sz + j) u (flat_at enc sz henc xs k x hx j u hu)
    rw [add_of_add, hsz]
    exact this
theorem Hp.rowFrames {w0 w : World} {Fs : List Fro} {L : List Res} {v : Value} {e : TypeId} {n : Nat} {cs : List Value} {xs : List Frm} (h : Hp w0 Fs L w) (hm : Res.row v e 14 n cs ∈ L) (hx : cs = xs.flatMap frmCells) : Lay.rep w (Fresh w0 w) xs [v] :=
  h.rowFlat frmCells 14 rfl (by decide) (fun _ => rfl) (fun _ _ _ => rep_frm'.2 rfl) hm hx
end
end Go.Proofs.YtfhoffpdodjfeaaDoor
namespace Go.Proofs.YtfhoffpdodjfeaaDoor
open Go.RowKit Plain64
theorem vTop_step0 (f : Nat → Bool) (m : Nat) (h : f (63 - m) = false) : wrap64 (wrap64 (vTop f m : Nat) + wrap64 (vTop f m : Nat)) = wrap64 (vTop f (m + 1) : Nat) := by
  rw [vTop, h]; unfold wrap64; simp; omega
theorem vTop_step1 (f : Nat → Bool) (m : Nat) (h : f (63 - m) = true) : wrap64 (wrap64 (wrap64 (vTop f m : Nat) + wrap64 (vTop f m : Nat)) + 1) = wrap64 (vTop f (m + 1) : Nat) := by
  rw [vTop, h]; unfold wrap64; simp; omega
set_option maxRecDepth 100000 in
set_option maxHeartbeats 800000 in
theorem ofBits_any (f : Nat → Bool) (w : World) :
    Calls Tryd.prog 107 #[.agg (boolArr f)] w fun e w' => e = .returned (.int .i64 (wrap64 (vTop f 64 : Nat))) ∧ Below w.heap.size w w' := by
  go_enter Tryd.func107, Tryd.ntmps107
  go_wp2
  go_loopw [3, 4] (fun v i wr => ∃ m : Nat, m ≤ 64 ∧ i = .int .i64 (63 - m) ∧ v = .int .i64 (wrap64 (vTop f m : Nat)) ∧ Blk wr w.heap.size 132 (boolArr f) ∧ Below w.heap.size w wr) (fun _ i _ => (1 + intOf i).toNat)
  case atStart =>
    exact ⟨0, by omega, rfl, by simp [vTop, wrap64], heap_alloc_new w _, (Below.refl _ _).alloc (Nat.le_refl _) _⟩
  case round =>
    obtain ⟨m, hm, rfl, rfl, hb, hbel⟩ := hrel
    have hr := wrap64_range (vTop f m : Nat)
    have h0 := vTop_step0 f m
    have h1 := vTop_step1 f m
    generalize hx : wrap64 (vTop f m : Nat) = x at *
    have H1 := Lib.hid (And.intro hb (And.intro h0 h1))
    have H2 := Lib.hid hx
    clear hb h0 h1 hx
    by_cases hlt : m < 64
    · have hc : wr.cell? ⟨w.heap.size, 63 - m, none⟩ = some (.bool (f (63 - m))) := by
        rw [cell_of_row _ _ _ _ _ _ H1.out.1, boolArr_at _ _ (by omega)]
      cases hb : f (63 - m)
      all_goals
        rw [hb] at hc
        have HB := Lib.hid hb
        clear hb
        go_wp2
        go_roundw
        case rel =>
          obtain ⟨hb, h0, h1⟩ := H1.out
          refine ⟨m + 1, by omega, by go_num, ?_, hb, hbel⟩
          first | rw [h0 HB.out] | rw [h1 HB.out]
        case measure => simp [intOf]; omega
    · obtain rfl : m = 64 := by omega
      go_wp2
      go_ret
      exact ⟨by rw [H2.out]; rfl, hbel⟩

/-- What a shift is behind m of its bits. -/
def shTop (b : Int) (m : Nat) : Int := b % 64 / 2 ^ (6 - m)
theorem shTop_step (b : Int) (m : Nat) (h : m < 6) : shTop b (m + 1) = 2 * shTop b m + (if bitZ b (5 - m) then 1 else 0) := by
  unfold shTop bitZ
  have : m = 0 ∨ m = 1 ∨ m = 2 ∨ m = 3 ∨ m = 4 ∨ m = 5 := by omega
  rcases this with rfl | rfl | rfl | rfl | rfl | rfl <;> simp <;> split <;> omega
theorem shTop_range (b : Int) (m : Nat) : 0 ≤ shTop b m ∧ shTop b m ≤ 63 := by
  unfold shTop
  have h0 : 0 ≤ b % 64 := by omega
  have hp : (0 : Int) < 2 ^ (6 - m) := Int.pow_pos (by decide)
  exact ⟨Int.ediv_nonneg h0 (by omega), by have := Int.ediv_le_self (2 ^ (6 - m)) h0; omega⟩
theorem shTop_all (b : Int) : shTop b 6 = b % 64 := by simp [shTop]
theorem shTop_zero (b : Int) : shTop b 0 = 0 := by unfold shTop; simp; omega
end Go.Proofs.YtfhoffpdodjfeaaDoor
namespace Go.Proofs.YtfhoffpdodjfeaaDoor
open Go.RowKit Plain64
set_option maxHeartbeats 400000 in
theorem made_else (op a b imm : Int) (w : World) (h : op < 6 ∨ 10 < op) :
    Calls Tryd.prog 85 #[.int .i64 op, .int .i64 a, .int .i64 b, .int .i64 imm] w fun e w' => e = .returned (.tuple #[.int .i64 (pureV op a b imm), .int .i64 (makeE op b)]) ∧ w = w' := by
  by_cases hb : b = 0
  · have hb0 : (b == 0) = true := by simpa using hb
    have HB := Lib.hid hb
    clear hb
    go_enter Tryd.func85, Tryd.ntmps85
    go_wp2_with (go_at_call 47; refine (In_any _ _ _ _).mono ?_; rintro e w' ⟨rfl, rfl⟩)
    all_goals first
      | (go_ret2; refine ⟨?_, rfl⟩; have hb := HB.out; simp only [Bool.not_eq_true', Bool.not_eq_false', decide_eq_true_eq, decide_eq_false_iff_not, beq_iff_eq, beq_eq_false_iff_ne, ne_eq] at *; congr 3; simp [pureV, makeE, *]; try omega)
      | (exfalso; simp only [Bool.not_eq_true', Bool.not_eq_false', decide_eq_true_eq, decide_eq_false_iff_not, beq_iff_eq, beq_eq_false_iff_ne, ne_eq] at *; omega)
  · have HB := Lib.hid hb
    go_enter Tryd.func85, Tryd.ntmps85
    go_wp2_with (go_at_call 47; refine (In_any _ _ _ _).mono ?_; rintro e w' ⟨rfl, rfl⟩)
    all_goals first
      | (go_ret2; refine ⟨?_, rfl⟩; have hb := HB.out; simp only [Bool.not_eq_true', Bool.not_eq_false', decide_eq_true_eq, decide_eq_false_iff_not, beq_iff_eq, beq_eq_false_iff_ne, ne_eq] at *; congr 3; simp [pureV, makeE, *]; try omega)
      | (exfalso; simp only [Bool.not_eq_true', Bool.not_eq_false', decide_eq_true_eq, decide_eq_false_iff_not, beq_iff_eq, beq_eq_false_iff_ne, ne_eq] at *; omega)

/-- The first k of 64 truths are told. -/
def upTo (g : Nat → Bool) (k : Nat) : Array Value := boolArr fun j => decide (j < k) && g j
theorem upTo_size (g : Nat → Bool) (k : Nat) : (upTo g k).size = 64 := boolArr_size _
theorem upTo_all (g : Nat → Bool) : upTo g 64 = boolArr g := boolArr_congr fun j hj => by simp [hj]
theorem upTo_at (g : Nat → Bool) (k : Nat) (h : k < 64) : (upTo g k)[k]? = some (.bool false) := by rw [upTo, boolArr_at _ _ h]; simp
theorem upTo_succ (g : Nat → Bool) (k : Nat) (h : k < 64) : (upTo g k).setIfInBounds k (.bool (g k)) = upTo g (k + 1) := by
  unfold upTo
  rw [boolArr_set _ _ _ h]
  apply boolArr_congr
  intro j _
  by_cases e : j = k
  · subst e; simp
  · rw [if_neg e]; congr 1; rw [decide_eq_decide]; omega
theorem upTo_skip (g : Nat → Bool) (k : Nat) (h : k < 64) (hg : g k = false) : upTo g k = upTo g (k + 1) := by
  rw [← upTo_succ g k h, hg]
  unfold upTo
  rw [boolArr_set _ _ _ h]
  apply boolArr_congr
  intro j _
  by_cases e : j = k
  · subst e; simp
  · rw [if_neg e]


theorem vTop_congr {f g : Nat → Bool} (h : ∀ j, j < 64 → f j = g j) (m : Nat) (hm : m ≤ 64) : vTop f m = vTop g m := by
  induction m with
  | zero => rfl
  | succ m ih => rw [vTop, vTop, ih (by omega), h _ (by omega)]
theorem upTo_store {w : World} {b : Nat} {g : Nat → Bool} {k : Nat} {x : Bool} (h : Blk w b 132 (upTo g k)) (hk : k < 64) (hx : x = g k) : Blk (w.setCell ⟨b, k, none⟩ (.bool x)) b 132 (upTo g (k + 1)) := by
  subst hx
  have := heap_setCell_same _ _ k _ _ (Value.bool (g k)) h
  rwa [upTo_succ g k hk] at this
theorem upTo_done (g : Nat → Bool) : wrap64 (vTop (fun j => decide (j < 64) && g j) 64 : Nat) = wrap64 (vTop g 64 : Nat) := by
  rw [vTop_congr (f := fun j => decide (j < 64) && g j) (g := g) (fun j hj => by simp [hj]) 64 (Nat.le_refl _)]
end Go.Proofs.YtfhoffpdodjfeaaDoor
