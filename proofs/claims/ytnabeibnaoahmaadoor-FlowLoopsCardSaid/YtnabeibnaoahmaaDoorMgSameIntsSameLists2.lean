/- The law's sameInts. The law's sameLists, of lists that are the same. -/
import Derived.Test.YtnabeibnaoahmaaDoorMgPrNestNestBFind4
import Derived.Test.YtnabeibnaoahmaaDoorMgCodeACodeB2
import Derived.Test.YtnabeibnaoahmaaDoorStill
import Derived.Test.YtnabeibnaoahmaaDoorHpRow
set_option linter.unusedSimpArgs false
set_option linter.unusedVariables false
namespace Go.Proofs.YtnabeibnaoahmaaDoor
open Go.RowKit
attribute [local irreducible] wpList Code.wp Oper.wp
set_option maxRecDepth 10000 in
set_option maxHeartbeats 1000000 in
theorem sameInts_any (xs ys : List Int) (u v : Value) (w : World) (hx : Lay.rep w (Lt w.heap.size) xs [u]) (hy : Lay.rep w (Lt w.heap.size) ys [v]) :
    Calls Tryd.prog 11 #[u, v] w fun e w' => e = .returned (.bool (decide (xs = ys))) ∧ Below w.heap.size w w' := by
  obtain ⟨A, c, rfl, hc, hm, hx⟩ := rep_ints_at hx
  obtain ⟨B, d, rfl, hd, hn, hy⟩ := rep_ints_at hy
  unfold maxLen at hm hn
  have HX := Lib.hid hx
  have HY := Lib.hid hy
  clear hx hy
  by_cases hl : xs.length = ys.length
  · have HL := Lib.hid hl
    have hlb : ((xs.length : Int) != (ys.length : Int)) = false := by simp; omega
    clear hl
    go_enter Tryd.func11, Tryd.ntmps11
    go_wp2
    go_loopw [5] (fun i wr => ∃ (k n : Nat), k ≤ xs.length ∧ i = .int .i64 k ∧ Hid (xs.take k = ys.take k) ∧ wr = w.drewN n) (fun i _ => xs.length - (intOf i).toNat)
    case atStart => exact ⟨0, 0, by omega, rfl, Lib.hid (by simp), rfl⟩
    case round =>
      obtain ⟨k, n, hk, rfl, HT, rfl⟩ := hrel
      by_cases hlt : k < xs.length
      · have hlt2 : (k : Int) < (xs.length : Int) := by omega
        have hly : k < ys.length := by rw [← HL.out]; exact hlt
        have hly2 : (k : Int) < (ys.length : Int) := by omega
        obtain ⟨a, rfl, hab, hca⟩ := HX.out k hlt
        obtain ⟨b, rfl, hbb, hcb⟩ := HY.out k hly
        obtain ⟨x, hx⟩ : ∃ x, xs[k] = x := ⟨_, rfl⟩
        obtain ⟨y, hy⟩ : ∃ y, ys[k] = y := ⟨_, rfl⟩
        rw [hx] at hca
        rw [hy] at hcb
        have HXK := Lib.hid (show xs[k]? = some x by rw [← hx, List.getElem?_eq_getElem hlt])
        have HYK := Lib.hid (show ys[k]? = some y by rw [← hy, List.getElem?_eq_getElem hly])
        clear hx hy
        go_upto_region 6 with fail
        go_quiet (fail)
        by_cases hxy : x = y
        · have HXY := Lib.hid hxy
          have hb : (x != y) = false := by simpa using hxy
          clear hxy
          go_wp2
          go_roundw
          case rel => exact ⟨k + 1, n + nq, by omega, by go_num, Lib.hid (by rw [List.take_add_one, List.take_add_one, HT.out, HXK.out, HYK.out, HXY.out]), rfl⟩
          case measure => simp [intOf]; omega
        · have HXY := Lib.hid hxy
          have hb : (x != y) = true := by simpa using hxy
          clear hxy
          go_wp2
          go_ret
          exact ⟨ret_bool (by simp; exact fun e => HXY.out (by have := HXK.out; rw [e, HYK.out] at this; exact (Option.some.inj this).symm)), below_drewN (below_drewN (Below.refl _ _) _) _⟩
      · obtain rfl : k = xs.length := by omega
        go_wp2
        go_ret
        exact ⟨ret_bool (by have h := HT.out; rw [List.take_of_length_le (Nat.le_refl _), HL.out, List.take_of_length_le (Nat.le_refl _)] at h; simp [h]), below_drewN (Below.refl _ _) _⟩
  · have hlb : ((xs.length : Int) != (ys.length : Int)) = true := by simp; omega
    have HL := Lib.hid hl
    clear hl
    go_enter Tryd.func11, Tryd.ntmps11
    go_wp2
    go_ret
    exact ⟨ret_bool (by simp; exact fun e => HL.out (congrArg List.length e)), Below.refl _ _⟩
end Go.Proofs.YtnabeibnaoahmaaDoor
namespace Go.Proofs.YtnabeibnaoahmaaDoor
open Go.RowKit
attribute [local irreducible] wpList Code.wp Oper.wp
theorem rep_rows_at {w : World} {B : Nat → Prop} {xs : List (List Int)} {v : Value} (h : Lay.rep w B xs [v]) : ∃ (A : Option Addr) (c : Nat), v = .slice A xs.length c ∧ xs.length ≤ c ∧ c ≤ maxLen ∧
    ∀ (k : Nat) (hk : k < xs.length), ∃ (a : Addr) (u : Value), A = some a ∧ B a.block ∧ w.cell? (a.add k) = some u ∧ Lay.rep w B xs[k] [u] := by
  obtain ⟨A, c, e, h1, h2, h3⟩ := rep_list h
  injection e with e
  refine ⟨A, c, e, h1, h2, fun k hk => ?_⟩
  obtain ⟨a, ds, ha, hb, hat, hr⟩ := h3 k hk
  obtain ⟨A', c', rfl, r⟩ := id hr
  have := hat.cell 0 rfl
  rw [add_of_add, show k * Lay.size (List Int) + 0 = k from Nat.mul_one k] at this
  exact ⟨a, _, ha, hb, this, hr⟩
set_option maxRecDepth 10000 in
set_option maxHeartbeats 1000000 in
theorem sameLists_any (xs : List (List Int)) (u v : Value) (w : World) (hx : Lay.rep w (Lt w.heap.size) xs [u]) (hy : Lay.rep w (Lt w.heap.size) xs [v]) :
    Calls Tryd.prog 24 #[u, v] w fun e w' => e = .returned (.bool true) ∧ Below w.heap.size w w' := by
  obtain ⟨A, c, rfl, hc, hm, hx⟩ := rep_rows_at hx
  obtain ⟨B, d, rfl, hd, hn, hy⟩ := rep_rows_at hy
  unfold maxLen at hm hn
  have HX := Lib.hid hx
  have HY := Lib.hid hy
  clear hx hy
  have HP := Lib.hid (Hp.start w)
  go_enter Tryd.func24, Tryd.ntmps24
  go_wp2
  go_loopw [5] (fun i wr => ∃ k : Nat, k ≤ xs.length ∧ i = .int .i64 k ∧ Hid (Hp w [{ w := w, S := Lt w.heap.size }] [] wr)) (fun i _ => xs.length - (intOf i).toNat)
  case atStart => exact ⟨0, by omega, rfl, HP⟩
  case round =>
    clear HP
    obtain ⟨k, hk, rfl, HP⟩ := hrel
    obtain ⟨wk, rfl⟩ : ∃ wk : World, wk = wr := ⟨_, rfl⟩
    by_cases hlt : k < xs.length
    · have hlt2 : (k : Int) < (xs.length : Int) := by omega
      obtain ⟨a1, v1, rfl, hab1, hc1, hr1⟩ := HX.out k hlt
      obtain ⟨a2, v2, rfl, hab2, hc2, hr2⟩ := HY.out k hlt
      have HR1 := Lib.hid hr1
      have HR2 := Lib.hid hr2
      have q1 := (HP.out.alike (F := ⟨w, Lt w.heap.size⟩) (.head _) (a1.add k) (by rw [block_of_add]; exact hab1)).trans hc1
      have q2 := (HP.out.alike (F := ⟨w, Lt w.heap.size⟩) (.head _) (a2.add k) (by rw [block_of_add]; exact hab2)).trans hc2
      obtain ⟨z, hz⟩ : ∃ z, xs[k] = z := ⟨_, rfl⟩
      rw [hz] at HR1 HR2
      clear hr1 hr2 hc1 hc2 hz
      go_upto_region 6 with fail
      have HDR := Lib.hid HP.out.drew
      refine wp_region_still_tail 8 (by kernel_rfl) (by kernel_rfl) ?_
      simp only [List.take_succ_cons, List.take_zero, List.drop_succ_cons, List.drop_zero]
      repeat still_step
      try refine wpStill_nil ?_
      clear q1 q2
      replace HP := HDR
      clear HDR
      go_upto_region 7 with (go_at_call 11; refine (sameInts_any z z _ _ _ (HP.out.rep (F := ⟨w, Lt w.heap.size⟩) (.head _) HR1.out) (HP.out.rep (F := ⟨w, Lt w.heap.size⟩) (.head _) HR2.out)).mono ?_; rintro r4 w4 ⟨rfl, hb⟩; replace HP := Lib.hid (HP.out.call0 hb); clear hb; rw [decide_eq_true rfl])
      go_wp2
      go_roundw
      case rel => exact ⟨k + 1, by omega, by go_num, HP⟩
      case measure => simp [intOf]; omega
    · obtain rfl : k = xs.length := by omega
      go_wp2
      go_ret
      exact ⟨rfl, HP.out.below⟩
end Go.Proofs.YtnabeibnaoahmaaDoor
