/- The law's sameInts. -/
import Derived.Test.YtceilfmfidmfpaaDoorMgPrNestNestBFind4
import Derived.Test.YtceilfmfidmfpaaDoorMgCodeACodeBCodeC3
set_option linter.unusedSimpArgs false
set_option linter.unusedVariables false
namespace Go.Proofs.YtceilfmfidmfpaaDoor
open Go.RowKit
attribute [local irreducible] wpList Code.wp Oper.wp
set_option maxRecDepth 10000 in
set_option maxHeartbeats 1000000 in
theorem sameInts_any (xs ys : List Int) (u v : Value) (w : World) (hx : Lay.rep w (Lt w.heap.size) xs [u]) (hy : Lay.rep w (Lt w.heap.size) ys [v]) :
    Calls Tryd.prog 21 #[u, v] w fun e w' => e = .returned (.bool (decide (xs = ys))) ∧ Below w.heap.size w w' := by
  obtain ⟨A, c, rfl, hc, hm, hx⟩ := rep_ints_at hx
  obtain ⟨B, d, rfl, hd, hn, hy⟩ := rep_ints_at hy
  unfold maxLen at hm hn
  have HX := Lib.hid hx
  have HY := Lib.hid hy
  clear hx hy
  by_cases hl : xs.length = ys.length
  · have HL := Lib.hid hl
    have hlb : ((xs.length : Int) != (ys.length : Int)) = false := by simp; omega
    clear hl
    go_enter Tryd.func21, Tryd.ntmps21
    go_wp2
    go_loopw [5] (fun i wr => ∃ (k n : Nat), k ≤ xs.length ∧ i = .int .i64 k ∧ Hid (xs.take k = ys.take k) ∧ wr = w.drewN n) (fun i _ => xs.length - (intOf i).toNat)
    case atStart => exact ⟨0, 0, by omega, rfl, Lib.hid (by simp), rfl⟩
    case round =>
      obtain ⟨k, n, hk, rfl, HT, rfl⟩ := hrel
      by_cases hlt : k < xs.length
      · have hlt2 : (k : Int) < (xs.length : Int) := by omega
        have hly : k < ys.length := by rw [← HL.out]; exact hlt
        have hly2 : (k : Int) < (ys.length : Int) := by omega
        obtain ⟨a, rfl, hab, hca⟩ := HX.out k hlt
        obtain ⟨b, rfl, hbb, hcb⟩ := HY.out k hly
        obtain ⟨x, hx⟩ : ∃ x, xs[k] = x := ⟨_, rfl⟩
        obtain ⟨y, hy⟩ : ∃ y, ys[k] = y := ⟨_, rfl⟩
        rw [hx] at hca
        rw [hy] at hcb
        have HXK := Lib.hid (show xs[k]? = some x by rw [← hx, List.getElem?_eq_getElem hlt])
        have HYK := Lib.hid (show ys[k]? = some y by rw [← hy, List.getElem?_eq_getElem hly])
        clear hx hy
        go_upto_region 6 with fail
        go_quiet (fail)
        by_cases hxy : x = y
        · have HXY := Lib.hid hxy
          have hb : (x != y) = false := by simpa using hxy
          clear hxy
          go_wp2
          go_roundw
          case rel => exact ⟨k + 1, n + nq, by omega, by go_num, Lib.hid (by rw [List.take_add_one, List.take_add_one, HT.out, HXK.out, HYK.out, HXY.out]), rfl⟩
          case measure => simp [intOf]; omega
        · have HXY := Lib.hid hxy
          have hb : (x != y) = true := by simpa using hxy
          clear hxy
          go_wp2
          go_ret
          exact ⟨ret_bool (by simp; exact fun e => HXY.out (by have := HXK.out; rw [e, HYK.out] at this; exact (Option.some.inj this).symm)), below_drewN (below_drewN (Below.refl _ _) _) _⟩
      · obtain rfl : k = xs.length := by omega
        go_wp2
        go_ret
        exact ⟨ret_bool (by have h := HT.out; rw [List.take_of_length_le (Nat.le_refl _), HL.out, List.take_of_length_le (Nat.le_refl _)] at h; simp [h]), below_drewN (Below.refl _ _) _⟩
  · have hlb : ((xs.length : Int) != (ys.length : Int)) = true := by simp; omega
    have HL := Lib.hid hl
    clear hl
    go_enter Tryd.func21, Tryd.ntmps21
    go_wp2
    go_ret
    exact ⟨ret_bool (by simp; exact fun e => HL.out (congrArg List.length e)), Below.refl _ _⟩
end Go.Proofs.YtceilfmfidmfpaaDoor
