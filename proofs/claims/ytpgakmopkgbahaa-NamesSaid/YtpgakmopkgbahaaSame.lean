/- sameInts. -/
import Derived.Test.YtpgakmopkgbahaaRows
import Derived.Test.YtpgakmopkgbahaaMem
import Derived.Deep.QuietTactic
import Derived.BigQuiet
namespace Go.Proofs.Ytpgakmopkgbahaa
open Go.RowKit

theorem rep_ints_at {w : World} {B : Nat} {xs : List Int} {v : Value} (h : Lay.rep w B xs [v]) : ∃ (A : Option Addr) (c : Nat), v = .slice A xs.length c ∧ xs.length ≤ c ∧ c ≤ maxLen ∧
    ∀ (k : Nat) (hk : k < xs.length), ∃ (a : Addr), A = some a ∧ a.block < B ∧ w.cell? (a.add k) = some (.int .i64 xs[k]) := by
  obtain ⟨A, c, e, h1, h2, h3⟩ := rep_list h
  injection e with e
  refine ⟨A, c, e, h1, h2, fun k hk => ?_⟩
  obtain ⟨a, ds, ha, hb, hat, hr⟩ := h3 k hk
  rw [rep_int] at hr
  subst hr
  refine ⟨a, ha, hb, ?_⟩
  have := hat.cell 0 rfl
  rwa [add_of_add, show k * Lay.size Int + 0 = k from Nat.mul_one k] at this

/-- A block of numbers reads as these numbers. -/
theorem rep_of_block {w : World} {g cap : Nat} {t : TypeId} {fr : Nat × Nat} {xs : List Int} {B : Nat} (hg : w.heap[g]? = some (.cells (xs.map (Value.int .i64)).toArray t fr)) (hB : g < B) (hc : xs.length ≤ cap) (hm : cap ≤ maxLen) :
    Lay.rep w B xs [.slice (some ⟨g, 0, none⟩) xs.length cap] := by
  refine ⟨_, _, rfl, hc, hm, fun k x hx => ⟨⟨g, 0, none⟩, [.int .i64 x], rfl, hB, fun j v hv => ?_, rfl⟩⟩
  have hj : j = 0 := by have := (List.getElem?_eq_some_iff.1 hv).1; simpa using this
  subst hj
  simp at hv
  subst hv
  rw [add_of_add, Addr.add_lit, cell_of_row _ _ _ _ _ _ hg]
  show ((xs.map (Value.int .i64)).toArray)[0 + (k * 1 + 0)]? = _
  rw [Nat.mul_one, Nat.add_zero, Nat.zero_add]
  simp [hx]

set_option maxHeartbeats 400000 in
theorem sameInts_any (xs ys : List Int) (u v : Value) (w : World) (B : Nat) (hu : Lay.rep w B xs [u]) (hv : Lay.rep w B ys [v]) :
    Calls Try.prog 5 #[u, v] w fun e w' => e = .returned (.bool (decide (xs = ys))) ∧ ∃ n, w' = w.drewN n := by
  obtain ⟨A, c, rfl, hc, hm, hx⟩ := rep_ints_at hu
  obtain ⟨A', c', rfl, hc', hm', hy⟩ := rep_ints_at hv
  unfold maxLen at hm hm'
  have HX := Lib.hid hx
  have HY := Lib.hid hy
  clear hx hy hu hv
  by_cases hl : xs.length = ys.length
  · have h0 : ((xs.length : Int) != (ys.length : Int)) = false := by simp [hl]
    have HL := Lib.hid hl
    clear hl
    go_enter Try.func5, Try.ntmps5
    go_wp2
    go_loopw [5] (fun i wr => ∃ k n : Nat, k ≤ xs.length ∧ i = .int .i64 k ∧ wr = w.drewN n ∧ xs.take k = ys.take k) (fun i _ => xs.length - (intOf i).toNat)
    case atStart => exact ⟨0, 0, by omega, rfl, rfl, rfl⟩
    case round =>
      obtain ⟨k, n, hk, rfl, rfl, hxy⟩ := hrel
      have HXY := Lib.hid hxy
      clear hxy
      by_cases hlt : k < xs.length
      · have hlt' : k < ys.length := by have := HL.out; omega
        obtain ⟨a, rfl, hb, hx⟩ := HX.out k hlt
        obtain ⟨a', rfl, hb', hy⟩ := HY.out k hlt'
        by_cases he : xs[k] = ys[k]
        · have h1 : (xs[k] != ys[k]) = false := by simp [he]
          have HE := Lib.hid he
          clear he
          go_wp2
          go_quiet (fail)
          go_wp2
          go_roundw
          case rel =>
            refine ⟨k + 1, _, by omega, by go_num, rfl, ?_⟩
            rw [List.take_succ_eq_append_getElem hlt, List.take_succ_eq_append_getElem hlt', HXY.out, HE.out]
          case measure => simp [intOf]; omega
        · have h1 : (xs[k] != ys[k]) = true := by simp [he]
          have HE := Lib.hid he
          clear he
          go_wp2
          go_quiet (fail)
          go_wp2
          go_ret
          refine ⟨?_, _, World.drewN_drewN _ _ _⟩
          have h : xs ≠ ys := fun e => HE.out (by subst e; rfl)
          simp [h]
      · obtain rfl : k = xs.length := by omega
        go_wp2
        go_ret
        refine ⟨?_, n, rfl⟩
        have h := HXY.out
        rw [List.take_of_length_le (Nat.le_refl _), List.take_of_length_le (Nat.le_of_eq HL.out.symm)] at h
        simp [h]
  · have h0 : ((xs.length : Int) != (ys.length : Int)) = true := by simp; omega
    go_enter Try.func5, Try.ntmps5
    go_wp2
    go_ret
    exact ⟨by simp; rintro rfl; exact hl rfl, 0, rfl⟩
end Go.Proofs.Ytpgakmopkgbahaa
