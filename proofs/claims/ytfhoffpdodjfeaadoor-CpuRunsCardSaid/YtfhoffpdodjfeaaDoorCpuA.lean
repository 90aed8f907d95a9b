/- cpu.arith, divide, word, branches; tierlineref.machineMade, taken. -/
import Derived.Test.YtfhoffpdodjfeaaDoorMgCpuLawCpuFixOpenCpv3
import Derived.Test.YtfhoffpdodjfeaaDoorMgMdDMdE2
import Derived.Test.YtfhoffpdodjfeaaDoorMgHeldHeldB2
set_option linter.unusedSimpArgs false
set_option linter.unusedVariables false
namespace Go.Proofs.YtfhoffpdodjfeaaDoor
open Go.RowKit Plain64
attribute [local irreducible] wpList Code.wp Oper.wp
theorem cpuflag_any (b : Bool) (w : World) :
    Calls Tryd.prog 115 #[.bool b] w fun e w' => e = .returned (.int .i64 (flagZ b)) ∧ w = w' := by
  go_enter Tryd.func115, Tryd.ntmps115
  cases b
  all_goals
    go_wp2
    go_ret
    exact ⟨rfl, rfl⟩
theorem divide_any (a b : Int) (w : World) :
    Calls Tryd.prog 114 #[.int .i64 a, .int .i64 b] w fun e w' => e = .returned (.int .i64 (divZ a b)) ∧ w = w' := by
  by_cases hb : b = 0
  · have hb0 : (b == 0) = true := by simpa using hb
    have HB := Lib.hid hb
    clear hb
    go_enter Tryd.func114, Tryd.ntmps114
    go_wp2
    go_ret
    refine ⟨?_, rfl⟩
    unfold divZ
    rw [if_pos HB.out]
    rfl
  · have hb0 : (b == 0) = false := by simpa using hb
    have HB := Lib.hid hb
    go_enter Tryd.func114, Tryd.ntmps114
    go_wp2
    go_ret
    refine ⟨?_, rfl⟩
    unfold divZ
    rw [if_neg HB.out]
    rfl
theorem convU (n : Int) : (Int.emod n 18446744073709551616) = n % 18446744073709551616 := rfl
set_option maxRecDepth 10000 in
set_option maxHeartbeats 1000000 in
theorem arith_any (op a b : Int) (w : World) (ho : 1 ≤ op ∧ op ≤ 19) :
    Calls Tryd.prog 97 #[.int .i64 op, .int .i64 a, .int .i64 b] w fun e w' => e = .returned (.int .i64 (arithZ op a b)) ∧ w = w' := by
  have h63 := Plain64.and63 b
  have hl : Op.shift .shl .i64 a .i64 (b % 64) = pure (.int .i64 (wrap64 (a * 2 ^ (b % 64).toNat))) := by
    rw [shift_shl_any _ _ _ _ (by omega), IntWalk.i64_left, Nat.min_eq_left (by simp [IntKind.bits]; omega)]
  have hr : Op.shift .shr .i64 a .i64 (b % 64) = pure (.int .i64 (a / 2 ^ (b % 64).toNat)) := by
    rw [shift_shr_any _ _ _ _ (by omega), Nat.min_eq_left (by simp [IntKind.bits]; omega)]
  have h19 : op = 1 ∨ op = 2 ∨ op = 3 ∨ op = 4 ∨ op = 5 ∨ op = 6 ∨ op = 7 ∨ op = 8 ∨ op = 9 ∨ op = 10 ∨ op = 11 ∨ op = 12 ∨ op = 13 ∨ op = 14 ∨ op = 15 ∨ op = 16 ∨ op = 17 ∨ op = 18 ∨ op = 19 := by omega
  clear ho
  rcases h19 with rfl | rfl | rfl | rfl | rfl | rfl | rfl | rfl | rfl | rfl | rfl | rfl | rfl | rfl | rfl | rfl | rfl | rfl | rfl
  all_goals
    go_enter Tryd.func97, Tryd.ntmps97
    go_wp2_with (first | (go_at_call 114; refine (divide_any _ _ _).mono ?_; rintro e w' ⟨rfl, rfl⟩) | (go_at_call 115; refine (cpuflag_any _ _).mono ?_; rintro e w' ⟨rfl, rfl⟩))
    go_ret
    refine ⟨?_, rfl⟩
    first | rfl | (simp [arithZ, ultZ, IntKind.wrap]; done)
theorem word_any (n : Int) (w : World) (hn : I64 n) :
    Calls Tryd.prog 98 #[.int .i64 n] w fun e w' => e = .returned (.tuple #[.int .i64 (n.tdiv 8), .bool (decide (0 ≤ n ∧ n < 512 ∧ n % 8 = 0))]) ∧ w = w' := by
  have hd : IntKind.i64.wrap (n.tdiv 8) = n.tdiv 8 := by
    rw [IntKind.wrap_i64]; unfold I64 at hn; have := Int.natAbs_tdiv n 8
    have h1 := Int.mul_tdiv_add_tmod n 8
    have h2 := Int.tmod_lt_of_pos n (show (0:Int) < 8 by decide)
    have h3 := Int.lt_tmod_of_pos n (show (0:Int) < 8 by decide)
    omega
  have hq : ((decide (0 ≤ n) = false) ∧ (decide (0 ≤ n ∧ n < 512 ∧ n % 8 = 0) = false)) ∨ ((decide (0 ≤ n) = true) ∧ (decide (n < 512) = false) ∧ (decide (0 ≤ n ∧ n < 512 ∧ n % 8 = 0) = false)) ∨ ((decide (0 ≤ n) = true) ∧ (decide (n < 512) = true) ∧ (n.tmod 8 == 0) = decide (0 ≤ n ∧ n < 512 ∧ n % 8 = 0)) := by
    by_cases h0 : 0 ≤ n
    · by_cases h5 : n < 512
      · right; right
        refine ⟨decide_eq_true h0, decide_eq_true h5, ?_⟩
        rw [Int.tmod_eq_emod_of_nonneg h0]
        by_cases h8 : n % 8 = 0 <;> simp [h8, h0, h5]
      · right; left
        exact ⟨decide_eq_true h0, decide_eq_false h5, decide_eq_false (by omega)⟩
    · left
      exact ⟨decide_eq_false h0, decide_eq_false (by omega)⟩
  unfold I64 at hn
  clear hn
  obtain ⟨q, hqq⟩ : ∃ q, n.tdiv 8 = q := ⟨_, rfl⟩
  obtain ⟨d, hdd⟩ : ∃ d, decide (0 ≤ n ∧ n < 512 ∧ n % 8 = 0) = d := ⟨_, rfl⟩
  rw [hqq] at hd
  rw [hdd] at hq
  have HQ := Lib.hid hqq
  have HD := Lib.hid hdd
  clear hdd
  rcases hq with ⟨h1, h2⟩ | ⟨h1, h2, h3⟩ | ⟨h1, h2, h3⟩
  · have HX := Lib.hid h2
    clear h2
    go_enter Tryd.func98, Tryd.ntmps98
    go_wp2
    go_ret2
    exact ⟨by rw [HQ.out, HD.out, HX.out]; rfl, rfl⟩
  · have HX := Lib.hid h3
    clear h3
    go_enter Tryd.func98, Tryd.ntmps98
    go_wp2
    go_ret2
    exact ⟨by rw [HQ.out, HD.out, HX.out]; rfl, rfl⟩
  · go_enter Tryd.func98, Tryd.ntmps98
    go_wp2
    go_ret2
    exact ⟨by rw [HQ.out, HD.out]; rfl, rfl⟩
theorem branches_any (op a b : Int) (w : World) (ho : 22 ≤ op ∧ op ≤ 25) :
    Calls Tryd.prog 99 #[.int .i64 op, .int .i64 a, .int .i64 b] w fun e w' => e = .returned (.bool (takenZ op a b)) ∧ w = w' := by
  have h4 : op = 22 ∨ op = 23 ∨ op = 24 ∨ op = 25 := by omega
  clear ho
  rcases h4 with rfl | rfl | rfl | rfl
  all_goals
    go_enter Tryd.func99, Tryd.ntmps99
    go_wp2
    go_ret
    exact ⟨rfl, rfl⟩
theorem taken_any (op a b : Int) (w : World) (ho : 22 ≤ op ∧ op ≤ 25) :
    Calls Tryd.prog 78 #[.int .i64 op, .int .i64 a, .int .i64 b] w fun e w' => e = .returned (.bool (takenZ op a b)) ∧ w = w' := by
  have h4 : op = 22 ∨ op = 23 ∨ op = 24 ∨ op = 25 := by omega
  clear ho
  rcases h4 with rfl | rfl | rfl | rfl
  all_goals
    go_enter Tryd.func78, Tryd.ntmps78
    go_wp2
    go_ret
    refine ⟨?_, rfl⟩
    first | rfl | (unfold takenZ; by_cases h : a < b <;> simp [h] <;> omega)
theorem ult_lt {a b : Int} (ha : I64 a) (hb : I64 b) : ultZ a b = if a < 0 ∧ 0 ≤ b then false else if 0 ≤ a ∧ b < 0 then true else decide (a < b) := by
  unfold I64 at *
  unfold ultZ
  by_cases h1 : a < 0
  · by_cases h2 : 0 ≤ b
    · rw [if_pos ⟨h1, h2⟩]; exact decide_eq_false (by omega)
    · rw [if_neg (fun h => h2 h.2), if_neg (by omega)]
      by_cases h3 : a < b
      · rw [decide_eq_true h3]; exact decide_eq_true (by omega)
      · rw [decide_eq_false h3]; exact decide_eq_false (by omega)
  · rw [if_neg (fun h => h1 h.1)]
    by_cases h2 : b < 0
    · rw [if_pos ⟨by omega, h2⟩]; exact decide_eq_true (by omega)
    · rw [if_neg (fun h => h2 h.2)]
      by_cases h3 : a < b
      · rw [decide_eq_true h3]; exact decide_eq_true (by omega)
      · rw [decide_eq_false h3]; exact decide_eq_false (by omega)
set_option maxRecDepth 10000 in
set_option maxHeartbeats 1000000 in
theorem machineMade_any (op a b : Int) (w : World) (ho : 1 ≤ op ∧ op ≤ 19) (ha : I64 a) (hb : I64 b) :
    Calls Tryd.prog 77 #[.int .i64 op, .int .i64 a, .int .i64 b] w fun e w' => e = .returned (.int .i64 (arithZ op a b)) ∧ Below w.heap.size w w' := by
  have hu := ult_lt ha hb
  have HA := Lib.hid ha
  have HB := Lib.hid hb
  clear ha hb
  have h3 : op = 4 ∨ (op = 11 ∨ op = 17) ∨ ∃ c, 2 ≤ c ∧ c ≤ 11 ∧ (op = 1 ∨ op = 2 ∨ op = 3 ∨ op = 5 ∨ op = 6 ∨ op = 7 ∨ op = 8 ∨ op = 9 ∨ op = 10 ∨ op = 12 ∨ op = 13 ∨ op = 14 ∨ op = 15 ∨ op = 16 ∨ op = 18 ∨ op = 19) := by
    by_cases h4 : op = 4
    · left; exact h4
    · by_cases h5 : op = 11 ∨ op = 17
      · right; left; exact h5
      · right; right; exact ⟨2, by omega, by omega, by omega⟩
  clear ho
  rcases h3 with rfl | h2 | ⟨c, -, -, h2⟩
  · clear hu
    by_cases hb0 : b = 0
    · have e0 : (b == 0) = true := by simpa using hb0
      have HB0 := Lib.hid hb0
      clear hb0
      go_enter Tryd.func77, Tryd.ntmps77
      go_wp2
      go_ret
      exact ⟨by rw [HB0.out]; rfl, Below.refl _ _⟩
    · have e0 : (b == 0) = false := by simpa using hb0
      have HB0 := Lib.hid hb0
      clear hb0
      go_enter Tryd.func77, Tryd.ntmps77
      go_wp2_with (go_at_call 85; refine (made_any _ a b 0 _ HA.out HB.out).mono ?_; rintro e w' ⟨rfl, hbl⟩)
      go_ret
      exact ⟨by simp [arithZ, divZ, pureV, HB0.out], hbl⟩
  · have h5 : (decide (a < 0) = true ∧ decide (0 ≤ b) = true ∧ ultZ a b = false) ∨ (decide (a < 0) = true ∧ decide (0 ≤ b) = false ∧ decide (0 ≤ a) = false ∧ ultZ a b = decide (a < b)) ∨ (decide (a < 0) = false ∧ decide (0 ≤ a) = true ∧ decide (b < 0) = true ∧ ultZ a b = true) ∨ (decide (a < 0) = false ∧ decide (0 ≤ a) = true ∧ decide (b < 0) = false ∧ ultZ a b = decide (a < b)) := by
      by_cases h1 : a < 0
      · by_cases h2 : 0 ≤ b
        · left; exact ⟨decide_eq_true h1, decide_eq_true h2, by rw [hu, if_pos ⟨h1, h2⟩]⟩
        · right; left; exact ⟨decide_eq_true h1, decide_eq_false h2, decide_eq_false (by omega), by rw [hu, if_neg (fun h => h2 h.2), if_neg (by omega)]⟩
      · by_cases h2 : b < 0
        · right; right; left; exact ⟨decide_eq_false h1, decide_eq_true (by omega), decide_eq_true h2, by rw [hu, if_neg (fun h => h1 h.1), if_pos ⟨by omega, h2⟩]⟩
        · right; right; right; exact ⟨decide_eq_false h1, decide_eq_true (by omega), decide_eq_false h2, by rw [hu, if_neg (fun h => h1 h.1), if_neg (fun h => h2 h.2)]⟩
    clear hu
    rcases h2 with rfl | rfl <;> rcases h5 with ⟨g1, g2, hu⟩ | ⟨g1, g2, g3, hu⟩ | ⟨g1, g2, g3, hu⟩ | ⟨g1, g2, g3, hu⟩
    all_goals
      have HU := Lib.hid hu
      clear hu
      go_enter Tryd.func77, Tryd.ntmps77
      go_wp2_with (go_at_call 85; refine (made_any _ a b 0 _ HA.out HB.out).mono ?_; rintro e w' ⟨rfl, hbl⟩)
      go_ret
      refine ⟨?_, by first | exact hbl | exact Below.refl _ _⟩
      clear g1 g2
      simp [arithZ, pureV, HU.out, flagZ]
  · clear hu
    rcases h2 with rfl | rfl | rfl | rfl | rfl | rfl | rfl | rfl | rfl | rfl | rfl | rfl | rfl | rfl | rfl | rfl
    all_goals
      go_enter Tryd.func77, Tryd.ntmps77
      go_wp2_with (go_at_call 85; refine (made_any _ a b 0 _ HA.out HB.out).mono ?_; rintro e w' ⟨rfl, hbl⟩)
      go_ret
      refine ⟨?_, hbl⟩
      simp [arithZ, pureV, flagZ]
end Go.Proofs.YtfhoffpdodjfeaaDoor
