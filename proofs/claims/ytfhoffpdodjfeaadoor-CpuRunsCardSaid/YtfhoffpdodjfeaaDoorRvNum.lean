/- rv.signed, rv.number. -/
import Derived.Test.YtfhoffpdodjfeaaDoorRvEnc
import Derived.Test.YtfhoffpdodjfeaaDoorRvDecLaw
set_option linter.unusedSimpArgs false
set_option linter.unusedVariables false
namespace Go.Proofs.YtfhoffpdodjfeaaDoor
open Go.RowKit Plain64
attribute [local irreducible] wpList Code.wp Oper.wp
set_option maxHeartbeats 400000 in
theorem rvbits31_any (n : Int) (f m : Nat) (hf : f ≤ 31) (hm : m ≤ 20) (w : World) :
    Calls Tryd.prog 94 #[.int .i64 n, .int .i64 f, .int .i64 m] w fun e w' => e = .returned (.int .i64 (piece n f m : Nat)) ∧ ∃ k, w' = w.drewN k := by
  have hp1 := pow_pos' m
  have hp2 : (2 : Int) ^ m ≤ 1048576 := pow_le' hm
  have h3 : IntKind.i64.wrap (2 ^ m) = 2 ^ m := by rw [IntWalk.i64_left]; exact IntWalk.wrap64_in _ (by omega)
  have h4 := and_mask (n / 2 ^ f) m (by omega)
  have h5 : n / 2 ^ f % 2 ^ m = ((piece n f m : Nat) : Int) := (Int.toNat_of_nonneg (piece_nn n f m)).symm
  rw [h5] at h4
  obtain ⟨v, hv⟩ : ∃ v, ((piece n f m : Nat) : Int) = v := ⟨_, rfl⟩
  rw [hv] at h4
  rw [hv]
  obtain ⟨q, hq⟩ : ∃ q, (2 : Int) ^ m - 1 = q := ⟨_, rfl⟩
  have h6 : IntKind.i64.wrap (2 ^ m - 1) = q := by rw [IntWalk.i64_left, ← hq]; exact IntWalk.wrap64_in _ (by omega)
  have h7 : wrap64 (2 ^ m - 1) = q := by rw [← hq]; exact IntWalk.wrap64_in _ (show -9223372036854775808 ≤ (2 : Int) ^ m - 1 ∧ (2 : Int) ^ m - 1 ≤ 9223372036854775807 by omega)
  rw [hq] at h4
  clear h5 hv hq hp1 hp2
  go_enter Tryd.func94, Tryd.ntmps94
  go_wp2
  go_quiet (fail)
  go_wp2
  go_ret
  exact ⟨rfl, _, rfl⟩
theorem and_one (t : Int) : bits .and .i64 t 1 = t % 2 := and_mask t 1 (by decide)
set_option maxHeartbeats 1000000 in
theorem signed_any (n : Int) (m : Nat) (hm : m = 12 ∨ m = 13 ∨ m = 20 ∨ m = 21) (hn : 0 ≤ n ∧ n < 2 ^ m) (w : World) :
    Calls Tryd.prog 112 #[.int .i64 n, .int .i64 m] w fun e w' => e = .returned (.int .i64 (sgn n m)) ∧ ∃ k, w' = w.drewN k := by
  have h1 := and_one
  rcases hm with rfl | rfl | rfl | rfl
  · have hn1 : n < 4096 := by have := hn.2; omega
    have hn0 := hn.1
    clear hn
    simp only [show ((12 : Nat) : Int) = 12 from rfl]
    by_cases hc : n / 2048 % 2 = 1
    · have HS := Lib.hid (show sgn n 12 = n - 4096 by unfold sgn; rw [show (2 : Int) ^ (12 - 1) = 2048 from rfl, if_pos hc]; rfl)
      have hb : (n / 2048 % 2 == 1) = true := by simpa using hc
      clear hc
      go_enter Tryd.func112, Tryd.ntmps112
      go_wp2
      go_ret
      exact ⟨by rw [HS.out]; rfl, 0, rfl⟩
    · have HS := Lib.hid (show sgn n 12 = n by unfold sgn; rw [show (2 : Int) ^ (12 - 1) = 2048 from rfl, if_neg hc])
      have hb : (n / 2048 % 2 == 1) = false := by simpa using hc
      clear hc
      go_enter Tryd.func112, Tryd.ntmps112
      go_wp2
      go_ret
      exact ⟨by rw [HS.out]; rfl, 0, rfl⟩
  · have hn1 : n < 8192 := by have := hn.2; omega
    have hn0 := hn.1
    clear hn
    simp only [show ((13 : Nat) : Int) = 13 from rfl]
    by_cases hc : n / 4096 % 2 = 1
    · have HS := Lib.hid (show sgn n 13 = n - 8192 by unfold sgn; rw [show (2 : Int) ^ (13 - 1) = 4096 from rfl, if_pos hc]; rfl)
      have hb : (n / 4096 % 2 == 1) = true := by simpa using hc
      clear hc
      go_enter Tryd.func112, Tryd.ntmps112
      go_wp2
      go_ret
      exact ⟨by rw [HS.out]; rfl, 0, rfl⟩
    · have HS := Lib.hid (show sgn n 13 = n by unfold sgn; rw [show (2 : Int) ^ (13 - 1) = 4096 from rfl, if_neg hc])
      have hb : (n / 4096 % 2 == 1) = false := by simpa using hc
      clear hc
      go_enter Tryd.func112, Tryd.ntmps112
      go_wp2
      go_ret
      exact ⟨by rw [HS.out]; rfl, 0, rfl⟩
  · have hn1 : n < 1048576 := by have := hn.2; omega
    have hn0 := hn.1
    clear hn
    simp only [show ((20 : Nat) : Int) = 20 from rfl]
    by_cases hc : n / 524288 % 2 = 1
    · have HS := Lib.hid (show sgn n 20 = n - 1048576 by unfold sgn; rw [show (2 : Int) ^ (20 - 1) = 524288 from rfl, if_pos hc]; rfl)
      have hb : (n / 524288 % 2 == 1) = true := by simpa using hc
      clear hc
      go_enter Tryd.func112, Tryd.ntmps112
      go_wp2
      go_ret
      exact ⟨by rw [HS.out]; rfl, 0, rfl⟩
    · have HS := Lib.hid (show sgn n 20 = n by unfold sgn; rw [show (2 : Int) ^ (20 - 1) = 524288 from rfl, if_neg hc])
      have hb : (n / 524288 % 2 == 1) = false := by simpa using hc
      clear hc
      go_enter Tryd.func112, Tryd.ntmps112
      go_wp2
      go_ret
      exact ⟨by rw [HS.out]; rfl, 0, rfl⟩
  · have hn1 : n < 2097152 := by have := hn.2; omega
    have hn0 := hn.1
    clear hn
    simp only [show ((21 : Nat) : Int) = 21 from rfl]
    by_cases hc : n / 1048576 % 2 = 1
    · have HS := Lib.hid (show sgn n 21 = n - 2097152 by unfold sgn; rw [show (2 : Int) ^ (21 - 1) = 1048576 from rfl, if_pos hc]; rfl)
      have hb : (n / 1048576 % 2 == 1) = true := by simpa using hc
      clear hc
      go_enter Tryd.func112, Tryd.ntmps112
      go_wp2
      go_ret
      exact ⟨by rw [HS.out]; rfl, 0, rfl⟩
    · have HS := Lib.hid (show sgn n 21 = n by unfold sgn; rw [show (2 : Int) ^ (21 - 1) = 1048576 from rfl, if_neg hc])
      have hb : (n / 1048576 % 2 == 1) = false := by simpa using hc
      clear hc
      go_enter Tryd.func112, Tryd.ntmps112
      go_wp2
      go_ret
      exact ⟨by rw [HS.out]; rfl, 0, rfl⟩
theorem or_add (a b k : Nat) (hb : b < 2 ^ k) (ha : a * 2 ^ k < 2 ^ 32) (hk : b < 2 ^ 32) {u v : Int} (hu : u = ((a * 2 ^ k : Nat) : Int)) (hv : v = (b : Int)) : bits .or .i64 u v = u + v := by
  have h1 : a * 2 ^ k = a <<< k := (Nat.shiftLeft_eq a k).symm
  rw [orI (a := a <<< k) (b := b) (by rw [hu, h1]) hv (by rw [← h1]; exact ha) hk, ← Nat.shiftLeft_add_eq_or_of_lt hb, hu, hv, h1]
  omega
set_option maxRecDepth 10000 in
set_option maxHeartbeats 4000000 in
theorem number_any (w : Int) (s : Nat) (hs : s < 8) (W : World) :
    Calls Tryd.prog 93 #[.int .i64 w, .int .i64 s] W fun e w' => e = .returned (.int .i64 (numZ s w)) ∧ ∃ k, w' = W.drewN k := by
  obtain ⟨r, hr⟩ : ∃ r, numZ s w = r := ⟨_, rfl⟩
  have l1 := piece_lt w 31 1
  have l2 := piece_lt w 7 1
  have l3 := piece_lt w 25 6
  have l4 := piece_lt w 8 4
  have l5 := piece_lt w 25 7
  have l6 := piece_lt w 7 5
  have l7 := piece_lt w 12 8
  have l8 := piece_lt w 20 1
  have l9 := piece_lt w 21 10
  have l10 := piece_lt w 20 12
  have l11 := piece_lt w 12 20
  have l12 := piece_lt w 20 6
  simp only [show 2 ^ 1 = 2 from rfl, show 2 ^ 6 = 64 from rfl, show 2 ^ 4 = 16 from rfl, show 2 ^ 7 = 128 from rfl, show 2 ^ 5 = 32 from rfl, show 2 ^ 8 = 256 from rfl, show 2 ^ 10 = 1024 from rfl, show 2 ^ 12 = 4096 from rfl, show 2 ^ 20 = 1048576 from rfl] at l1 l2 l3 l4 l5 l6 l7 l8 l9 l10 l11 l12
  have h8 : s = 0 ∨ s = 1 ∨ s = 2 ∨ s = 3 ∨ s = 4 ∨ s = 5 ∨ s = 6 ∨ s = 7 := by omega
  rcases h8 with rfl | rfl | rfl | rfl | rfl | rfl | rfl | rfl
  · have HR := Lib.hid hr
    clear hr
    simp only [show ((0 : Nat) : Int) = 0 from rfl]
    go_enter Tryd.func93, Tryd.ntmps93
    go_wp2_with (first | fail)
    go_ret
    exact ⟨rfl, 0, rfl⟩
  · have HR := Lib.hid hr
    clear hr
    simp only [show ((1 : Nat) : Int) = 1 from rfl]
    go_enter Tryd.func93, Tryd.ntmps93
    go_wp2_with (first | (go_at_call_of 94 ([Value.int IntKind.i64 20, Value.int IntKind.i64 12]); refine (rvbits31_any w 20 12 (by decide) (by decide) _).mono ?_; rintro e wb ⟨rfl, kb, rfl⟩) | (go_at_call 112; refine (signed_any _ 12 (by simp) (by constructor <;> omega) _).mono ?_; rintro e wb ⟨rfl, kc, rfl⟩))
    go_ret
    exact ⟨rfl, _, rfl⟩
  · have HR := Lib.hid hr
    clear hr
    simp only [show ((2 : Nat) : Int) = 2 from rfl]
    go_enter Tryd.func93, Tryd.ntmps93
    go_wp2_with (first | (go_at_call_of 94 ([Value.int IntKind.i64 20, Value.int IntKind.i64 6]); refine (rvbits31_any w 20 6 (by decide) (by decide) _).mono ?_; rintro e wb ⟨rfl, kb, rfl⟩))
    go_ret
    exact ⟨rfl, _, rfl⟩
  · have HR := Lib.hid hr
    clear hr
    have e1 : bits .or .i64 (((piece w 25 7 : Nat) : Int) * 32) (((piece w 7 5 : Nat) : Int)) = ((piece w 25 7 : Nat) : Int) * 32 + ((piece w 7 5 : Nat) : Int) := or_add (piece w 25 7) (piece w 7 5) 5 (by omega) (by omega) (by omega) (by omega) (by omega)
    simp only [show ((3 : Nat) : Int) = 3 from rfl]
    go_enter Tryd.func93, Tryd.ntmps93
    go_wp2_with (first | (go_at_call_of 94 ([Value.int IntKind.i64 25, Value.int IntKind.i64 7]); refine (rvbits31_any w 25 7 (by decide) (by decide) _).mono ?_; rintro e wb ⟨rfl, kb, rfl⟩) | (go_at_call_of 94 ([Value.int IntKind.i64 7, Value.int IntKind.i64 5]); refine (rvbits31_any w 7 5 (by decide) (by decide) _).mono ?_; rintro e wb ⟨rfl, kb, rfl⟩) | (go_at_call 112; refine (signed_any _ 12 (by simp) (by constructor <;> omega) _).mono ?_; rintro e wb ⟨rfl, kc, rfl⟩))
    go_ret
    exact ⟨rfl, _, rfl⟩
  · have HR := Lib.hid hr
    clear hr
    have e1 : bits .or .i64 (((piece w 31 1 : Nat) : Int) * 4096) (((piece w 7 1 : Nat) : Int) * 2048) = ((piece w 31 1 : Nat) : Int) * 4096 + ((piece w 7 1 : Nat) : Int) * 2048 := or_add (piece w 31 1) (piece w 7 1 * 2048) 12 (by omega) (by omega) (by omega) (by omega) (by omega)
    have e2 : bits .or .i64 (((piece w 31 1 : Nat) : Int) * 4096 + ((piece w 7 1 : Nat) : Int) * 2048) (((piece w 25 6 : Nat) : Int) * 32) = ((piece w 31 1 : Nat) : Int) * 4096 + ((piece w 7 1 : Nat) : Int) * 2048 + ((piece w 25 6 : Nat) : Int) * 32 := or_add (piece w 31 1 * 2 + piece w 7 1) (piece w 25 6 * 32) 11 (by omega) (by omega) (by omega) (by omega) (by omega)
    have e3 : bits .or .i64 (((piece w 31 1 : Nat) : Int) * 4096 + ((piece w 7 1 : Nat) : Int) * 2048 + ((piece w 25 6 : Nat) : Int) * 32) (((piece w 8 4 : Nat) : Int) * 2) = ((piece w 31 1 : Nat) : Int) * 4096 + ((piece w 7 1 : Nat) : Int) * 2048 + ((piece w 25 6 : Nat) : Int) * 32 + ((piece w 8 4 : Nat) : Int) * 2 := or_add ((piece w 31 1 * 2 + piece w 7 1) * 64 + piece w 25 6) (piece w 8 4 * 2) 5 (by omega) (by omega) (by omega) (by omega) (by omega)
    simp only [show ((4 : Nat) : Int) = 4 from rfl]
    go_enter Tryd.func93, Tryd.ntmps93
    go_wp2_with (first | (go_at_call_of 94 ([Value.int IntKind.i64 31, Value.int IntKind.i64 1]); refine (rvbits31_any w 31 1 (by decide) (by decide) _).mono ?_; rintro e wb ⟨rfl, kb, rfl⟩) | (go_at_call_of 94 ([Value.int IntKind.i64 7, Value.int IntKind.i64 1]); refine (rvbits31_any w 7 1 (by decide) (by decide) _).mono ?_; rintro e wb ⟨rfl, kb, rfl⟩) | (go_at_call_of 94 ([Value.int IntKind.i64 25, Value.int IntKind.i64 6]); refine (rvbits31_any w 25 6 (by decide) (by decide) _).mono ?_; rintro e wb ⟨rfl, kb, rfl⟩) | (go_at_call_of 94 ([Value.int IntKind.i64 8, Value.int IntKind.i64 4]); refine (rvbits31_any w 8 4 (by decide) (by decide) _).mono ?_; rintro e wb ⟨rfl, kb, rfl⟩) | (go_at_call 112; refine (signed_any _ 13 (by simp) (by constructor <;> omega) _).mono ?_; rintro e wb ⟨rfl, kc, rfl⟩))
    go_ret
    exact ⟨rfl, _, rfl⟩
  · have HR := Lib.hid hr
    clear hr
    have e1 : bits .or .i64 (((piece w 31 1 : Nat) : Int) * 1048576) (((piece w 12 8 : Nat) : Int) * 4096) = ((piece w 31 1 : Nat) : Int) * 1048576 + ((piece w 12 8 : Nat) : Int) * 4096 := or_add (piece w 31 1) (piece w 12 8 * 4096) 20 (by omega) (by omega) (by omega) (by omega) (by omega)
    have e2 : bits .or .i64 (((piece w 31 1 : Nat) : Int) * 1048576 + ((piece w 12 8 : Nat) : Int) * 4096) (((piece w 20 1 : Nat) : Int) * 2048) = ((piece w 31 1 : Nat) : Int) * 1048576 + ((piece w 12 8 : Nat) : Int) * 4096 + ((piece w 20 1 : Nat) : Int) * 2048 := or_add (piece w 31 1 * 256 + piece w 12 8) (piece w 20 1 * 2048) 12 (by omega) (by omega) (by omega) (by omega) (by omega)
    have e3 : bits .or .i64 (((piece w 31 1 : Nat) : Int) * 1048576 + ((piece w 12 8 : Nat) : Int) * 4096 + ((piece w 20 1 : Nat) : Int) * 2048) (((piece w 21 10 : Nat) : Int) * 2) = ((piece w 31 1 : Nat) : Int) * 1048576 + ((piece w 12 8 : Nat) : Int) * 4096 + ((piece w 20 1 : Nat) : Int) * 2048 + ((piece w 21 10 : Nat) : Int) * 2 := or_add ((piece w 31 1 * 256 + piece w 12 8) * 2 + piece w 20 1) (piece w 21 10 * 2) 11 (by omega) (by omega) (by omega) (by omega) (by omega)
    simp only [show ((5 : Nat) : Int) = 5 from rfl]
    go_enter Tryd.func93, Tryd.ntmps93
    go_wp2_with (first | (go_at_call_of 94 ([Value.int IntKind.i64 31, Value.int IntKind.i64 1]); refine (rvbits31_any w 31 1 (by decide) (by decide) _).mono ?_; rintro e wb ⟨rfl, kb, rfl⟩) | (go_at_call_of 94 ([Value.int IntKind.i64 12, Value.int IntKind.i64 8]); refine (rvbits31_any w 12 8 (by decide) (by decide) _).mono ?_; rintro e wb ⟨rfl, kb, rfl⟩) | (go_at_call_of 94 ([Value.int IntKind.i64 20, Value.int IntKind.i64 1]); refine (rvbits31_any w 20 1 (by decide) (by decide) _).mono ?_; rintro e wb ⟨rfl, kb, rfl⟩) | (go_at_call_of 94 ([Value.int IntKind.i64 21, Value.int IntKind.i64 10]); refine (rvbits31_any w 21 10 (by decide) (by decide) _).mono ?_; rintro e wb ⟨rfl, kb, rfl⟩) | (go_at_call 112; refine (signed_any _ 21 (by simp) (by constructor <;> omega) _).mono ?_; rintro e wb ⟨rfl, kc, rfl⟩))
    go_ret
    exact ⟨rfl, _, rfl⟩
  · have HR := Lib.hid hr
    clear hr
    simp only [show ((6 : Nat) : Int) = 6 from rfl]
    go_enter Tryd.func93, Tryd.ntmps93
    go_wp2_with (first | (go_at_call_of 94 ([Value.int IntKind.i64 12, Value.int IntKind.i64 20]); refine (rvbits31_any w 12 20 (by decide) (by decide) _).mono ?_; rintro e wb ⟨rfl, kb, rfl⟩) | (go_at_call 112; refine (signed_any _ 20 (by simp) (by constructor <;> omega) _).mono ?_; rintro e wb ⟨rfl, kc, rfl⟩))
    go_ret
    exact ⟨rfl, _, rfl⟩
  · have HR := Lib.hid hr
    clear hr
    simp only [show ((7 : Nat) : Int) = 7 from rfl]
    go_enter Tryd.func93, Tryd.ntmps93
    go_wp2_with (first | fail)
    go_ret
    exact ⟨rfl, 0, rfl⟩
end Go.Proofs.YtfhoffpdodjfeaaDoor
