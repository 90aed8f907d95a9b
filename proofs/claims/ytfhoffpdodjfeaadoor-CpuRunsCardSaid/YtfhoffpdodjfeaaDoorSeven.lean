/- ref.lowSeven, ref.threeBits, ref.topBits. -/
import Derived.Test.YtfhoffpdodjfeaaDoorWordLaw
import Derived.Test.YtfhoffpdodjfeaaDoorMgRvARvB2
set_option linter.unusedSimpArgs false
set_option linter.unusedVariables false
namespace Go.Proofs.YtfhoffpdodjfeaaDoor
open Go.RowKit Plain64
attribute [local irreducible] wpList Code.wp Oper.wp
theorem op_cases {op : Int} (h : 1 ≤ op ∧ op ≤ 29) : op = 1 ∨ op = 2 ∨ op = 3 ∨ op = 4 ∨ op = 5 ∨ op = 6 ∨ op = 7 ∨ op = 8 ∨ op = 9 ∨ op = 10 ∨ op = 11 ∨ op = 12 ∨ op = 13 ∨ op = 14 ∨ op = 15 ∨ op = 16 ∨ op = 17 ∨ op = 18 ∨ op = 19 ∨ op = 20 ∨ op = 21 ∨ op = 22 ∨ op = 23 ∨ op = 24 ∨ op = 25 ∨ op = 26 ∨ op = 27 ∨ op = 28 ∨ op = 29 := by omega
set_option maxHeartbeats 2000000 in
theorem threeBits_any (op : Int) (h : 1 ≤ op ∧ op ≤ 29) (w : World) :
    Calls Tryd.prog 118 #[.int .i64 op] w fun e w' => e = .returned (.int .i64 (formZ op).f3) ∧ w = w' := by
  rcases op_cases h with rfl | rfl | rfl | rfl | rfl | rfl | rfl | rfl | rfl | rfl | rfl | rfl | rfl | rfl | rfl | rfl | rfl | rfl | rfl | rfl | rfl | rfl | rfl | rfl | rfl | rfl | rfl | rfl | rfl
  all_goals
    clear h
    go_enter Tryd.func118, Tryd.ntmps118
    go_wp2
    go_ret
    exact ⟨rfl, rfl⟩
set_option maxHeartbeats 2000000 in
theorem topBits_any (op : Int) (h : 1 ≤ op ∧ op ≤ 29) (w : World) :
    Calls Tryd.prog 119 #[.int .i64 op] w fun e w' => e = .returned (.int .i64 (formZ op).f7) ∧ w = w' := by
  rcases op_cases h with rfl | rfl | rfl | rfl | rfl | rfl | rfl | rfl | rfl | rfl | rfl | rfl | rfl | rfl | rfl | rfl | rfl | rfl | rfl | rfl | rfl | rfl | rfl | rfl | rfl | rfl | rfl | rfl | rfl
  all_goals
    clear h
    go_enter Tryd.func119, Tryd.ntmps119
    go_wp2
    go_ret
    exact ⟨rfl, rfl⟩
set_option maxHeartbeats 4000000 in
theorem lowSeven_any (op : Int) (h : 1 ≤ op ∧ op ≤ 29) (w : World) :
    Calls Tryd.prog 117 #[.int .i64 op] w fun e w' => e = .returned (.int .i64 (formZ op).code) ∧ Below w.heap.size w w' := by
  have HP := Lib.hid (Hp.start w)
  rcases op_cases h with rfl | rfl | rfl | rfl | rfl | rfl | rfl | rfl | rfl | rfl | rfl | rfl | rfl | rfl | rfl | rfl | rfl | rfl | rfl | rfl | rfl | rfl | rfl | rfl | rfl | rfl | rfl | rfl | rfl
  · have hs : ((shapeZ (1 : Int) : Nat) : Int) = 0 := rfl
    have H := Lib.hid h
    clear h
    go_enter Tryd.func117, Tryd.ntmps117
    go_wp2_with (first | (refine wpList_ints_hp rfl 25 3 5 _ rfl HP.out Tryd.underlying25 [_, _, _, _, _] rfl (by kernel_rfl) ?_; clear HP; intro gi wi HP; replace HP := Lib.hid HP) | (refine wpList_ld0 rfl 3 _ rfl HP.out rfl rfl Tryd.underlying3 rfl ?_) | (go_at_call 101; refine (shapeOf_any _ H.out _).mono ?_; rintro e w2 ⟨rfl, rfl⟩; rw [hs]))
    go_ret
    exact ⟨rfl, HP.out.below⟩
  · have hs : ((shapeZ (2 : Int) : Nat) : Int) = 0 := rfl
    have H := Lib.hid h
    clear h
    go_enter Tryd.func117, Tryd.ntmps117
    go_wp2_with (first | (refine wpList_ints_hp rfl 25 3 5 _ rfl HP.out Tryd.underlying25 [_, _, _, _, _] rfl (by kernel_rfl) ?_; clear HP; intro gi wi HP; replace HP := Lib.hid HP) | (refine wpList_ld0 rfl 3 _ rfl HP.out rfl rfl Tryd.underlying3 rfl ?_) | (go_at_call 101; refine (shapeOf_any _ H.out _).mono ?_; rintro e w2 ⟨rfl, rfl⟩; rw [hs]))
    go_ret
    exact ⟨rfl, HP.out.below⟩
  · have hs : ((shapeZ (3 : Int) : Nat) : Int) = 0 := rfl
    have H := Lib.hid h
    clear h
    go_enter Tryd.func117, Tryd.ntmps117
    go_wp2_with (first | (refine wpList_ints_hp rfl 25 3 5 _ rfl HP.out Tryd.underlying25 [_, _, _, _, _] rfl (by kernel_rfl) ?_; clear HP; intro gi wi HP; replace HP := Lib.hid HP) | (refine wpList_ld0 rfl 3 _ rfl HP.out rfl rfl Tryd.underlying3 rfl ?_) | (go_at_call 101; refine (shapeOf_any _ H.out _).mono ?_; rintro e w2 ⟨rfl, rfl⟩; rw [hs]))
    go_ret
    exact ⟨rfl, HP.out.below⟩
  · have hs : ((shapeZ (4 : Int) : Nat) : Int) = 0 := rfl
    have H := Lib.hid h
    clear h
    go_enter Tryd.func117, Tryd.ntmps117
    go_wp2_with (first | (refine wpList_ints_hp rfl 25 3 5 _ rfl HP.out Tryd.underlying25 [_, _, _, _, _] rfl (by kernel_rfl) ?_; clear HP; intro gi wi HP; replace HP := Lib.hid HP) | (refine wpList_ld0 rfl 3 _ rfl HP.out rfl rfl Tryd.underlying3 rfl ?_) | (go_at_call 101; refine (shapeOf_any _ H.out _).mono ?_; rintro e w2 ⟨rfl, rfl⟩; rw [hs]))
    go_ret
    exact ⟨rfl, HP.out.below⟩
  · have hs : ((shapeZ (5 : Int) : Nat) : Int) = 0 := rfl
    have H := Lib.hid h
    clear h
    go_enter Tryd.func117, Tryd.ntmps117
    go_wp2_with (first | (refine wpList_ints_hp rfl 25 3 5 _ rfl HP.out Tryd.underlying25 [_, _, _, _, _] rfl (by kernel_rfl) ?_; clear HP; intro gi wi HP; replace HP := Lib.hid HP) | (refine wpList_ld0 rfl 3 _ rfl HP.out rfl rfl Tryd.underlying3 rfl ?_) | (go_at_call 101; refine (shapeOf_any _ H.out _).mono ?_; rintro e w2 ⟨rfl, rfl⟩; rw [hs]))
    go_ret
    exact ⟨rfl, HP.out.below⟩
  · have hs : ((shapeZ (6 : Int) : Nat) : Int) = 0 := rfl
    have H := Lib.hid h
    clear h
    go_enter Tryd.func117, Tryd.ntmps117
    go_wp2_with (first | (refine wpList_ints_hp rfl 25 3 5 _ rfl HP.out Tryd.underlying25 [_, _, _, _, _] rfl (by kernel_rfl) ?_; clear HP; intro gi wi HP; replace HP := Lib.hid HP) | (refine wpList_ld0 rfl 3 _ rfl HP.out rfl rfl Tryd.underlying3 rfl ?_) | (go_at_call 101; refine (shapeOf_any _ H.out _).mono ?_; rintro e w2 ⟨rfl, rfl⟩; rw [hs]))
    go_ret
    exact ⟨rfl, HP.out.below⟩
  · have hs : ((shapeZ (7 : Int) : Nat) : Int) = 0 := rfl
    have H := Lib.hid h
    clear h
    go_enter Tryd.func117, Tryd.ntmps117
    go_wp2_with (first | (refine wpList_ints_hp rfl 25 3 5 _ rfl HP.out Tryd.underlying25 [_, _, _, _, _] rfl (by kernel_rfl) ?_; clear HP; intro gi wi HP; replace HP := Lib.hid HP) | (refine wpList_ld0 rfl 3 _ rfl HP.out rfl rfl Tryd.underlying3 rfl ?_) | (go_at_call 101; refine (shapeOf_any _ H.out _).mono ?_; rintro e w2 ⟨rfl, rfl⟩; rw [hs]))
    go_ret
    exact ⟨rfl, HP.out.below⟩
  · have hs : ((shapeZ (8 : Int) : Nat) : Int) = 0 := rfl
    have H := Lib.hid h
    clear h
    go_enter Tryd.func117, Tryd.ntmps117
    go_wp2_with (first | (refine wpList_ints_hp rfl 25 3 5 _ rfl HP.out Tryd.underlying25 [_, _, _, _, _] rfl (by kernel_rfl) ?_; clear HP; intro gi wi HP; replace HP := Lib.hid HP) | (refine wpList_ld0 rfl 3 _ rfl HP.out rfl rfl Tryd.underlying3 rfl ?_) | (go_at_call 101; refine (shapeOf_any _ H.out _).mono ?_; rintro e w2 ⟨rfl, rfl⟩; rw [hs]))
    go_ret
    exact ⟨rfl, HP.out.below⟩
  · have hs : ((shapeZ (9 : Int) : Nat) : Int) = 0 := rfl
    have H := Lib.hid h
    clear h
    go_enter Tryd.func117, Tryd.ntmps117
    go_wp2_with (first | (refine wpList_ints_hp rfl 25 3 5 _ rfl HP.out Tryd.underlying25 [_, _, _, _, _] rfl (by kernel_rfl) ?_; clear HP; intro gi wi HP; replace HP := Lib.hid HP) | (refine wpList_ld0 rfl 3 _ rfl HP.out rfl rfl Tryd.underlying3 rfl ?_) | (go_at_call 101; refine (shapeOf_any _ H.out _).mono ?_; rintro e w2 ⟨rfl, rfl⟩; rw [hs]))
    go_ret
    exact ⟨rfl, HP.out.below⟩
  · have hs : ((shapeZ (10 : Int) : Nat) : Int) = 0 := rfl
    have H := Lib.hid h
    clear h
    go_enter Tryd.func117, Tryd.ntmps117
    go_wp2_with (first | (refine wpList_ints_hp rfl 25 3 5 _ rfl HP.out Tryd.underlying25 [_, _, _, _, _] rfl (by kernel_rfl) ?_; clear HP; intro gi wi HP; replace HP := Lib.hid HP) | (refine wpList_ld0 rfl 3 _ rfl HP.out rfl rfl Tryd.underlying3 rfl ?_) | (go_at_call 101; refine (shapeOf_any _ H.out _).mono ?_; rintro e w2 ⟨rfl, rfl⟩; rw [hs]))
    go_ret
    exact ⟨rfl, HP.out.below⟩
  · have hs : ((shapeZ (11 : Int) : Nat) : Int) = 0 := rfl
    have H := Lib.hid h
    clear h
    go_enter Tryd.func117, Tryd.ntmps117
    go_wp2_with (first | (refine wpList_ints_hp rfl 25 3 5 _ rfl HP.out Tryd.underlying25 [_, _, _, _, _] rfl (by kernel_rfl) ?_; clear HP; intro gi wi HP; replace HP := Lib.hid HP) | (refine wpList_ld0 rfl 3 _ rfl HP.out rfl rfl Tryd.underlying3 rfl ?_) | (go_at_call 101; refine (shapeOf_any _ H.out _).mono ?_; rintro e w2 ⟨rfl, rfl⟩; rw [hs]))
    go_ret
    exact ⟨rfl, HP.out.below⟩
  · have hs : ((shapeZ (12 : Int) : Nat) : Int) = 1 := rfl
    have H := Lib.hid h
    clear h
    go_enter Tryd.func117, Tryd.ntmps117
    go_wp2_with (first | (refine wpList_ints_hp rfl 25 3 5 _ rfl HP.out Tryd.underlying25 [_, _, _, _, _] rfl (by kernel_rfl) ?_; clear HP; intro gi wi HP; replace HP := Lib.hid HP) | (refine wpList_ld0 rfl 3 _ rfl HP.out rfl rfl Tryd.underlying3 rfl ?_) | (go_at_call 101; refine (shapeOf_any _ H.out _).mono ?_; rintro e w2 ⟨rfl, rfl⟩; rw [hs]))
    go_ret
    exact ⟨rfl, HP.out.below⟩
  · have hs : ((shapeZ (13 : Int) : Nat) : Int) = 1 := rfl
    have H := Lib.hid h
    clear h
    go_enter Tryd.func117, Tryd.ntmps117
    go_wp2_with (first | (refine wpList_ints_hp rfl 25 3 5 _ rfl HP.out Tryd.underlying25 [_, _, _, _, _] rfl (by kernel_rfl) ?_; clear HP; intro gi wi HP; replace HP := Lib.hid HP) | (refine wpList_ld0 rfl 3 _ rfl HP.out rfl rfl Tryd.underlying3 rfl ?_) | (go_at_call 101; refine (shapeOf_any _ H.out _).mono ?_; rintro e w2 ⟨rfl, rfl⟩; rw [hs]))
    go_ret
    exact ⟨rfl, HP.out.below⟩
  · have hs : ((shapeZ (14 : Int) : Nat) : Int) = 1 := rfl
    have H := Lib.hid h
    clear h
    go_enter Tryd.func117, Tryd.ntmps117
    go_wp2_with (first | (refine wpList_ints_hp rfl 25 3 5 _ rfl HP.out Tryd.underlying25 [_, _, _, _, _] rfl (by kernel_rfl) ?_; clear HP; intro gi wi HP; replace HP := Lib.hid HP) | (refine wpList_ld0 rfl 3 _ rfl HP.out rfl rfl Tryd.underlying3 rfl ?_) | (go_at_call 101; refine (shapeOf_any _ H.out _).mono ?_; rintro e w2 ⟨rfl, rfl⟩; rw [hs]))
    go_ret
    exact ⟨rfl, HP.out.below⟩
  · have hs : ((shapeZ (15 : Int) : Nat) : Int) = 1 := rfl
    have H := Lib.hid h
    clear h
    go_enter Tryd.func117, Tryd.ntmps117
    go_wp2_with (first | (refine wpList_ints_hp rfl 25 3 5 _ rfl HP.out Tryd.underlying25 [_, _, _, _, _] rfl (by kernel_rfl) ?_; clear HP; intro gi wi HP; replace HP := Lib.hid HP) | (refine wpList_ld0 rfl 3 _ rfl HP.out rfl rfl Tryd.underlying3 rfl ?_) | (go_at_call 101; refine (shapeOf_any _ H.out _).mono ?_; rintro e w2 ⟨rfl, rfl⟩; rw [hs]))
    go_ret
    exact ⟨rfl, HP.out.below⟩
  · have hs : ((shapeZ (16 : Int) : Nat) : Int) = 1 := rfl
    have H := Lib.hid h
    clear h
    go_enter Tryd.func117, Tryd.ntmps117
    go_wp2_with (first | (refine wpList_ints_hp rfl 25 3 5 _ rfl HP.out Tryd.underlying25 [_, _, _, _, _] rfl (by kernel_rfl) ?_; clear HP; intro gi wi HP; replace HP := Lib.hid HP) | (refine wpList_ld0 rfl 3 _ rfl HP.out rfl rfl Tryd.underlying3 rfl ?_) | (go_at_call 101; refine (shapeOf_any _ H.out _).mono ?_; rintro e w2 ⟨rfl, rfl⟩; rw [hs]))
    go_ret
    exact ⟨rfl, HP.out.below⟩
  · have hs : ((shapeZ (17 : Int) : Nat) : Int) = 1 := rfl
    have H := Lib.hid h
    clear h
    go_enter Tryd.func117, Tryd.ntmps117
    go_wp2_with (first | (refine wpList_ints_hp rfl 25 3 5 _ rfl HP.out Tryd.underlying25 [_, _, _, _, _] rfl (by kernel_rfl) ?_; clear HP; intro gi wi HP; replace HP := Lib.hid HP) | (refine wpList_ld0 rfl 3 _ rfl HP.out rfl rfl Tryd.underlying3 rfl ?_) | (go_at_call 101; refine (shapeOf_any _ H.out _).mono ?_; rintro e w2 ⟨rfl, rfl⟩; rw [hs]))
    go_ret
    exact ⟨rfl, HP.out.below⟩
  · have hs : ((shapeZ (18 : Int) : Nat) : Int) = 2 := rfl
    have H := Lib.hid h
    clear h
    go_enter Tryd.func117, Tryd.ntmps117
    go_wp2_with (first | (refine wpList_ints_hp rfl 25 3 5 _ rfl HP.out Tryd.underlying25 [_, _, _, _, _] rfl (by kernel_rfl) ?_; clear HP; intro gi wi HP; replace HP := Lib.hid HP) | (refine wpList_ld0 rfl 3 _ rfl HP.out rfl rfl Tryd.underlying3 rfl ?_) | (go_at_call 101; refine (shapeOf_any _ H.out _).mono ?_; rintro e w2 ⟨rfl, rfl⟩; rw [hs]))
    go_ret
    exact ⟨rfl, HP.out.below⟩
  · have hs : ((shapeZ (19 : Int) : Nat) : Int) = 2 := rfl
    have H := Lib.hid h
    clear h
    go_enter Tryd.func117, Tryd.ntmps117
    go_wp2_with (first | (refine wpList_ints_hp rfl 25 3 5 _ rfl HP.out Tryd.underlying25 [_, _, _, _, _] rfl (by kernel_rfl) ?_; clear HP; intro gi wi HP; replace HP := Lib.hid HP) | (refine wpList_ld0 rfl 3 _ rfl HP.out rfl rfl Tryd.underlying3 rfl ?_) | (go_at_call 101; refine (shapeOf_any _ H.out _).mono ?_; rintro e w2 ⟨rfl, rfl⟩; rw [hs]))
    go_ret
    exact ⟨rfl, HP.out.below⟩
  · have hs : ((shapeZ (20 : Int) : Nat) : Int) = 1 := rfl
    have H := Lib.hid h
    clear h
    go_enter Tryd.func117, Tryd.ntmps117
    go_wp2_with (first | (refine wpList_ints_hp rfl 25 3 5 _ rfl HP.out Tryd.underlying25 [_, _, _, _, _] rfl (by kernel_rfl) ?_; clear HP; intro gi wi HP; replace HP := Lib.hid HP) | (refine wpList_ld0 rfl 3 _ rfl HP.out rfl rfl Tryd.underlying3 rfl ?_) | (go_at_call 101; refine (shapeOf_any _ H.out _).mono ?_; rintro e w2 ⟨rfl, rfl⟩; rw [hs]))
    go_ret
    exact ⟨rfl, HP.out.below⟩
  · have hs : ((shapeZ (21 : Int) : Nat) : Int) = 3 := rfl
    have H := Lib.hid h
    clear h
    go_enter Tryd.func117, Tryd.ntmps117
    go_wp2_with (first | (refine wpList_ints_hp rfl 25 3 5 _ rfl HP.out Tryd.underlying25 [_, _, _, _, _] rfl (by kernel_rfl) ?_; clear HP; intro gi wi HP; replace HP := Lib.hid HP) | (refine wpList_ld0 rfl 3 _ rfl HP.out rfl rfl Tryd.underlying3 rfl ?_) | (go_at_call 101; refine (shapeOf_any _ H.out _).mono ?_; rintro e w2 ⟨rfl, rfl⟩; rw [hs]))
    go_ret
    exact ⟨rfl, HP.out.below⟩
  · have hs : ((shapeZ (22 : Int) : Nat) : Int) = 4 := rfl
    have H := Lib.hid h
    clear h
    go_enter Tryd.func117, Tryd.ntmps117
    go_wp2_with (first | (refine wpList_ints_hp rfl 25 3 5 _ rfl HP.out Tryd.underlying25 [_, _, _, _, _] rfl (by kernel_rfl) ?_; clear HP; intro gi wi HP; replace HP := Lib.hid HP) | (refine wpList_ld0 rfl 3 _ rfl HP.out rfl rfl Tryd.underlying3 rfl ?_) | (go_at_call 101; refine (shapeOf_any _ H.out _).mono ?_; rintro e w2 ⟨rfl, rfl⟩; rw [hs]))
    go_ret
    exact ⟨rfl, HP.out.below⟩
  · have hs : ((shapeZ (23 : Int) : Nat) : Int) = 4 := rfl
    have H := Lib.hid h
    clear h
    go_enter Tryd.func117, Tryd.ntmps117
    go_wp2_with (first | (refine wpList_ints_hp rfl 25 3 5 _ rfl HP.out Tryd.underlying25 [_, _, _, _, _] rfl (by kernel_rfl) ?_; clear HP; intro gi wi HP; replace HP := Lib.hid HP) | (refine wpList_ld0 rfl 3 _ rfl HP.out rfl rfl Tryd.underlying3 rfl ?_) | (go_at_call 101; refine (shapeOf_any _ H.out _).mono ?_; rintro e w2 ⟨rfl, rfl⟩; rw [hs]))
    go_ret
    exact ⟨rfl, HP.out.below⟩
  · have hs : ((shapeZ (24 : Int) : Nat) : Int) = 4 := rfl
    have H := Lib.hid h
    clear h
    go_enter Tryd.func117, Tryd.ntmps117
    go_wp2_with (first | (refine wpList_ints_hp rfl 25 3 5 _ rfl HP.out Tryd.underlying25 [_, _, _, _, _] rfl (by kernel_rfl) ?_; clear HP; intro gi wi HP; replace HP := Lib.hid HP) | (refine wpList_ld0 rfl 3 _ rfl HP.out rfl rfl Tryd.underlying3 rfl ?_) | (go_at_call 101; refine (shapeOf_any _ H.out _).mono ?_; rintro e w2 ⟨rfl, rfl⟩; rw [hs]))
    go_ret
    exact ⟨rfl, HP.out.below⟩
  · have hs : ((shapeZ (25 : Int) : Nat) : Int) = 4 := rfl
    have H := Lib.hid h
    clear h
    go_enter Tryd.func117, Tryd.ntmps117
    go_wp2_with (first | (refine wpList_ints_hp rfl 25 3 5 _ rfl HP.out Tryd.underlying25 [_, _, _, _, _] rfl (by kernel_rfl) ?_; clear HP; intro gi wi HP; replace HP := Lib.hid HP) | (refine wpList_ld0 rfl 3 _ rfl HP.out rfl rfl Tryd.underlying3 rfl ?_) | (go_at_call 101; refine (shapeOf_any _ H.out _).mono ?_; rintro e w2 ⟨rfl, rfl⟩; rw [hs]))
    go_ret
    exact ⟨rfl, HP.out.below⟩
  · have hs : ((shapeZ (26 : Int) : Nat) : Int) = 5 := rfl
    have H := Lib.hid h
    clear h
    go_enter Tryd.func117, Tryd.ntmps117
    go_wp2_with (first | (refine wpList_ints_hp rfl 25 3 5 _ rfl HP.out Tryd.underlying25 [_, _, _, _, _] rfl (by kernel_rfl) ?_; clear HP; intro gi wi HP; replace HP := Lib.hid HP) | (refine wpList_ld0 rfl 3 _ rfl HP.out rfl rfl Tryd.underlying3 rfl ?_) | (go_at_call 101; refine (shapeOf_any _ H.out _).mono ?_; rintro e w2 ⟨rfl, rfl⟩; rw [hs]))
    go_ret
    exact ⟨rfl, HP.out.below⟩
  · have hs : ((shapeZ (27 : Int) : Nat) : Int) = 1 := rfl
    have H := Lib.hid h
    clear h
    go_enter Tryd.func117, Tryd.ntmps117
    go_wp2_with (first | (refine wpList_ints_hp rfl 25 3 5 _ rfl HP.out Tryd.underlying25 [_, _, _, _, _] rfl (by kernel_rfl) ?_; clear HP; intro gi wi HP; replace HP := Lib.hid HP) | (refine wpList_ld0 rfl 3 _ rfl HP.out rfl rfl Tryd.underlying3 rfl ?_) | (go_at_call 101; refine (shapeOf_any _ H.out _).mono ?_; rintro e w2 ⟨rfl, rfl⟩; rw [hs]))
    go_ret
    exact ⟨rfl, HP.out.below⟩
  · have hs : ((shapeZ (28 : Int) : Nat) : Int) = 6 := rfl
    have H := Lib.hid h
    clear h
    go_enter Tryd.func117, Tryd.ntmps117
    go_wp2_with (first | (refine wpList_ints_hp rfl 25 3 5 _ rfl HP.out Tryd.underlying25 [_, _, _, _, _] rfl (by kernel_rfl) ?_; clear HP; intro gi wi HP; replace HP := Lib.hid HP) | (refine wpList_ld0 rfl 3 _ rfl HP.out rfl rfl Tryd.underlying3 rfl ?_) | (go_at_call 101; refine (shapeOf_any _ H.out _).mono ?_; rintro e w2 ⟨rfl, rfl⟩; rw [hs]))
    go_ret
    exact ⟨rfl, HP.out.below⟩
  · have hs : ((shapeZ (29 : Int) : Nat) : Int) = 7 := rfl
    have H := Lib.hid h
    clear h
    go_enter Tryd.func117, Tryd.ntmps117
    go_wp2_with (first | (refine wpList_ints_hp rfl 25 3 5 _ rfl HP.out Tryd.underlying25 [_, _, _, _, _] rfl (by kernel_rfl) ?_; clear HP; intro gi wi HP; replace HP := Lib.hid HP) | (refine wpList_ld0 rfl 3 _ rfl HP.out rfl rfl Tryd.underlying3 rfl ?_) | (go_at_call 101; refine (shapeOf_any _ H.out _).mono ?_; rintro e w2 ⟨rfl, rfl⟩; rw [hs]))
    go_ret
    exact ⟨rfl, HP.out.below⟩
end Go.Proofs.YtfhoffpdodjfeaaDoor
