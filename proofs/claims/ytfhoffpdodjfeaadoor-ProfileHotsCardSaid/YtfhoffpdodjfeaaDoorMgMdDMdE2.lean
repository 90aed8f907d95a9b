/- tierlineref.Made: Shl, Sar. tierlineref.Made answers what step.Make answers. -/
import Derived.Test.YtfhoffpdodjfeaaDoorMgReadsHReadsKMdAMdBMdC5
set_option linter.unusedSimpArgs false
set_option linter.unusedVariables false
namespace Go.Proofs.YtfhoffpdodjfeaaDoor
open Go.RowKit Plain64
set_option maxRecDepth 100000 in
set_option maxHeartbeats 2000000 in
theorem made_9 (a b imm : Int) (w : World) (ha : -9223372036854775808 ≤ a ∧ a ≤ 9223372036854775807) (hb : -9223372036854775808 ≤ b ∧ b ≤ 9223372036854775807) :
    Calls Tryd.prog 85 #[.int .i64 9, .int .i64 a, .int .i64 b, .int .i64 imm] w fun e w' => e = .returned (.tuple #[.int .i64 (wrap64 (vTop (fun j => decide ((b % 64).toNat ≤ j) && bitZ a (j - (b % 64).toNat)) 64 : Nat)), .int .i64 0]) ∧ Below w.heap.size w w' := by
  go_enter Tryd.func85, Tryd.ntmps85
  go_wp2_with (go_at_call 47; refine (In_any _ _ _ _).mono ?_; rintro e w' ⟨rfl, rfl⟩)
  refine (bits_any a _ ha).mono ?_
  rintro e w1 ⟨rfl, hw1⟩
  go_wp2_with (refine wpList_store_row rfl 132 _ _ rfl _ (boolArr (bitZ a)) rfl rfl 132 _ (heap_alloc_new _ _) (boolArr_size33 _) (boolArr_size _).symm (boolArr_one _) ?_)
  rw [World.setRow_alloc_new]
  refine (bits_any b _ hb).mono ?_
  rintro e w2 ⟨rfl, hw2⟩
  go_wp2_with (refine wpList_store_row rfl 132 _ _ rfl _ (boolArr (bitZ b)) rfl rfl 132 _ (heap_alloc_new _ _) (boolArr_size33 _) (boolArr_size _).symm (boolArr_one _) ?_)
  rw [World.setRow_alloc_new]
  obtain ⟨g, hg⟩ : ∃ g : Nat → Bool, g = fun j => decide ((b % 64).toNat ≤ j) && bitZ a (j - (b % 64).toNat) := ⟨_, rfl⟩
  obtain ⟨W3, hW⟩ : ∃ W3, W3 = (w2.alloc (.cells (boolArr (bitZ b)) 132)).alloc (.cells (upTo g 0) 132) := ⟨_, rfl⟩
  refine wp_world (W' := W3) (by rw [hW]; rfl) ?_
  have hle : w.heap.size ≤ w1.heap.size := hw1.size
  have hlt : w1.heap.size < w2.heap.size := by have := hw2.size; simp at this; omega
  have hA : Blk W3 w1.heap.size 132 (boolArr (bitZ a)) := by
    unfold Blk
    rw [hW, Below.heap_alloc _ _ _ (by simp; omega), Below.heap_alloc _ _ _ hlt, hw2.block _ (by simp), heap_alloc_new]
  have hB : Blk W3 w2.heap.size 132 (boolArr (bitZ b)) := by unfold Blk; rw [hW]; exact heap_alloc2_old w2 _ _
  have hO : Blk W3 (w2.heap.size + 1) 132 (upTo g 0) := by unfold Blk; rw [hW]; exact heap_alloc2_new w2 _ _
  have hbel : Below w.heap.size w W3 := by
    have h0 := hw1.size
    have h1 : Below w.heap.size w w2 := (hw1.alloc h0 _).trans (hw2.mono (by simp; omega))
    rw [hW]; exact (h1.alloc (by omega) _).alloc (by simp; omega) _
  clear hW hw1 hw2
  have H := Lib.hid (And.intro hA (And.intro hB hO))
  have HG := Lib.hid hg
  clear hA hB hO hg
  go_loop [13, 14] (fun v i => ∃ m : Nat, m ≤ 6 ∧ i = .int .i64 (5 - m) ∧ v = .int .i64 (shTop b m)) (fun _ i => (1 + intOf i).toNat)
  case atStart => exact ⟨0, by omega, rfl, by rw [shTop_zero]⟩
  case round =>
    obtain ⟨m, hm, rfl, rfl⟩ := hrel
    have hr := shTop_range b m
    have hst := shTop_step b m
    generalize hx : shTop b m = x at *
    by_cases h6 : m < 6
    · have hc : W3.cell? ⟨w2.heap.size, 5 - m, none⟩ = some (.bool (bitZ b (5 - m))) := by
        rw [cell_of_row _ _ _ _ _ _ H.out.2.1, boolArr_at _ _ (by omega)]
      have HS := Lib.hid (hst h6)
      clear hst hx
      cases hbb : bitZ b (5 - m)
      all_goals
        rw [hbb] at hc
        have HB := Lib.hid hbb
        clear hbb
        go_wp2
        go_round
        case rel =>
          refine ⟨m + 1, by omega, by go_num, ?_⟩
          rw [HS.out, HB.out]
          simp
          omega
        case measure => simp [intOf]; omega
    · obtain rfl : m = 6 := by omega
      rw [shTop_all] at hx
      obtain ⟨s, rfl⟩ := Int.eq_ofNat_of_zero_le hr.1
      have HX := Lib.hid hx
      clear hx hst
      go_wp2
      go_loopw [15] (fun i wr => ∃ k : Nat, k ≤ 64 ∧ i = .int .i64 k ∧ Blk wr w1.heap.size 132 (boolArr (bitZ a)) ∧ Blk wr w2.heap.size 132 (boolArr (bitZ b)) ∧ Blk wr (w2.heap.size + 1) 132 (upTo g k) ∧ Below w.heap.size w wr) (fun i _ => 64 - (intOf i).toNat)
      case atStart => exact ⟨0, by omega, rfl, H.out.1, H.out.2.1, H.out.2.2, hbel⟩
      case round =>
        obtain ⟨k, hk, rfl, hA, hB, hO, hbr⟩ := hrel
        have H3 := Lib.hid (And.intro hA (And.intro hB hO))
        clear hA hB hO
        by_cases h64 : k < 64
        · have hs : (b % 64).toNat = s := by rw [HX.out]; rfl
          have HS := Lib.hid hs
          clear hs
          by_cases hks : s ≤ k
          · have hca : wr.cell? ⟨w1.heap.size, k - s, none⟩ = some (.bool (bitZ a (k - s))) := by rw [cell_of_row _ _ _ _ _ _ H3.out.1, boolArr_at _ _ (by omega)]
            have hco : wr.cell? ⟨w2.heap.size + 1, k, none⟩ = some (.bool false) := by rw [cell_of_row _ _ _ _ _ _ H3.out.2.2, upTo_at _ _ h64]
            have hfo : wr.frozen? ⟨w2.heap.size + 1, k, none⟩ = false := frozen_of_row _ _ _ _ _ H3.out.2.2
            go_wp2
            go_roundw
            case rel =>
              refine ⟨k + 1, by omega, by go_num, ?_, ?_, ?_, ?_⟩
              · exact (heap_setCell_other _ _ _ _ (by simp; omega)).trans H3.out.1
              · exact (heap_setCell_other _ _ _ _ (by simp)).trans H3.out.2.1
              · exact upTo_store H3.out.2.2 h64 (by rw [HG.out, HS.out]; simp [hks])
              · exact hbr.setCell (by simp; omega) _
            case measure => simp [intOf]; omega
          · go_wp2
            go_roundw
            case rel =>
              refine ⟨k + 1, by omega, by go_num, H3.out.1, H3.out.2.1, ?_, hbr⟩
              have := upTo_skip g k h64 (by rw [HG.out, HS.out]; simp [hks])
              rw [← this]; exact H3.out.2.2
            case measure => simp [intOf]; omega
        · obtain rfl : k = 64 := by omega
          go_wp2_with (first | (refine wpList_load_row rfl 132 _ rfl _ rfl 132 (upTo g 64) (0, 0) _ H3.out.2.2 Tryd.underlying132 rfl (boolArr_size33 _) ?_) | (go_at_call 107; refine (ofBits_any _ _).mono ?_; rintro e w' ⟨rfl, hw'⟩))
          go_ret2
          exact ⟨ret_two (by rw [← HG.out]; exact upTo_done g) rfl, hbr.trans (hw'.mono hbr.size)⟩
set_option maxRecDepth 100000 in
set_option maxHeartbeats 2000000 in
theorem made_10 (a b imm : Int) (w : World) (ha : -9223372036854775808 ≤ a ∧ a ≤ 9223372036854775807) (hb : -9223372036854775808 ≤ b ∧ b ≤ 9223372036854775807) :
    Calls Tryd.prog 85 #[.int .i64 10, .int .i64 a, .int .i64 b, .int .i64 imm] w fun e w' => e = .returned (.tuple #[.int .i64 (wrap64 (vTop (fun j => if j + (b % 64).toNat < 64 then bitZ a (j + (b % 64).toNat) else bitZ a 63) 64 : Nat)), .int .i64 0]) ∧ Below w.heap.size w w' := by
  go_enter Tryd.func85, Tryd.ntmps85
  go_wp2_with (go_at_call 47; refine (In_any _ _ _ _).mono ?_; rintro e w' ⟨rfl, rfl⟩)
  refine (bits_any a _ ha).mono ?_
  rintro e w1 ⟨rfl, hw1⟩
  go_wp2_with (refine wpList_store_row rfl 132 _ _ rfl _ (boolArr (bitZ a)) rfl rfl 132 _ (heap_alloc_new _ _) (boolArr_size33 _) (boolArr_size _).symm (boolArr_one _) ?_)
  rw [World.setRow_alloc_new]
  refine (bits_any b _ hb).mono ?_
  rintro e w2 ⟨rfl, hw2⟩
  go_wp2_with (refine wpList_store_row rfl 132 _ _ rfl _ (boolArr (bitZ b)) rfl rfl 132 _ (heap_alloc_new _ _) (boolArr_size33 _) (boolArr_size _).symm (boolArr_one _) ?_)
  rw [World.setRow_alloc_new]
  obtain ⟨g, hg⟩ : ∃ g : Nat → Bool, g = fun j => if j + (b % 64).toNat < 64 then bitZ a (j + (b % 64).toNat) else bitZ a 63 := ⟨_, rfl⟩
  obtain ⟨W3, hW⟩ : ∃ W3, W3 = (w2.alloc (.cells (boolArr (bitZ b)) 132)).alloc (.cells (upTo g 0) 132) := ⟨_, rfl⟩
  refine wp_world (W' := W3) (by rw [hW]; rfl) ?_
  have hle : w.heap.size ≤ w1.heap.size := hw1.size
  have hlt : w1.heap.size < w2.heap.size := by have := hw2.size; simp at this; omega
  have hA : Blk W3 w1.heap.size 132 (boolArr (bitZ a)) := by
    unfold Blk
    rw [hW, Below.heap_alloc _ _ _ (by simp; omega), Below.heap_alloc _ _ _ hlt, hw2.block _ (by simp), heap_alloc_new]
  have hB : Blk W3 w2.heap.size 132 (boolArr (bitZ b)) := by unfold Blk; rw [hW]; exact heap_alloc2_old w2 _ _
  have hO : Blk W3 (w2.heap.size + 1) 132 (upTo g 0) := by unfold Blk; rw [hW]; exact heap_alloc2_new w2 _ _
  have hbel : Below w.heap.size w W3 := by
    have h0 := hw1.size
    have h1 : Below w.heap.size w w2 := (hw1.alloc h0 _).trans (hw2.mono (by simp; omega))
    rw [hW]; exact (h1.alloc (by omega) _).alloc (by simp; omega) _
  clear hW hw1 hw2
  have H := Lib.hid (And.intro hA (And.intro hB hO))
  have HG := Lib.hid hg
  clear hA hB hO hg
  go_loop [13, 14] (fun v i => ∃ m : Nat, m ≤ 6 ∧ i = .int .i64 (5 - m) ∧ v = .int .i64 (shTop b m)) (fun _ i => (1 + intOf i).toNat)
  case atStart => exact ⟨0, by omega, rfl, by rw [shTop_zero]⟩
  case round =>
    obtain ⟨m, hm, rfl, rfl⟩ := hrel
    have hr := shTop_range b m
    have hst := shTop_step b m
    generalize hx : shTop b m = x at *
    by_cases h6 : m < 6
    · have hc : W3.cell? ⟨w2.heap.size, 5 - m, none⟩ = some (.bool (bitZ b (5 - m))) := by
        rw [cell_of_row _ _ _ _ _ _ H.out.2.1, boolArr_at _ _ (by omega)]
      have HS := Lib.hid (hst h6)
      clear hst hx
      cases hbb : bitZ b (5 - m)
      all_goals
        rw [hbb] at hc
        have HB := Lib.hid hbb
        clear hbb
        go_wp2
        go_round
        case rel =>
          refine ⟨m + 1, by omega, by go_num, ?_⟩
          rw [HS.out, HB.out]
          simp
          omega
        case measure => simp [intOf]; omega
    · obtain rfl : m = 6 := by omega
      rw [shTop_all] at hx
      obtain ⟨s, rfl⟩ := Int.eq_ofNat_of_zero_le hr.1
      have HX := Lib.hid hx
      clear hx hst
      go_wp2
      go_loopw [15] (fun i wr => ∃ k : Nat, k ≤ 64 ∧ i = .int .i64 k ∧ Blk wr w1.heap.size 132 (boolArr (bitZ a)) ∧ Blk wr w2.heap.size 132 (boolArr (bitZ b)) ∧ Blk wr (w2.heap.size + 1) 132 (upTo g k) ∧ Below w.heap.size w wr) (fun i _ => 64 - (intOf i).toNat)
      case atStart => exact ⟨0, by omega, rfl, H.out.1, H.out.2.1, H.out.2.2, hbel⟩
      case round =>
        obtain ⟨k, hk, rfl, hA, hB, hO, hbr⟩ := hrel
        have H3 := Lib.hid (And.intro hA (And.intro hB hO))
        clear hA hB hO
        by_cases h64 : k < 64
        · have hs : (b % 64).toNat = s := by rw [HX.out]; rfl
          have HS := Lib.hid hs
          clear hs
          have hcm : wr.cell? ⟨w1.heap.size, 63, none⟩ = some (.bool (bitZ a 63)) := by rw [cell_of_row _ _ _ _ _ _ H3.out.1, boolArr_at _ _ (by omega)]
          have hco : wr.cell? ⟨w2.heap.size + 1, k, none⟩ = some (.bool false) := by rw [cell_of_row _ _ _ _ _ _ H3.out.2.2, upTo_at _ _ h64]
          have hfo : wr.frozen? ⟨w2.heap.size + 1, k, none⟩ = false := frozen_of_row _ _ _ _ _ H3.out.2.2
          by_cases hks : k + s < 64
          · have hca : wr.cell? ⟨w1.heap.size, k + s, none⟩ = some (.bool (bitZ a (k + s))) := by rw [cell_of_row _ _ _ _ _ _ H3.out.1, boolArr_at _ _ (by omega)]
            go_wp2
            go_roundw
            case rel =>
              refine ⟨k + 1, by omega, by go_num, ?_, ?_, ?_, ?_⟩
              · exact ((heap_setCell_other _ _ _ _ (by simp; omega)).trans (heap_setCell_other _ _ _ _ (by simp; omega))).trans H3.out.1
              · exact ((heap_setCell_other _ _ _ _ (by simp)).trans (heap_setCell_other _ _ _ _ (by simp))).trans H3.out.2.1
              · have h1 := heap_setCell_same _ _ k _ _ (Value.bool (bitZ a 63)) H3.out.2.2
                have h2 := heap_setCell_same _ _ k _ _ (Value.bool (bitZ a (k + s))) h1
                have hx : bitZ a (k + s) = g k := by rw [HG.out, HS.out]; simp [hks]
                rw [Array.setIfInBounds_setIfInBounds, hx, upTo_succ g k h64] at h2
                rw [← hx] at h2
                exact h2
              · exact (hbr.setCell (by simp; omega) _).setCell (by simp; omega) _
            case measure => simp [intOf]; omega
          · go_wp2
            go_roundw
            case rel =>
              refine ⟨k + 1, by omega, by go_num, ?_, ?_, ?_, ?_⟩
              · exact (heap_setCell_other _ _ _ _ (by simp; omega)).trans H3.out.1
              · exact (heap_setCell_other _ _ _ _ (by simp)).trans H3.out.2.1
              · exact upTo_store H3.out.2.2 h64 (by rw [HG.out, HS.out]; simp [hks])
              · exact hbr.setCell (by simp; omega) _
            case measure => simp [intOf]; omega
        · obtain rfl : k = 64 := by omega
          go_wp2_with (first | (refine wpList_load_row rfl 132 _ rfl _ rfl 132 (upTo g 64) (0, 0) _ H3.out.2.2 Tryd.underlying132 rfl (boolArr_size33 _) ?_) | (go_at_call 107; refine (ofBits_any _ _).mono ?_; rintro e w' ⟨rfl, hw'⟩))
          go_ret2
          exact ⟨ret_two (by rw [← HG.out]; exact upTo_done g) rfl, hbr.trans (hw'.mono hbr.size)⟩
end Go.Proofs.YtfhoffpdodjfeaaDoor
namespace Go.Proofs.YtfhoffpdodjfeaaDoor
open Go.RowKit Plain64

theorem made_and (a b : Int) : wrap64 (vTop (fun j => bitZ a j && bitZ b j) 64 : Nat) = bits .and .i64 a b := by
  rw [bits_and]
  exact vTop_all _ _ fun i hi => by rw [bitZ_eq a i hi, bitZ_eq b i hi, BitVec.getLsbD_and]
theorem made_or (a b : Int) : wrap64 (vTop (fun j => bitZ a j || bitZ b j) 64 : Nat) = bits .or .i64 a b := by
  rw [bits_or]
  exact vTop_all _ _ fun i hi => by rw [bitZ_eq a i hi, bitZ_eq b i hi, BitVec.getLsbD_or]
theorem made_xor (a b : Int) : wrap64 (vTop (fun j => bitZ a j != bitZ b j) 64 : Nat) = bits .xor .i64 a b := by
  rw [bits_xor]
  exact vTop_all _ _ fun i hi => by
    rw [bitZ_eq a i hi, bitZ_eq b i hi, BitVec.getLsbD_xor]
    try cases (BitVec.ofInt 64 a).getLsbD i <;> cases (BitVec.ofInt 64 b).getLsbD i <;> rfl
theorem made_shl (a : Int) (s : Nat) : wrap64 (vTop (fun j => decide (s ≤ j) && bitZ a (j - s)) 64 : Nat) = wrap64 (a * 2 ^ s) := by
  rw [shl_eq]
  exact vTop_all _ _ fun i hi => by
    rw [BitVec.getLsbD_shiftLeft]
    by_cases h : s ≤ i
    · rw [bitZ_eq a (i - s) (by omega)]; simp [h, hi, Nat.not_lt.2 h]
    · simp [h]; try omega
theorem made_sar (a : Int) (h : -9223372036854775808 ≤ a ∧ a ≤ 9223372036854775807) (s : Nat) : wrap64 (vTop (fun j => if j + s < 64 then bitZ a (j + s) else bitZ a 63) 64 : Nat) = a / 2 ^ s := by
  rw [sar_eq a h]
  exact vTop_all _ _ fun i hi => by
    rw [BitVec.getLsbD_sshiftRight]
    by_cases h : i + s < 64
    · rw [if_pos h, if_pos (by omega), bitZ_eq a _ h, Nat.add_comm s i]; simp; intro; omega
    · rw [if_neg h, if_neg (by omega), bitZ_eq a 63 (by omega), BitVec.msb_eq_getLsbD_last]; simp; intro; omega

theorem made_any (op a b imm : Int) (w : World) (ha : -9223372036854775808 ≤ a ∧ a ≤ 9223372036854775807) (hb : -9223372036854775808 ≤ b ∧ b ≤ 9223372036854775807) :
    Calls Tryd.prog 85 #[.int .i64 op, .int .i64 a, .int .i64 b, .int .i64 imm] w fun e w' => e = .returned (.tuple #[.int .i64 (pureV op a b imm), .int .i64 (makeE op b)]) ∧ Below w.heap.size w w' := by
  by_cases h : op < 6 ∨ 10 < op
  · exact (made_else op a b imm w h).mono fun e w' ⟨he, hw⟩ => ⟨he, hw ▸ Below.refl _ _⟩
  · have h5 : op = 6 ∨ op = 7 ∨ op = 8 ∨ op = 9 ∨ op = 10 := by omega
    rcases h5 with rfl | rfl | rfl | rfl | rfl
    · exact (made_6 a b imm w ha hb).mono fun e w' ⟨he, hw⟩ => ⟨by rw [he, made_and]; rfl, hw⟩
    · exact (made_7 a b imm w ha hb).mono fun e w' ⟨he, hw⟩ => ⟨by rw [he, made_or]; rfl, hw⟩
    · exact (made_8 a b imm w ha hb).mono fun e w' ⟨he, hw⟩ => ⟨by rw [he, made_xor]; rfl, hw⟩
    · exact (made_9 a b imm w ha hb).mono fun e w' ⟨he, hw⟩ => ⟨by rw [he, made_shl]; rfl, hw⟩
    · exact (made_10 a b imm w ha hb).mono fun e w' ⟨he, hw⟩ => ⟨by rw [he, made_sar a ha]; rfl, hw⟩
end Go.Proofs.YtfhoffpdodjfeaaDoor
