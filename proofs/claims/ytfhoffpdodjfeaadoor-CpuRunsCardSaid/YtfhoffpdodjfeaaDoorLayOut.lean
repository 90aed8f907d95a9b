/- ref.layOut. -/
import Derived.Test.YtfhoffpdodjfeaaDoorWordLaw
import Derived.Test.YtfhoffpdodjfeaaDoorHpRow
import Derived.Test.YtfhoffpdodjfeaaDoorRows
import Derived.Test.YtfhoffpdodjfeaaDoorReadsOf
set_option linter.unusedSimpArgs false
set_option linter.unusedVariables false
namespace Go.Proofs.YtfhoffpdodjfeaaDoor
open Go.RowKit
attribute [local irreducible] wpList Code.wp Oper.wp
/-- Places off + a, off + a + 1 .. of a list hold a, a + 1 ... -/
def upN (off a : Nat) (ls : List Int) : Nat → List Int
  | 0 => ls
  | t + 1 => (upN off a ls t).set (off + (t + a)) ((t + a : Nat) : Int)
theorem upN_len (off a : Nat) (ls : List Int) : ∀ t, (upN off a ls t).length = ls.length
  | 0 => rfl
  | t + 1 => by rw [upN, List.length_set, upN_len off a ls t]
def up2 (ls : List Int) : Nat → List Int
  | 0 => ls
  | t + 1 => ((up2 ls t).set (20 + t) (t : Int)).set (26 + t) ((150 + t : Nat) : Int)
theorem up2_len (ls : List Int) : ∀ t, (up2 ls t).length = ls.length
  | 0 => rfl
  | t + 1 => by rw [up2, List.length_set, List.length_set, up2_len ls t]
def layI (s : Nat) : List Int := (layL s).map fun n : Nat => (n : Int)
set_option maxRecDepth 10000 in
set_option maxHeartbeats 4000000 in
theorem layOut_any (s : Nat) (hs : s < 8) (w : World) :
    Calls Tryd.prog 100 #[.int .i64 s] w fun e w' => ∃ g, e = .returned (.slice (some ⟨g, 0, none⟩) 32 32) ∧ Hp w [] [Res.blk g 3 (List.map (Value.int .i64) (layI s))] w' := by
  have HP := Lib.hid (Hp.start w)
  have hs8 : s = 0 ∨ s = 1 ∨ s = 2 ∨ s = 3 ∨ s = 4 ∨ s = 5 ∨ s = 6 ∨ s = 7 := by omega
  rcases hs8 with rfl | rfl | rfl | rfl | rfl | rfl | rfl | rfl
  · clear hs
    go_enter Tryd.func100, Tryd.ntmps100
    go_wp2_with (first | (refine wpList_ints_hp rfl 25 3 32 _ rfl HP.out Tryd.underlying25 [_, _, _, _, _, _, _, _, _, _, _, _, _, _, _, _, _, _, _, _, _, _, _, _, _, _, _, _, _, _, _, _] rfl (by kernel_rfl) ?_; clear HP; intro gi wi HP; replace HP := Lib.hid HP))
    go_ret
    exact ⟨_, rfl, HP.out.froDrop⟩
  · clear hs
    go_enter Tryd.func100, Tryd.ntmps100
    go_wp2_with (first | (refine wpList_ints_hp rfl 25 3 32 _ rfl HP.out Tryd.underlying25 [_, _, _, _, _, _, _, _, _, _, _, _, _, _, _, _, _, _, _, _, _, _, _, _, _, _, _, _, _, _, _, _] rfl (by kernel_rfl) ?_; clear HP; intro gi wi HP; replace HP := Lib.hid HP))
    replace HP : Hid (Hp w [{ w := w, S := Lt w.heap.size }] [Res.blk gi 3 (List.map (Value.int .i64) (layI 0))] _) := HP
    go_loopw [4] (fun i wr => ∃ t : Nat, t ≤ 12 ∧ i = .int .i64 t ∧ Hid (Hp w [{ w := w, S := Lt w.heap.size }] [Res.blk gi 3 (List.map (Value.int .i64) (upN 20 0 (layI 0) t))] wr)) (fun i _ => 12 - (intOf i).toNat)
    case atStart => exact ⟨0, by omega, rfl, HP⟩
    case round =>
      clear HP
      obtain ⟨t, ht, rfl, HP⟩ := hrel
      by_cases hlt : t < 12
      · have HBD := Lib.hid (show 20 + t < (List.map (Value.int .i64) (upN 20 0 (layI 0) t)).length by rw [List.length_map, upN_len]; show _ < 32; omega)
        go_wp2_with (first | (refine wpList_st0 rfl 3 _ _ rfl HP.out rfl rfl HBD.out rfl (List.map_set ..).symm (by kernel_rfl) ?_; clear HP; intro wst HP; replace HP := Lib.hid HP))
        go_roundw
        case rel => exact ⟨t + 1, by omega, by go_num, HP⟩
        case measure => simp [intOf]; omega
      · obtain rfl : t = 12 := by omega
        go_wp2_with fail
        go_ret
        exact ⟨_, rfl, HP.out.froDrop⟩
  · clear hs
    go_enter Tryd.func100, Tryd.ntmps100
    go_wp2_with (first | (refine wpList_ints_hp rfl 25 3 32 _ rfl HP.out Tryd.underlying25 [_, _, _, _, _, _, _, _, _, _, _, _, _, _, _, _, _, _, _, _, _, _, _, _, _, _, _, _, _, _, _, _] rfl (by kernel_rfl) ?_; clear HP; intro gi wi HP; replace HP := Lib.hid HP))
    replace HP : Hid (Hp w [{ w := w, S := Lt w.heap.size }] [Res.blk gi 3 (List.map (Value.int .i64) (layI 0))] _) := HP
    go_loopw [5] (fun i wr => ∃ t : Nat, t ≤ 6 ∧ i = .int .i64 t ∧ Hid (Hp w [{ w := w, S := Lt w.heap.size }] [Res.blk gi 3 (List.map (Value.int .i64) (up2 (layI 0) t))] wr)) (fun i _ => 6 - (intOf i).toNat)
    case atStart => exact ⟨0, by omega, rfl, HP⟩
    case round =>
      clear HP
      obtain ⟨t, ht, rfl, HP⟩ := hrel
      by_cases hlt : t < 6
      · have HBD := Lib.hid (show 20 + t < (List.map (Value.int .i64) (up2 (layI 0) t)).length by rw [List.length_map, up2_len]; show _ < 32; omega)
        have HBD2 := Lib.hid (show 26 + t < (List.map (Value.int .i64) ((up2 (layI 0) t).set (20 + t) (t : Int))).length by rw [List.length_map, List.length_set, up2_len]; show _ < 32; omega)
        go_wp2_with (first | (refine wpList_st0 rfl 3 _ _ rfl HP.out rfl rfl HBD.out rfl (List.map_set ..).symm (by kernel_rfl) ?_; clear HP; intro wst HP; replace HP := Lib.hid HP) | (refine wpList_st0 rfl 3 _ _ rfl HP.out rfl rfl HBD2.out rfl (List.map_set ..).symm (by kernel_rfl) ?_; clear HP; intro wst HP; replace HP := Lib.hid HP))
        go_roundw
        case rel => exact ⟨t + 1, by omega, by go_num, HP⟩
        case measure => simp [intOf]; omega
      · obtain rfl : t = 6 := by omega
        go_wp2_with fail
        go_ret
        exact ⟨_, rfl, HP.out.froDrop⟩
  · clear hs
    go_enter Tryd.func100, Tryd.ntmps100
    go_wp2_with (first | (refine wpList_ints_hp rfl 25 3 32 _ rfl HP.out Tryd.underlying25 [_, _, _, _, _, _, _, _, _, _, _, _, _, _, _, _, _, _, _, _, _, _, _, _, _, _, _, _, _, _, _, _] rfl (by kernel_rfl) ?_; clear HP; intro gi wi HP; replace HP := Lib.hid HP))
    replace HP : Hid (Hp w [{ w := w, S := Lt w.heap.size }] [Res.blk gi 3 (List.map (Value.int .i64) (layI 0))] _) := HP
    go_loopw [6] (fun i wr => ∃ t : Nat, t ≤ 5 ∧ i = .int .i64 t ∧ Hid (Hp w [{ w := w, S := Lt w.heap.size }] [Res.blk gi 3 (List.map (Value.int .i64) (upN 7 0 (layI 0) t))] wr)) (fun i _ => 5 - (intOf i).toNat)
    case atStart => exact ⟨0, by omega, rfl, HP⟩
    case round =>
      clear HP
      obtain ⟨t, ht, rfl, HP⟩ := hrel
      by_cases hlt : t < 5
      · have HBD := Lib.hid (show 7 + t < (List.map (Value.int .i64) (upN 7 0 (layI 0) t)).length by rw [List.length_map, upN_len]; show _ < 32; omega)
        go_wp2_with (first | (refine wpList_st0 rfl 3 _ _ rfl HP.out rfl rfl HBD.out rfl (List.map_set ..).symm (by kernel_rfl) ?_; clear HP; intro wst HP; replace HP := Lib.hid HP))
        go_roundw
        case rel => exact ⟨t + 1, by omega, by go_num, HP⟩
        case measure => simp [intOf]; omega
      · obtain rfl : t = 5 := by omega
        go_wp2_with (first | fail)
        obtain ⟨b, hb⟩ : ∃ b, upN 7 0 (layI 0) 5 = b := ⟨_, rfl⟩
        have hbl : b.length = 32 := by rw [← hb, upN_len]; rfl
        rw [hb] at HP
        have HB := Lib.hid hb
        clear hb
        simp only [show ((5 : Nat) : Int) = 5 from rfl]
        go_hide hQ
        go_loopw [7] (fun i wr => ∃ t : Nat, t ≤ 7 ∧ i = .int .i64 ((t : Int) + 5) ∧ Hid (Hp w [{ w := w, S := Lt w.heap.size }] [Res.blk gi 3 (List.map (Value.int .i64) (upN 20 5 b t))] wr)) (fun i _ => 12 - (intOf i).toNat)
        case atStart => exact ⟨0, by omega, rfl, HP⟩
        case round =>
          clear HP ht hlt
          obtain ⟨t, ht, rfl, HP⟩ := hrel
          by_cases hlt : t < 7
          · have HBD := Lib.hid (show 20 + (t + 5) < (List.map (Value.int .i64) (upN 20 5 b t)).length by rw [List.length_map, upN_len]; omega)
            go_wp2_with (first | (refine wpList_st0 rfl 3 _ _ rfl HP.out rfl rfl HBD.out rfl (List.map_set ..).symm (by kernel_rfl) ?_; clear HP; intro wst HP; replace HP := Lib.hid HP))
            go_roundw
            case rel => exact ⟨t + 1, by omega, by go_num, HP⟩
            case measure => simp [intOf]; omega
          · obtain rfl : t = 7 := by omega
            go_wp2_with (first | fail)
            subst hQ
            go_wp2_with (first | fail)
            go_ret
            have hb := HB.out
            subst hb
            exact ⟨_, rfl, HP.out.froDrop⟩
  · clear hs
    go_enter Tryd.func100, Tryd.ntmps100
    go_wp2_with (first | (refine wpList_ints_hp rfl 25 3 32 _ rfl HP.out Tryd.underlying25 [_, _, _, _, _, _, _, _, _, _, _, _, _, _, _, _, _, _, _, _, _, _, _, _, _, _, _, _, _, _, _, _] rfl (by kernel_rfl) ?_; clear HP; intro gi wi HP; replace HP := Lib.hid HP) | (refine wpList_st0 rfl 3 _ _ rfl HP.out rfl rfl (by simp) rfl (List.map_set ..).symm (by kernel_rfl) ?_; clear HP; intro wst HP; replace HP := Lib.hid HP))
    replace HP : Hid (Hp w [{ w := w, S := Lt w.heap.size }] [Res.blk gi 3 (List.map (Value.int .i64) ((layI 0).set 7 11))] _) := HP
    go_loopw [8] (fun i wr => ∃ t : Nat, t ≤ 4 ∧ i = .int .i64 ((t : Int) + 1) ∧ Hid (Hp w [{ w := w, S := Lt w.heap.size }] [Res.blk gi 3 (List.map (Value.int .i64) (upN 7 1 ((layI 0).set 7 11) t))] wr)) (fun i _ => 5 - (intOf i).toNat)
    case atStart => exact ⟨0, by omega, rfl, HP⟩
    case round =>
      clear HP
      obtain ⟨t, ht, rfl, HP⟩ := hrel
      by_cases hlt : t < 4
      · have HBD := Lib.hid (show 7 + (t + 1) < (List.map (Value.int .i64) (upN 7 1 ((layI 0).set 7 11) t)).length by rw [List.length_map, upN_len]; rw [List.length_set]; show _ < 32; omega)
        go_wp2_with (first | (refine wpList_st0 rfl 3 _ _ rfl HP.out rfl rfl HBD.out rfl (List.map_set ..).symm (by kernel_rfl) ?_; clear HP; intro wst HP; replace HP := Lib.hid HP))
        go_roundw
        case rel => exact ⟨t + 1, by omega, by go_num, HP⟩
        case measure => simp [intOf]; omega
      · obtain rfl : t = 4 := by omega
        go_wp2_with (first | fail)
        obtain ⟨b, hb⟩ : ∃ b, upN 7 1 ((layI 0).set 7 11) 4 = b := ⟨_, rfl⟩
        have hbl : b.length = 32 := by rw [← hb, upN_len, List.length_set]; rfl
        rw [hb] at HP
        have HB := Lib.hid hb
        clear hb
        simp only [show ((4 : Nat) : Int) + 1 = 5 from rfl]
        go_hide hQ
        go_loopw [9] (fun i wr => ∃ t : Nat, t ≤ 6 ∧ i = .int .i64 ((t : Int) + 5) ∧ Hid (Hp w [{ w := w, S := Lt w.heap.size }] [Res.blk gi 3 (List.map (Value.int .i64) (upN 20 5 b t))] wr)) (fun i _ => 11 - (intOf i).toNat)
        case atStart => exact ⟨0, by omega, rfl, HP⟩
        case round =>
          clear HP ht hlt
          obtain ⟨t, ht, rfl, HP⟩ := hrel
          by_cases hlt : t < 6
          · have HBD := Lib.hid (show 20 + (t + 5) < (List.map (Value.int .i64) (upN 20 5 b t)).length by rw [List.length_map, upN_len]; omega)
            go_wp2_with (first | (refine wpList_st0 rfl 3 _ _ rfl HP.out rfl rfl HBD.out rfl (List.map_set ..).symm (by kernel_rfl) ?_; clear HP; intro wst HP; replace HP := Lib.hid HP))
            go_roundw
            case rel => exact ⟨t + 1, by omega, by go_num, HP⟩
            case measure => simp [intOf]; omega
          · obtain rfl : t = 6 := by omega
            go_wp2_with (first | fail | (refine wpList_st0 rfl 3 _ _ rfl HP.out rfl rfl (show 31 < (List.map (Value.int .i64) (upN 20 5 b 6)).length by rw [List.length_map, upN_len]; omega) rfl (List.map_set ..).symm (by kernel_rfl) ?_; clear HP; intro wst HP; replace HP := Lib.hid HP))
            subst hQ
            go_wp2_with (first | fail | (refine wpList_st0 rfl 3 _ _ rfl HP.out rfl rfl (show 31 < (List.map (Value.int .i64) (upN 20 5 b 6)).length by rw [List.length_map, upN_len]; omega) rfl (List.map_set ..).symm (by kernel_rfl) ?_; clear HP; intro wst HP; replace HP := Lib.hid HP))
            go_ret
            have hb := HB.out
            subst hb
            exact ⟨_, rfl, HP.out.froDrop⟩
  · clear hs
    go_enter Tryd.func100, Tryd.ntmps100
    go_wp2_with (first | (refine wpList_ints_hp rfl 25 3 32 _ rfl HP.out Tryd.underlying25 [_, _, _, _, _, _, _, _, _, _, _, _, _, _, _, _, _, _, _, _, _, _, _, _, _, _, _, _, _, _, _, _] rfl (by kernel_rfl) ?_; clear HP; intro gi wi HP; replace HP := Lib.hid HP))
    replace HP : Hid (Hp w [{ w := w, S := Lt w.heap.size }] [Res.blk gi 3 (List.map (Value.int .i64) (layI 0))] _) := HP
    go_loopw [10] (fun i wr => ∃ t : Nat, t ≤ 8 ∧ i = .int .i64 ((t : Int) + 12) ∧ Hid (Hp w [{ w := w, S := Lt w.heap.size }] [Res.blk gi 3 (List.map (Value.int .i64) (upN 0 12 (layI 0) t))] wr)) (fun i _ => 20 - (intOf i).toNat)
    case atStart => exact ⟨0, by omega, rfl, HP⟩
    case round =>
      clear HP
      obtain ⟨t, ht, rfl, HP⟩ := hrel
      by_cases hlt : t < 8
      · have HBD := Lib.hid (show t + 12 < (List.map (Value.int .i64) (upN 0 12 (layI 0) t)).length by rw [List.length_map, upN_len]; show _ < 32; omega)
        go_wp2_with (first | (refine wpList_st0 rfl 3 _ _ rfl HP.out rfl rfl HBD.out rfl (List.map_set ..).symm (by kernel_rfl) ?_; clear HP; intro wst HP; replace HP := Lib.hid HP))
        go_roundw
        case rel => exact ⟨t + 1, by omega, by go_num, Lib.hid (by have h := HP.out; rw [← Nat.zero_add (t + 12)] at h; exact h)⟩
        case measure => simp [intOf]; omega
      · obtain rfl : t = 8 := by omega
        go_wp2_with (first | fail | (refine wpList_st0 rfl 3 _ _ rfl HP.out rfl rfl (show 20 < (List.map (Value.int .i64) (upN 0 12 (layI 0) 8)).length by rw [List.length_map, upN_len]; show _ < 32; omega) rfl (List.map_set ..).symm (by kernel_rfl) ?_; clear HP; intro wst HP; replace HP := Lib.hid HP))
        obtain ⟨b, hb⟩ : ∃ b, (upN 0 12 (layI 0) 8).set 20 11 = b := ⟨_, rfl⟩
        have hbl : b.length = 32 := by rw [← hb, List.length_set, upN_len]; rfl
        rw [hb] at HP
        have HB := Lib.hid hb
        clear hb
        go_hide hQ
        go_loopw [11] (fun i wr => ∃ t : Nat, t ≤ 10 ∧ i = .int .i64 ((t : Int) + 1) ∧ Hid (Hp w [{ w := w, S := Lt w.heap.size }] [Res.blk gi 3 (List.map (Value.int .i64) (upN 20 1 b t))] wr)) (fun i _ => 11 - (intOf i).toNat)
        case atStart => exact ⟨0, by omega, rfl, HP⟩
        case round =>
          clear HP ht hlt
          obtain ⟨t, ht, rfl, HP⟩ := hrel
          by_cases hlt : t < 10
          · have HBD := Lib.hid (show 20 + (t + 1) < (List.map (Value.int .i64) (upN 20 1 b t)).length by rw [List.length_map, upN_len]; omega)
            go_wp2_with (first | (refine wpList_st0 rfl 3 _ _ rfl HP.out rfl rfl HBD.out rfl (List.map_set ..).symm (by kernel_rfl) ?_; clear HP; intro wst HP; replace HP := Lib.hid HP))
            go_roundw
            case rel => exact ⟨t + 1, by omega, by go_num, HP⟩
            case measure => simp [intOf]; omega
          · obtain rfl : t = 10 := by omega
            go_wp2_with (first | fail | (refine wpList_st0 rfl 3 _ _ rfl HP.out rfl rfl (show 31 < (List.map (Value.int .i64) (upN 20 1 b 10)).length by rw [List.length_map, upN_len]; omega) rfl (List.map_set ..).symm (by kernel_rfl) ?_; clear HP; intro wst HP; replace HP := Lib.hid HP))
            subst hQ
            go_wp2_with (first | fail | (refine wpList_st0 rfl 3 _ _ rfl HP.out rfl rfl (show 31 < (List.map (Value.int .i64) (upN 20 1 b 10)).length by rw [List.length_map, upN_len]; omega) rfl (List.map_set ..).symm (by kernel_rfl) ?_; clear HP; intro wst HP; replace HP := Lib.hid HP))
            go_ret
            have hb := HB.out
            subst hb
            exact ⟨_, rfl, HP.out.froDrop⟩
  · clear hs
    go_enter Tryd.func100, Tryd.ntmps100
    go_wp2_with (first | (refine wpList_ints_hp rfl 25 3 32 _ rfl HP.out Tryd.underlying25 [_, _, _, _, _, _, _, _, _, _, _, _, _, _, _, _, _, _, _, _, _, _, _, _, _, _, _, _, _, _, _, _] rfl (by kernel_rfl) ?_; clear HP; intro gi wi HP; replace HP := Lib.hid HP))
    replace HP : Hid (Hp w [{ w := w, S := Lt w.heap.size }] [Res.blk gi 3 (List.map (Value.int .i64) (layI 0))] _) := HP
    go_loopw [12] (fun i wr => ∃ t : Nat, t ≤ 20 ∧ i = .int .i64 t ∧ Hid (Hp w [{ w := w, S := Lt w.heap.size }] [Res.blk gi 3 (List.map (Value.int .i64) (upN 12 0 (layI 0) t))] wr)) (fun i _ => 20 - (intOf i).toNat)
    case atStart => exact ⟨0, by omega, rfl, HP⟩
    case round =>
      clear HP
      obtain ⟨t, ht, rfl, HP⟩ := hrel
      by_cases hlt : t < 20
      · have HBD := Lib.hid (show 12 + t < (List.map (Value.int .i64) (upN 12 0 (layI 0) t)).length by rw [List.length_map, upN_len]; show _ < 32; omega)
        go_wp2_with (first | (refine wpList_st0 rfl 3 _ _ rfl HP.out rfl rfl HBD.out rfl (List.map_set ..).symm (by kernel_rfl) ?_; clear HP; intro wst HP; replace HP := Lib.hid HP))
        go_roundw
        case rel => exact ⟨t + 1, by omega, by go_num, HP⟩
        case measure => simp [intOf]; omega
      · obtain rfl : t = 20 := by omega
        go_wp2_with fail
        go_ret
        exact ⟨_, rfl, HP.out.froDrop⟩
  · clear hs
    go_enter Tryd.func100, Tryd.ntmps100
    go_wp2_with (first | (refine wpList_ints_hp rfl 25 3 32 _ rfl HP.out Tryd.underlying25 [_, _, _, _, _, _, _, _, _, _, _, _, _, _, _, _, _, _, _, _, _, _, _, _, _, _, _, _, _, _, _, _] rfl (by kernel_rfl) ?_; clear HP; intro gi wi HP; replace HP := Lib.hid HP))
    go_ret
    exact ⟨_, rfl, HP.out.froDrop⟩
end Go.Proofs.YtfhoffpdodjfeaaDoor
