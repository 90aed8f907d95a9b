/- The law's sameBlocks, of blocks that are the same. -/
import Derived.Test.YtnabeibnaoahmaaDoorBlkMem
import Derived.Test.YtnabeibnaoahmaaDoorSameInts
import Derived.Test.YtnabeibnaoahmaaDoorMgHeldHeldB2
set_option linter.unusedSimpArgs false
set_option linter.unusedVariables false
namespace Go.Proofs.YtnabeibnaoahmaaDoor
open Go.RowKit
attribute [local irreducible] wpList Code.wp Oper.wp
set_option maxRecDepth 100000 in
set_option maxHeartbeats 4000000 in
theorem sameBlocks_any (xs : List Bk) (u v : Value) (w : World) (hx : Lay.rep w (Lt w.heap.size) xs [u]) (hy : Lay.rep w (Lt w.heap.size) xs [v]) :
    Calls Tryd.prog 14 #[u, v] w fun e w' => e = .returned (.bool true) ∧ Below w.heap.size w w' := by
  obtain ⟨A, c, rfl, hc, hm, hx⟩ := rep_bks_at hx
  obtain ⟨B, d, rfl, hd, hn, hy⟩ := rep_bks_at hy
  unfold maxLen at hm hn
  have HX := Lib.hid hx
  have HY := Lib.hid hy
  clear hx hy
  have HP := Lib.hid (Hp.start w)
  go_enter Tryd.func14, Tryd.ntmps14
  go_wp2
  go_loopw [5] (fun i wr => ∃ k : Nat, k ≤ xs.length ∧ i = .int .i64 k ∧ Hid (Hp w [⟨w, Lt w.heap.size⟩] [] wr)) (fun i _ => xs.length - (intOf i).toNat)
  case atStart => exact ⟨0, by omega, rfl, HP⟩
  case round =>
    clear HP
    obtain ⟨k, hk, rfl, HP⟩ := hrel
    obtain ⟨wk, rfl⟩ : ∃ wk : World, wk = wr := ⟨_, rfl⟩
    by_cases hlt : k < xs.length
    · have hlt2 : (k : Int) < (xs.length : Int) := by omega
      obtain ⟨a1, u1, v1, rfl, hab1, hat1, hn1, hp1⟩ := HX.out k hlt
      obtain ⟨a2, u2, v2, rfl, hab2, hat2, hn2, hp2⟩ := HY.out k hlt
      obtain ⟨z, hz⟩ : ∃ z, xs[k] = z := ⟨_, rfl⟩
      rw [hz] at hat1 hat2 hn1 hn2 hp1 hp2
      have HAT1 := Lib.hid (show At w (a1.add (k * 4)) [.int .i64 z.frm, .int .i64 z.upto, u1, v1] ∧ Lt w.heap.size (a1.add (k * 4)).block from ⟨hat1, by rw [block_of_add]; exact hab1⟩)
      have HAT2 := Lib.hid (show At w (a2.add (k * 4)) [.int .i64 z.frm, .int .i64 z.upto, u2, v2] ∧ Lt w.heap.size (a2.add (k * 4)).block from ⟨hat2, by rw [block_of_add]; exact hab2⟩)
      have HN1 := Lib.hid hn1
      have HN2 := Lib.hid hn2
      have HP1 := Lib.hid hp1
      have HP2 := Lib.hid hp2
      clear hat1 hat2 hn1 hn2 hp1 hp2 hz hab1 hab2
      go_upto_region 6 with fail
      replace HP := Lib.hid HP.out.drew
      refine wp_region_held_drew (S := fun w' => w'.cell? (a1.add (k * 4)) = some (.int .i64 z.frm) ∧ w'.cell? ⟨(a1.add (k * 4)).block, (a1.add (k * 4)).off + 1, none⟩ = some (.int .i64 z.upto) ∧ w'.cell? ⟨(a1.add (k * 4)).block, (a1.add (k * 4)).off + 2, none⟩ = some u1 ∧ w'.cell? ⟨(a1.add (k * 4)).block, (a1.add (k * 4)).off + 3, none⟩ = some v1 ∧ w'.cell? (a2.add (k * 4)) = some (.int .i64 z.frm) ∧ w'.cell? ⟨(a2.add (k * 4)).block, (a2.add (k * 4)).off + 1, none⟩ = some (.int .i64 z.upto) ∧ w'.cell? ⟨(a2.add (k * 4)).block, (a2.add (k * 4)).off + 2, none⟩ = some u2 ∧ w'.cell? ⟨(a2.add (k * 4)).block, (a2.add (k * 4)).off + 3, none⟩ = some v2) (by kernel_rfl) ⟨(HP.out.at_ (F := ⟨w, Lt w.heap.size⟩) (.head _) HAT1.out.1 HAT1.out.2).fld0 rfl, (HP.out.at_ (F := ⟨w, Lt w.heap.size⟩) (.head _) HAT1.out.1 HAT1.out.2).fld 0 rfl, (HP.out.at_ (F := ⟨w, Lt w.heap.size⟩) (.head _) HAT1.out.1 HAT1.out.2).fld 1 rfl, (HP.out.at_ (F := ⟨w, Lt w.heap.size⟩) (.head _) HAT1.out.1 HAT1.out.2).fld 2 rfl, (HP.out.at_ (F := ⟨w, Lt w.heap.size⟩) (.head _) HAT2.out.1 HAT2.out.2).fld0 rfl, (HP.out.at_ (F := ⟨w, Lt w.heap.size⟩) (.head _) HAT2.out.1 HAT2.out.2).fld 0 rfl, (HP.out.at_ (F := ⟨w, Lt w.heap.size⟩) (.head _) HAT2.out.1 HAT2.out.2).fld 1 rfl, (HP.out.at_ (F := ⟨w, Lt w.heap.size⟩) (.head _) HAT2.out.1 HAT2.out.2).fld 2 rfl⟩ (fun hHeld => ?_)
      have HS0 := Lib.hid hHeld
      clear hHeld
      (try simp only [Act.put, List.setIfInBounds_toArray, List.set_cons_zero, List.set_cons_succ])
      refine wpAnyH_take (i := 0) (v := ?_) rfl (by kernel_rfl) (by kernel_rfl) (by kernel_rfl) (fun _ _ _ h => h) (.inl ⟨by first | (simp [Region.wanted]; done) | rfl, ?_⟩) HS0.out ?_
      rotate_left
      · intro w' hw
        obtain ⟨k0, k1, k2, k3, k4, k5, k6, k7⟩ := hw
        go_simp
        (try with_reducible rfl)
      (try simp only [List.getElem_toArray, List.getElem_cons_succ, List.getElem_cons_zero, Act.put, List.setIfInBounds_toArray, List.set_cons_zero, List.set_cons_succ])
      refine wpAnyH_take (i := 1) (v := ?_) rfl (by kernel_rfl) (by kernel_rfl) (by kernel_rfl) (fun _ _ _ h => h) (.inl ⟨by first | (simp [Region.wanted]; done) | rfl, ?_⟩) HS0.out ?_
      rotate_left
      · intro w' hw
        obtain ⟨k0, k1, k2, k3, k4, k5, k6, k7⟩ := hw
        go_simp
        (try with_reducible rfl)
      (try simp only [List.getElem_toArray, List.getElem_cons_succ, List.getElem_cons_zero, Act.put, List.setIfInBounds_toArray, List.set_cons_zero, List.set_cons_succ])
      refine wpAnyH_take (i := 2) (v := ?_) rfl (by kernel_rfl) (by kernel_rfl) (by kernel_rfl) (fun _ _ _ h => h) (.inl ⟨by first | (simp [Region.wanted]; done) | rfl, ?_⟩) HS0.out ?_
      rotate_left
      · intro w' hw
        obtain ⟨k0, k1, k2, k3, k4, k5, k6, k7⟩ := hw
        go_simp
        (try with_reducible rfl)
      (try simp only [List.getElem_toArray, List.getElem_cons_succ, List.getElem_cons_zero, Act.put, List.setIfInBounds_toArray, List.set_cons_zero, List.set_cons_succ])
      refine wpAnyH_take (i := 3) (v := ?_) rfl (by kernel_rfl) (by kernel_rfl) (by kernel_rfl) (fun _ _ _ h => h) (.inl ⟨by first | (simp [Region.wanted]; done) | rfl, ?_⟩) HS0.out ?_
      rotate_left
      · intro w' hw
        obtain ⟨k0, k1, k2, k3, k4, k5, k6, k7⟩ := hw
        go_simp
        (try with_reducible rfl)
      (try simp only [List.getElem_toArray, List.getElem_cons_succ, List.getElem_cons_zero, Act.put, List.setIfInBounds_toArray, List.set_cons_zero, List.set_cons_succ])
      refine wpAnyH_take (i := 4) (v := ?_) rfl (by kernel_rfl) (by kernel_rfl) (by kernel_rfl) (fun _ _ _ h => h) (.inl ⟨by first | (simp [Region.wanted]; done) | rfl, ?_⟩) HS0.out ?_
      rotate_left
      · intro w' hw
        obtain ⟨k0, k1, k2, k3, k4, k5, k6, k7⟩ := hw
        go_simp
        (try with_reducible rfl)
      (try simp only [List.getElem_toArray, List.getElem_cons_succ, List.getElem_cons_zero, Act.put, List.setIfInBounds_toArray, List.set_cons_zero, List.set_cons_succ])
      refine wpAnyH_take (i := 5) (v := ?_) rfl (by kernel_rfl) (by kernel_rfl) (by kernel_rfl) (fun _ _ _ h => h) (.inl ⟨by first | (simp [Region.wanted]; done) | rfl, ?_⟩) HS0.out ?_
      rotate_left
      · intro w' hw
        obtain ⟨k0, k1, k2, k3, k4, k5, k6, k7⟩ := hw
        go_simp
        (try with_reducible rfl)
      (try simp only [List.getElem_toArray, List.getElem_cons_succ, List.getElem_cons_zero, Act.put, List.setIfInBounds_toArray, List.set_cons_zero, List.set_cons_succ])
      refine wpAnyH_take (i := 6) (v := ?_) rfl (by kernel_rfl) (by kernel_rfl) (by kernel_rfl) (fun _ _ _ h => h) (.inl ⟨by first | (simp [Region.wanted]; done) | rfl, ?_⟩) HS0.out ?_
      rotate_left
      · intro w' hw
        obtain ⟨k0, k1, k2, k3, k4, k5, k6, k7⟩ := hw
        go_simp
        (try with_reducible rfl)
      (try simp only [List.getElem_toArray, List.getElem_cons_succ, List.getElem_cons_zero, Act.put, List.setIfInBounds_toArray, List.set_cons_zero, List.set_cons_succ])
      refine wpAnyH_take (i := 7) (v := ?_) rfl (by kernel_rfl) (by kernel_rfl) (by kernel_rfl) (fun _ _ _ h => h) (.inl ⟨by first | (simp [Region.wanted]; done) | rfl, ?_⟩) HS0.out ?_
      rotate_left
      · intro w' hw
        obtain ⟨k0, k1, k2, k3, k4, k5, k6, k7⟩ := hw
        go_simp
        (try with_reducible rfl)
      (try simp only [List.getElem_toArray, List.getElem_cons_succ, List.getElem_cons_zero, Act.put, List.setIfInBounds_toArray, List.set_cons_zero, List.set_cons_succ])
      refine wpAnyH_take (i := 8) (v := ?_) rfl (by kernel_rfl) (by kernel_rfl) (by kernel_rfl) (fun _ _ _ h => h) (.inl ⟨by first | (simp [Region.wanted]; done) | rfl, ?_⟩) HS0.out ?_
      rotate_left
      · intro w' hw
        obtain ⟨k0, k1, k2, k3, k4, k5, k6, k7⟩ := hw
        go_simp
        (try with_reducible rfl)
      (try simp only [List.getElem_toArray, List.getElem_cons_succ, List.getElem_cons_zero, Act.put, List.setIfInBounds_toArray, List.set_cons_zero, List.set_cons_succ])
      refine wpAnyH_take (i := 9) (v := ?_) rfl (by kernel_rfl) (by kernel_rfl) (by kernel_rfl) (fun _ _ _ h => h) (.inl ⟨by first | (simp [Region.wanted]; done) | rfl, ?_⟩) HS0.out ?_
      rotate_left
      · intro w' hw
        obtain ⟨k0, k1, k2, k3, k4, k5, k6, k7⟩ := hw
        go_simp
        (try with_reducible rfl)
      (try simp only [List.getElem_toArray, List.getElem_cons_succ, List.getElem_cons_zero, Act.put, List.setIfInBounds_toArray, List.set_cons_zero, List.set_cons_succ])
      refine wpAnyH_take (i := 10) (v := ?_) rfl (by kernel_rfl) (by kernel_rfl) (by kernel_rfl) (fun _ _ _ h => h) (.inl ⟨by first | (simp [Region.wanted]; done) | rfl, ?_⟩) HS0.out ?_
      rotate_left
      · intro w' hw
        obtain ⟨k0, k1, k2, k3, k4, k5, k6, k7⟩ := hw
        go_simp
        (try with_reducible rfl)
      (try simp only [List.getElem_toArray, List.getElem_cons_succ, List.getElem_cons_zero, Act.put, List.setIfInBounds_toArray, List.set_cons_zero, List.set_cons_succ])
      refine wpAnyH_take (i := 11) (v := ?_) rfl (by kernel_rfl) (by kernel_rfl) (by kernel_rfl) (fun _ _ _ h => h) (.inl ⟨by first | (simp [Region.wanted]; done) | rfl, ?_⟩) HS0.out ?_
      rotate_left
      · intro w' hw
        obtain ⟨k0, k1, k2, k3, k4, k5, k6, k7⟩ := hw
        go_simp
        (try with_reducible rfl)
      (try simp only [List.getElem_toArray, List.getElem_cons_succ, List.getElem_cons_zero, Act.put, List.setIfInBounds_toArray, List.set_cons_zero, List.set_cons_succ])
      refine wpAnyH_take (i := 12) (v := ?_) rfl (by kernel_rfl) (by kernel_rfl) (by kernel_rfl) (fun _ _ _ h => h) (.inl ⟨by first | (simp [Region.wanted]; done) | rfl, ?_⟩) HS0.out ?_
      rotate_left
      · intro w' hw
        obtain ⟨k0, k1, k2, k3, k4, k5, k6, k7⟩ := hw
        go_simp
        (try with_reducible rfl)
      (try simp only [List.getElem_toArray, List.getElem_cons_succ, List.getElem_cons_zero, Act.put, List.setIfInBounds_toArray, List.set_cons_zero, List.set_cons_succ])
      refine wpAnyH_take (i := 13) (v := ?_) rfl (by kernel_rfl) (by kernel_rfl) (by kernel_rfl) (fun _ _ _ h => h) (.inl ⟨by first | (simp [Region.wanted]; done) | rfl, ?_⟩) HS0.out ?_
      rotate_left
      · intro w' hw
        obtain ⟨k0, k1, k2, k3, k4, k5, k6, k7⟩ := hw
        go_simp
        (try with_reducible rfl)
      (try simp only [List.getElem_toArray, List.getElem_cons_succ, List.getElem_cons_zero, Act.put, List.setIfInBounds_toArray, List.set_cons_zero, List.set_cons_succ])
      refine wpAnyH_take (i := 14) (v := ?_) rfl (by kernel_rfl) (by kernel_rfl) (by kernel_rfl) (fun _ _ _ h => h) (.inl ⟨by first | (simp [Region.wanted]; done) | rfl, ?_⟩) HS0.out ?_
      rotate_left
      · intro w' hw
        obtain ⟨k0, k1, k2, k3, k4, k5, k6, k7⟩ := hw
        go_simp
        (try with_reducible rfl)
      (try simp only [List.getElem_toArray, List.getElem_cons_succ, List.getElem_cons_zero, Act.put, List.setIfInBounds_toArray, List.set_cons_zero, List.set_cons_succ])
      refine wpAnyH_take (i := 15) (v := ?_) rfl (by kernel_rfl) (by kernel_rfl) (by kernel_rfl) (fun _ _ _ h => h) (.inl ⟨by first | (simp [Region.wanted]; done) | rfl, ?_⟩) HS0.out ?_
      rotate_left
      · intro w' hw
        obtain ⟨k0, k1, k2, k3, k4, k5, k6, k7⟩ := hw
        go_simp
        (try with_reducible rfl)
      (try simp only [List.getElem_toArray, List.getElem_cons_succ, List.getElem_cons_zero, Act.put, List.setIfInBounds_toArray, List.set_cons_zero, List.set_cons_succ])
      refine wpAnyH_take (i := 16) (v := ?_) rfl (by kernel_rfl) (by kernel_rfl) (by kernel_rfl) (fun _ _ _ h => h) (.inl ⟨by first | (simp [Region.wanted]; done) | rfl, ?_⟩) HS0.out ?_
      rotate_left
      · intro w' hw
        obtain ⟨k0, k1, k2, k3, k4, k5, k6, k7⟩ := hw
        go_simp
        (try with_reducible rfl)
      (try simp only [List.getElem_toArray, List.getElem_cons_succ, List.getElem_cons_zero, Act.put, List.setIfInBounds_toArray, List.set_cons_zero, List.set_cons_succ])
      refine wpAnyH_take (i := 17) (v := ?_) rfl (by kernel_rfl) (by kernel_rfl) (by kernel_rfl) (fun _ _ _ h => h) (.inl ⟨by first | (simp [Region.wanted]; done) | rfl, ?_⟩) HS0.out ?_
      rotate_left
      · intro w' hw
        obtain ⟨k0, k1, k2, k3, k4, k5, k6, k7⟩ := hw
        go_simp
        (try with_reducible rfl)
      (try simp only [List.getElem_toArray, List.getElem_cons_succ, List.getElem_cons_zero, Act.put, List.setIfInBounds_toArray, List.set_cons_zero, List.set_cons_succ])
      refine wpAnyH_take (i := 18) (v := ?_) rfl (by kernel_rfl) (by kernel_rfl) (by kernel_rfl) (fun _ _ _ h => h) (.inl ⟨by first | (simp [Region.wanted]; done) | rfl, ?_⟩) HS0.out ?_
      rotate_left
      · intro w' hw
        obtain ⟨k0, k1, k2, k3, k4, k5, k6, k7⟩ := hw
        go_simp
        (try with_reducible rfl)
      (try simp only [List.getElem_toArray, List.getElem_cons_succ, List.getElem_cons_zero, Act.put, List.setIfInBounds_toArray, List.set_cons_zero, List.set_cons_succ])
      refine wpAnyH_take (i := 19) (v := ?_) rfl (by kernel_rfl) (by kernel_rfl) (by kernel_rfl) (fun _ _ _ h => h) (.inl ⟨by first | (simp [Region.wanted]; done) | rfl, ?_⟩) HS0.out ?_
      rotate_left
      · intro w' hw
        obtain ⟨k0, k1, k2, k3, k4, k5, k6, k7⟩ := hw
        go_simp
        (try with_reducible rfl)
      (try simp only [List.getElem_toArray, List.getElem_cons_succ, List.getElem_cons_zero, Act.put, List.setIfInBounds_toArray, List.set_cons_zero, List.set_cons_succ])
      refine wpAnyH_take (i := 20) (v := ?_) rfl (by kernel_rfl) (by kernel_rfl) (by kernel_rfl) (fun _ _ _ h => h) (.inl ⟨by first | (simp [Region.wanted]; done) | rfl, ?_⟩) HS0.out ?_
      rotate_left
      · intro w' hw
        obtain ⟨k0, k1, k2, k3, k4, k5, k6, k7⟩ := hw
        go_simp
        (try with_reducible rfl)
      (try simp only [List.getElem_toArray, List.getElem_cons_succ, List.getElem_cons_zero, Act.put, List.setIfInBounds_toArray, List.set_cons_zero, List.set_cons_succ])
      refine wpAnyH_take (i := 21) (v := ?_) rfl (by kernel_rfl) (by kernel_rfl) (by kernel_rfl) (fun _ _ _ h => h) (.inl ⟨by first | (simp [Region.wanted]; done) | rfl, ?_⟩) HS0.out ?_
      rotate_left
      · intro w' hw
        obtain ⟨k0, k1, k2, k3, k4, k5, k6, k7⟩ := hw
        go_simp
        (try with_reducible rfl)
      (try simp only [List.getElem_toArray, List.getElem_cons_succ, List.getElem_cons_zero, Act.put, List.setIfInBounds_toArray, List.set_cons_zero, List.set_cons_succ])
      refine wpAnyH_take (i := 22) (v := ?_) rfl (by kernel_rfl) (by kernel_rfl) (by kernel_rfl) (fun _ _ _ h => h) (.inl ⟨by first | (simp [Region.wanted]; done) | rfl, ?_⟩) HS0.out ?_
      rotate_left
      · intro w' hw
        obtain ⟨k0, k1, k2, k3, k4, k5, k6, k7⟩ := hw
        go_simp
        (try with_reducible rfl)
      (try simp only [List.getElem_toArray, List.getElem_cons_succ, List.getElem_cons_zero, Act.put, List.setIfInBounds_toArray, List.set_cons_zero, List.set_cons_succ])
      refine wpAnyH_take (i := 23) (v := ?_) rfl (by kernel_rfl) (by kernel_rfl) (by kernel_rfl) (fun _ _ _ h => h) (.inl ⟨by first | (simp [Region.wanted]; done) | rfl, ?_⟩) HS0.out ?_
      rotate_left
      · intro w' hw
        obtain ⟨k0, k1, k2, k3, k4, k5, k6, k7⟩ := hw
        go_simp
        (try with_reducible rfl)
      (try simp only [List.getElem_toArray, List.getElem_cons_succ, List.getElem_cons_zero, Act.put, List.setIfInBounds_toArray, List.set_cons_zero, List.set_cons_succ])
      refine wpAnyH_take (i := 24) (v := ?_) rfl (by kernel_rfl) (by kernel_rfl) (by kernel_rfl) (fun _ _ _ h => h) (.inl ⟨by first | (simp [Region.wanted]; done) | rfl, ?_⟩) HS0.out ?_
      rotate_left
      · intro w' hw
        obtain ⟨k0, k1, k2, k3, k4, k5, k6, k7⟩ := hw
        go_simp
        (try with_reducible rfl)
      (try simp only [List.getElem_toArray, List.getElem_cons_succ, List.getElem_cons_zero, Act.put, List.setIfInBounds_toArray, List.set_cons_zero, List.set_cons_succ])
      refine wpAnyH_take (i := 25) (v := ?_) rfl (by kernel_rfl) (by kernel_rfl) (by kernel_rfl) (fun _ _ _ h => h) (.inl ⟨by first | (simp [Region.wanted]; done) | rfl, ?_⟩) HS0.out ?_
      rotate_left
      · intro w' hw
        obtain ⟨k0, k1, k2, k3, k4, k5, k6, k7⟩ := hw
        go_simp
        (try with_reducible rfl)
      (try simp only [List.getElem_toArray, List.getElem_cons_succ, List.getElem_cons_zero, Act.put, List.setIfInBounds_toArray, List.set_cons_zero, List.set_cons_succ])
      refine wpAnyH_take (i := 26) (v := ?_) rfl (by kernel_rfl) (by kernel_rfl) (by kernel_rfl) (fun _ _ _ h => h) (.inl ⟨by first | (simp [Region.wanted]; done) | rfl, ?_⟩) HS0.out ?_
      rotate_left
      · intro w' hw
        obtain ⟨k0, k1, k2, k3, k4, k5, k6, k7⟩ := hw
        go_simp
        (try with_reducible rfl)
      (try simp only [List.getElem_toArray, List.getElem_cons_succ, List.getElem_cons_zero, Act.put, List.setIfInBounds_toArray, List.set_cons_zero, List.set_cons_succ])
      refine wpAnyH_take (i := 27) (v := ?_) rfl (by kernel_rfl) (by kernel_rfl) (by kernel_rfl) (fun _ _ _ h => h) (.inl ⟨by first | (simp [Region.wanted]; done) | rfl, ?_⟩) HS0.out ?_
      rotate_left
      · intro w' hw
        obtain ⟨k0, k1, k2, k3, k4, k5, k6, k7⟩ := hw
        go_simp
        (try with_reducible rfl)
      (try simp only [List.getElem_toArray, List.getElem_cons_succ, List.getElem_cons_zero, Act.put, List.setIfInBounds_toArray, List.set_cons_zero, List.set_cons_succ])
      refine wpAnyH_take (i := 28) (v := ?_) rfl (by kernel_rfl) (by kernel_rfl) (by kernel_rfl) (fun _ _ _ h => h) (.inl ⟨by first | (simp [Region.wanted]; done) | rfl, ?_⟩) HS0.out ?_
      rotate_left
      · intro w' hw
        obtain ⟨k0, k1, k2, k3, k4, k5, k6, k7⟩ := hw
        go_simp
        (try with_reducible rfl)
      (try simp only [List.getElem_toArray, List.getElem_cons_succ, List.getElem_cons_zero, Act.put, List.setIfInBounds_toArray, List.set_cons_zero, List.set_cons_succ])
      refine wpAnyH_take (i := 29) (v := ?_) rfl (by kernel_rfl) (by kernel_rfl) (by kernel_rfl) (fun _ _ _ h => h) (.inl ⟨by first | (simp [Region.wanted]; done) | rfl, ?_⟩) HS0.out ?_
      rotate_left
      · intro w' hw
        obtain ⟨k0, k1, k2, k3, k4, k5, k6, k7⟩ := hw
        go_simp
        (try with_reducible rfl)
      (try simp only [List.getElem_toArray, List.getElem_cons_succ, List.getElem_cons_zero, Act.put, List.setIfInBounds_toArray, List.set_cons_zero, List.set_cons_succ])
      refine wpAnyH_take (i := 30) (v := ?_) rfl (by kernel_rfl) (by kernel_rfl) (by kernel_rfl) (fun _ _ _ h => h) (.inl ⟨by first | (simp [Region.wanted]; done) | rfl, ?_⟩) HS0.out ?_
      rotate_left
      · intro w' hw
        obtain ⟨k0, k1, k2, k3, k4, k5, k6, k7⟩ := hw
        go_simp
        (try with_reducible rfl)
      (try simp only [List.getElem_toArray, List.getElem_cons_succ, List.getElem_cons_zero, Act.put, List.setIfInBounds_toArray, List.set_cons_zero, List.set_cons_succ])
      refine wpAnyH_take (i := 31) (v := ?_) rfl (by kernel_rfl) (by kernel_rfl) (by kernel_rfl) (fun _ _ _ h => h) (.inl ⟨by first | (simp [Region.wanted]; done) | rfl, ?_⟩) HS0.out ?_
      rotate_left
      · intro w' hw
        obtain ⟨k0, k1, k2, k3, k4, k5, k6, k7⟩ := hw
        go_simp
        (try with_reducible rfl)
      (try simp only [List.getElem_toArray, List.getElem_cons_succ, List.getElem_cons_zero, Act.put, List.setIfInBounds_toArray, List.set_cons_zero, List.set_cons_succ])
      refine wpAnyH_take (i := 32) (v := ?_) rfl (by kernel_rfl) (by kernel_rfl) (by kernel_rfl) (fun _ _ _ h => h) (.inl ⟨by first | (simp [Region.wanted]; done) | rfl, ?_⟩) HS0.out ?_
      rotate_left
      · intro w' hw
        obtain ⟨k0, k1, k2, k3, k4, k5, k6, k7⟩ := hw
        go_simp
        (try with_reducible rfl)
      (try simp only [List.getElem_toArray, List.getElem_cons_succ, List.getElem_cons_zero, Act.put, List.setIfInBounds_toArray, List.set_cons_zero, List.set_cons_succ])
      refine wpAnyH_take (i := 33) (v := ?_) rfl (by kernel_rfl) (by kernel_rfl) (by kernel_rfl) (fun _ _ _ h => h) (.inl ⟨by first | (simp [Region.wanted]; done) | rfl, ?_⟩) HS0.out ?_
      rotate_left
      · intro w' hw
        obtain ⟨k0, k1, k2, k3, k4, k5, k6, k7⟩ := hw
        go_simp
        (try with_reducible rfl)
      (try simp only [List.getElem_toArray, List.getElem_cons_succ, List.getElem_cons_zero, Act.put, List.setIfInBounds_toArray, List.set_cons_zero, List.set_cons_succ])
      refine wpAnyH_take (i := 34) (v := ?_) rfl (by kernel_rfl) (by kernel_rfl) (by kernel_rfl) (fun _ _ _ h => h) (.inl ⟨by first | (simp [Region.wanted]; done) | rfl, ?_⟩) HS0.out ?_
      rotate_left
      · intro w' hw
        obtain ⟨k0, k1, k2, k3, k4, k5, k6, k7⟩ := hw
        go_simp
        (try with_reducible rfl)
      (try simp only [List.getElem_toArray, List.getElem_cons_succ, List.getElem_cons_zero, Act.put, List.setIfInBounds_toArray, List.set_cons_zero, List.set_cons_succ])
      refine wpAnyH_ready (rs := [35]) (by kernel_rfl) (by simp) ?_
      refine AllReadyH.cons rfl (fun K hK => ?_) AllReadyH.nil
      go_simp
      refine (sameInts_any z.nxt z.nxt _ _ _ (HP.out.rep (F := ⟨w, Lt w.heap.size⟩) (.head _) HN1.out) (HP.out.rep (F := ⟨w, Lt w.heap.size⟩) (.head _) HN2.out)).mono ?_
      rintro r4 w4 ⟨rfl, hb⟩
      rw [decide_eq_true rfl]
      replace HP := Lib.hid (HP.out.call0 hb)
      clear hb
      dsimp only
      refine hK.out _ _ ⟨(HP.out.at_ (F := ⟨w, Lt w.heap.size⟩) (.head _) HAT1.out.1 HAT1.out.2).fld0 rfl, (HP.out.at_ (F := ⟨w, Lt w.heap.size⟩) (.head _) HAT1.out.1 HAT1.out.2).fld 0 rfl, (HP.out.at_ (F := ⟨w, Lt w.heap.size⟩) (.head _) HAT1.out.1 HAT1.out.2).fld 1 rfl, (HP.out.at_ (F := ⟨w, Lt w.heap.size⟩) (.head _) HAT1.out.1 HAT1.out.2).fld 2 rfl, (HP.out.at_ (F := ⟨w, Lt w.heap.size⟩) (.head _) HAT2.out.1 HAT2.out.2).fld0 rfl, (HP.out.at_ (F := ⟨w, Lt w.heap.size⟩) (.head _) HAT2.out.1 HAT2.out.2).fld 0 rfl, (HP.out.at_ (F := ⟨w, Lt w.heap.size⟩) (.head _) HAT2.out.1 HAT2.out.2).fld 1 rfl, (HP.out.at_ (F := ⟨w, Lt w.heap.size⟩) (.head _) HAT2.out.1 HAT2.out.2).fld 2 rfl⟩ (fun hHeld => ?_)
      replace HS0 := Lib.hid hHeld
      clear hK K hHeld
      (try simp only [List.getElem_toArray, List.getElem_cons_succ, List.getElem_cons_zero, Act.put, List.setIfInBounds_toArray, List.set_cons_zero, List.set_cons_succ])
      refine wpAnyH_take (i := 36) (v := ?_) rfl (by kernel_rfl) (by kernel_rfl) (by kernel_rfl) (fun _ _ _ h => h) (.inl ⟨by first | (simp [Region.wanted]; done) | rfl, ?_⟩) HS0.out ?_
      rotate_left
      · intro w' hw
        obtain ⟨k0, k1, k2, k3, k4, k5, k6, k7⟩ := hw
        go_simp
        (try with_reducible rfl)
      (try simp only [List.getElem_toArray, List.getElem_cons_succ, List.getElem_cons_zero, Act.put, List.setIfInBounds_toArray, List.set_cons_zero, List.set_cons_succ])
      refine wpAnyH_take (i := 37) (v := ?_) rfl (by kernel_rfl) (by kernel_rfl) (by kernel_rfl) (fun _ _ _ h => h) (.inl ⟨by first | (simp [Region.wanted]; done) | rfl, ?_⟩) HS0.out ?_
      rotate_left
      · intro w' hw
        obtain ⟨k0, k1, k2, k3, k4, k5, k6, k7⟩ := hw
        go_simp
        (try with_reducible rfl)
      (try simp only [List.getElem_toArray, List.getElem_cons_succ, List.getElem_cons_zero, Act.put, List.setIfInBounds_toArray, List.set_cons_zero, List.set_cons_succ])
      refine wpAnyH_take (i := 38) (v := ?_) rfl (by kernel_rfl) (by kernel_rfl) (by kernel_rfl) (fun _ _ _ h => h) (.inl ⟨by first | (simp [Region.wanted]; done) | rfl, ?_⟩) HS0.out ?_
      rotate_left
      · intro w' hw
        obtain ⟨k0, k1, k2, k3, k4, k5, k6, k7⟩ := hw
        go_simp
        (try with_reducible rfl)
      (try simp only [List.getElem_toArray, List.getElem_cons_succ, List.getElem_cons_zero, Act.put, List.setIfInBounds_toArray, List.set_cons_zero, List.set_cons_succ])
      refine wpAnyH_take (i := 39) (v := ?_) rfl (by kernel_rfl) (by kernel_rfl) (by kernel_rfl) (fun _ _ _ h => h) (.inl ⟨by first | (simp [Region.wanted]; done) | rfl, ?_⟩) HS0.out ?_
      rotate_left
      · intro w' hw
        obtain ⟨k0, k1, k2, k3, k4, k5, k6, k7⟩ := hw
        go_simp
        (try with_reducible rfl)
      (try simp only [List.getElem_toArray, List.getElem_cons_succ, List.getElem_cons_zero, Act.put, List.setIfInBounds_toArray, List.set_cons_zero, List.set_cons_succ])
      refine wpAnyH_take (i := 40) (v := ?_) rfl (by kernel_rfl) (by kernel_rfl) (by kernel_rfl) (fun _ _ _ h => h) (.inl ⟨by first | (simp [Region.wanted]; done) | rfl, ?_⟩) HS0.out ?_
      rotate_left
      · intro w' hw
        obtain ⟨k0, k1, k2, k3, k4, k5, k6, k7⟩ := hw
        go_simp
        (try with_reducible rfl)
      (try simp only [List.getElem_toArray, List.getElem_cons_succ, List.getElem_cons_zero, Act.put, List.setIfInBounds_toArray, List.set_cons_zero, List.set_cons_succ])
      refine wpAnyH_take (i := 41) (v := ?_) rfl (by kernel_rfl) (by kernel_rfl) (by kernel_rfl) (fun _ _ _ h => h) (.inl ⟨by first | (simp [Region.wanted]; done) | rfl, ?_⟩) HS0.out ?_
      rotate_left
      · intro w' hw
        obtain ⟨k0, k1, k2, k3, k4, k5, k6, k7⟩ := hw
        go_simp
        (try with_reducible rfl)
      (try simp only [List.getElem_toArray, List.getElem_cons_succ, List.getElem_cons_zero, Act.put, List.setIfInBounds_toArray, List.set_cons_zero, List.set_cons_succ])
      refine wpAnyH_take (i := 42) (v := ?_) rfl (by kernel_rfl) (by kernel_rfl) (by kernel_rfl) (fun _ _ _ h => h) (.inl ⟨by first | (simp [Region.wanted]; done) | rfl, ?_⟩) HS0.out ?_
      rotate_left
      · intro w' hw
        obtain ⟨k0, k1, k2, k3, k4, k5, k6, k7⟩ := hw
        go_simp
        (try with_reducible rfl)
      (try simp only [List.getElem_toArray, List.getElem_cons_succ, List.getElem_cons_zero, Act.put, List.setIfInBounds_toArray, List.set_cons_zero, List.set_cons_succ])
      refine wpAnyH_take (i := 43) (v := ?_) rfl (by kernel_rfl) (by kernel_rfl) (by kernel_rfl) (fun _ _ _ h => h) (.inl ⟨by first | (simp [Region.wanted]; done) | rfl, ?_⟩) HS0.out ?_
      rotate_left
      · intro w' hw
        obtain ⟨k0, k1, k2, k3, k4, k5, k6, k7⟩ := hw
        go_simp
        (try with_reducible rfl)
      (try simp only [List.getElem_toArray, List.getElem_cons_succ, List.getElem_cons_zero, Act.put, List.setIfInBounds_toArray, List.set_cons_zero, List.set_cons_succ])
      refine wpAnyH_take (i := 44) (v := ?_) rfl (by kernel_rfl) (by kernel_rfl) (by kernel_rfl) (fun _ _ _ h => h) (.inl ⟨by first | (simp [Region.wanted]; done) | rfl, ?_⟩) HS0.out ?_
      rotate_left
      · intro w' hw
        obtain ⟨k0, k1, k2, k3, k4, k5, k6, k7⟩ := hw
        go_simp
        (try with_reducible rfl)
      (try simp only [List.getElem_toArray, List.getElem_cons_succ, List.getElem_cons_zero, Act.put, List.setIfInBounds_toArray, List.set_cons_zero, List.set_cons_succ])
      refine wpAnyH_take (i := 45) (v := ?_) rfl (by kernel_rfl) (by kernel_rfl) (by kernel_rfl) (fun _ _ _ h => h) (.inl ⟨by first | (simp [Region.wanted]; done) | rfl, ?_⟩) HS0.out ?_
      rotate_left
      · intro w' hw
        obtain ⟨k0, k1, k2, k3, k4, k5, k6, k7⟩ := hw
        go_simp
        (try with_reducible rfl)
      (try simp only [List.getElem_toArray, List.getElem_cons_succ, List.getElem_cons_zero, Act.put, List.setIfInBounds_toArray, List.set_cons_zero, List.set_cons_succ])
      refine wpAnyH_take (i := 46) (v := ?_) rfl (by kernel_rfl) (by kernel_rfl) (by kernel_rfl) (fun _ _ _ h => h) (.inl ⟨by first | (simp [Region.wanted]; done) | rfl, ?_⟩) HS0.out ?_
      rotate_left
      · intro w' hw
        obtain ⟨k0, k1, k2, k3, k4, k5, k6, k7⟩ := hw
        go_simp
        (try with_reducible rfl)
      (try simp only [List.getElem_toArray, List.getElem_cons_succ, List.getElem_cons_zero, Act.put, List.setIfInBounds_toArray, List.set_cons_zero, List.set_cons_succ])
      refine wpAnyH_take (i := 47) (v := ?_) rfl (by kernel_rfl) (by kernel_rfl) (by kernel_rfl) (fun _ _ _ h => h) (.inl ⟨by first | (simp [Region.wanted]; done) | rfl, ?_⟩) HS0.out ?_
      rotate_left
      · intro w' hw
        obtain ⟨k0, k1, k2, k3, k4, k5, k6, k7⟩ := hw
        go_simp
        (try with_reducible rfl)
      (try simp only [List.getElem_toArray, List.getElem_cons_succ, List.getElem_cons_zero, Act.put, List.setIfInBounds_toArray, List.set_cons_zero, List.set_cons_succ])
      refine wpAnyH_take (i := 48) (v := ?_) rfl (by kernel_rfl) (by kernel_rfl) (by kernel_rfl) (fun _ _ _ h => h) (.inl ⟨by first | (simp [Region.wanted]; done) | rfl, ?_⟩) HS0.out ?_
      rotate_left
      · intro w' hw
        obtain ⟨k0, k1, k2, k3, k4, k5, k6, k7⟩ := hw
        go_simp
        (try with_reducible rfl)
      (try simp only [List.getElem_toArray, List.getElem_cons_succ, List.getElem_cons_zero, Act.put, List.setIfInBounds_toArray, List.set_cons_zero, List.set_cons_succ])
      refine wpAnyH_ready (rs := [49]) (by kernel_rfl) (by simp) ?_
      refine AllReadyH.cons rfl (fun K hK => ?_) AllReadyH.nil
      go_simp
      refine (sameInts_any z.prv z.prv _ _ _ (HP.out.rep (F := ⟨w, Lt w.heap.size⟩) (.head _) HP1.out) (HP.out.rep (F := ⟨w, Lt w.heap.size⟩) (.head _) HP2.out)).mono ?_
      rintro r4 w4 ⟨rfl, hb⟩
      rw [decide_eq_true rfl]
      replace HP := Lib.hid (HP.out.call0 hb)
      clear hb
      dsimp only
      refine hK.out _ _ ⟨(HP.out.at_ (F := ⟨w, Lt w.heap.size⟩) (.head _) HAT1.out.1 HAT1.out.2).fld0 rfl, (HP.out.at_ (F := ⟨w, Lt w.heap.size⟩) (.head _) HAT1.out.1 HAT1.out.2).fld 0 rfl, (HP.out.at_ (F := ⟨w, Lt w.heap.size⟩) (.head _) HAT1.out.1 HAT1.out.2).fld 1 rfl, (HP.out.at_ (F := ⟨w, Lt w.heap.size⟩) (.head _) HAT1.out.1 HAT1.out.2).fld 2 rfl, (HP.out.at_ (F := ⟨w, Lt w.heap.size⟩) (.head _) HAT2.out.1 HAT2.out.2).fld0 rfl, (HP.out.at_ (F := ⟨w, Lt w.heap.size⟩) (.head _) HAT2.out.1 HAT2.out.2).fld 0 rfl, (HP.out.at_ (F := ⟨w, Lt w.heap.size⟩) (.head _) HAT2.out.1 HAT2.out.2).fld 1 rfl, (HP.out.at_ (F := ⟨w, Lt w.heap.size⟩) (.head _) HAT2.out.1 HAT2.out.2).fld 2 rfl⟩ (fun hHeld => ?_)
      replace HS0 := Lib.hid hHeld
      clear hK K hHeld
      (try simp only [List.getElem_toArray, List.getElem_cons_succ, List.getElem_cons_zero, Act.put, List.setIfInBounds_toArray, List.set_cons_zero, List.set_cons_succ])
      refine wpAnyH_take (i := 50) (v := ?_) rfl (by kernel_rfl) (by kernel_rfl) (by kernel_rfl) (fun _ _ _ h => h) (.inl ⟨by first | (simp [Region.wanted]; done) | rfl, ?_⟩) HS0.out ?_
      rotate_left
      · intro w' hw
        obtain ⟨k0, k1, k2, k3, k4, k5, k6, k7⟩ := hw
        go_simp
        (try with_reducible rfl)
      (try simp only [List.getElem_toArray, List.getElem_cons_succ, List.getElem_cons_zero, Act.put, List.setIfInBounds_toArray, List.set_cons_zero, List.set_cons_succ])
      refine wpAnyH_take (i := 51) (v := ?_) rfl (by kernel_rfl) (by kernel_rfl) (by kernel_rfl) (fun _ _ _ h => h) (.inl ⟨by first | (simp [Region.wanted]; done) | rfl, ?_⟩) HS0.out ?_
      rotate_left
      · intro w' hw
        obtain ⟨k0, k1, k2, k3, k4, k5, k6, k7⟩ := hw
        go_simp
        (try with_reducible rfl)
      (try simp only [List.getElem_toArray, List.getElem_cons_succ, List.getElem_cons_zero, Act.put, List.setIfInBounds_toArray, List.set_cons_zero, List.set_cons_succ])
      refine wpAnyH_done (by kernel_rfl) ?_ _
      (try simp only [List.getElem_toArray, List.getElem_cons_succ, List.getElem_cons_zero, Act.put, List.setIfInBounds_toArray, List.set_cons_zero, List.set_cons_succ])
      clear HS0
      go_wp2
      go_roundw
      case rel => exact ⟨k + 1, by omega, by go_num, HP⟩
      case measure => simp [intOf]; omega
    · obtain rfl : k = xs.length := by omega
      go_wp2
      go_ret
      exact ⟨rfl, HP.out.below⟩
end Go.Proofs.YtnabeibnaoahmaaDoor
