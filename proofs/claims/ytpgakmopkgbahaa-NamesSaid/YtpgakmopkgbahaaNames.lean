/- The error numbers, kinds and limits of package api are the document's: tierlinelaw.Names returns true. No condition. -/
import Derived.Test.YtpgakmopkgbahaaSame
import Derived.Test.YtpgakmopkgbahaaPost
namespace Go.Proofs.Ytpgakmopkgbahaa.names
open Go.ChangeShapes Go.WideShapes Go.ChangeAt Go.RowKit
set_option linter.unusedVariables false      -- a walk need not use every 'w<i>' (that an integer argument fits its kind)

theorem new_of_two (W : World) (A B : Obj) (n : Nat) (h : n = W.heap.size) : ((W.alloc A).alloc B).heap[n]? = some A := by subst h; exact heap_alloc2_old W A B
theorem new_of_one (W : World) (A : Obj) (n : Nat) (h : n = W.heap.size) : (W.alloc A).heap[n]? = some A := by subst h; exact heap_alloc_new W A
theorem below_drewN {B : Nat} {a w : World} (h : Below B a w) (n : Nat) : Below B a (w.drewN n) := ⟨h.os, h.tape, h.output, h.size, h.block⟩
set_option maxRecDepth 100000 in
set_option maxHeartbeats 1000000 in
theorem walk  (w : World) :
    Calls Try.prog 3 #[] w fun e w' => e = .returned (.bool true) ∧ Below w.heap.size w w' := by
  go_enter Try.func3, Try.ntmps3
  go_wp2
  go_loopw [2] (fun i W => ∃ k : Nat, k ≤ 11 ∧ i = .int .i64 k ∧ Hid (∀ j : Nat, j < 11 → W.cell? ⟨w.heap.size, j, none⟩ = some (.int .i64 j)) ∧ Below w.heap.size w W) (fun i _ => 11 - (intOf i).toNat)
  case atStart =>
    refine ⟨0, by omega, rfl, Lib.hid fun j hj => ?_, (Below.refl _ _).alloc (Nat.le_refl _) _⟩
    rw [cell_of_row _ _ _ _ _ _ (heap_alloc_new _ _)]
    show ((List.range 11).map (fun j : Nat => Value.int .i64 ((j : Int)))).toArray[j]? = _
    simp [hj]
  case round =>
    obtain ⟨k, hk, rfl, hc, hb⟩ := hrel
    by_cases hlt : k < 11
    · have hk := hc.out k hlt
      have h1 : ((k : Int) != (k : Int)) = false := by simp
      go_wp2
      go_roundw
      case rel => exact ⟨k + 1, by omega, by go_num, hc, hb⟩
      case measure => simp [intOf]; omega
    · obtain rfl : k = 11 := by omega
      clear hc
      obtain ⟨w1, rfl⟩ : ∃ w1, w1 = wr := ⟨_, rfl⟩
      have hsw1 := hb.size
      go_wp2
      go_loopw [4] (fun i W => ∃ k : Nat, k ≤ 19 ∧ i = .int .i64 k ∧ Hid (∀ j : Nat, j < 19 → W.cell? ⟨w1.heap.size, j, none⟩ = some (.int .i64 (j + 1))) ∧ Below w.heap.size w W) (fun i _ => 19 - (intOf i).toNat)
      case atStart =>
        refine ⟨0, by omega, rfl, Lib.hid fun j hj => ?_, hb.alloc hsw1 _⟩
        rw [cell_of_row _ _ _ _ _ _ (heap_alloc_new _ _)]
        show ((List.range 19).map (fun j : Nat => Value.int .i64 ((j : Int) + 1))).toArray[j]? = _
        simp [hj]
      case round =>
        obtain ⟨k, hk, rfl, hc, hb⟩ := hrel
        by_cases hlt : k < 19
        · have hk := hc.out k hlt
          have h1 : ((k : Int) + 1 != (k : Int) + 1) = false := by simp
          go_wp2
          go_roundw
          case rel => exact ⟨k + 1, by omega, by go_num, hc, hb⟩
          case measure => simp [intOf]; omega
        · obtain rfl : k = 19 := by omega
          clear hc
          obtain ⟨w2, rfl⟩ : ∃ w2, w2 = wr := ⟨_, rfl⟩
          have hsw2 := hb.size
          go_wp2
          go_loopw [6] (fun i W => ∃ k : Nat, k ≤ 29 ∧ i = .int .i64 k ∧ Hid (∀ j : Nat, j < 29 → W.cell? ⟨w2.heap.size, j, none⟩ = some (.int .i64 (j + 1))) ∧ Below w.heap.size w W) (fun i _ => 29 - (intOf i).toNat)
          case atStart =>
            refine ⟨0, by omega, rfl, Lib.hid fun j hj => ?_, hb.alloc hsw2 _⟩
            rw [cell_of_row _ _ _ _ _ _ (heap_alloc_new _ _)]
            show ((List.range 29).map (fun j : Nat => Value.int .i64 ((j : Int) + 1))).toArray[j]? = _
            simp [hj]
          case round =>
            obtain ⟨k, hk, rfl, hc, hb⟩ := hrel
            by_cases hlt : k < 29
            · have hk := hc.out k hlt
              have h1 : ((k : Int) + 1 != (k : Int) + 1) = false := by simp
              go_wp2
              go_roundw
              case rel => exact ⟨k + 1, by omega, by go_num, hc, hb⟩
              case measure => simp [intOf]; omega
            · obtain rfl : k = 29 := by omega
              clear hc
              obtain ⟨w3, rfl⟩ : ∃ w3, w3 = wr := ⟨_, rfl⟩
              have hsw3 := hb.size
              go_wp2_with fail
              refine (sameInts_any [0, 1, 2, 3, 4, 5, 0, 1, 2, 0, 1, 2, 3, 4] [0, 1, 2, 3, 4, 5, 0, 1, 2, 0, 1, 2, 3, 4] _ _ _ (w3.heap.size + 2) (rep_of_block (heap_alloc2_old _ _ _) (by omega) (by decide) (by decide)) (rep_of_block (heap_alloc2_new _ _ _) (by omega) (by decide) (by decide))).mono ?_
              rintro e w4 ⟨rfl, n4, rfl⟩
              go_wp2_with fail
              refine (sameInts_any [4, 2, 12, 40, 16, 8, 10000, 100, 5000, 4000, 10000, 32768, 64, 4000000, 2, 6] [4, 2, 12, 40, 16, 8, 10000, 100, 5000, 4000, 10000, 32768, 64, 4000000, 2, 6] _ _ _ (w3.heap.size + 4) (rep_of_block (new_of_two _ _ _ _ (by simp)) (by omega) (by decide) (by decide)) (rep_of_block (new_of_one _ _ _ (by simp)) (by omega) (by decide) (by decide))).mono ?_
              rintro e w4 ⟨rfl, n5, rfl⟩
              go_wp2_with fail
              go_ret
              exact ⟨rfl, below_drewN (below_drewN ((((hb.alloc (by omega) _).alloc (by simp; omega) _).alloc (by simp; omega) _).alloc (by simp; omega) _) _) _⟩

set_option maxRecDepth 100000 in
theorem lifted (os : Os) (started : os.Started) (H : Type) (enc : TypeId × Value → H) :
    ReturnsInHanded {} Try.checked os 3 .any (Rows.namesSpec.pre6 enc Try.prog Try.f3 Rows.namesRow.domain false) (Rows.namesSpec.post enc Try.prog Try.f3 false true false false) := by
  refine returnsInHanded_of_change (C := Try.checked) own started (by kernel_rfl) Try.func3
    (ChangeSpec.witness6 (enc := enc) (C := Try.checked) false ⟨#[], #[], []⟩ 8 (by kernel_rfl) (by kernel_rfl) (by kernel_rfl) (by kernel_rfl)) ?_
  intro W base args ds gs before hval0 hW hcnd _
  have hval : ∀ (j : Nat) t v, Try.f3.params[j]? = some t → args[j]? = some v → Value.okWide Try.prog W .any base t v := hval0
  have hW' := hW
  obtain ⟨p, q, hA0, hV, rfl, hfz, hnd⟩ := hW
  have hA : DataW.TrodAll enc Try.prog W 0 (fun _ => true) true Try.f3.params.toList args.toList ds p := hA0
  rw [Try.params3] at hA hval
  obtain ⟨rfl, rfl, rfl⟩ := trodAll_none hA
  obtain ⟨rfl, rfl⟩ := trodVars_none hV
  clear hA0 hval0
  simp only [List.append_nil] at hW'
  refine (walk  W).mono fun e W' ⟨he, hg⟩ => ?_
  subst he
  exact ⟨_, rfl, post_of_below (pa := []) (pv := []) hW' (fun _ _ _ => (trodAll_cons_mk (shut_bool Try.underlying4 _) trodAll_mk0)) (fun sp _ => rfl) (fun _ _ => rfl) rfl
    hg (ok_one (by kernel_rfl) rfl (okWide_bool_mk Try.underlying4 _))⟩

theorem over : Rows.namesRow.holds Try.pinned (OpenSpec.ofChange Rows.namesSpec) :=
  OpenClaim.holds_of_wide 3 Try.f3 rfl rfl rfl rfl rfl rfl rfl ⟨rfl, rfl, rfl, rfl, rfl⟩ rfl rfl rfl rfl rfl (by kernel_rfl) Try.func3 (by kernel_rfl)
    (of_decide_eq_true (by kernel_rfl)) (by unfold Func.isWrapper; first | (rw [if_pos (by decide +kernel)]; kernel_rfl) | (rw [if_neg (by decide +kernel)]; exact ⟨rfl, rfl⟩))
    (fun os started H enc _ => lifted os started H enc)

theorem proved : Rows.NamesSaid :=
  over
#print axioms proved
end Go.Proofs.Ytpgakmopkgbahaa.names
