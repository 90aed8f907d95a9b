/- slices.Sort of two numbers. -/
import Derived.Test.YtceilfmfidmfpaaDoorMgPrNestNestBFind4
import Derived.Test.YtceilfmfidmfpaaDoorMgHeldHeldB2
import Derived.Test.YtceilfmfidmfpaaDoorMgHpOpsHpRowHpB3
import Derived.BigQuiet
set_option linter.unusedSimpArgs false
set_option linter.unusedVariables false
namespace Go.Proofs.YtceilfmfidmfpaaDoor
open Go.RowKit
attribute [local irreducible] wpList Code.wp Oper.wp
theorem isNaN_any (a : Int) (w : World) : Calls Tryd.prog 67 #[.int .i64 a] w fun e w' => e = .returned (.bool false) ∧ w = w' := by
  have h : (a != a) = false := by simp
  go_enter Tryd.func67, Tryd.ntmps67
  go_wp2
  go_ret
  exact ⟨by simp, rfl⟩
theorem less_any (a b : Int) (w : World) : Calls Tryd.prog 47 #[.int .i64 a, .int .i64 b] w fun e w' => e = .returned (.bool (decide (a < b))) ∧ w = w' := by
  go_enter Tryd.func47, Tryd.ntmps47
  go_wp2_with (go_at_call 67; refine (isNaN_any _ _).mono ?_; rintro e w' ⟨rfl, rfl⟩)
  go_ret
  exact ⟨rfl, rfl⟩
set_option maxRecDepth 10000 in
set_option maxHeartbeats 2000000 in
theorem insSort_any (a b : Int) (g cap : Nat) (w0 w : World) (Fs : List Fro) (L : List Res) (hc : 2 ≤ cap) (H : Hp w0 Fs (.blk g 3 [.int .i64 a, .int .i64 b] :: L) w) :
    Calls Tryd.prog 74 #[.slice (some ⟨g, 0, none⟩) 2 cap, .int .i64 0, .int .i64 2] w fun e w' => e = .returned (.tuple #[]) ∧ Hp w0 Fs (.blk g 3 (if b < a then [.int .i64 b, .int .i64 a] else [.int .i64 a, .int .i64 b]) :: L) w' := by
  have HP := Lib.hid H
  clear H
  obtain ⟨cs, hcs⟩ : ∃ cs : List Value, (if b < a then [.int .i64 b, .int .i64 a] else [.int .i64 a, .int .i64 b]) = cs := ⟨_, rfl⟩
  have HCS := Lib.hid hcs
  rw [hcs]
  clear hcs
  go_enter Tryd.func74, Tryd.ntmps74
  go_wp2
  go_loopw [6] (fun i wr => (i = .int .i64 1 ∧ Hid (Hp w0 Fs (.blk g 3 [.int .i64 a, .int .i64 b] :: L) wr)) ∨ (i = .int .i64 2 ∧ Hid (Hp w0 Fs (.blk g 3 cs :: L) wr))) (fun i _ => 2 - (intOf i).toNat)
  case atStart => exact .inl ⟨rfl, HP⟩
  case round =>
    clear HP
    obtain ⟨wo, rfl⟩ : ∃ wo : World, wo = wr := ⟨_, rfl⟩
    rcases hrel with ⟨rfl, HP⟩ | ⟨rfl, HP⟩
    · go_wp2
      go_hide hQ
      go_loopw [7] (fun j wr => (j = .int .i64 1 ∧ Hid (Hp w0 Fs (.blk g 3 [.int .i64 a, .int .i64 b] :: L) wr)) ∨ (j = .int .i64 0 ∧ Hid (b < a) ∧ Hid (Hp w0 Fs (.blk g 3 [.int .i64 b, .int .i64 a] :: L) wr))) (fun j _ => (intOf j).toNat)
      case atStart => exact .inl ⟨rfl, HP⟩
      case round =>
        clear HP
        obtain ⟨wi, rfl⟩ : ∃ wi : World, wi = wr := ⟨_, rfl⟩
        rcases hrel with ⟨rfl, HP⟩ | ⟨rfl, HLT, HP⟩
        · have q0 := HP.out.cell (.head _) 0 _ rfl
          have q1 := HP.out.cell (.head _) 1 _ rfl
          by_cases hlt : b < a
          · have hb : decide (b < a) = true := decide_eq_true hlt
            have HLT := Lib.hid hlt
            have HB := Lib.hid hb
            clear hlt
            go_upto_region 4 with fail
            go_quiet ((go_at_call 47; exact quiet_left (calls_value (less_any _ _ _) (congrArg Value.bool HB.out))))
            clear q0 q1
            replace HP := Lib.hid (HP.out.drewN nq)
            generalize wi.drewN nq = wq at HP ⊢
            go_upto_region 6 with fail
            subst hQ
            have hz0 : IntKind.i64.wrap 0 = 0 := by decide +kernel
            replace HP := Lib.hid HP.out.drew
            refine wp_region_held_drew (S := fun _ => True) (by kernel_rfl) trivial (fun hHeld => ?_)
            have HS0 := Lib.hid hHeld
            clear hHeld
            (try simp only [Act.put, List.setIfInBounds_toArray, List.set_cons_zero, List.set_cons_succ])
            refine wpAnyH_take (i := 0) (v := ?_) rfl (by kernel_rfl) (by kernel_rfl) (by kernel_rfl) (fun _ _ _ h => h) (.inl ⟨by simp [Region.wanted], ?_⟩) HS0.out ?_
            rotate_left
            · intro w' hw
              go_simp
              (try with_reducible rfl)
            (try simp only [List.getElem_toArray, List.getElem_cons_succ, List.getElem_cons_zero, Act.put, List.setIfInBounds_toArray, List.set_cons_zero, List.set_cons_succ])
            refine wpAnyH_take (i := 1) (v := ?_) rfl (by kernel_rfl) (by kernel_rfl) (by kernel_rfl) (fun _ _ _ h => h) (.inl ⟨by simp [Region.wanted], ?_⟩) HS0.out ?_
            rotate_left
            · intro w' hw
              go_simp
              (try with_reducible rfl)
            (try simp only [List.getElem_toArray, List.getElem_cons_succ, List.getElem_cons_zero, Act.put, List.setIfInBounds_toArray, List.set_cons_zero, List.set_cons_succ])
            refine wpAnyH_take (i := 2) (v := ?_) rfl (by kernel_rfl) (by kernel_rfl) (by kernel_rfl) (fun _ _ _ h => h) (.inl ⟨by simp [Region.wanted], ?_⟩) HS0.out ?_
            rotate_left
            · intro w' hw
              go_simp
              (try with_reducible rfl)
            (try simp only [List.getElem_toArray, List.getElem_cons_succ, List.getElem_cons_zero, Act.put, List.setIfInBounds_toArray, List.set_cons_zero, List.set_cons_succ])
            refine wpAnyH_take (i := 3) (v := ?_) rfl (by kernel_rfl) (by kernel_rfl) (by kernel_rfl) (fun _ _ _ h => h) (.inl ⟨by simp [Region.wanted], ?_⟩) HS0.out ?_
            rotate_left
            · intro w' hw
              go_simp
              (try with_reducible rfl)
            (try simp only [List.getElem_toArray, List.getElem_cons_succ, List.getElem_cons_zero, Act.put, List.setIfInBounds_toArray, List.set_cons_zero, List.set_cons_succ])
            refine wpAnyH_take (i := 4) (v := ?_) rfl (by kernel_rfl) (by kernel_rfl) (by kernel_rfl) (fun _ _ _ h => h) (.inl ⟨by simp [Region.wanted], ?_⟩) HS0.out ?_
            rotate_left
            · intro w' hw
              go_simp
              (try with_reducible rfl)
            (try simp only [List.getElem_toArray, List.getElem_cons_succ, List.getElem_cons_zero, Act.put, List.setIfInBounds_toArray, List.set_cons_zero, List.set_cons_succ])
            refine wpAnyH_take (i := 5) (v := ?_) rfl (by kernel_rfl) (by kernel_rfl) (by kernel_rfl) (fun _ _ _ h => h) (.inl ⟨by simp [Region.wanted], ?_⟩) HS0.out ?_
            rotate_left
            · intro w' hw
              go_simp
              (try with_reducible rfl)
            (try simp only [List.getElem_toArray, List.getElem_cons_succ, List.getElem_cons_zero, Act.put, List.setIfInBounds_toArray, List.set_cons_zero, List.set_cons_succ])
            refine wpAnyH_take (i := 6) (v := ?_) rfl (by kernel_rfl) (by kernel_rfl) (by kernel_rfl) (fun _ _ _ h => h) (.inl ⟨by simp [Region.wanted], ?_⟩) HS0.out ?_
            rotate_left
            · intro w' hw
              go_simp
              (try with_reducible rfl)
            (try simp only [List.getElem_toArray, List.getElem_cons_succ, List.getElem_cons_zero, Act.put, List.setIfInBounds_toArray, List.set_cons_zero, List.set_cons_succ])
            refine wpAnyH_take (i := 7) (v := ?_) rfl (by kernel_rfl) (by kernel_rfl) (by kernel_rfl) (fun _ _ _ h => h) (.inl ⟨by simp [Region.wanted], ?_⟩) HS0.out ?_
            rotate_left
            · intro w' hw
              go_simp
              (try with_reducible rfl)
            (try simp only [List.getElem_toArray, List.getElem_cons_succ, List.getElem_cons_zero, Act.put, List.setIfInBounds_toArray, List.set_cons_zero, List.set_cons_succ])
            refine wpAnyH_take (i := 8) (v := ?_) rfl (by kernel_rfl) (by kernel_rfl) (by kernel_rfl) (fun _ _ _ h => h) (.inl ⟨by simp [Region.wanted], ?_⟩) HS0.out ?_
            rotate_left
            · intro w' hw
              go_simp
              (try with_reducible rfl)
            (try simp only [List.getElem_toArray, List.getElem_cons_succ, List.getElem_cons_zero, Act.put, List.setIfInBounds_toArray, List.set_cons_zero, List.set_cons_succ])
            refine wpAnyH_take (i := 10) (v := ?_) rfl (by kernel_rfl) (by kernel_rfl) (by kernel_rfl) (fun _ _ _ h => h) (.inl ⟨by simp [Region.wanted], ?_⟩) HS0.out ?_
            rotate_left
            · intro w' hw
              go_simp
              (try with_reducible rfl)
            (try simp only [List.getElem_toArray, List.getElem_cons_succ, List.getElem_cons_zero, Act.put, List.setIfInBounds_toArray, List.set_cons_zero, List.set_cons_succ])
            refine wpAnyH_take (i := 11) (v := ?_) rfl (by kernel_rfl) (by kernel_rfl) (by kernel_rfl) (fun _ _ _ h => h) (.inl ⟨by simp [Region.wanted], ?_⟩) HS0.out ?_
            rotate_left
            · intro w' hw
              go_simp
              (try with_reducible rfl)
            (try simp only [List.getElem_toArray, List.getElem_cons_succ, List.getElem_cons_zero, Act.put, List.setIfInBounds_toArray, List.set_cons_zero, List.set_cons_succ])
            refine wpAnyH_take (i := 12) (v := ?_) rfl (by kernel_rfl) (by kernel_rfl) (by kernel_rfl) (fun _ _ _ h => h) (.inl ⟨by simp [Region.wanted], ?_⟩) HS0.out ?_
            rotate_left
            · intro w' hw
              go_simp
              (try with_reducible rfl)
            (try simp only [List.getElem_toArray, List.getElem_cons_succ, List.getElem_cons_zero, Act.put, List.setIfInBounds_toArray, List.set_cons_zero, List.set_cons_succ])
            refine wpAnyH_ready (rs := [9, 13]) (by kernel_rfl) (by simp) ?_
            refine AllReadyH.cons rfl (fun K hK => ?_) (AllReadyH.cons rfl (fun K hK => ?_) AllReadyH.nil)
            all_goals
              refine wanted_only rfl ?_
              (first | (refine wpList_ld0 rfl 3 _ rfl HP.out rfl rfl Tryd.underlying3 rfl ?_))
              refine wpList_nil ?_
              refine hK.out _ _ trivial (fun hHeld => ?_)
              clear hK K hHeld
              (try simp only [List.getElem_toArray, List.getElem_cons_succ, List.getElem_cons_zero, Act.put, List.setIfInBounds_toArray, List.set_cons_zero, List.set_cons_succ])
            · refine wpAnyH_ready (rs := [13]) (by kernel_rfl) (by simp) ?_
              refine AllReadyH.cons rfl (fun K hK => ?_) AllReadyH.nil
              refine wanted_only rfl ?_
              (first | (refine wpList_ld0 rfl 3 _ rfl HP.out rfl rfl Tryd.underlying3 rfl ?_))
              refine wpList_nil ?_
              refine hK.out _ _ trivial (fun hHeld => ?_)
              clear hK K hHeld
              (try simp only [List.getElem_toArray, List.getElem_cons_succ, List.getElem_cons_zero, Act.put, List.setIfInBounds_toArray, List.set_cons_zero, List.set_cons_succ])
              refine wpAnyH_take (i := 14) (v := ?_) rfl (by kernel_rfl) (by kernel_rfl) (by kernel_rfl) (fun _ _ _ h => h) (.inl ⟨by simp [Region.wanted], ?_⟩) HS0.out ?_
              rotate_left
              · intro w' hw
                go_simp
                (try with_reducible rfl)
              (try simp only [List.getElem_toArray, List.getElem_cons_succ, List.getElem_cons_zero, Act.put, List.setIfInBounds_toArray, List.set_cons_zero, List.set_cons_succ])
              refine wpAnyH_ready (rs := [15]) (by kernel_rfl) (by simp) ?_
              refine AllReadyH.cons rfl (fun K hK => ?_) AllReadyH.nil
              refine wanted_only rfl ?_
              (first | (refine wpList_st0 rfl 3 _ _ rfl HP.out rfl rfl (by simp) rfl rfl (by kernel_rfl) ?_; clear HP; intro wst HP; replace HP := Lib.hid HP))
              refine wpList_nil ?_
              refine hK.out _ _ trivial (fun hHeld => ?_)
              clear hK K hHeld
              (try simp only [List.getElem_toArray, List.getElem_cons_succ, List.getElem_cons_zero, Act.put, List.setIfInBounds_toArray, List.set_cons_zero, List.set_cons_succ])
              refine wpAnyH_take (i := 16) (v := ?_) rfl (by kernel_rfl) (by kernel_rfl) (by kernel_rfl) (fun _ _ _ h => h) (.inl ⟨by simp [Region.wanted], ?_⟩) HS0.out ?_
              rotate_left
              · intro w' hw
                go_simp
                (try with_reducible rfl)
              (try simp only [List.getElem_toArray, List.getElem_cons_succ, List.getElem_cons_zero, Act.put, List.setIfInBounds_toArray, List.set_cons_zero, List.set_cons_succ])
              refine wpAnyH_ready (rs := [17]) (by kernel_rfl) (by simp) ?_
              refine AllReadyH.cons rfl (fun K hK => ?_) AllReadyH.nil
              refine wanted_only rfl ?_
              (first | (refine wpList_st0 rfl 3 _ _ rfl HP.out rfl rfl (by simp) rfl rfl (by kernel_rfl) ?_; clear HP; intro wst HP; replace HP := Lib.hid HP))
              refine wpList_nil ?_
              refine hK.out _ _ trivial (fun hHeld => ?_)
              clear hK K hHeld
              (try simp only [List.getElem_toArray, List.getElem_cons_succ, List.getElem_cons_zero, Act.put, List.setIfInBounds_toArray, List.set_cons_zero, List.set_cons_succ])
              clear HS0
              refine wpAnyH_done (by kernel_rfl) ?_ _
              (try simp only [List.getElem_toArray, List.getElem_cons_succ, List.getElem_cons_zero, Act.put, List.setIfInBounds_toArray, List.set_cons_zero, List.set_cons_succ])
              go_wp2
              go_roundw
              case rel => exact .inr ⟨by go_num, HLT, HP⟩
              case measure => simp [intOf]
            · refine wpAnyH_ready (rs := [9]) (by kernel_rfl) (by simp) ?_
              refine AllReadyH.cons rfl (fun K hK => ?_) AllReadyH.nil
              refine wanted_only rfl ?_
              (first | (refine wpList_ld0 rfl 3 _ rfl HP.out rfl rfl Tryd.underlying3 rfl ?_))
              refine wpList_nil ?_
              refine hK.out _ _ trivial (fun hHeld => ?_)
              clear hK K hHeld
              (try simp only [List.getElem_toArray, List.getElem_cons_succ, List.getElem_cons_zero, Act.put, List.setIfInBounds_toArray, List.set_cons_zero, List.set_cons_succ])
              refine wpAnyH_take (i := 14) (v := ?_) rfl (by kernel_rfl) (by kernel_rfl) (by kernel_rfl) (fun _ _ _ h => h) (.inl ⟨by simp [Region.wanted], ?_⟩) HS0.out ?_
              rotate_left
              · intro w' hw
                go_simp
                (try with_reducible rfl)
              (try simp only [List.getElem_toArray, List.getElem_cons_succ, List.getElem_cons_zero, Act.put, List.setIfInBounds_toArray, List.set_cons_zero, List.set_cons_succ])
              refine wpAnyH_ready (rs := [15]) (by kernel_rfl) (by simp) ?_
              refine AllReadyH.cons rfl (fun K hK => ?_) AllReadyH.nil
              refine wanted_only rfl ?_
              (first | (refine wpList_st0 rfl 3 _ _ rfl HP.out rfl rfl (by simp) rfl rfl (by kernel_rfl) ?_; clear HP; intro wst HP; replace HP := Lib.hid HP))
              refine wpList_nil ?_
              refine hK.out _ _ trivial (fun hHeld => ?_)
              clear hK K hHeld
              (try simp only [List.getElem_toArray, List.getElem_cons_succ, List.getElem_cons_zero, Act.put, List.setIfInBounds_toArray, List.set_cons_zero, List.set_cons_succ])
              refine wpAnyH_take (i := 16) (v := ?_) rfl (by kernel_rfl) (by kernel_rfl) (by kernel_rfl) (fun _ _ _ h => h) (.inl ⟨by simp [Region.wanted], ?_⟩) HS0.out ?_
              rotate_left
              · intro w' hw
                go_simp
                (try with_reducible rfl)
              (try simp only [List.getElem_toArray, List.getElem_cons_succ, List.getElem_cons_zero, Act.put, List.setIfInBounds_toArray, List.set_cons_zero, List.set_cons_succ])
              refine wpAnyH_ready (rs := [17]) (by kernel_rfl) (by simp) ?_
              refine AllReadyH.cons rfl (fun K hK => ?_) AllReadyH.nil
              refine wanted_only rfl ?_
              (first | (refine wpList_st0 rfl 3 _ _ rfl HP.out rfl rfl (by simp) rfl rfl (by kernel_rfl) ?_; clear HP; intro wst HP; replace HP := Lib.hid HP))
              refine wpList_nil ?_
              refine hK.out _ _ trivial (fun hHeld => ?_)
              clear hK K hHeld
              (try simp only [List.getElem_toArray, List.getElem_cons_succ, List.getElem_cons_zero, Act.put, List.setIfInBounds_toArray, List.set_cons_zero, List.set_cons_succ])
              clear HS0
              refine wpAnyH_done (by kernel_rfl) ?_ _
              (try simp only [List.getElem_toArray, List.getElem_cons_succ, List.getElem_cons_zero, Act.put, List.setIfInBounds_toArray, List.set_cons_zero, List.set_cons_succ])
              go_wp2
              go_roundw
              case rel => exact .inr ⟨by go_num, HLT, HP⟩
              case measure => simp [intOf]
          · have hb : decide (b < a) = false := decide_eq_false hlt
            have HB := Lib.hid hb
            have HE := Lib.hid (show cs = [.int .i64 a, .int .i64 b] by rw [← HCS.out, if_neg hlt])
            clear hlt
            go_upto_region 4 with fail
            go_quiet ((go_at_call 47; exact quiet_left (calls_value (less_any _ _ _) (congrArg Value.bool HB.out))))
            clear q0 q1
            replace HP := Lib.hid (HP.out.drewN nq)
            generalize wi.drewN nq = wq at HP ⊢
            rw [← HE.out] at HP
            go_wp2
            subst hQ
            go_wp2
            go_roundw
            case rel => exact .inr ⟨by go_num, HP⟩
            case measure => simp [intOf]
        · have HE := Lib.hid (show cs = [.int .i64 b, .int .i64 a] by rw [← HCS.out, if_pos HLT.out])
          go_upto_region 4 with fail
          go_quiet (fail)
          replace HP := Lib.hid (HP.out.drewN nq)
          generalize wi.drewN nq = wq at HP ⊢
          rw [← HE.out] at HP
          go_wp2
          subst hQ
          go_wp2
          go_roundw
          case rel => exact .inr ⟨by go_num, HP⟩
          case measure => simp [intOf]
    · go_wp2
      ((try simp only [Exit.inBlock, Exit.then]); first | refine bodyPost_end (results_none rfl _ _ _) rfl ?_ | refine bodyPost_ret (results_none rfl _ _ _) rfl ?_)
      exact ⟨rfl, HP.out⟩
set_option maxRecDepth 100000 in
set_option maxHeartbeats 2000000 in
theorem len64_any (w : World) : Calls Tryd.prog 83 #[.int .u64 2] w fun e w' => (∃ n, e = .returned (.int .i64 n)) ∧ w = w' := by
  go_enter Tryd.func83, Tryd.ntmps83
  go_wp2
  go_ret
  exact ⟨⟨_, rfl⟩, rfl⟩
theorem len_any (w : World) : Calls Tryd.prog 66 #[.int .u64 2] w fun e w' => (∃ n, e = .returned (.int .i64 n)) ∧ w = w' := by
  go_enter Tryd.func66, Tryd.ntmps66
  go_wp2_with (go_at_call 83; refine (len64_any _).mono ?_; rintro e w' ⟨⟨n, rfl⟩, rfl⟩)
  go_ret
  exact ⟨⟨_, rfl⟩, rfl⟩
set_option maxRecDepth 10000 in
set_option maxHeartbeats 2000000 in
theorem pdq_any (a b n : Int) (g cap : Nat) (w0 w : World) (Fs : List Fro) (L : List Res) (hc : 2 ≤ cap) (H : Hp w0 Fs (.blk g 3 [.int .i64 a, .int .i64 b] :: L) w) :
    Calls Tryd.prog 65 #[.slice (some ⟨g, 0, none⟩) 2 cap, .int .i64 0, .int .i64 2, .int .i64 n] w fun e w' => e = .returned (.tuple #[]) ∧ Hp w0 Fs (.blk g 3 (if b < a then [.int .i64 b, .int .i64 a] else [.int .i64 a, .int .i64 b]) :: L) w' := by
  have HP := Lib.hid H
  clear H
  obtain ⟨cs, hcs⟩ : ∃ cs : List Value, (if b < a then [.int .i64 b, .int .i64 a] else [.int .i64 a, .int .i64 b]) = cs := ⟨_, rfl⟩
  have HCS := Lib.hid hcs
  rw [hcs]
  clear hcs
  go_enter Tryd.func65, Tryd.ntmps65
  go_wp2
  go_loopw [1, 2, 8] (fun x y o wr => x = .int .i64 0 ∧ y = .int .i64 2 ∧ o = .bool true ∧ Hid (Hp w0 Fs (.blk g 3 [.int .i64 a, .int .i64 b] :: L) wr)) (fun _ _ _ _ => 0)
  case atStart => exact ⟨rfl, rfl, rfl, HP⟩
  case round =>
    clear HP
    obtain ⟨rfl, rfl, rfl, HP⟩ := hrel
    obtain ⟨wo, rfl⟩ : ∃ wo : World, wo = wr := ⟨_, rfl⟩
    go_wp2_with (go_at_call 74; refine (insSort_any a b g cap w0 _ _ _ hc HP.out).mono ?_; clear HP; rintro e w6 ⟨rfl, HP⟩; rw [HCS.out] at HP; replace HP := Lib.hid HP)
    ((try simp only [Exit.inBlock, Exit.then]); first | refine bodyPost_end (results_none rfl _ _ _) rfl ?_ | refine bodyPost_ret (results_none rfl _ _ _) rfl ?_)
    exact ⟨rfl, HP.out⟩
theorem sort_any (a b : Int) (g cap : Nat) (w0 w : World) (Fs : List Fro) (L : List Res) (hc : 2 ≤ cap) (H : Hp w0 Fs (.blk g 3 [.int .i64 a, .int .i64 b] :: L) w) :
    Calls Tryd.prog 46 #[.slice (some ⟨g, 0, none⟩) 2 cap] w fun e w' => e = .returned (.tuple #[]) ∧ Hp w0 Fs (.blk g 3 (if b < a then [.int .i64 b, .int .i64 a] else [.int .i64 a, .int .i64 b]) :: L) w' := by
  have HP := Lib.hid H
  clear H
  obtain ⟨cs, hcs⟩ : ∃ cs : List Value, (if b < a then [.int .i64 b, .int .i64 a] else [.int .i64 a, .int .i64 b]) = cs := ⟨_, rfl⟩
  have HCS := Lib.hid hcs
  rw [hcs]
  clear hcs
  go_enter Tryd.func46, Tryd.ntmps46
  go_wp2_with (first | (go_at_call 66; refine (len_any _).mono ?_; rintro e w' ⟨⟨n, rfl⟩, rfl⟩) | (go_at_call 65; refine (pdq_any a b _ g cap w0 _ _ _ hc HP.out).mono ?_; clear HP; rintro e w6 ⟨rfl, HP⟩; rw [HCS.out] at HP; replace HP := Lib.hid HP))
  (try simp only [Exit.inBlock, Exit.then])
  first | refine bodyPost_end (results_none (by rfl) _ _ _) (by rfl) ?_ | refine bodyPost_ret (results_none (by rfl) _ _ _) (by rfl) ?_ | skip
  exact ⟨rfl, HP.out⟩
end Go.Proofs.YtceilfmfidmfpaaDoor
