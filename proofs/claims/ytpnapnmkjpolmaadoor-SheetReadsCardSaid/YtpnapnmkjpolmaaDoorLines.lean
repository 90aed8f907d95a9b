/- strings.Lines. -/
import Derived.Test.YtpnapnmkjpolmaaDoorStrIdx
import Derived.Test.YtpnapnmkjpolmaaDoorRound
import Derived.Test.YtpnapnmkjpolmaaDoorReadLaw
import Derived.Test.YtpnapnmkjpolmaaDoorShelf
import Derived.RangeFuncNested
import Derived.RangeFuncBound
import Derived.RangeFuncCalls
import Derived.RangeFuncLeaves
import Derived.Shelf.RegionOpen
import Derived.WalkKit
import Derived.OwnWalkIn
import Derived.TacticsInMore
import Derived.LoopNIn
import Derived.LoopIn
set_option linter.unusedSimpArgs false
set_option linter.unusedVariables false
namespace Go.Proofs.YtpnapnmkjpolmaaDoor
open Go.RowKit
attribute [local irreducible] wpList Code.wp Oper.wp
theorem cut_index : ∀ l : List UInt8, (Lib.indexByte l 10 = -1 ∧ cutLn l = (l, [])) ∨ ∃ i : Nat, Lib.indexByte l 10 = i ∧ i < l.length ∧ cutLn l = (l.take (i + 1), l.drop (i + 1))
  | [] => .inl ⟨rfl, rfl⟩
  | c :: r => by
    unfold Lib.indexByte
    by_cases h : c = 10
    · subst h
      exact .inr ⟨0, by simp, by simp, by simp [cutLn]⟩
    · have hb : (c == 10) = false := beq_eq_false_iff_ne.2 h
      rw [hb, cutLn, if_neg h]
      rcases cut_index r with ⟨h1, h2⟩ | ⟨i, h1, h2, h3⟩
      · left
        rw [h1, h2]
        exact ⟨rfl, rfl⟩
      · right
        have hn : ((i : Int) == -1) = false := beq_eq_false_iff_ne.2 (by omega)
        refine ⟨i + 1, ?_, by simp; omega, by rw [h3]; rfl⟩
        rw [h1, hn]
        simp
set_option maxRecDepth 10000 in
set_option maxHeartbeats 1000000 in
theorem Lines_any (l : List UInt8) (w : World) :
    Calls Tryd.prog 19 #[.string (bstr l)] w fun e w' => e = .returned (.func (.func 41) #[] #[.pointer (some ⟨w.heap.size, 0, none⟩)]) ∧ w' = w.alloc (.cells #[.string (bstr l)] 9) := by
  have hmf : ∀ (fn : Fn) (first cap : Array Value) (w : World), (Instr.makeFunc fn first cap).run Tryd.prog w = .ok (.func fn first cap) w := fun _ _ _ _ => rfl
  go_enter Tryd.func19, Tryd.ntmps19
  go_wp2
  (try simp only [Exit.inBlock, Exit.then])
  refine bodyPost_ret (results_tmp (by rfl) _ _ _) (by rfl) ?_
  exact ⟨rfl, rfl⟩
set_option maxRecDepth 10000 in
set_option maxHeartbeats 1000000 in
theorem Lines1_in (n lp B : Nat) (J : List UInt8 → World → Prop) (Jx : World → Prop)
    (hc : ∀ r W, J r W → W.cell? ⟨B, 0, none⟩ = some (.string (bstr r)) ∧ W.frozen? ⟨B, 0, none⟩ = false)
    (hd : ∀ r W, J r W → J r W.drew) (hln : ∀ r W, J r W → r.length ≤ 1000000)
    (hY : ∀ r W, r ≠ [] → J r W → YieldAt (Wf none) (n - 1) Tryd.prog lp #[.string (bstr (cutLn r).1)] (W.setCell ⟨B, 0, none⟩ (.string (bstr (cutLn r).2))) fun e W' => (e = .returned (.bool true) ∧ J (cutLn r).2 W') ∨ (e = .returned (.bool false) ∧ Jx W'))
    (r0 : List UInt8) (W : World) (h0 : J r0 W) :
    CallsIn (Wf none) n Tryd.prog 41 #[.func (.yield lp) #[] #[], .pointer (some ⟨B, 0, none⟩)] W fun e W' => (∃ v, e = .returned v) ∧ (J [] W' ∨ Jx W') := by
  refine callsIn_of_wp Tryd.func41 rfl trivial ?_
  simp only [Tryd.ntmps41, List.size_toArray, List.length_cons, List.length_nil, Nat.reduceAdd, Nat.reduceSub, Array.replicate_succ, Array.replicate_zero, List.push_toArray, List.append_toArray, List.nil_append, List.cons_append]
  gi_wp2
  gi_loopw [4] (fun _ wr => ∃ r, J r wr) (fun _ wr => match wr.cell? ⟨B, 0, none⟩ with | some (.string s) => s.size | _ => 0)
  case atStart => exact ⟨r0, h0⟩
  case round =>
    obtain ⟨r, hJ⟩ := hrel
    obtain ⟨hcell, hfr⟩ := hc r wr hJ
    have hlen := hln r wr hJ
    have hsz := bstr_size r
    have HJ := Lib.hid hJ
    clear hJ
    by_cases hr : r = []
    · subst hr
      gi_wp2
      go_end0
      exact ⟨⟨_, rfl⟩, .inl HJ.out⟩
    · have hpos : 0 < r.length := List.length_pos_iff.2 hr
      have hg1 : decide (0 < r.length) = true := decide_eq_true hpos
      rcases cut_index r with ⟨hi, hcut⟩ | ⟨i, hi, hil, hcut⟩
      · obtain ⟨fn, tmps, assign, body, hy, hR⟩ := hY r wr hr HJ.out
        rw [hcut] at hy hR
        have hnil : bstr [] = ⟨#[]⟩ := rfl
        rw [hnil] at hy
        have HR := Lib.hid hR
        clear hR hr hcut
        have HIX := Lib.hid (show ∀ w, CallsIn (Wf none) (n - 1) Tryd.prog 42 #[.string (bstr r), .int .u8 10] w fun e w' => e = .returned (.int .i64 (-1)) ∧ w' = w from fun w => by
          have := Tryd.strings_IndexByte (bstr r) 10 w
          rw [bstr_data, show ((10 : Int).toNat.toUInt8) = 10 from rfl, hi] at this
          exact callsIn_wf this)
        clear hi
        gi_wp2_with (first | (refine ⟨trivial, fun h => (by cases h), ?_⟩; refine (HIX.out _).mono ?_; rintro e w' ⟨rfl, rfl⟩) | (refine ⟨fun h => (by cases h), ?_⟩; refine HR.out.mono ?_; rintro e W2 (⟨rfl, hJ2⟩ | ⟨rfl, hJ2⟩)) | (refine ⟨fun _ _ => trivial, fun h => (by cases h), ?_⟩; refine HR.out.mono ?_; rintro e W2 (⟨rfl, hJ2⟩ | ⟨rfl, hJ2⟩)))
        all_goals first
          | (refine ⟨⟨[], hJ2⟩, ?_⟩
             rw [(hc _ _ hJ2).1, hcell]
             simp only [bstr_size, List.length_nil]
             exact hpos)
          | ((try simp only [Exit.inBlock, Exit.then])
             refine bodyPost_ret (results_none rfl _ _ _) rfl ?_
             exact ⟨⟨_, rfl⟩, .inr hJ2⟩)
      · obtain ⟨fn, tmps, assign, body, hy, hR⟩ := hY r wr.drew hr (hd _ _ HJ.out)
        rw [hcut] at hy hR
        have HR := Lib.hid hR
        have hil2 : i + 1 ≤ r.length := hil
        clear hR hr hcut
        have HIX := Lib.hid (show ∀ w, CallsIn (Wf none) (n - 1) Tryd.prog 42 #[.string (bstr r), .int .u8 10] w fun e w' => e = .returned (.int .i64 (i : Int)) ∧ w' = w from fun w => by
          have := Tryd.strings_IndexByte (bstr r) 10 w
          rw [bstr_data, show ((10 : Int).toNat.toUInt8) = 10 from rfl, hi] at this
          exact callsIn_wf this)
        clear hi
        gi_wp2_with (first | (refine ⟨trivial, fun h => (by cases h), ?_⟩; refine (HIX.out _).mono ?_; rintro e w' ⟨rfl, hww⟩; obtain rfl := hww.symm))
        have hend : (r.drop (i + 1)).take (r.length - (i + 1)) = r.drop (i + 1) := List.take_of_length_le (by simp)
        refine wpR_held2 (S := fun _ => True) (by kernel_rfl) (by kernel_rfl) ?_
        have hcell2 : wr.drew.cell? ⟨B, 0, none⟩ = some (.string (bstr r)) := hcell
        have hfr2 : wr.drew.frozen? ⟨B, 0, none⟩ = false := hfr
        have HS0 : True := trivial
        obtain ⟨wd, hwd⟩ : ∃ wd, wr.drew = wd := ⟨_, rfl⟩
        rw [hwd] at hcell2 hfr2 HR hy ⊢
        have hi1 : IntKind.i64.wrap ((i : Int) + 1) = ((i + 1 : Nat) : Int) := by rw [IntKind.wrap_i64]; omega
        (try simp only [Act.put, List.setIfInBounds_toArray, List.set_cons_zero, List.set_cons_succ])
        refine wpAnyH_take (i := 1) (v := .int .i64 (i : Int)) rfl (by kernel_rfl) (by kernel_rfl) (by kernel_rfl) (fun _ _ _ h => h) (.inl ⟨by first | (simp [Region.wanted]; done) | rfl, ?_⟩) HS0 ?_
        · intro w' _
          go_simp
        (try simp only [List.getElem_toArray, List.getElem_cons_succ, List.getElem_cons_zero, Act.put, List.setIfInBounds_toArray, List.set_cons_zero, List.set_cons_succ])
        refine wpAnyH_take (i := 2) (v := .int .i64 ((i + 1 : Nat) : Int)) rfl (by kernel_rfl) (by kernel_rfl) (by kernel_rfl) (fun _ _ _ h => h) (.inl ⟨by first | (simp [Region.wanted]; done) | rfl, ?_⟩) HS0 ?_
        · intro w' _
          go_simp
        (try simp only [List.getElem_toArray, List.getElem_cons_succ, List.getElem_cons_zero, Act.put, List.setIfInBounds_toArray, List.set_cons_zero, List.set_cons_succ])
        refine wpAnyH_take (i := 5) (v := .int .i64 (i : Int)) rfl (by kernel_rfl) (by kernel_rfl) (by kernel_rfl) (fun _ _ _ h => h) (.inl ⟨by first | (simp [Region.wanted]; done) | rfl, ?_⟩) HS0 ?_
        · intro w' _
          go_simp
        (try simp only [List.getElem_toArray, List.getElem_cons_succ, List.getElem_cons_zero, Act.put, List.setIfInBounds_toArray, List.set_cons_zero, List.set_cons_succ])
        refine wpAnyH_take (i := 6) (v := .int .i64 ((i + 1 : Nat) : Int)) rfl (by kernel_rfl) (by kernel_rfl) (by kernel_rfl) (fun _ _ _ h => h) (.inl ⟨by first | (simp [Region.wanted]; done) | rfl, ?_⟩) HS0 ?_
        · intro w' _
          go_simp
        (try simp only [List.getElem_toArray, List.getElem_cons_succ, List.getElem_cons_zero, Act.put, List.setIfInBounds_toArray, List.set_cons_zero, List.set_cons_succ])
        refine wpAnyH_ready (rs := [0, 4]) (by kernel_rfl) (by simp) ?_
        refine AllReadyH.cons rfl (fun K hK => ?_) (AllReadyH.cons rfl (fun K hK => ?_) AllReadyH.nil)
        · go_simp
          refine hK.out _ _ trivial (fun _ => ?_)
          clear hK K
          (try simp only [List.getElem_toArray, List.getElem_cons_succ, List.getElem_cons_zero, Act.put, List.setIfInBounds_toArray, List.set_cons_zero, List.set_cons_succ])
          refine wpAnyH_take (i := 3) (v := .string (bstr ((r.drop 0).take (i + 1 - 0)))) rfl (by kernel_rfl) (by kernel_rfl) (by kernel_rfl) (fun _ _ _ h => h) (.inl ⟨by first | (simp [Region.wanted]; done) | rfl, ?_⟩) HS0 ?_
          · intro w' _
            exact exec_ssl _ _ _ rfl r rfl 0 (i + 1) (.inl ⟨rfl, rfl⟩) (.inr ⟨_, rfl, rfl⟩) (Nat.zero_le _) hil2 _
          (try simp only [List.getElem_toArray, List.getElem_cons_succ, List.getElem_cons_zero, Act.put, List.setIfInBounds_toArray, List.set_cons_zero, List.set_cons_succ])
          refine wpAnyH_take (i := 8) (v := .string (bstr ((r.drop 0).take (i + 1 - 0)))) rfl (by kernel_rfl) (by kernel_rfl) (by kernel_rfl) (fun _ _ _ h => h) (.inl ⟨by first | (simp [Region.wanted]; done) | rfl, ?_⟩) HS0 ?_
          · intro w' _
            go_simp
          (try simp only [List.getElem_toArray, List.getElem_cons_succ, List.getElem_cons_zero, Act.put, List.setIfInBounds_toArray, List.set_cons_zero, List.set_cons_succ])
          refine wpAnyH_ready (rs := [4]) (by kernel_rfl) (by simp) ?_
          refine AllReadyH.cons rfl (fun K hK => ?_) AllReadyH.nil
          go_simp
          refine hK.out _ _ trivial (fun _ => ?_)
          clear hK K
          (try simp only [List.getElem_toArray, List.getElem_cons_succ, List.getElem_cons_zero, Act.put, List.setIfInBounds_toArray, List.set_cons_zero, List.set_cons_succ])
          refine wpAnyH_take (i := 7) (v := .string (bstr ((r.drop (i + 1)).take (r.length - (i + 1))))) rfl (by kernel_rfl) (by kernel_rfl) (by kernel_rfl) (fun _ _ _ h => h) (.inl ⟨by first | (simp [Region.wanted]; done) | rfl, ?_⟩) HS0 ?_
          · intro w' _
            exact exec_ssl _ _ _ rfl r rfl (i + 1) r.length (.inr ⟨_, rfl, rfl⟩) (.inl ⟨rfl, rfl⟩) hil2 (Nat.le_refl _) _
          (try simp only [List.getElem_toArray, List.getElem_cons_succ, List.getElem_cons_zero, Act.put, List.setIfInBounds_toArray, List.set_cons_zero, List.set_cons_succ])
          refine wpAnyH_ready (rs := [9]) (by kernel_rfl) (by simp) ?_
          refine AllReadyH.cons rfl (fun K hK => ?_) AllReadyH.nil
          go_simp
          refine hK.out _ _ trivial (fun _ => ?_)
          clear hK K
          (try simp only [List.getElem_toArray, List.getElem_cons_succ, List.getElem_cons_zero, Act.put, List.setIfInBounds_toArray, List.set_cons_zero, List.set_cons_succ])
          refine wpAnyH_done (by kernel_rfl) ⟨by simp, ?_⟩ _
          (try simp only [List.getElem_toArray, List.getElem_cons_succ, List.getElem_cons_zero, Act.put, List.setIfInBounds_toArray, List.set_cons_zero, List.set_cons_succ])
          gi_wp2_with (first | (refine ⟨fun h => (by cases h), ?_⟩; refine HR.out.mono ?_; rintro e W2 (⟨rfl, hJ2⟩ | ⟨rfl, hJ2⟩)) | (refine ⟨fun _ _ => trivial, fun h => (by cases h), ?_⟩; refine HR.out.mono ?_; rintro e W2 (⟨rfl, hJ2⟩ | ⟨rfl, hJ2⟩)))
          all_goals first
            | (refine ⟨⟨_, hJ2⟩, ?_⟩
               rw [(hc _ _ hJ2).1, hcell]
               simp only [bstr_size, List.length_drop]
               omega)
            | ((try simp only [Exit.inBlock, Exit.then])
               refine bodyPost_ret (results_none rfl _ _ _) rfl ?_
               exact ⟨⟨_, rfl⟩, .inr hJ2⟩)
        · go_simp
          refine hK.out _ _ trivial (fun _ => ?_)
          clear hK K
          (try simp only [List.getElem_toArray, List.getElem_cons_succ, List.getElem_cons_zero, Act.put, List.setIfInBounds_toArray, List.set_cons_zero, List.set_cons_succ])
          refine wpAnyH_take (i := 7) (v := .string (bstr ((r.drop (i + 1)).take (r.length - (i + 1))))) rfl (by kernel_rfl) (by kernel_rfl) (by kernel_rfl) (fun _ _ _ h => h) (.inl ⟨by first | (simp [Region.wanted]; done) | rfl, ?_⟩) HS0 ?_
          · intro w' _
            exact exec_ssl _ _ _ rfl r rfl (i + 1) r.length (.inr ⟨_, rfl, rfl⟩) (.inl ⟨rfl, rfl⟩) hil2 (Nat.le_refl _) _
          (try simp only [List.getElem_toArray, List.getElem_cons_succ, List.getElem_cons_zero, Act.put, List.setIfInBounds_toArray, List.set_cons_zero, List.set_cons_succ])
          refine wpAnyH_ready (rs := [0]) (by kernel_rfl) (by simp) ?_
          refine AllReadyH.cons rfl (fun K hK => ?_) AllReadyH.nil
          go_simp
          refine hK.out _ _ trivial (fun _ => ?_)
          clear hK K
          (try simp only [List.getElem_toArray, List.getElem_cons_succ, List.getElem_cons_zero, Act.put, List.setIfInBounds_toArray, List.set_cons_zero, List.set_cons_succ])
          refine wpAnyH_take (i := 3) (v := .string (bstr ((r.drop 0).take (i + 1 - 0)))) rfl (by kernel_rfl) (by kernel_rfl) (by kernel_rfl) (fun _ _ _ h => h) (.inl ⟨by first | (simp [Region.wanted]; done) | rfl, ?_⟩) HS0 ?_
          · intro w' _
            exact exec_ssl _ _ _ rfl r rfl 0 (i + 1) (.inl ⟨rfl, rfl⟩) (.inr ⟨_, rfl, rfl⟩) (Nat.zero_le _) hil2 _
          (try simp only [List.getElem_toArray, List.getElem_cons_succ, List.getElem_cons_zero, Act.put, List.setIfInBounds_toArray, List.set_cons_zero, List.set_cons_succ])
          refine wpAnyH_ready (rs := [8]) (by kernel_rfl) (by simp) ?_
          refine AllReadyH.cons rfl (fun K hK => ?_) AllReadyH.nil
          go_simp
          refine hK.out _ _ trivial (fun _ => ?_)
          clear hK K
          (try simp only [List.getElem_toArray, List.getElem_cons_succ, List.getElem_cons_zero, Act.put, List.setIfInBounds_toArray, List.set_cons_zero, List.set_cons_succ])
          refine wpAnyH_ready (rs := [9]) (by kernel_rfl) (by simp) ?_
          refine AllReadyH.cons rfl (fun K hK => ?_) AllReadyH.nil
          go_simp
          refine hK.out _ _ trivial (fun _ => ?_)
          clear hK K
          (try simp only [List.getElem_toArray, List.getElem_cons_succ, List.getElem_cons_zero, Act.put, List.setIfInBounds_toArray, List.set_cons_zero, List.set_cons_succ])
          refine wpAnyH_done (by kernel_rfl) ⟨by simp, ?_⟩ _
          (try simp only [List.getElem_toArray, List.getElem_cons_succ, List.getElem_cons_zero, Act.put, List.setIfInBounds_toArray, List.set_cons_zero, List.set_cons_succ])
          gi_wp2_with (first | (refine ⟨fun h => (by cases h), ?_⟩; refine HR.out.mono ?_; rintro e W2 (⟨rfl, hJ2⟩ | ⟨rfl, hJ2⟩)) | (refine ⟨fun _ _ => trivial, fun h => (by cases h), ?_⟩; refine HR.out.mono ?_; rintro e W2 (⟨rfl, hJ2⟩ | ⟨rfl, hJ2⟩)))
          all_goals first
            | (refine ⟨⟨_, hJ2⟩, ?_⟩
               rw [(hc _ _ hJ2).1, hcell]
               simp only [bstr_size, List.length_drop]
               omega)
            | ((try simp only [Exit.inBlock, Exit.then])
               refine bodyPost_ret (results_none rfl _ _ _) rfl ?_
               exact ⟨⟨_, rfl⟩, .inr hJ2⟩)
end Go.Proofs.YtpnapnmkjpolmaaDoor
