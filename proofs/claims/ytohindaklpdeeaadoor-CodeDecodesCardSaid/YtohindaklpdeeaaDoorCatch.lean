/- code.Decode's deferred function. -/
import Derived.Test.YtohindaklpdeeaaDoorTake
import Derived.Test.YtohindaklpdeeaaDoorStill
import Derived.Test.YtohindaklpdeeaaDoorHeldB
import Derived.Defers
import Derived.Recover
set_option linter.unusedSimpArgs false
set_option linter.unusedVariables false
namespace Go.Proofs.YtohindaklpdeeaaDoor
open Go.RowKit
attribute [local irreducible] wpList Code.wp Oper.wp
/-- Nothing is on the way: it does nothing. -/
theorem catch_idle (p q : Addr) (w : World) :
    CallsD Tryd.prog 12 #[.pointer (some p), .pointer (some q)] .returning w fun e u' w' => e = .returned (.tuple #[]) ∧ u' = .returning ∧ w' = w := by
  refine callsD_of_wpS Tryd.func12 rfl fun c₀ cs hu => ?_
  apply wpS_seq
  apply wpS_region
  simp [wpOpsS, go_sem, recoverD, hu, Tryd.ntmps12, Exit.thenS]
  apply wpS_seq
  apply wpS_region
  simp [wpOpsS, go_sem, Exit.thenS]
  refine wpS_cond (t := false) (by simp [Act.eval, Array.replicate]) ?_
  simp only [Bool.false_eq_true, if_false]
  refine wpS_of_wp (wp_skip ?_)
  cases c₀
  simp_all [bodyPostS, results, Tryd.results12]
/-- A panic with an error's number: the results are laid. -/
theorem catch_err {w0 : World} {Fs : List Fro} {L : List Res} (p q : Nat) (n : Int) (V E : Value) (older : List PanicEntry) (w : World) (HP : Hp w0 Fs (.blk p 26 [V] :: .blk q 27 [E] :: L) w) :
    CallsD Tryd.prog 12 #[.pointer (some ⟨p, 0, none⟩), .pointer (some ⟨q, 0, none⟩)] (.panicking ({ v := .iface 27 (.int .i64 n), recovered := false } :: older)) w fun e u' w' =>
      e = .returned (.tuple #[]) ∧ u' = .panicking ({ v := .iface 27 (.int .i64 n), recovered := true } :: older) ∧ Hp w0 Fs (.blk p 26 [.slice none 0 0] :: .blk q 27 [.int .i64 n] :: L) w' := by
  replace HP := Lib.hid HP
  have hta : ∀ w' : World, Sem.run Tryd.prog (Instr.typeAssert (.iface 27 (.int .i64 n)) 20 27 false) w' = .ok (.int .i64 n) w' := fun _ => by kernel_rfl
  refine callsD_of_wpS Tryd.func12 rfl fun c₀ cs hu => ?_
  apply wpS_seq
  apply wpS_region
  simp [wpOpsS, go_sem, recoverD, hu, Tryd.ntmps12, Exit.thenS]
  apply wpS_seq
  apply wpS_region
  simp [wpOpsS, go_sem, Exit.thenS]
  refine wpS_cond (t := true) (by simp [Act.eval, Array.replicate]) ?_
  simp only [if_true]
  refine wpS_of_wp ?_
  change Code.wp _ _ _ ⟨#[.pointer (some ⟨p, 0, none⟩), .pointer (some ⟨q, 0, none⟩), .iface 27 (.int .i64 n), .iface 27 (.int .i64 n), .iface 27 (.int .i64 n), .bool true, undef, undef, undef], []⟩ w
  refine wp_region_held_drew (S := fun _ => True) (by kernel_rfl) trivial (fun hHeld => ?_)
  have HS0 := Lib.hid hHeld
  clear hHeld
  replace HP := Lib.hid HP.out.drew
  (try simp only [Act.put, List.setIfInBounds_toArray, List.set_cons_zero, List.set_cons_succ])
  refine wpAnyH_take (i := 0) (v := ?_) rfl (by kernel_rfl) (by kernel_rfl) (by kernel_rfl) (fun _ _ _ h => h) (.inl ⟨by first | (simp [Region.wanted]; done) | rfl, ?_⟩) HS0.out ?_
  rotate_left
  · intro w' hw
    go_simp
    (try with_reducible rfl)
  (try simp only [List.getElem_toArray, List.getElem_cons_succ, List.getElem_cons_zero, Act.put, List.setIfInBounds_toArray, List.set_cons_zero, List.set_cons_succ])
  refine wpAnyH_take (i := 1) (v := ?_) rfl (by kernel_rfl) (by kernel_rfl) (by kernel_rfl) (fun _ _ _ h => h) (.inl ⟨by first | (simp [Region.wanted]; done) | rfl, ?_⟩) HS0.out ?_
  rotate_left
  · intro w' hw
    go_simp
    (try with_reducible rfl)
  (try simp only [List.getElem_toArray, List.getElem_cons_succ, List.getElem_cons_zero, Act.put, List.setIfInBounds_toArray, List.set_cons_zero, List.set_cons_succ])
  refine wpAnyH_take (i := 2) (v := ?_) rfl (by kernel_rfl) (by kernel_rfl) (by kernel_rfl) (fun _ _ _ h => h) (.inl ⟨by first | (simp [Region.wanted]; done) | rfl, ?_⟩) HS0.out ?_
  rotate_left
  · intro w' hw
    go_simp
    (try with_reducible rfl)
  (try simp only [List.getElem_toArray, List.getElem_cons_succ, List.getElem_cons_zero, Act.put, List.setIfInBounds_toArray, List.set_cons_zero, List.set_cons_succ])
  refine wpAnyH_ready (rs := [3]) (by kernel_rfl) (by simp) ?_
  refine AllReadyH.cons rfl (fun K hK => ?_) AllReadyH.nil
  refine wanted_only rfl ?_
  refine wpList_stR0 rfl 26 _ _ rfl HP.out rfl (cs' := [.slice none 0 0]) rfl rfl (by simp [Value.oneCell']) (by kernel_rfl) ?_
  clear HP; intro wst HP; replace HP := Lib.hid HP
  refine wpList_nil ?_
  refine hK.out _ _ trivial (fun hHeld => ?_)
  clear hK K hHeld
  (try simp only [List.getElem_toArray, List.getElem_cons_succ, List.getElem_cons_zero, Act.put, List.setIfInBounds_toArray, List.set_cons_zero, List.set_cons_succ])
  refine wpAnyH_ready (rs := [4]) (by kernel_rfl) (by simp) ?_
  refine AllReadyH.cons rfl (fun K hK => ?_) AllReadyH.nil
  refine wanted_only rfl ?_
  refine wpList_st1 rfl 27 _ _ rfl HP.out rfl rfl (by simp) rfl rfl (by kernel_rfl) ?_
  clear HP; intro wst HP; replace HP := Lib.hid HP
  refine wpList_nil ?_
  refine hK.out _ _ trivial (fun hHeld => ?_)
  clear hK K hHeld
  (try simp only [List.getElem_toArray, List.getElem_cons_succ, List.getElem_cons_zero, Act.put, List.setIfInBounds_toArray, List.set_cons_zero, List.set_cons_succ])
  refine wpAnyH_done (by kernel_rfl) ?_ _
  simp [bodyPostS, results, Tryd.results12]
  exact HP.out
end Go.Proofs.YtohindaklpdeeaaDoor
