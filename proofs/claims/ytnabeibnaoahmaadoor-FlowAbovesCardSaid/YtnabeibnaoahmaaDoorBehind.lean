/- ref.Behind; truths in memory. -/
import Derived.Test.YtnabeibnaoahmaaDoorMgWaySureLaw2
import Derived.Test.YtnabeibnaoahmaaDoorMgCodeACodeB2
import Derived.Deep.LoopGhost
set_option linter.unusedSimpArgs false
set_option linter.unusedVariables false
namespace Go.Proofs.YtnabeibnaoahmaaDoor
open Go.RowKit
attribute [local irreducible] wpList Code.wp Oper.wp
theorem rep_code2 {f : List Ins} {u : Value} {w : World} {S : Nat → Prop} (h : Lay.rep w S f [u]) : ∃ (A : Option Addr) (c : Nat), u = .slice A f.length c ∧ f.length ≤ c ∧ c ≤ maxLen ∧
    ∀ (k : Nat) (hk : k < f.length), ∃ (a : Addr), A = some a ∧ S a.block ∧ At w (a.add (k * 5)) [.int .i64 f[k].op, .int .i64 f[k].dst, .int .i64 f[k].a, .int .i64 f[k].b, .int .i64 f[k].imm] := rep_code_at h
set_option maxRecDepth 10000 in
set_option maxHeartbeats 400000 in
theorem Behind_any (f : Fun) (v : Value) (pc : Nat) (w : World) (hv : Lay.rep w (Lt w.heap.size) f.code [v]) (hpc : pc < f.code.length) :
    Calls Tryd.prog 34 #[.agg #[.int .i64 f.params, .int .i64 f.regs, v], .int .i64 pc] w fun e w' => ∃ u, e = .returned u ∧ Lay.rep w' (Fresh w w') (nextZ f.code[pc] pc) [u] ∧ Below w.heap.size w w' := by
  obtain ⟨A, c, rfl, hc, hm, hx⟩ := rep_code_at hv
  unfold maxLen at hm
  obtain ⟨a, rfl, hab, hat⟩ := hx pc hpc
  have HAT := Lib.hid hat
  clear hx hat
  have HP := Lib.hid (Hp.start w)
  go_enter Tryd.func34, Tryd.ntmps34
  go_wp2_with (first | (refine wpList_box_hp (o := ⟨some 2, _, _, _, _, _⟩) rfl _ _ rfl HP.out [_, _, _] rfl ?_; clear HP; intro g2 w2 HP; replace HP := Lib.hid HP) | (refine wpList_alloc_hp (o := ⟨some 5, _, _, _, _, _⟩) rfl _ rfl HP.out (.agg #[.int .i64 0, .int .i64 0, .int .i64 0, .int .i64 0, .int .i64 0]) (by kernel_rfl) [_, _, _, _, _] rfl ?_; clear HP; intro g5 w5 HP; replace HP := Lib.hid HP) | (refine wpList_ld0 rfl 55 _ rfl HP.out rfl rfl Tryd.underlying55 rfl ?_) | (refine wpList_ld0 rfl 3 _ rfl HP.out rfl rfl Tryd.underlying3 rfl ?_) | (refine wpList_load_at rfl 65 _ rfl _ rfl _ _ (HP.out.at_ (F := ⟨w, Lt w.heap.size⟩) (by simp) HAT.out (by rw [block_of_add]; exact hab)) Tryd.underlying65 rfl (by kernel_rfl) ?_) | (refine wpList_stR0 rfl 65 _ _ rfl HP.out rfl (cs' := [_, _, _, _, _]) rfl rfl (by simp [Value.oneCell']) (by kernel_rfl) ?_; clear HP; intro wst HP; replace HP := Lib.hid HP) | (refine wpList_ints_hp rfl 25 3 1 _ rfl HP.out Tryd.underlying25 [_] rfl (by kernel_rfl) ?_; clear HP; intro gi wi HP; replace HP := Lib.hid HP) | (refine wpList_ints_hp rfl 25 3 2 _ rfl HP.out Tryd.underlying25 [_, _] rfl (by kernel_rfl) ?_; clear HP; intro gi wi HP; replace HP := Lib.hid HP))
  all_goals
    go_ret
    refine ⟨_, rfl, ?_, HP.out.below⟩
    simp only [beq_iff_eq, beq_eq_false_iff_ne, ne_eq] at *
    unfold nextZ
    simp only [*, if_true, if_false]
    first | exact rep_ints_nil | exact HP.out.ints (.head _) rfl rfl (by unfold maxLen; decide)
theorem rep_bool_block {w : World} {B : Nat → Prop} {g cap : Nat} {t : TypeId} {fr : Nat × Nat} {xs : List Bool} (hg : w.heap[g]? = some (.cells (xs.map Value.bool).toArray t fr)) (hB : B g) (hc : xs.length ≤ cap) (hm : cap ≤ maxLen) :
    Lay.rep w B xs [.slice (some ⟨g, 0, none⟩) xs.length cap] := by
  refine ⟨_, _, rfl, hc, hm, fun k x hx => ⟨⟨g, 0, none⟩, [.bool x], rfl, hB, fun j v hv => ?_, rfl⟩⟩
  have hj : j = 0 := by have := (List.getElem?_eq_some_iff.1 hv).1; simpa using this
  subst hj
  simp at hv
  subst hv
  rw [add_of_add, Addr.add_lit, cell_of_row _ _ _ _ _ _ hg]
  show ((xs.map Value.bool).toArray)[0 + (k * 1 + 0)]? = _
  rw [Nat.mul_one, Nat.add_zero, Nat.zero_add]
  simp [hx]
theorem Hp.bools {w0 w : World} {Fs : List Fro} {L : List Res} {g : Nat} {t : TypeId} {cs : List Value} {n : Nat} {xs : List Bool} (h : Hp w0 Fs L w) (hm : Res.blk g t cs ∈ L) (hx : cs = xs.map Value.bool) (hn : n = xs.length) (hl : n ≤ maxLen) :
    Lay.rep w (Fresh w0 w) xs [.slice (some ⟨g, 0, none⟩) n n] := by
  subst hx hn
  exact rep_bool_block (h.blk hm) ⟨((h.own _ hm).2 g rfl).1, ((h.own _ hm).2 g rfl).2.1⟩ (Nat.le_refl _) hl
/-- A slice of truths. -/
theorem rep_bools_at {w : World} {B : Nat → Prop} {xs : List Bool} {v : Value} (h : Lay.rep w B xs [v]) : ∃ (A : Option Addr) (c : Nat), v = .slice A xs.length c ∧ xs.length ≤ c ∧ c ≤ maxLen ∧
    ∀ (k : Nat) (hk : k < xs.length), ∃ (a : Addr), A = some a ∧ B a.block ∧ w.cell? (a.add k) = some (.bool xs[k]) := by
  obtain ⟨A, c, e, h1, h2, h3⟩ := rep_list h
  injection e with e
  refine ⟨A, c, e, h1, h2, fun k hk => ?_⟩
  obtain ⟨a, ds, ha, hb, hat, hr⟩ := h3 k hk
  rw [rep_bool] at hr
  subst hr
  refine ⟨a, ha, hb, ?_⟩
  have := hat.cell 0 rfl
  rwa [add_of_add, show k * Lay.size Bool + 0 = k from Nat.mul_one k] at this
theorem info_bool : (Tryd.prog.info? 4).map (fun i => (i.zero, i.size, i.bytes)) = some (some (.bool false), 1, 1) := by kernel_rfl
end Go.Proofs.YtnabeibnaoahmaaDoor
