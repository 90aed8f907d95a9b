/- flow.next. -/
import Derived.Test.YtnabeibnaoahmaaDoorSort2
import Derived.Test.YtnabeibnaoahmaaDoorMgProvenLawLiveLaw2
set_option linter.unusedSimpArgs false
set_option linter.unusedVariables false
namespace Go.Proofs.YtnabeibnaoahmaaDoor
open Go.RowKit Plain64
attribute [local irreducible] wpList Code.wp Oper.wp
def nxtS (x : Ins) (pc : Nat) : List Int := if x.op = 19 then [] else if x.op = 15 then [x.imm] else if x.op = 16 then (if x.imm = (pc : Int) + 1 then [(pc : Int) + 1] else if x.imm < (pc : Int) + 1 then [x.imm, (pc : Int) + 1] else [(pc : Int) + 1, x.imm]) else [(pc : Int) + 1]
theorem mem_nxtS {x : Ins} {pc : Nat} {n : Int} : n ∈ nxtS x pc ↔ n ∈ nextZ x pc := by
  unfold nxtS nextZ
  split
  · rfl
  split
  · rfl
  split
  · split
    · rename_i h; rw [h]; simp
    · split
      · simp [or_comm]
      · rfl
  · rfl
theorem nxtS_len (x : Ins) (pc : Nat) : (nxtS x pc).length ≤ 2 := by
  unfold nxtS
  split
  · simp
  split
  · simp
  split
  · split
    · simp
    · split <;> simp
  · simp
theorem orL_next {os : List Int} (h : Small os) (x : Ins) (pc : Nat) : orL os (nxtS x pc) 0 = orL os (nextZ x pc) 0 := by
  refine mask_ext (orL_range h _ _ (by omega)) (orL_range h _ _ (by omega)) fun r hr => ?_
  rw [Bool.eq_iff_iff, orL_bit r hr, orL_bit r hr]
  simp only [mem_nxtS]
set_option maxRecDepth 10000 in
set_option maxHeartbeats 1000000 in
theorem flowNext_any (f : Fun) (v : Value) (pc : Nat) (w : World) (hv : Lay.rep w (Lt w.heap.size) f.code [v]) (hpc : pc < f.code.length) :
    Calls Tryd.prog 27 #[.agg #[.int .i64 f.params, .int .i64 f.regs, v], .int .i64 pc] w fun e w' => ∃ u, e = .returned u ∧ Lay.rep w' (Fresh w w') (nxtS f.code[pc] pc) [u] ∧ Below w.heap.size w w' := by
  obtain ⟨A, c, rfl, hc, hm, hx⟩ := rep_code_at hv
  unfold maxLen at hm
  obtain ⟨a, rfl, hab, hat⟩ := hx pc hpc
  obtain ⟨x, hxx⟩ : ∃ x, f.code[pc] = x := ⟨_, rfl⟩
  rw [hxx] at hat ⊢
  have HAT := Lib.hid hat
  clear hx hat hxx
  have HP := Lib.hid (Hp.start w)
  obtain ⟨l, hl⟩ : ∃ l, nxtS x pc = l := ⟨_, rfl⟩
  rw [hl]
  have h5 : x.op = 19 ∨ x.op = 15 ∨ (x.op = 16 ∧ x.imm = (pc : Int) + 1) ∨ (x.op = 16 ∧ x.imm ≠ (pc : Int) + 1) ∨ (x.op ≠ 19 ∧ x.op ≠ 15 ∧ x.op ≠ 16) := by omega
  rcases h5 with h | h | ⟨h, h2⟩ | ⟨h, h2⟩ | ⟨h, h2, h3⟩
  · have HL := Lib.hid (show l = [] by rw [← hl]; unfold nxtS; rw [if_pos h])
    rw [h] at HAT
    clear hl h
    go_enter Tryd.func27, Tryd.ntmps27
    go_wp2_with (first | (refine wpList_box_hp (o := ⟨some 2, _, _, _, _, _⟩) rfl _ _ rfl HP.out [_, _, _] rfl ?_; clear HP; intro g2 w2 HP; replace HP := Lib.hid HP) | (refine wpList_alloc_hp (o := ⟨some 5, _, _, _, _, _⟩) rfl _ rfl HP.out (.agg #[.int .i64 0, .int .i64 0, .int .i64 0, .int .i64 0, .int .i64 0]) (by kernel_rfl) [_, _, _, _, _] rfl ?_; clear HP; intro g5 w5 HP; replace HP := Lib.hid HP) | (refine wpList_ld0 rfl 55 _ rfl HP.out rfl rfl Tryd.underlying55 rfl ?_) | (refine wpList_ld0 rfl 3 _ rfl HP.out rfl rfl Tryd.underlying3 rfl ?_) | (refine wpList_load_at rfl 65 _ rfl _ rfl _ _ (HP.out.at_ (F := ⟨w, Lt w.heap.size⟩) (by simp) HAT.out (by rw [block_of_add]; exact hab)) Tryd.underlying65 rfl (by kernel_rfl) ?_) | (refine wpList_stR0 rfl 65 _ _ rfl HP.out rfl (cs' := [_, _, _, _, _]) rfl rfl (by simp [Value.oneCell']) (by kernel_rfl) ?_; clear HP; intro wst HP; replace HP := Lib.hid HP))
    (try simp only [Exit.inBlock, Exit.then])
    refine bodyPost_ret (results_tmp (by rfl) _ _ _) (by rfl) ?_
    rw [HL.out]
    exact ⟨_, rfl, rep_ints_nil, HP.out.below⟩
  · have HL := Lib.hid (show l = [x.imm] by rw [← hl]; unfold nxtS; rw [if_neg (by omega), if_pos h])
    rw [h] at HAT
    clear hl h
    go_enter Tryd.func27, Tryd.ntmps27
    go_wp2_with (first | (refine wpList_box_hp (o := ⟨some 2, _, _, _, _, _⟩) rfl _ _ rfl HP.out [_, _, _] rfl ?_; clear HP; intro g2 w2 HP; replace HP := Lib.hid HP) | (refine wpList_alloc_hp (o := ⟨some 5, _, _, _, _, _⟩) rfl _ rfl HP.out (.agg #[.int .i64 0, .int .i64 0, .int .i64 0, .int .i64 0, .int .i64 0]) (by kernel_rfl) [_, _, _, _, _] rfl ?_; clear HP; intro g5 w5 HP; replace HP := Lib.hid HP) | (refine wpList_ld0 rfl 55 _ rfl HP.out rfl rfl Tryd.underlying55 rfl ?_) | (refine wpList_ld0 rfl 3 _ rfl HP.out rfl rfl Tryd.underlying3 rfl ?_) | (refine wpList_load_at rfl 65 _ rfl _ rfl _ _ (HP.out.at_ (F := ⟨w, Lt w.heap.size⟩) (by simp) HAT.out (by rw [block_of_add]; exact hab)) Tryd.underlying65 rfl (by kernel_rfl) ?_) | (refine wpList_stR0 rfl 65 _ _ rfl HP.out rfl (cs' := [_, _, _, _, _]) rfl rfl (by simp [Value.oneCell']) (by kernel_rfl) ?_; clear HP; intro wst HP; replace HP := Lib.hid HP) | (refine wpList_ints_hp rfl 25 3 1 _ rfl HP.out Tryd.underlying25 [_] rfl (by kernel_rfl) ?_; clear HP; intro gi wi HP; replace HP := Lib.hid HP))
    (try simp only [Exit.inBlock, Exit.then])
    refine bodyPost_ret (results_tmp (by rfl) _ _ _) (by rfl) ?_
    rw [HL.out]
    exact ⟨_, rfl, HP.out.ints (.head _) rfl rfl (by unfold maxLen; decide), HP.out.below⟩
  · have HL := Lib.hid (show l = [(pc : Int) + 1] by rw [← hl]; unfold nxtS; rw [if_neg (by omega), if_neg (by omega), if_pos h, if_pos h2])
    rw [h] at HAT
    have hb : (x.imm == (pc : Int) + 1) = true := by simpa using h2
    clear hl h h2
    go_enter Tryd.func27, Tryd.ntmps27
    go_wp2_with (first | (refine wpList_box_hp (o := ⟨some 2, _, _, _, _, _⟩) rfl _ _ rfl HP.out [_, _, _] rfl ?_; clear HP; intro g2 w2 HP; replace HP := Lib.hid HP) | (refine wpList_alloc_hp (o := ⟨some 5, _, _, _, _, _⟩) rfl _ rfl HP.out (.agg #[.int .i64 0, .int .i64 0, .int .i64 0, .int .i64 0, .int .i64 0]) (by kernel_rfl) [_, _, _, _, _] rfl ?_; clear HP; intro g5 w5 HP; replace HP := Lib.hid HP) | (refine wpList_ld0 rfl 55 _ rfl HP.out rfl rfl Tryd.underlying55 rfl ?_) | (refine wpList_ld0 rfl 3 _ rfl HP.out rfl rfl Tryd.underlying3 rfl ?_) | (refine wpList_load_at rfl 65 _ rfl _ rfl _ _ (HP.out.at_ (F := ⟨w, Lt w.heap.size⟩) (by simp) HAT.out (by rw [block_of_add]; exact hab)) Tryd.underlying65 rfl (by kernel_rfl) ?_) | (refine wpList_stR0 rfl 65 _ _ rfl HP.out rfl (cs' := [_, _, _, _, _]) rfl rfl (by simp [Value.oneCell']) (by kernel_rfl) ?_; clear HP; intro wst HP; replace HP := Lib.hid HP) | (refine wpList_ints_hp rfl 25 3 1 _ rfl HP.out Tryd.underlying25 [_] rfl (by kernel_rfl) ?_; clear HP; intro gi wi HP; replace HP := Lib.hid HP))
    (try simp only [Exit.inBlock, Exit.then])
    refine bodyPost_ret (results_tmp (by rfl) _ _ _) (by rfl) ?_
    rw [HL.out]
    exact ⟨_, rfl, HP.out.ints (.head _) rfl rfl (by unfold maxLen; decide), HP.out.below⟩
  · have HL := Lib.hid (show l = if x.imm < (pc : Int) + 1 then [x.imm, (pc : Int) + 1] else [(pc : Int) + 1, x.imm] by rw [← hl]; unfold nxtS; rw [if_neg (by omega), if_neg (by omega), if_pos h, if_neg h2])
    rw [h] at HAT
    have hb : (x.imm == (pc : Int) + 1) = false := by rw [beq_eq_false_iff_ne]; exact h2
    obtain ⟨im, him⟩ : ∃ im, x.imm = im := ⟨_, rfl⟩
    rw [him] at HL hb HAT
    obtain ⟨cs, hcs⟩ : ∃ cs : List Value, (if im < (pc : Int) + 1 then [.int .i64 im, .int .i64 ((pc : Int) + 1)] else [.int .i64 ((pc : Int) + 1), .int .i64 im]) = cs := ⟨_, rfl⟩
    have HCS := Lib.hid hcs
    have HCL := Lib.hid (show cs = l.map (Value.int .i64) ∧ l.length = 2 by rw [← hcs, HL.out]; split <;> exact ⟨rfl, rfl⟩)
    clear hl h h2 hcs him
    go_enter Tryd.func27, Tryd.ntmps27
    go_wp2_with (first | (refine wpList_box_hp (o := ⟨some 2, _, _, _, _, _⟩) rfl _ _ rfl HP.out [_, _, _] rfl ?_; clear HP; intro g2 w2 HP; replace HP := Lib.hid HP) | (refine wpList_alloc_hp (o := ⟨some 5, _, _, _, _, _⟩) rfl _ rfl HP.out (.agg #[.int .i64 0, .int .i64 0, .int .i64 0, .int .i64 0, .int .i64 0]) (by kernel_rfl) [_, _, _, _, _] rfl ?_; clear HP; intro g5 w5 HP; replace HP := Lib.hid HP) | (refine wpList_ld0 rfl 55 _ rfl HP.out rfl rfl Tryd.underlying55 rfl ?_) | (refine wpList_ld0 rfl 3 _ rfl HP.out rfl rfl Tryd.underlying3 rfl ?_) | (refine wpList_load_at rfl 65 _ rfl _ rfl _ _ (HP.out.at_ (F := ⟨w, Lt w.heap.size⟩) (by simp) HAT.out (by rw [block_of_add]; exact hab)) Tryd.underlying65 rfl (by kernel_rfl) ?_) | (refine wpList_stR0 rfl 65 _ _ rfl HP.out rfl (cs' := [_, _, _, _, _]) rfl rfl (by simp [Value.oneCell']) (by kernel_rfl) ?_; clear HP; intro wst HP; replace HP := Lib.hid HP) | (refine wpList_ints_hp rfl 25 3 2 _ rfl HP.out Tryd.underlying25 [_, _] rfl (by kernel_rfl) ?_; clear HP; intro gi wi HP; replace HP := Lib.hid HP) | (go_at_call 57; refine (sort_any _ _ _ _ w _ _ _ (by omega) HP.out).mono ?_; clear HP; rintro e w6 ⟨rfl, HP⟩; rw [HCS.out] at HP; replace HP := Lib.hid HP))
    (try simp only [Exit.inBlock, Exit.then])
    refine bodyPost_ret (results_tmp (by rfl) _ _ _) (by rfl) ?_
    exact ⟨_, rfl, HP.out.ints (.head _) HCL.out.1 HCL.out.2.symm (by unfold maxLen; decide), HP.out.below⟩
  · have HL := Lib.hid (show l = [(pc : Int) + 1] by rw [← hl]; unfold nxtS; rw [if_neg h, if_neg h2, if_neg h3])
    have b1 : (x.op == 19) = false := by rw [beq_eq_false_iff_ne]; exact h
    have b2 : (x.op == 15) = false := by rw [beq_eq_false_iff_ne]; exact h2
    have b3 : (x.op == 16) = false := by rw [beq_eq_false_iff_ne]; exact h3
    clear hl h h2 h3
    go_enter Tryd.func27, Tryd.ntmps27
    go_wp2_with (first | (refine wpList_box_hp (o := ⟨some 2, _, _, _, _, _⟩) rfl _ _ rfl HP.out [_, _, _] rfl ?_; clear HP; intro g2 w2 HP; replace HP := Lib.hid HP) | (refine wpList_alloc_hp (o := ⟨some 5, _, _, _, _, _⟩) rfl _ rfl HP.out (.agg #[.int .i64 0, .int .i64 0, .int .i64 0, .int .i64 0, .int .i64 0]) (by kernel_rfl) [_, _, _, _, _] rfl ?_; clear HP; intro g5 w5 HP; replace HP := Lib.hid HP) | (refine wpList_ld0 rfl 55 _ rfl HP.out rfl rfl Tryd.underlying55 rfl ?_) | (refine wpList_ld0 rfl 3 _ rfl HP.out rfl rfl Tryd.underlying3 rfl ?_) | (refine wpList_load_at rfl 65 _ rfl _ rfl _ _ (HP.out.at_ (F := ⟨w, Lt w.heap.size⟩) (by simp) HAT.out (by rw [block_of_add]; exact hab)) Tryd.underlying65 rfl (by kernel_rfl) ?_) | (refine wpList_stR0 rfl 65 _ _ rfl HP.out rfl (cs' := [_, _, _, _, _]) rfl rfl (by simp [Value.oneCell']) (by kernel_rfl) ?_; clear HP; intro wst HP; replace HP := Lib.hid HP) | (refine wpList_ints_hp rfl 25 3 1 _ rfl HP.out Tryd.underlying25 [_] rfl (by kernel_rfl) ?_; clear HP; intro gi wi HP; replace HP := Lib.hid HP))
    (try simp only [Exit.inBlock, Exit.then])
    refine bodyPost_ret (results_tmp (by rfl) _ _ _) (by rfl) ?_
    rw [HL.out]
    exact ⟨_, rfl, HP.out.ints (.head _) rfl rfl (by unfold maxLen; decide), HP.out.below⟩
end Go.Proofs.YtnabeibnaoahmaaDoor
