/- flow.next. P7.2: what flow.Blocks' rounds do. No program is named here. P7.2: what ref.BlocksOf's rounds do. No program is named here. -/
import Derived.Test.YtceilfmfidmfpaaDoorSort2
import Derived.Test.YtceilfmfidmfpaaDoorMgReadsWaySureLawSureRunProvenLawStateLawLiveLawBlkLawDomLawDo11
import Derived.Test.YtceilfmfidmfpaaDoorMgProfLawBlkMemReadsHReadsKTidyLaw5
set_option linter.unusedSimpArgs false
set_option linter.unusedVariables false
namespace Go.Proofs.YtceilfmfidmfpaaDoor
open Go.RowKit Plain64
attribute [local irreducible] wpList Code.wp Oper.wp
def nxtS (x : Ins) (pc : Nat) : List Int := if x.op = 19 then [] else if x.op = 15 then [x.imm] else if x.op = 16 then (if x.imm = (pc : Int) + 1 then [(pc : Int) + 1] else if x.imm < (pc : Int) + 1 then [x.imm, (pc : Int) + 1] else [(pc : Int) + 1, x.imm]) else [(pc : Int) + 1]
theorem mem_nxtS {x : Ins} {pc : Nat} {n : Int} : n ∈ nxtS x pc ↔ n ∈ nextZ x pc := by
  unfold nxtS nextZ
  split
  · rfl
  split
  · rfl
  split
  · split
    · rename_i h; rw [h]; simp
    · split
      · simp [or_comm]
      · rfl
  · rfl
theorem nxtS_len (x : Ins) (pc : Nat) : (nxtS x pc).length ≤ 2 := by
  unfold nxtS
  split
  · simp
  split
  · simp
  split
  · split
    · simp
    · split <;> simp
  · simp
theorem orL_next {os : List Int} (h : Small os) (x : Ins) (pc : Nat) : orL os (nxtS x pc) 0 = orL os (nextZ x pc) 0 := by
  refine mask_ext (orL_range h _ _ (by omega)) (orL_range h _ _ (by omega)) fun r hr => ?_
  rw [Bool.eq_iff_iff, orL_bit r hr, orL_bit r hr]
  simp only [mem_nxtS]
set_option maxRecDepth 10000 in
set_option maxHeartbeats 1000000 in
theorem flowNext_any (f : Fun) (v : Value) (pc : Nat) (w : World) (hv : Lay.rep w (Lt w.heap.size) f.code [v]) (hpc : pc < f.code.length) :
    Calls Tryd.prog 29 #[.agg #[.int .i64 f.params, .int .i64 f.regs, v], .int .i64 pc] w fun e w' => ∃ u, e = .returned u ∧ Lay.rep w' (Fresh w w') (nxtS f.code[pc] pc) [u] ∧ Below w.heap.size w w' := by
  obtain ⟨A, c, rfl, hc, hm, hx⟩ := rep_code_at hv
  unfold maxLen at hm
  obtain ⟨a, rfl, hab, hat⟩ := hx pc hpc
  obtain ⟨x, hxx⟩ : ∃ x, f.code[pc] = x := ⟨_, rfl⟩
  rw [hxx] at hat ⊢
  have HAT := Lib.hid hat
  clear hx hat hxx
  have HP := Lib.hid (Hp.start w)
  obtain ⟨l, hl⟩ : ∃ l, nxtS x pc = l := ⟨_, rfl⟩
  rw [hl]
  have h5 : x.op = 19 ∨ x.op = 15 ∨ (x.op = 16 ∧ x.imm = (pc : Int) + 1) ∨ (x.op = 16 ∧ x.imm ≠ (pc : Int) + 1) ∨ (x.op ≠ 19 ∧ x.op ≠ 15 ∧ x.op ≠ 16) := by omega
  rcases h5 with h | h | ⟨h, h2⟩ | ⟨h, h2⟩ | ⟨h, h2, h3⟩
  · have HL := Lib.hid (show l = [] by rw [← hl]; unfold nxtS; rw [if_pos h])
    rw [h] at HAT
    clear hl h
    go_enter Tryd.func29, Tryd.ntmps29
    go_wp2_with (first | (refine wpList_box_hp (o := ⟨some 2, _, _, _, _, _⟩) rfl _ _ rfl HP.out [_, _, _] rfl ?_; clear HP; intro g2 w2 HP; replace HP := Lib.hid HP) | (refine wpList_alloc_hp (o := ⟨some 5, _, _, _, _, _⟩) rfl _ rfl HP.out (.agg #[.int .i64 0, .int .i64 0, .int .i64 0, .int .i64 0, .int .i64 0]) (by kernel_rfl) [_, _, _, _, _] rfl ?_; clear HP; intro g5 w5 HP; replace HP := Lib.hid HP) | (refine wpList_ld0 rfl 45 _ rfl HP.out rfl rfl Tryd.underlying45 rfl ?_) | (refine wpList_ld0 rfl 3 _ rfl HP.out rfl rfl Tryd.underlying3 rfl ?_) | (refine wpList_load_at rfl 56 _ rfl _ rfl _ _ (HP.out.at_ (F := ⟨w, Lt w.heap.size⟩) (by simp) HAT.out (by rw [block_of_add]; exact hab)) Tryd.underlying56 rfl (by kernel_rfl) ?_) | (refine wpList_stR0 rfl 56 _ _ rfl HP.out rfl (cs' := [_, _, _, _, _]) rfl rfl (by simp [Value.oneCell']) (by kernel_rfl) ?_; clear HP; intro wst HP; replace HP := Lib.hid HP))
    (try simp only [Exit.inBlock, Exit.then])
    refine bodyPost_ret (results_tmp (by rfl) _ _ _) (by rfl) ?_
    rw [HL.out]
    exact ⟨_, rfl, rep_ints_nil, HP.out.below⟩
  · have HL := Lib.hid (show l = [x.imm] by rw [← hl]; unfold nxtS; rw [if_neg (by omega), if_pos h])
    rw [h] at HAT
    clear hl h
    go_enter Tryd.func29, Tryd.ntmps29
    go_wp2_with (first | (refine wpList_box_hp (o := ⟨some 2, _, _, _, _, _⟩) rfl _ _ rfl HP.out [_, _, _] rfl ?_; clear HP; intro g2 w2 HP; replace HP := Lib.hid HP) | (refine wpList_alloc_hp (o := ⟨some 5, _, _, _, _, _⟩) rfl _ rfl HP.out (.agg #[.int .i64 0, .int .i64 0, .int .i64 0, .int .i64 0, .int .i64 0]) (by kernel_rfl) [_, _, _, _, _] rfl ?_; clear HP; intro g5 w5 HP; replace HP := Lib.hid HP) | (refine wpList_ld0 rfl 45 _ rfl HP.out rfl rfl Tryd.underlying45 rfl ?_) | (refine wpList_ld0 rfl 3 _ rfl HP.out rfl rfl Tryd.underlying3 rfl ?_) | (refine wpList_load_at rfl 56 _ rfl _ rfl _ _ (HP.out.at_ (F := ⟨w, Lt w.heap.size⟩) (by simp) HAT.out (by rw [block_of_add]; exact hab)) Tryd.underlying56 rfl (by kernel_rfl) ?_) | (refine wpList_stR0 rfl 56 _ _ rfl HP.out rfl (cs' := [_, _, _, _, _]) rfl rfl (by simp [Value.oneCell']) (by kernel_rfl) ?_; clear HP; intro wst HP; replace HP := Lib.hid HP) | (refine wpList_ints_hp rfl 27 3 1 _ rfl HP.out Tryd.underlying27 [_] rfl (by kernel_rfl) ?_; clear HP; intro gi wi HP; replace HP := Lib.hid HP))
    (try simp only [Exit.inBlock, Exit.then])
    refine bodyPost_ret (results_tmp (by rfl) _ _ _) (by rfl) ?_
    rw [HL.out]
    exact ⟨_, rfl, HP.out.ints (.head _) rfl rfl (by unfold maxLen; decide), HP.out.below⟩
  · have HL := Lib.hid (show l = [(pc : Int) + 1] by rw [← hl]; unfold nxtS; rw [if_neg (by omega), if_neg (by omega), if_pos h, if_pos h2])
    rw [h] at HAT
    have hb : (x.imm == (pc : Int) + 1) = true := by simpa using h2
    clear hl h h2
    go_enter Tryd.func29, Tryd.ntmps29
    go_wp2_with (first | (refine wpList_box_hp (o := ⟨some 2, _, _, _, _, _⟩) rfl _ _ rfl HP.out [_, _, _] rfl ?_; clear HP; intro g2 w2 HP; replace HP := Lib.hid HP) | (refine wpList_alloc_hp (o := ⟨some 5, _, _, _, _, _⟩) rfl _ rfl HP.out (.agg #[.int .i64 0, .int .i64 0, .int .i64 0, .int .i64 0, .int .i64 0]) (by kernel_rfl) [_, _, _, _, _] rfl ?_; clear HP; intro g5 w5 HP; replace HP := Lib.hid HP) | (refine wpList_ld0 rfl 45 _ rfl HP.out rfl rfl Tryd.underlying45 rfl ?_) | (refine wpList_ld0 rfl 3 _ rfl HP.out rfl rfl Tryd.underlying3 rfl ?_) | (refine wpList_load_at rfl 56 _ rfl _ rfl _ _ (HP.out.at_ (F := ⟨w, Lt w.heap.size⟩) (by simp) HAT.out (by rw [block_of_add]; exact hab)) Tryd.underlying56 rfl (by kernel_rfl) ?_) | (refine wpList_stR0 rfl 56 _ _ rfl HP.out rfl (cs' := [_, _, _, _, _]) rfl rfl (by simp [Value.oneCell']) (by kernel_rfl) ?_; clear HP; intro wst HP; replace HP := Lib.hid HP) | (refine wpList_ints_hp rfl 27 3 1 _ rfl HP.out Tryd.underlying27 [_] rfl (by kernel_rfl) ?_; clear HP; intro gi wi HP; replace HP := Lib.hid HP))
    (try simp only [Exit.inBlock, Exit.then])
    refine bodyPost_ret (results_tmp (by rfl) _ _ _) (by rfl) ?_
    rw [HL.out]
    exact ⟨_, rfl, HP.out.ints (.head _) rfl rfl (by unfold maxLen; decide), HP.out.below⟩
  · have HL := Lib.hid (show l = if x.imm < (pc : Int) + 1 then [x.imm, (pc : Int) + 1] else [(pc : Int) + 1, x.imm] by rw [← hl]; unfold nxtS; rw [if_neg (by omega), if_neg (by omega), if_pos h, if_neg h2])
    rw [h] at HAT
    have hb : (x.imm == (pc : Int) + 1) = false := by rw [beq_eq_false_iff_ne]; exact h2
    obtain ⟨im, him⟩ : ∃ im, x.imm = im := ⟨_, rfl⟩
    rw [him] at HL hb HAT
    obtain ⟨cs, hcs⟩ : ∃ cs : List Value, (if im < (pc : Int) + 1 then [.int .i64 im, .int .i64 ((pc : Int) + 1)] else [.int .i64 ((pc : Int) + 1), .int .i64 im]) = cs := ⟨_, rfl⟩
    have HCS := Lib.hid hcs
    have HCL := Lib.hid (show cs = l.map (Value.int .i64) ∧ l.length = 2 by rw [← hcs, HL.out]; split <;> exact ⟨rfl, rfl⟩)
    clear hl h h2 hcs him
    go_enter Tryd.func29, Tryd.ntmps29
    go_wp2_with (first | (refine wpList_box_hp (o := ⟨some 2, _, _, _, _, _⟩) rfl _ _ rfl HP.out [_, _, _] rfl ?_; clear HP; intro g2 w2 HP; replace HP := Lib.hid HP) | (refine wpList_alloc_hp (o := ⟨some 5, _, _, _, _, _⟩) rfl _ rfl HP.out (.agg #[.int .i64 0, .int .i64 0, .int .i64 0, .int .i64 0, .int .i64 0]) (by kernel_rfl) [_, _, _, _, _] rfl ?_; clear HP; intro g5 w5 HP; replace HP := Lib.hid HP) | (refine wpList_ld0 rfl 45 _ rfl HP.out rfl rfl Tryd.underlying45 rfl ?_) | (refine wpList_ld0 rfl 3 _ rfl HP.out rfl rfl Tryd.underlying3 rfl ?_) | (refine wpList_load_at rfl 56 _ rfl _ rfl _ _ (HP.out.at_ (F := ⟨w, Lt w.heap.size⟩) (by simp) HAT.out (by rw [block_of_add]; exact hab)) Tryd.underlying56 rfl (by kernel_rfl) ?_) | (refine wpList_stR0 rfl 56 _ _ rfl HP.out rfl (cs' := [_, _, _, _, _]) rfl rfl (by simp [Value.oneCell']) (by kernel_rfl) ?_; clear HP; intro wst HP; replace HP := Lib.hid HP) | (refine wpList_ints_hp rfl 27 3 2 _ rfl HP.out Tryd.underlying27 [_, _] rfl (by kernel_rfl) ?_; clear HP; intro gi wi HP; replace HP := Lib.hid HP) | (go_at_call 46; refine (sort_any _ _ _ _ w _ _ _ (by omega) HP.out).mono ?_; clear HP; rintro e w6 ⟨rfl, HP⟩; rw [HCS.out] at HP; replace HP := Lib.hid HP))
    (try simp only [Exit.inBlock, Exit.then])
    refine bodyPost_ret (results_tmp (by rfl) _ _ _) (by rfl) ?_
    exact ⟨_, rfl, HP.out.ints (.head _) HCL.out.1 HCL.out.2.symm (by unfold maxLen; decide), HP.out.below⟩
  · have HL := Lib.hid (show l = [(pc : Int) + 1] by rw [← hl]; unfold nxtS; rw [if_neg h, if_neg h2, if_neg h3])
    have b1 : (x.op == 19) = false := by rw [beq_eq_false_iff_ne]; exact h
    have b2 : (x.op == 15) = false := by rw [beq_eq_false_iff_ne]; exact h2
    have b3 : (x.op == 16) = false := by rw [beq_eq_false_iff_ne]; exact h3
    clear hl h h2 h3
    go_enter Tryd.func29, Tryd.ntmps29
    go_wp2_with (first | (refine wpList_box_hp (o := ⟨some 2, _, _, _, _, _⟩) rfl _ _ rfl HP.out [_, _, _] rfl ?_; clear HP; intro g2 w2 HP; replace HP := Lib.hid HP) | (refine wpList_alloc_hp (o := ⟨some 5, _, _, _, _, _⟩) rfl _ rfl HP.out (.agg #[.int .i64 0, .int .i64 0, .int .i64 0, .int .i64 0, .int .i64 0]) (by kernel_rfl) [_, _, _, _, _] rfl ?_; clear HP; intro g5 w5 HP; replace HP := Lib.hid HP) | (refine wpList_ld0 rfl 45 _ rfl HP.out rfl rfl Tryd.underlying45 rfl ?_) | (refine wpList_ld0 rfl 3 _ rfl HP.out rfl rfl Tryd.underlying3 rfl ?_) | (refine wpList_load_at rfl 56 _ rfl _ rfl _ _ (HP.out.at_ (F := ⟨w, Lt w.heap.size⟩) (by simp) HAT.out (by rw [block_of_add]; exact hab)) Tryd.underlying56 rfl (by kernel_rfl) ?_) | (refine wpList_stR0 rfl 56 _ _ rfl HP.out rfl (cs' := [_, _, _, _, _]) rfl rfl (by simp [Value.oneCell']) (by kernel_rfl) ?_; clear HP; intro wst HP; replace HP := Lib.hid HP) | (refine wpList_ints_hp rfl 27 3 1 _ rfl HP.out Tryd.underlying27 [_] rfl (by kernel_rfl) ?_; clear HP; intro gi wi HP; replace HP := Lib.hid HP))
    (try simp only [Exit.inBlock, Exit.then])
    refine bodyPost_ret (results_tmp (by rfl) _ _ _) (by rfl) ?_
    rw [HL.out]
    exact ⟨_, rfl, HP.out.ints (.head _) rfl rfl (by unfold maxLen; decide), HP.out.below⟩
end Go.Proofs.YtceilfmfidmfpaaDoor
namespace Go.Proofs.YtceilfmfidmfpaaDoor
open Go.RowKit
def AllB (P : Nat → BV → Prop) (bs : List BV) : Prop := ∀ k b, bs[k]? = some b → P k b
theorem AllB.set {P Q : Nat → BV → Prop} {bs : List BV} {i : Nat} {b' : BV} (h : AllB P bs) (h1 : ∀ b, bs[i]? = some b → Q i b') (h2 : ∀ k b, k ≠ i → P k b → Q k b) : AllB Q (bs.set i b') := fun k b hk => by
  rw [List.getElem?_set] at hk
  by_cases e : i = k
  · subst e
    rw [if_pos rfl] at hk
    split at hk
    · rename_i hl
      cases hk
      exact h1 _ (List.getElem?_eq_getElem hl)
    · cases hk
  · rw [if_neg e] at hk
    exact h2 k b (fun e2 => e e2.symm) (h k b hk)
theorem AllB.mono {P Q : Nat → BV → Prop} {bs : List BV} (h : AllB P bs) (h2 : ∀ k b, k < bs.length → P k b → Q k b) : AllB Q bs := fun k b hk => h2 k b (List.getElem?_eq_some_iff.1 hk).1 (h k b hk)
/-- Ahead of round i. -/
structure BAt (f : Fun) (m i k : Nat) (b : BV) : Prop where
  frm : k < i → b.frm = begB f k
  upto : k < i → b.upto = toOf f (begB f k)
  ns : b.ns = if k < i then nxtB f k m else []
  ps : b.ps = preB k ++ prvB f k i
/-- Within round i, that goes to the blocks ks. -/
structure BIn (f : Fun) (m i : Nat) (ks : List Nat) (jn jp k : Nat) (b : BV) : Prop where
  frm : k < i + 1 → b.frm = begB f k
  upto : k < i + 1 → b.upto = toOf f (begB f k)
  ns : b.ns = if k < i then nxtB f k m else if k = i then (ks.take jn).map (fun x : Nat => (x : Int)) else []
  ps : b.ps = preB k ++ prvB f k i ++ if k ∈ ks.take jp then [(i : Int)] else []
theorem BIn.start {f : Fun} {m i : Nat} {ks : List Nat} {bs : List BV} (h : AllB (BAt f m i) bs) {b : BV} (hb : bs[i]? = some b) : AllB (BIn f m i ks 0 0) (bs.set i { b with frm := begB f i, upto := toOf f (begB f i) }) := by
  refine h.set (fun b' hb' => ?_) (fun k b' hk hP => ?_)
  · have hP := h i b hb
    refine ⟨fun _ => rfl, fun _ => rfl, ?_, ?_⟩
    · show b.ns = _
      rw [hP.ns, if_neg (by omega), if_neg (by omega), if_pos rfl]; rfl
    · show b.ps = _
      rw [hP.ps, List.take_zero, if_neg (by simp), List.append_nil]
  · refine ⟨fun h1 => hP.frm (by omega), fun h1 => hP.upto (by omega), ?_, ?_⟩
    · rw [hP.ns, if_neg (c := k = i) hk]
    · rw [hP.ps, List.take_zero, if_neg (by simp), List.append_nil]
theorem BIn.stepN {f : Fun} {m i : Nat} {ks : List Nat} {jn jp kk : Nat} {bs : List BV} (h : AllB (BIn f m i ks jn jp) bs) {b : BV} (hb : bs[i]? = some b) (hk : ks[jn]? = some kk) (v : Value) : AllB (BIn f m i ks (jn + 1) jp) (bs.set i { b with vn := v, ns := b.ns ++ [(kk : Int)] }) := by
  refine h.set (fun b' hb' => ?_) (fun k b' hk2 hP => ?_)
  · have hP := h i b hb
    refine ⟨hP.frm, hP.upto, ?_, hP.ps⟩
    show b.ns ++ [(kk : Int)] = _
    rw [hP.ns, if_neg (by omega), if_pos rfl, if_neg (by omega), if_pos rfl, List.take_add_one, hk, List.map_append]; rfl
  · refine ⟨hP.frm, hP.upto, ?_, hP.ps⟩
    rw [hP.ns, if_neg (c := k = i) hk2, if_neg (c := k = i) hk2]
theorem BIn.stepP {f : Fun} {m i : Nat} {ks : List Nat} {jn jp kk : Nat} {bs : List BV} (h : AllB (BIn f m i ks jn jp) bs) {b : BV} (hb : bs[kk]? = some b) (hk : ks[jp]? = some kk) (hn : kk ∉ ks.take jp) (v : Value) : AllB (BIn f m i ks jn (jp + 1)) (bs.set kk { b with vp := v, ps := b.ps ++ [(i : Int)] }) := by
  have e : ks.take (jp + 1) = ks.take jp ++ [kk] := by rw [List.take_add_one, hk]; rfl
  refine h.set (fun b' hb' => ?_) (fun k b' hk2 hP => ?_)
  · have hP := h kk b hb
    refine ⟨hP.frm, hP.upto, hP.ns, ?_⟩
    show b.ps ++ [(i : Int)] = _
    rw [hP.ps, if_neg hn, List.append_nil, e, if_pos (by simp)]
  · refine ⟨hP.frm, hP.upto, hP.ns, ?_⟩
    rw [hP.ps, e]
    congr 1
    by_cases h3 : k ∈ ks.take jp
    · rw [if_pos h3, if_pos (by simp [h3])]
    · rw [if_neg h3, if_neg (by simp [h3, hk2])]
theorem sorted_ext : ∀ {l m : List Nat}, l.Pairwise (· < ·) → m.Pairwise (· < ·) → (∀ x, x ∈ l ↔ x ∈ m) → l = m
  | [], [], _, _, _ => rfl
  | [], y :: m, _, _, h => absurd ((h y).2 (by simp)) (by simp)
  | x :: l, [], _, _, h => absurd ((h x).1 (by simp)) (by simp)
  | x :: l, y :: m, hl, hm, h => by
    obtain ⟨a1, a2⟩ := List.pairwise_cons.1 hl
    obtain ⟨b1, b2⟩ := List.pairwise_cons.1 hm
    have e : x = y := by
      have h1 := (h x).1 (by simp)
      have h2 := (h y).2 (by simp)
      rcases List.mem_cons.1 h1 with h1 | h1
      · exact h1
      · rcases List.mem_cons.1 h2 with h2 | h2
        · exact h2.symm
        · have := b1 x h1; have := a1 y h2; omega
    subst e
    congr 1
    refine sorted_ext a2 b2 fun z => ?_
    constructor
    · intro hz
      rcases List.mem_cons.1 ((h z).1 (by simp [hz])) with h3 | h3
      · have := a1 z hz; omega
      · exact h3
    · intro hz
      rcases List.mem_cons.1 ((h z).2 (by simp [hz])) with h3 | h3
      · have := b1 z hz; omega
      · exact h3
theorem pick_list {P : Nat → Prop} {g : Nat → Int} : ∀ (l : List Int), (∀ n ∈ l, ∃ k, P k ∧ g k = n) → ∃ ks : List Nat, (∀ k ∈ ks, P k) ∧ l = ks.map g
  | [], _ => ⟨[], by simp, rfl⟩
  | n :: l, h => by
    obtain ⟨k, hk, e⟩ := h n (by simp)
    obtain ⟨ks, h1, h2⟩ := pick_list l (fun x hx => h x (by simp [hx]))
    refine ⟨k :: ks, fun x hx => ?_, by rw [h2, List.map_cons, e]⟩
    rcases List.mem_cons.1 hx with rfl | hx
    · exact hk
    · exact h1 x hx
theorem nxtS_lt (x : Ins) (pc : Nat) : (nxtS x pc).Pairwise (· < ·) := by
  unfold nxtS
  split
  · simp
  split
  · simp
  split
  · split
    · simp
    split
    · simp; omega
    · simp; omega
  · simp
/-- The blocks that a block leads to, by their numbers. -/
theorem next_blocks {f : Fun} {funcs : Nat} (ok : OkF f funcs) (he : endsAt f = false) {i t : Nat} (ht : OnTo f (begB f i) t) (hs : 15 ≤ opAt f (t - 1) ∨ HeadP f t) {x : Ins} (hx : f.code[t - 1]? = some x) :
    ∃ ks : List Nat, (∀ k ∈ ks, k < (headsL f).length) ∧ nxtS x (t - 1) = ks.map (fun k => (begB f k : Int)) ∧ ks.Pairwise (· < ·) ∧ ∀ k, k < (headsL f).length → (k ∈ ks ↔ edgeB f i k = true) := by
  have hto : toOf f (begB f i) = t := (ht.done hs).eq
  have hl : lastB f i = t - 1 := by unfold lastB; rw [hto]
  have hi : insB f (t - 1) = x := by unfold insB; rw [hx]; rfl
  obtain ⟨ks, h1, h2⟩ := pick_list (P := fun k => k < (headsL f).length) (g := fun k => (begB f k : Int)) (nxtS x (t - 1)) (fun n hn => by
    rw [mem_nxtS] at hn
    obtain ⟨a, b⟩ := IsTo.heads ok he ht hs hx hn
    obtain ⟨k, hk, e⟩ := head_at a
    exact ⟨k, hk, by rw [e]; omega⟩)
  refine ⟨ks, h1, h2, ?_, fun k hk => ?_⟩
  · have hp := nxtS_lt x (t - 1)
    rw [h2, List.pairwise_map] at hp
    refine hp.imp_of_mem fun {a b} ha hb hab => ?_
    have ha := h1 a ha
    have hb := h1 b hb
    rcases Nat.lt_trichotomy a b with g | g | g
    · exact g
    · subst g; omega
    · have hq := List.pairwise_iff_getElem.1 (headsL_lt f) b a hb ha g
      have e1 := begB_get ha
      have e2 := begB_get hb
      rw [List.getElem?_eq_getElem ha] at e1
      rw [List.getElem?_eq_getElem hb] at e2
      have e1 := Option.some.inj e1
      have e2 := Option.some.inj e2
      omega
  · unfold edgeB
    rw [hl, hi, decide_eq_true_iff, ← mem_nxtS, h2, List.mem_map]
    constructor
    · intro hm; exact ⟨k, hm, rfl⟩
    · rintro ⟨k', hm, e⟩
      have : k' = k := begB_inj (h1 k' hm) hk (by exact_mod_cast e)
      exact this ▸ hm
theorem edge_list {f : Fun} {i : Nat} {ks : List Nat} (h1 : ∀ k ∈ ks, k < (headsL f).length) (h2 : ks.Pairwise (· < ·)) (h3 : ∀ k, k < (headsL f).length → (k ∈ ks ↔ edgeB f i k = true)) : nxtB f i (headsL f).length = ks.map fun x : Nat => (x : Int) := by
  unfold nxtB
  congr 1
  refine sorted_ext (List.Pairwise.filter _ List.pairwise_lt_range) h2 fun x => ?_
  rw [List.mem_filter, List.mem_range]
  constructor
  · rintro ⟨a, b⟩; exact (h3 x a).2 b
  · intro h; exact ⟨h1 x h, (h3 x (h1 x h)).1 h⟩
theorem BIn.done {f : Fun} {i : Nat} {ks : List Nat} {bs : List BV} (hl : bs.length = (headsL f).length) (h1 : ∀ k ∈ ks, k < (headsL f).length) (h2 : ks.Pairwise (· < ·)) (h3 : ∀ k, k < (headsL f).length → (k ∈ ks ↔ edgeB f i k = true)) (h : AllB (BIn f (headsL f).length i ks ks.length ks.length) bs) : AllB (BAt f (headsL f).length (i + 1)) bs := by
  refine h.mono fun k b hk hP => ⟨hP.frm, hP.upto, ?_, ?_⟩
  · rw [hP.ns]
    by_cases h4 : k < i
    · rw [if_pos h4, if_pos (by omega)]
    · rw [if_neg h4]
      by_cases h5 : k = i
      · subst h5
        rw [if_pos rfl, if_pos (by omega), List.take_length, edge_list h1 h2 h3]
      · rw [if_neg h5, if_neg (by omega)]
  · rw [hP.ps, prvB_succ, List.take_length, ← List.append_assoc]
    congr 1
    by_cases h4 : k ∈ ks
    · rw [if_pos h4, if_pos ((h3 k (by omega)).1 h4)]
    · rw [if_neg h4, if_neg (fun e => h4 ((h3 k (by omega)).2 e))]
theorem prvB_len (f : Fun) (k n : Nat) : (prvB f k n).length ≤ n := by
  unfold prvB; rw [List.length_map]; have := List.length_filter_le (fun i => edgeB f i k) (List.range n); rwa [List.length_range] at this
theorem preB_len (k : Nat) : (preB k).length ≤ 1 := by unfold preB; split <;> simp
theorem BIn.len {f : Fun} {m i : Nat} {ks : List Nat} {jn jp k : Nat} {b : BV} (h : BIn f m i ks jn jp k b) (hi : k = i) : b.ns.length ≤ ks.length := by
  subst hi
  rw [h.ns, if_neg (by omega), if_pos rfl, List.length_map, List.length_take]; exact Nat.min_le_right _ _
theorem BIn.lenP {f : Fun} {m i : Nat} {ks : List Nat} {jn jp k : Nat} {b : BV} (h : BIn f m i ks jn jp k b) : b.ps.length ≤ i + 2 := by
  have h1 := prvB_len f k i
  have h2 := preB_len k
  rw [h.ps, List.length_append, List.length_append]
  split
  · show _ + _ + 1 ≤ _; omega
  · show _ + _ + 0 ≤ _; omega
/-- The end of all rounds. -/
theorem BAt.done {f : Fun} {bs : List BV} (hl : bs.length = (headsL f).length) (h : AllB (BAt f (headsL f).length (headsL f).length) bs) : bs.map bvOf = blksL f := by
  apply List.ext_getElem?
  intro k
  unfold blksL
  rw [List.getElem?_map, List.getElem?_map]
  by_cases hk : k < bs.length
  · rw [List.getElem?_range (by omega), List.getElem?_eq_getElem hk]
    have hP := h k _ (List.getElem?_eq_getElem hk)
    have h1 := hP.frm (by omega)
    have h2 := hP.upto (by omega)
    have h3 := hP.ns
    have h4 := hP.ps
    rw [if_pos (by omega)] at h3
    show some (bvOf bs[k]) = some (blkOf f k)
    unfold bvOf blkOf
    rw [h1, h2, h3, h4]
  · rw [List.getElem?_eq_none (by omega), List.getElem?_eq_none (by simp; omega)]; rfl
theorem BAt.start (f : Fun) (m : Nat) (v : Value) : AllB (BAt f m 0) ((List.replicate m zeroBV).set 0 { zeroBV with vp := v, ps := [-1] }) := by
  refine AllB.set (P := fun _ b => b = zeroBV) (fun k b hk => ?_) (fun b hb => ?_) (fun k b hk hP => ?_)
  · rw [List.getElem?_replicate] at hk
    split at hk
    · cases hk; rfl
    · cases hk
  · exact ⟨fun h => by omega, fun h => by omega, by rw [if_neg (by omega)]; rfl, rfl⟩
  · subst hP
    exact ⟨fun h => by omega, fun h => by omega, by rw [if_neg (by omega)]; rfl, by unfold preB; rw [if_neg hk]; rfl⟩
theorem blocks_bad {p : Prg} (h : proven p ≠ 0) (fn : Int) : blocksAns p fn = ([], proven p) := by unfold blocksAns; rw [if_pos h]
theorem blocks_out {p : Prg} (h : proven p = 0) {fn : Int} (hf : ¬ (0 ≤ fn ∧ fn < p.funcs.length)) : blocksAns p fn = ([], 2) := by
  unfold blocksAns
  rw [if_neg (by simpa using h)]
  by_cases h1 : fn < 0
  · rw [if_pos h1]
  · rw [if_neg h1, List.getElem?_eq_none (by omega)]
theorem blocks_in {p : Prg} (h : proven p = 0) {k : Nat} {f : Fun} (hf : p.funcs[k]? = some f) : blocksAns p (k : Int) = (blksL f, 0) := by
  unfold blocksAns
  rw [if_neg (by simpa using h), if_neg (by omega), Int.toNat_natCast, hf]
end Go.Proofs.YtceilfmfidmfpaaDoor
namespace Go.Proofs.YtceilfmfidmfpaaDoor
open Go.RowKit
noncomputable def mkB (f : Fun) (k : Nat) : BV := ⟨k, toOf f k, .slice none 0 0, [], .slice none 0 0, []⟩
noncomputable def hd1 (f : Fun) (q : Nat) : List Nat := (List.range q).filter (headB f)
noncomputable def bs1 (f : Fun) (q : Nat) : List BV := (hd1 f q).map (mkB f)
theorem bs1_succ (f : Fun) (q : Nat) : bs1 f (q + 1) = bs1 f q ++ if headB f q then [mkB f q] else [] := by
  unfold bs1 hd1
  rw [List.range_succ, List.filter_append, List.map_append]
  congr 1
  by_cases h : headB f q = true
  · simp [h]
  · simp [h]
theorem bs1_len (f : Fun) (q : Nat) : (bs1 f q).length ≤ q := by
  unfold bs1 hd1; rw [List.length_map]; have := List.length_filter_le (headB f) (List.range q); rwa [List.length_range] at this
theorem bs1_all (f : Fun) : bs1 f f.code.length = (headsL f).map (mkB f) := rfl
structure RAt (f : Fun) (m i k : Nat) (b : BV) : Prop where
  frm : b.frm = begB f k
  upto : b.upto = toOf f (begB f k)
  ns : b.ns = if k < i then nxtB f k m else []
  ps : b.ps = if k < i then prvB f k m else []
  nil : b.ps = [] → b.vp = .slice none 0 0
structure RIn (f : Fun) (m i jn jp k : Nat) (b : BV) : Prop where
  frm : b.frm = begB f k
  upto : b.upto = toOf f (begB f k)
  ns : b.ns = if k < i then nxtB f k m else if k = i then nxtB f i jn else []
  ps : b.ps = if k < i then prvB f k m else if k = i then prvB f i jp else []
  nil : b.ps = [] → b.vp = .slice none 0 0
theorem RAt.start (f : Fun) (m : Nat) : AllB (RAt f m 0) (bs1 f f.code.length) := fun k b hk => by
  rw [bs1_all, List.getElem?_map] at hk
  obtain ⟨n, hn, rfl⟩ := Option.map_eq_some_iff.1 hk
  have hkl := (List.getElem?_eq_some_iff.1 hn).1
  have := begB_get hkl
  rw [hn] at this
  have e : n = begB f k := Option.some.inj this
  exact ⟨by rw [← e]; rfl, by rw [← e]; rfl, by rw [if_neg (by omega)]; rfl, by rw [if_neg (by omega)]; rfl, fun _ => rfl⟩
theorem nxtB_zero (f : Fun) (i : Nat) : nxtB f i 0 = [] := rfl
theorem prvB_zero (f : Fun) (i : Nat) : prvB f i 0 = [] := rfl
theorem RIn.start {f : Fun} {m i : Nat} {bs : List BV} (h : AllB (RAt f m i) bs) : AllB (RIn f m i 0 0) bs := h.mono fun k b _ hP => by
  refine ⟨hP.frm, hP.upto, ?_, ?_, hP.nil⟩
  · rw [hP.ns, nxtB_zero]; split
    · rfl
    · split <;> rfl
  · rw [hP.ps, prvB_zero]; split
    · rfl
    · split <;> rfl
theorem RIn.done {f : Fun} {m i : Nat} {bs : List BV} (h : AllB (RIn f m i m m) bs) : AllB (RAt f m (i + 1)) bs := h.mono fun k b _ hP => by
  refine ⟨hP.frm, hP.upto, ?_, ?_, hP.nil⟩
  · rw [hP.ns]
    by_cases h1 : k < i
    · rw [if_pos h1, if_pos (by omega)]
    · rw [if_neg h1]
      by_cases h2 : k = i
      · subst h2; rw [if_pos rfl, if_pos (by omega)]
      · rw [if_neg h2, if_neg (by omega)]
  · rw [hP.ps]
    by_cases h1 : k < i
    · rw [if_pos h1, if_pos (by omega)]
    · rw [if_neg h1]
      by_cases h2 : k = i
      · subst h2; rw [if_pos rfl, if_pos (by omega)]
      · rw [if_neg h2, if_neg (by omega)]
theorem RIn.noN {f : Fun} {m i j jp : Nat} {bs : List BV} (h : AllB (RIn f m i j jp) bs) (he : edgeB f i j = false) : AllB (RIn f m i (j + 1) jp) bs := h.mono fun k b _ hP => by
  refine ⟨hP.frm, hP.upto, ?_, hP.ps, hP.nil⟩
  rw [hP.ns, nxtB_succ, he]; simp
theorem RIn.noP {f : Fun} {m i jn j : Nat} {bs : List BV} (h : AllB (RIn f m i jn j) bs) (he : edgeB f j i = false) : AllB (RIn f m i jn (j + 1)) bs := h.mono fun k b _ hP => by
  refine ⟨hP.frm, hP.upto, hP.ns, ?_, hP.nil⟩
  rw [hP.ps, prvB_succ, he]; simp
theorem RIn.stepN {f : Fun} {m i j jp : Nat} {bs : List BV} (h : AllB (RIn f m i j jp) bs) {b : BV} (hb : bs[i]? = some b) (he : edgeB f i j = true) (v : Value) : AllB (RIn f m i (j + 1) jp) (bs.set i { b with vn := v, ns := b.ns ++ [(j : Int)] }) := by
  refine h.set (fun b' hb' => ?_) (fun k b' hk2 hP => ?_)
  · have hP := h i b hb
    refine ⟨hP.frm, hP.upto, ?_, hP.ps, hP.nil⟩
    show b.ns ++ [(j : Int)] = _
    rw [hP.ns, if_neg (by omega), if_pos rfl, if_neg (by omega), if_pos rfl, nxtB_succ, he]; rfl
  · refine ⟨hP.frm, hP.upto, ?_, hP.ps, hP.nil⟩
    rw [hP.ns, if_neg (c := k = i) hk2, if_neg (c := k = i) hk2]
theorem RIn.stepP {f : Fun} {m i jn j : Nat} {bs : List BV} (h : AllB (RIn f m i jn j) bs) {b : BV} (hb : bs[i]? = some b) (he : edgeB f j i = true) (v : Value) : AllB (RIn f m i jn (j + 1)) (bs.set i { b with vp := v, ps := b.ps ++ [(j : Int)] }) := by
  refine h.set (fun b' hb' => ?_) (fun k b' hk2 hP => ?_)
  · have hP := h i b hb
    refine ⟨hP.frm, hP.upto, hP.ns, ?_, fun e => by simp at e⟩
    show b.ps ++ [(j : Int)] = _
    rw [hP.ps, if_neg (by omega), if_pos rfl, if_neg (by omega), if_pos rfl, prvB_succ, he]; rfl
  · refine ⟨hP.frm, hP.upto, hP.ns, ?_, hP.nil⟩
    rw [hP.ps, if_neg (c := k = i) hk2, if_neg (c := k = i) hk2]
theorem RIn.lenN {f : Fun} {m i jn jp k : Nat} {b : BV} (h : RIn f m i jn jp k b) (hk : k = i) : b.ns.length ≤ jn := by
  subst hk
  rw [h.ns, if_neg (by omega), if_pos rfl]
  unfold nxtB; rw [List.length_map]; have := List.length_filter_le (fun x => edgeB f k x) (List.range jn); rwa [List.length_range] at this
theorem RIn.lenP {f : Fun} {m i jn jp k : Nat} {b : BV} (h : RIn f m i jn jp k b) (hk : k = i) : b.ps.length ≤ jp := by
  subst hk
  rw [h.ps, if_neg (by omega), if_pos rfl]
  exact prvB_len f k jp
theorem RAt.done {f : Fun} {bs : List BV} (hl : bs.length = (headsL f).length) (h : AllB (RAt f (headsL f).length (headsL f).length) bs) {b : BV} (hb : bs[0]? = some b) (v : Value) : (bs.set 0 { b with vp := v, ps := [-1] ++ b.ps }).map bvOf = blksL f := by
  apply List.ext_getElem?
  intro k
  unfold blksL
  rw [List.getElem?_map, List.getElem?_map, List.getElem?_set]
  by_cases hk : k < bs.length
  · rw [List.getElem?_range (by omega)]
    by_cases h0 : 0 = k
    · subst h0
      rw [if_pos rfl, if_pos hk]
      have hP := h 0 b hb
      have h3 := hP.ns
      have h4 := hP.ps
      rw [if_pos (by omega)] at h3 h4
      show some (bvOf { b with vp := v, ps := [-1] ++ b.ps }) = some (blkOf f 0)
      unfold bvOf blkOf preB
      simp only [hP.frm, hP.upto, h3, h4, if_true]
    · rw [if_neg h0, List.getElem?_eq_getElem hk]
      have hP := h k _ (List.getElem?_eq_getElem hk)
      have h3 := hP.ns
      have h4 := hP.ps
      rw [if_pos (by omega)] at h3 h4
      show some (bvOf bs[k]) = some (blkOf f k)
      unfold bvOf blkOf preB
      rw [hP.frm, hP.upto, h3, h4, if_neg (fun e => h0 e.symm), List.nil_append]
  · have h1 : ((List.range (headsL f).length)[k]?) = none := List.getElem?_eq_none (by simp; omega)
    have h2 : bs[k]? = none := List.getElem?_eq_none (by omega)
    rw [h1, h2, if_neg (by have := (List.getElem?_eq_some_iff.1 hb).1; omega)]; rfl
end Go.Proofs.YtceilfmfidmfpaaDoor
