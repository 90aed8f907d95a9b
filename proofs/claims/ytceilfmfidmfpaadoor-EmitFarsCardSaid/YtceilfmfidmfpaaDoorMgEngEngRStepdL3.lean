/- step.engine: halt, answer, ret, call. step.engine: ret. What the walk of ref.stepped needs besides. -/
import Derived.Test.YtceilfmfidmfpaaDoorMgReadsOfStateNextLawBegLawNextAnsRunLawRunLawBBegRun8
import Derived.Test.YtceilfmfidmfpaaDoorMgCopyReads2MdAMdBMdCMdDMdEStates8
import Derived.Test.YtceilfmfidmfpaaDoorMgPrNestNestBFind4
import Derived.Test.YtceilfmfidmfpaaDoorCopyHp
import Derived.Test.YtceilfmfidmfpaaDoorMgHeldHeldB2
import Derived.Deep.RegionHeld
import Derived.StillTailTactics
set_option linter.unusedSimpArgs false
set_option linter.unusedVariables false
namespace Go.Proofs.YtceilfmfidmfpaaDoor
open Go.RowKit
attribute [local irreducible] wpList Code.wp Oper.wp
def engCells (x : Sta) (u e a p : Value) : List Value := [iV x.status, iV x.value, u, iV (x.mm 0), iV (x.mm 1), iV (x.mm 2), iV (x.mm 3), iV (x.mm 4), iV (x.mm 5), iV (x.mm 6), iV (x.mm 7), iV (x.mm 8), iV (x.mm 9), iV (x.mm 10), iV (x.mm 11), iV (x.mm 12), iV (x.mm 13), iV (x.mm 14), iV (x.mm 15), iV x.fuel, e, a, p]
/-- The head of a row. -/
theorem Hp.rowShrink {w0 w : World} {Fs : List Fro} {A B : List Res} {g n c sz : Nat} {e : TypeId} {cs : List Value} (h : Hp w0 Fs (A ++ .row (.slice (some ⟨g, 0, none⟩) n c) e sz n cs :: B) w) (m : Nat) (hm : m ≤ n) :
    Hp w0 Fs (A ++ .row (.slice (some ⟨g, 0, none⟩) m c) e sz m (cs.take (m * sz)) :: B) w := by
  refine h.chg ⟨rfl, rfl, rfl, Nat.le_refl _, fun _ _ _ => rfl⟩ ?_ (fun b hb => .inl hb)
  have ho := h.row (v := .slice (some ⟨g, 0, none⟩) n c) (e := e) (sz := sz) (n := n) (cs := cs) (by simp)
  have hle : m * sz ≤ n * sz := Nat.mul_le_mul_right _ hm
  refine ⟨by rw [List.length_take, ho.1]; exact Nat.min_eq_left hle, ?_⟩
  rcases ho.2 with ⟨h0, _⟩ | ⟨g', cap, cur, hv, h1, hg, h2, h3, h4, h5⟩
  · cases h0
  · cases hv
    exact .inr ⟨g, c, cur, rfl, h1, hg, Nat.le_trans hm h2, h3, h4, by rw [← h5, List.take_take, Nat.min_eq_left hle]⟩
theorem rep_ints_tail {w : World} {S : Nat → Prop} {x : Int} {xs : List Int} {ad : Addr} {n c : Nat} (h : Lay.rep w S (x :: xs) [.slice (some ad) n c]) : Lay.rep w S xs [.slice (some (ad.add 1)) xs.length (c - 1)] := by
  obtain ⟨A, c', e, h1, h2, h3⟩ := rep_ints_at h
  cases e
  rw [List.length_cons] at h1
  refine ⟨_, _, rfl, by omega, by omega, fun k y hy => ?_⟩
  obtain ⟨hk, rfl⟩ := List.getElem?_eq_some_iff.1 hy
  obtain ⟨a, ha, hb, hc⟩ := h3 (k + 1) (by simpa using hk)
  cases ha
  refine ⟨_, _, rfl, by rw [block_of_add]; exact hb, fun j v hv => ?_, rfl⟩
  have hj : j = 0 := by have := (List.getElem?_eq_some_iff.1 hv).1; simpa using this
  subst hj
  simp at hv
  subst hv
  rw [add_of_add, add_of_add, show 1 + (k * Lay.size Int + 0) = k + 1 by show 1 + (k * 1 + 0) = k + 1; omega]
  exact hc
theorem rep_ints_tail2 {w : World} {S : Nat → Prop} {x : Int} {xs : List Int} {ad : Addr} {n c : Nat} (h : Lay.rep w S (x :: xs) [.slice (some ad) n c]) : Lay.rep w S xs [.slice (if c = 1 then some ad else some ⟨ad.block, ad.off + 1, none⟩) xs.length (c - 1)] := by
  by_cases hc : c = 1
  · obtain ⟨A, c', e, h1, h2, h3⟩ := rep_ints_at h
    cases e
    rw [List.length_cons] at h1
    obtain rfl : xs = [] := List.eq_nil_of_length_eq_zero (by omega)
    exact ⟨_, _, rfl, by simp, by omega, fun k y hy => by simp at hy⟩
  · rw [if_neg hc]
    exact rep_ints_tail h
set_option maxRecDepth 10000 in
set_option maxHeartbeats 1000000 in
theorem halt_any (s : Sta) (F E A vP : Value) (ge : Nat) (n : Int) (w0 w : World) (Fs : List Fro) (L : List Res) (H : Hp w0 Fs (.blk ge 74 (engCells s F E A vP) :: L) w) :
    Calls Tryd.prog 51 #[.pointer (some ⟨ge, 0, none⟩), .int .i64 n] w fun r w' => r = .returned (.tuple #[]) ∧ Hp w0 Fs (.blk ge 74 (engCells { s with status := n } F E A vP) :: L) w' := by
  have HP := Lib.hid H
  clear H
  unfold engCells at HP
  go_enter Tryd.func51, Tryd.ntmps51
  go_wp2_with (first | (refine wpList_st0 rfl 3 _ _ rfl HP.out rfl rfl (by simp) rfl rfl (by kernel_rfl) ?_; clear HP; intro wst HP; replace HP := Lib.hid HP))
  ((try simp only [Exit.inBlock, Exit.then]); first | refine bodyPost_end (results_none rfl _ _ _) rfl ?_ | refine bodyPost_ret (results_none rfl _ _ _) rfl ?_)
  exact ⟨rfl, HP.out⟩
set_option maxRecDepth 10000 in
set_option maxHeartbeats 1000000 in
theorem answer_any (s : Sta) (F E A vP rF : Value) (tF : TypeId) (zF nF : Nat) (cF : List Value) (ge : Nat) (n : Int) (w0 w : World) (Fs : List Fro) (L : List Res) (hl : s.events.length ≤ 17592186043999) (G : Fro) (hG : G ∈ Fs) (hA : Lay.rep G.w G.S s.answers [A])
    (H : Hp w0 Fs (.blk ge 74 (engCells s F E A vP) :: .row rF tF zF nF cF :: .row E 3 1 s.events.length (s.events.map (Value.int .i64)) :: L) w) :
    Calls Tryd.prog 54 #[.pointer (some ⟨ge, 0, none⟩), .int .i64 n] w fun r w' => r = .returned (.int .i64 (s.answers.headD 0)) ∧ ∃ E' A', Lay.rep G.w G.S s.answers.tail [A'] ∧
      Hp w0 Fs (.blk ge 74 (engCells { s with events := s.events ++ [n], answers := s.answers.tail } F E' A' vP) :: .row rF tF zF nF cF :: .row E' 3 1 (s.events.length + 1) ((s.events ++ [n]).map (Value.int .i64)) :: L) w' := by
  have HP := Lib.hid H
  have HA := Lib.hid hA
  obtain ⟨A2, c2, rfl, hc2, hm2, -⟩ := rep_ints_at (H.rowInts (.tail _ (.tail _ (.head _))) rfl)
  unfold maxLen at hm2
  clear H
  unfold engCells at HP
  obtain ⟨A1, c1, rfl, hc1, hm1, hx1⟩ := rep_ints_at hA
  have HX := Lib.hid hx1
  clear hA hx1
  obtain ⟨i_int, hi_int, hz_int, hs_int, hy_int⟩ := info_parts info_int
  unfold maxLen at hm1
  cases hs : s.answers with
  | nil =>
    rw [hs] at HX HA HP
    have HS := Lib.hid hs
    clear hs
    go_enter Tryd.func54, Tryd.ntmps54
    go_wp2_with (first | (refine wpList_ints_hp rfl 27 3 1 _ rfl HP.out Tryd.underlying27 [_] rfl (by kernel_rfl) ?_; clear HP; intro gi wi HP; replace HP := Lib.hid HP) | (at_builtin; refine wpList_apg2 rfl _ _ 27 rfl i_int (.int .i64 0) Tryd.underlying27 hi_int hz_int hs_int rfl (by decide) hy_int (s.events.length + 1) rfl HP.out rfl rfl rfl (by simp [Value.oneCell']) (by unfold maxLen; omega) (by omega) (by omega) ?_; clear HP; intro gap cap wap HP; replace HP := Lib.hid HP) | (refine wpList_ld0 rfl 27 _ rfl HP.out rfl rfl Tryd.underlying27 rfl ?_) | (refine wpList_ld1 rfl 27 _ rfl HP.out rfl rfl Tryd.underlying27 rfl ?_) | (refine wpList_st0 rfl 27 _ _ rfl HP.out rfl rfl (by simp) rfl rfl (by kernel_rfl) ?_; clear HP; intro wst HP; replace HP := Lib.hid HP) | (refine wpList_st1 rfl 27 _ _ rfl HP.out rfl rfl (by simp) rfl rfl (by kernel_rfl) ?_; clear HP; intro wst HP; replace HP := Lib.hid HP) | (refine wpList_st2 rfl 27 _ _ rfl HP.out rfl rfl (by simp) rfl rfl (by kernel_rfl) ?_; clear HP; intro wst HP; replace HP := Lib.hid HP))
    go_ret
    refine ⟨rfl, _, _, ?_, by rw [List.map_append]; exact HP.out⟩
    exact HA.out
  | cons y ys =>
    rw [hs] at HX HA HP hc1
    have HS := Lib.hid hs
    clear hs
    obtain ⟨ad, rfl, hgs, hcell⟩ := HX.out 0 (by simp)
    have HC := Lib.hid (And.intro hgs (show G.w.cell? ad = some (.int .i64 y) by simpa [Addr.add] using hcell))
    clear hgs hcell
    go_enter Tryd.func54, Tryd.ntmps54
    go_wp2_with (first | (refine wpList_ints_hp rfl 27 3 1 _ rfl HP.out Tryd.underlying27 [_] rfl (by kernel_rfl) ?_; clear HP; intro gi wi HP; replace HP := Lib.hid HP) | (at_builtin; refine wpList_apg2 rfl _ _ 27 rfl i_int (.int .i64 0) Tryd.underlying27 hi_int hz_int hs_int rfl (by decide) hy_int (s.events.length + 1) rfl HP.out rfl rfl rfl (by simp [Value.oneCell']) (by unfold maxLen; omega) (by omega) (by omega) ?_; clear HP; intro gap cap wap HP; replace HP := Lib.hid HP) | (refine wpList_ld0 rfl 27 _ rfl HP.out rfl rfl Tryd.underlying27 rfl ?_) | (refine wpList_ld1 rfl 27 _ rfl HP.out rfl rfl Tryd.underlying27 rfl ?_) | (refine wpList_st0 rfl 27 _ _ rfl HP.out rfl rfl (by simp) rfl rfl (by kernel_rfl) ?_; clear HP; intro wst HP; replace HP := Lib.hid HP) | (refine wpList_st1 rfl 27 _ _ rfl HP.out rfl rfl (by simp) rfl rfl (by kernel_rfl) ?_; clear HP; intro wst HP; replace HP := Lib.hid HP) | (refine wpList_st2 rfl 27 _ _ rfl HP.out rfl rfl (by simp) rfl rfl (by kernel_rfl) ?_; clear HP; intro wst HP; replace HP := Lib.hid HP) | (refine wpList_load1 rfl 3 _ rfl _ rfl _ ((HP.out.alike hG ad HC.out.1).trans HC.out.2) _ Tryd.underlying3 rfl ?_))
    all_goals
      go_ret
      refine ⟨rfl, _, _, ?_, HP.out⟩
      exact rep_ints_tail2 HA.out
theorem call_cells (fn a b : Int) (m : Nat) (h : m ≤ 2) : List.take 2 [iV fn, iV 0, iV 0, iV 0, iV 0, iV 0, iV 0, iV 0, iV 0, iV 0, iV 0, iV 0, iV 0, iV 0] ++ ((List.map (Value.int .i64) [a, b]).take m ++ List.drop (2 + ((List.map (Value.int .i64) [a, b]).take m).length) [iV fn, iV 0, iV 0, iV 0, iV 0, iV 0, iV 0, iV 0, iV 0, iV 0, iV 0, iV 0, iV 0, iV 0]) = frmCells (callF fn m a b) := by
  have : m = 0 ∨ m = 1 ∨ m = 2 := by omega
  rcases this with rfl | rfl | rfl <;> rfl
set_option maxRecDepth 10000 in
set_option maxHeartbeats 1000000 in
theorem call_any (s : Sta) (F E A vP rE : Value) (tE : TypeId) (zE nE : Nat) (cE : List Value) (ge : Nat) (x : Ins) (a b : Int) (p : Prg) (w0 w : World) (Fs : List Fro) (L : List Res) (hl : s.frames.length ≤ 8) (ok : OkP p) (fn : Nat) (hi : x.imm = fn) (hfn : fn < p.funcs.length) (G : Fro) (hG : G ∈ Fs) (hA : Lay.rep G.w G.S p [vP])
    (H : Hp w0 Fs (.blk ge 74 (engCells s F E A vP) :: .row F 39 14 s.frames.length (s.frames.flatMap frmCells) :: .row rE tE zE nE cE :: L) w) :
    Calls Tryd.prog 53 #[.pointer (some ⟨ge, 0, none⟩), .agg #[iV x.op, iV x.dst, iV x.a, iV x.b, iV x.imm], iV a, iV b] w fun r w' => r = .returned (.tuple #[]) ∧ 
      (s.frames.length = 8 ∧ Hp w0 Fs (.blk ge 74 (engCells { s with status := 5 } F E A vP) :: .row F 39 14 s.frames.length (s.frames.flatMap frmCells) :: .row rE tE zE nE cE :: L) w' ∨
       s.frames.length < 8 ∧ ∃ F', Hp w0 Fs (.blk ge 74 (engCells { s with frames := s.frames ++ [callF x.imm (parZ p x.imm) a b] } F' E A vP) :: .row F' 39 14 (s.frames.length + 1) ((s.frames ++ [callF x.imm (parZ p x.imm) a b]).flatMap frmCells) :: .row rE tE zE nE cE :: L) w') := by
  have HP := Lib.hid H
  have HA := Lib.hid hA
  obtain ⟨A2, c2, rfl, hc2, hm2, -⟩ := rep_frames_at (H.rowFrames (.tail _ (.head _)) rfl)
  unfold maxLen at hm2
  clear H
  unfold engCells at HP
  obtain ⟨A1, c1, rfl, hc1, hm1, hx1⟩ := rep_prg_at hA
  obtain ⟨ad, vc, rfl, hab, hat, -⟩ := hx1 fn hfn
  clear hA hx1
  obtain ⟨f0, hf0⟩ : ∃ f0, p.funcs[fn] = f0 := ⟨_, rfl⟩
  have HF0 := Lib.hid hf0
  have hpz : parZ p x.imm = f0.params := by unfold parZ; rw [hi, Int.toNat_natCast, List.getElem?_eq_getElem hfn, hf0]; rfl
  have hpr := (ok.fns f0 (hf0 ▸ List.getElem_mem _)).params
  rw [hf0] at hat
  obtain ⟨m, hm⟩ : ∃ m : Nat, f0.params = m := ⟨f0.params.toNat, by omega⟩
  rw [hm] at hat hpr hpz
  have HAT := Lib.hid (And.intro hat hab)
  clear hat hab hf0
  obtain ⟨i_Frm, hi_Frm, hz_Frm, hs_Frm, hy_Frm⟩ := info_parts info_Frm
  by_cases h8 : s.frames.length = 8
  · go_enter Tryd.func53, Tryd.ntmps53
    go_wp2_with (first | (refine wpList_ld0 rfl 25 _ rfl HP.out rfl rfl Tryd.underlying25 rfl ?_) | (refine wpList_ld1 rfl 25 _ rfl HP.out rfl rfl Tryd.underlying25 rfl ?_) | (refine wpList_box_hp (o := ⟨some 5, _, _, _, _, _⟩) rfl _ _ rfl HP.out [_, _, _, _, _] rfl ?_; clear HP; intro g5 w5 HP; replace HP := Lib.hid HP) | (go_at_call 51; refine (halt_any s _ _ _ _ _ _ _ _ _ _ (HP.out.drop (A := []))).mono ?_; clear HP; rintro r w6 ⟨rfl, HP⟩; replace HP := Lib.hid HP))
    ((try simp only [Exit.inBlock, Exit.then]); first | refine bodyPost_end (results_none rfl _ _ _) rfl ?_ | refine bodyPost_ret (results_none rfl _ _ _) rfl ?_)
    exact ⟨rfl, .inl ⟨h8, HP.out⟩⟩
  · obtain ⟨pc, hpc⟩ : ∃ pc, callF x.imm m a b = pc := ⟨_, rfl⟩
    rw [hi] at hpc
    have HPC := Lib.hid hpc
    have HPZ := Lib.hid hpz
    clear hpz hpc
    have h8' : s.frames.length < 8 := by omega
    have hb8 : ((s.frames.length : Int) == 8) = false := by rw [beq_eq_false_iff_ne]; omega
    have hm2' : m ≤ 2 := by omega
    go_enter Tryd.func53, Tryd.ntmps53
    go_upto_region 4 with (first | (refine wpList_ld0 rfl 25 _ rfl HP.out rfl rfl Tryd.underlying25 rfl ?_) | (refine wpList_ld1 rfl 25 _ rfl HP.out rfl rfl Tryd.underlying25 rfl ?_) | (refine wpList_ld2 rfl 25 _ rfl HP.out rfl rfl Tryd.underlying25 rfl ?_) | (refine wpList_box_hp (o := ⟨some 5, _, _, _, _, _⟩) rfl _ _ rfl HP.out [_, _, _, _, _] rfl ?_; clear HP; intro g5 w5 HP; replace HP := Lib.hid HP) | (refine wpList_ld0 rfl 3 _ rfl HP.out rfl rfl Tryd.underlying3 rfl ?_) | (refine wpList_ld1 rfl 3 _ rfl HP.out rfl rfl Tryd.underlying3 rfl ?_) | (refine wpList_ld2 rfl 3 _ rfl HP.out rfl rfl Tryd.underlying3 rfl ?_) | (refine wpList_ld3 rfl 3 _ rfl HP.out rfl rfl Tryd.underlying3 rfl ?_) | (refine wpList_alloc_hp (o := ⟨some 8, _, _, _, _, _⟩) rfl _ rfl HP.out (.agg #[.int .i64 0, .int .i64 0, .int .i64 0, .int .i64 0, .int .i64 0, .int .i64 0, .int .i64 0, .int .i64 0, .int .i64 0, .int .i64 0, .int .i64 0, .int .i64 0, .int .i64 0, .int .i64 0]) (by kernel_rfl) [_, _, _, _, _, _, _, _, _, _, _, _, _, _] rfl ?_; clear HP; intro g8 w8 HP; replace HP := Lib.hid HP) | (refine wpList_stR0 rfl 39 _ _ rfl HP.out rfl (cs' := [_, _, _, _, _, _, _, _, _, _, _, _, _, _]) rfl rfl (by simp [Value.oneCell']) (by kernel_rfl) ?_; clear HP; intro wst HP; replace HP := Lib.hid HP))
    replace HP := Lib.hid HP.out.drew
    refine wp_region_held_drew (S := fun w' => w'.cell? ⟨ge, 22, none⟩ = some (.slice (some ad) p.funcs.length c1) ∧ w'.cell? ⟨g5, 4, none⟩ = some (.int .i64 fn) ∧ w'.cell? (ad.add (fn * 3)) = some (.int .i64 m)) (by kernel_rfl) ⟨HP.out.cell (.tail _ (.tail _ (.head _))) 22 _ rfl, HP.out.cell (.tail _ (.head _)) 4 _ (by rw [← hi]; rfl), (HP.out.at_ hG HAT.out.1 (by rw [block_of_add]; exact HAT.out.2)).fld0 rfl⟩ (fun hHeld => ?_)
    have HS0 := Lib.hid hHeld
    clear hHeld
    (try simp only [Act.put, List.setIfInBounds_toArray, List.set_cons_zero, List.set_cons_succ])
    refine wpAnyH_take (i := 0) (v := .pointer (some ⟨g8, 2, none⟩)) rfl (by kernel_rfl) (by kernel_rfl) (by kernel_rfl) (fun _ _ _ h => h) (.inl ⟨by simp [Region.wanted], fun w' hw => ?_⟩) HS0.out ?_
    · skip
      obtain ⟨k0, k1, k2⟩ := hw
      go_simp
    (try simp only [List.getElem_toArray, List.getElem_cons_succ, List.getElem_cons_zero, Act.put, List.setIfInBounds_toArray, List.set_cons_zero, List.set_cons_succ])
    refine wpAnyH_take (i := 1) (v := .slice (some ⟨g8, 2, none⟩) 12 12) rfl (by kernel_rfl) (by kernel_rfl) (by kernel_rfl) (fun _ _ _ h => h) (.inl ⟨by simp [Region.wanted], fun w' hw => ?_⟩) HS0.out ?_
    · skip
      obtain ⟨k0, k1, k2⟩ := hw
      go_simp
    (try simp only [List.getElem_toArray, List.getElem_cons_succ, List.getElem_cons_zero, Act.put, List.setIfInBounds_toArray, List.set_cons_zero, List.set_cons_succ])
    refine wpAnyH_take (i := 2) (v := .int .i64 a) rfl (by kernel_rfl) (by kernel_rfl) (by kernel_rfl) (fun _ _ _ h => h) (.inl ⟨by simp [Region.wanted], fun w' hw => ?_⟩) HS0.out ?_
    · skip
      obtain ⟨k0, k1, k2⟩ := hw
      go_simp
    (try simp only [List.getElem_toArray, List.getElem_cons_succ, List.getElem_cons_zero, Act.put, List.setIfInBounds_toArray, List.set_cons_zero, List.set_cons_succ])
    refine wpAnyH_take (i := 3) (v := .int .i64 b) rfl (by kernel_rfl) (by kernel_rfl) (by kernel_rfl) (fun _ _ _ h => h) (.inl ⟨by simp [Region.wanted], fun w' hw => ?_⟩) HS0.out ?_
    · skip
      obtain ⟨k0, k1, k2⟩ := hw
      go_simp
    (try simp only [List.getElem_toArray, List.getElem_cons_succ, List.getElem_cons_zero, Act.put, List.setIfInBounds_toArray, List.set_cons_zero, List.set_cons_succ])
    refine wpAnyH_take (i := 5) (v := .pointer (some ⟨ge, 0, none⟩)) rfl (by kernel_rfl) (by kernel_rfl) (by kernel_rfl) (fun _ _ _ h => h) (.inl ⟨by simp [Region.wanted], fun w' hw => ?_⟩) HS0.out ?_
    · skip
      obtain ⟨k0, k1, k2⟩ := hw
      go_simp
    (try simp only [List.getElem_toArray, List.getElem_cons_succ, List.getElem_cons_zero, Act.put, List.setIfInBounds_toArray, List.set_cons_zero, List.set_cons_succ])
    refine wpAnyH_take (i := 6) (v := .pointer (some ⟨ge, 0, none⟩)) rfl (by kernel_rfl) (by kernel_rfl) (by kernel_rfl) (fun _ _ _ h => h) (.inl ⟨by simp [Region.wanted], fun w' hw => ?_⟩) HS0.out ?_
    · skip
      obtain ⟨k0, k1, k2⟩ := hw
      go_simp
    (try simp only [List.getElem_toArray, List.getElem_cons_succ, List.getElem_cons_zero, Act.put, List.setIfInBounds_toArray, List.set_cons_zero, List.set_cons_succ])
    refine wpAnyH_take (i := 7) (v := .pointer (some ⟨ge, 22, none⟩)) rfl (by kernel_rfl) (by kernel_rfl) (by kernel_rfl) (fun _ _ _ h => h) (.inl ⟨by simp [Region.wanted], fun w' hw => ?_⟩) HS0.out ?_
    · skip
      obtain ⟨k0, k1, k2⟩ := hw
      go_simp
    (try simp only [List.getElem_toArray, List.getElem_cons_succ, List.getElem_cons_zero, Act.put, List.setIfInBounds_toArray, List.set_cons_zero, List.set_cons_succ])
    refine wpAnyH_take (i := 8) (v := .pointer (some ⟨ge, 22, none⟩)) rfl (by kernel_rfl) (by kernel_rfl) (by kernel_rfl) (fun _ _ _ h => h) (.inl ⟨by simp [Region.wanted], fun w' hw => ?_⟩) HS0.out ?_
    · skip
      obtain ⟨k0, k1, k2⟩ := hw
      go_simp
    (try simp only [List.getElem_toArray, List.getElem_cons_succ, List.getElem_cons_zero, Act.put, List.setIfInBounds_toArray, List.set_cons_zero, List.set_cons_succ])
    refine wpAnyH_take (i := 9) (v := .slice (some ad) p.funcs.length c1) rfl (by kernel_rfl) (by kernel_rfl) (by kernel_rfl) (fun _ _ _ h => h) (.inl ⟨by simp [Region.wanted], fun w' hw => ?_⟩) HS0.out ?_
    · skip
      obtain ⟨k0, k1, k2⟩ := hw
      go_simp
    (try simp only [List.getElem_toArray, List.getElem_cons_succ, List.getElem_cons_zero, Act.put, List.setIfInBounds_toArray, List.set_cons_zero, List.set_cons_succ])
    refine wpAnyH_take (i := 10) (v := .pointer (some ⟨g5, 4, none⟩)) rfl (by kernel_rfl) (by kernel_rfl) (by kernel_rfl) (fun _ _ _ h => h) (.inl ⟨by simp [Region.wanted], fun w' hw => ?_⟩) HS0.out ?_
    · skip
      obtain ⟨k0, k1, k2⟩ := hw
      go_simp
    (try simp only [List.getElem_toArray, List.getElem_cons_succ, List.getElem_cons_zero, Act.put, List.setIfInBounds_toArray, List.set_cons_zero, List.set_cons_succ])
    refine wpAnyH_take (i := 11) (v := .int .i64 fn) rfl (by kernel_rfl) (by kernel_rfl) (by kernel_rfl) (fun _ _ _ h => h) (.inl ⟨by simp [Region.wanted], fun w' hw => ?_⟩) HS0.out ?_
    · skip
      obtain ⟨k0, k1, k2⟩ := hw
      go_simp
    (try simp only [List.getElem_toArray, List.getElem_cons_succ, List.getElem_cons_zero, Act.put, List.setIfInBounds_toArray, List.set_cons_zero, List.set_cons_succ])
    refine wpAnyH_take (i := 12) (v := .pointer (some (ad.add (fn*3)))) rfl (by kernel_rfl) (by kernel_rfl) (by kernel_rfl) (fun _ _ _ h => h) (.inl ⟨by simp [Region.wanted], fun w' hw => ?_⟩) HS0.out ?_
    · skip
      obtain ⟨k0, k1, k2⟩ := hw
      go_simp
    (try simp only [List.getElem_toArray, List.getElem_cons_succ, List.getElem_cons_zero, Act.put, List.setIfInBounds_toArray, List.set_cons_zero, List.set_cons_succ])
    refine wpAnyH_take (i := 13) (v := .pointer (some (ad.add (fn*3)))) rfl (by kernel_rfl) (by kernel_rfl) (by kernel_rfl) (fun _ _ _ h => h) (.inl ⟨by simp [Region.wanted], fun w' hw => ?_⟩) HS0.out ?_
    · skip
      obtain ⟨k0, k1, k2⟩ := hw
      go_simp
    (try simp only [List.getElem_toArray, List.getElem_cons_succ, List.getElem_cons_zero, Act.put, List.setIfInBounds_toArray, List.set_cons_zero, List.set_cons_succ])
    refine wpAnyH_take (i := 14) (v := .int .i64 m) rfl (by kernel_rfl) (by kernel_rfl) (by kernel_rfl) (fun _ _ _ h => h) (.inl ⟨by simp [Region.wanted], fun w' hw => ?_⟩) HS0.out ?_
    · skip
      obtain ⟨k0, k1, k2⟩ := hw
      go_simp
    (try simp only [List.getElem_toArray, List.getElem_cons_succ, List.getElem_cons_zero, Act.put, List.setIfInBounds_toArray, List.set_cons_zero, List.set_cons_succ])
    refine wpAnyH_ready (rs := [4]) (by kernel_rfl) (by simp) ?_
    refine AllReadyH.cons rfl (fun K hK => ?_) AllReadyH.nil
    refine wanted_only rfl ?_
    (refine wpList_ints_hp rfl 27 3 2 _ rfl HP.out Tryd.underlying27 [_, _] rfl (by kernel_rfl) ?_; clear HP; intro gi wi HP; replace HP := Lib.hid HP)
    refine wpList_nil ?_
    refine hK.out _ _ ⟨HP.out.cell (.tail _ (.tail _ (.tail _ (.head _)))) 22 _ rfl, HP.out.cell (.tail _ (.tail _ (.head _))) 4 _ (by rw [← hi]; rfl), (HP.out.at_ hG HAT.out.1 (by rw [block_of_add]; exact HAT.out.2)).fld0 rfl⟩ (fun hHeld => ?_)
    clear hK K hHeld
    (try simp only [Act.put, List.setIfInBounds_toArray, List.set_cons_zero, List.set_cons_succ])
    refine wpAnyH_ready (rs := [15]) (by kernel_rfl) (by simp) ?_
    refine AllReadyH.cons rfl (fun K hK => ?_) AllReadyH.nil
    go_simp
    refine hK.out _ _ ⟨HP.out.cell (.tail _ (.tail _ (.tail _ (.head _)))) 22 _ rfl, HP.out.cell (.tail _ (.tail _ (.head _))) 4 _ (by rw [← hi]; rfl), (HP.out.at_ hG HAT.out.1 (by rw [block_of_add]; exact HAT.out.2)).fld0 rfl⟩ (fun hHeld => ?_)
    clear hK K hHeld
    refine wpAnyH_ready (rs := [16]) (by kernel_rfl) (by simp) ?_
    refine AllReadyH.cons rfl (fun K hK => ?_) AllReadyH.nil
    refine wanted_only rfl ?_
    have HSRC := Lib.hid (show ∀ j v, ((List.map (Value.int IntKind.i64) [a, b]).take m)[j]? = some v → wi.cell? ((⟨gi, 0, none⟩ : Addr).add j) = some v from fun j v hv => HP.out.blkAt (.head _) 0 j v (by
      rw [List.getElem?_take] at hv
      split at hv
      · exact hv
      · cases hv))
    refine wpList_copy_hp rfl _ _ _ _ rfl 3 Tryd.underlying27 (by kernel_rfl) (HP.out.perm (List.Perm.swap _ _ _)) rfl rfl ((List.map (Value.int IntKind.i64) [a, b]).take m) (by rw [List.length_take, List.length_map]; show min m 2 = min m 12; omega) (fun _ => ⟨_, rfl, HSRC.out⟩) (by rw [List.length_take, List.length_map]; show 2 + min m 2 ≤ 14; omega) (fun v hv => by
      have := List.mem_of_mem_take hv
      simp only [List.map_cons, List.map_nil, List.mem_cons, List.not_mem_nil, or_false] at this
      rcases this with rfl | rfl <;> rfl) (call_cells fn a b m hm2') ?_
    clear HSRC HP
    intro wcp HP
    replace HP := Lib.hid HP
    refine wpList_nil ?_
    refine hK.out _ _ ⟨HP.out.cell (.tail _ (.tail _ (.tail _ (.head _)))) 22 _ rfl, HP.out.cell (.tail _ (.tail _ (.head _))) 4 _ (by rw [← hi]; rfl), (HP.out.at_ hG HAT.out.1 (by rw [block_of_add]; exact HAT.out.2)).fld0 rfl⟩ (fun hHeld => ?_)
    clear hK K hHeld HS0
    refine wpAnyH_done (by kernel_rfl) ?_ _
    rw [HPC.out] at HP
    (try simp only [Act.put, List.setIfInBounds_toArray, List.set_cons_zero, List.set_cons_succ])
    replace HP := Lib.hid ((HP.out.drop (A := [_])).drop (A := [_]))
    simp only [List.cons_append, List.nil_append] at HP
    go_upto_region 5 with (fail)
    replace HP := Lib.hid HP.out.drew
    refine wp_region_held_drew (S := fun w' => At w' ⟨g8, 0, none⟩ (frmCells pc)) (by kernel_rfl) (HP.out.blkAt (.head _) 0) (fun hHeld => ?_)
    have HS0 := Lib.hid hHeld
    clear hHeld
    (try simp only [Act.put, List.setIfInBounds_toArray, List.set_cons_zero, List.set_cons_succ])
    refine wpAnyH_take (i := 0) (v := .pointer (some ⟨ge, 0, none⟩)) rfl (by kernel_rfl) (by kernel_rfl) (by kernel_rfl) (fun _ _ _ h => h) (.inl ⟨by simp [Region.wanted], fun w' hw => ?_⟩) HS0.out ?_
    · skip
      go_simp
    (try simp only [List.getElem_toArray, List.getElem_cons_succ, List.getElem_cons_zero, Act.put, List.setIfInBounds_toArray, List.set_cons_zero, List.set_cons_succ])
    refine wpAnyH_take (i := 1) (v := .pointer (some ⟨ge, 0, none⟩)) rfl (by kernel_rfl) (by kernel_rfl) (by kernel_rfl) (fun _ _ _ h => h) (.inl ⟨by simp [Region.wanted], fun w' hw => ?_⟩) HS0.out ?_
    · skip
      go_simp
    (try simp only [List.getElem_toArray, List.getElem_cons_succ, List.getElem_cons_zero, Act.put, List.setIfInBounds_toArray, List.set_cons_zero, List.set_cons_succ])
    refine wpAnyH_take (i := 2) (v := .pointer (some ⟨ge, 0, none⟩)) rfl (by kernel_rfl) (by kernel_rfl) (by kernel_rfl) (fun _ _ _ h => h) (.inl ⟨by simp [Region.wanted], fun w' hw => ?_⟩) HS0.out ?_
    · skip
      go_simp
    (try simp only [List.getElem_toArray, List.getElem_cons_succ, List.getElem_cons_zero, Act.put, List.setIfInBounds_toArray, List.set_cons_zero, List.set_cons_succ])
    refine wpAnyH_take (i := 3) (v := .pointer (some ⟨ge, 0, none⟩)) rfl (by kernel_rfl) (by kernel_rfl) (by kernel_rfl) (fun _ _ _ h => h) (.inl ⟨by simp [Region.wanted], fun w' hw => ?_⟩) HS0.out ?_
    · skip
      go_simp
    (try simp only [List.getElem_toArray, List.getElem_cons_succ, List.getElem_cons_zero, Act.put, List.setIfInBounds_toArray, List.set_cons_zero, List.set_cons_succ])
    refine wpAnyH_take (i := 4) (v := .pointer (some ⟨ge, 2, none⟩)) rfl (by kernel_rfl) (by kernel_rfl) (by kernel_rfl) (fun _ _ _ h => h) (.inl ⟨by simp [Region.wanted], fun w' hw => ?_⟩) HS0.out ?_
    · skip
      go_simp
    (try simp only [List.getElem_toArray, List.getElem_cons_succ, List.getElem_cons_zero, Act.put, List.setIfInBounds_toArray, List.set_cons_zero, List.set_cons_succ])
    refine wpAnyH_row (i := 6) rfl (by kernel_rfl) (by kernel_rfl) (by kernel_rfl) (fun _ _ _ _ h => h) rfl 39 _ rfl _ rfl _ _ (fun _ h => h) Tryd.underlying39 rfl (by kernel_rfl) HS0.out ?_
    (try simp only [Act.put, List.setIfInBounds_toArray, List.set_cons_zero, List.set_cons_succ])
    refine wpAnyH_ready (rs := [5, 7]) (by kernel_rfl) (by simp) ?_
    refine AllReadyH.cons rfl (fun K hK => ?_) (AllReadyH.cons rfl (fun K hK => ?_) AllReadyH.nil)
    · skip
      refine wanted_only rfl ?_
      (first | (refine wpList_ld0 rfl 25 _ rfl HP.out rfl rfl Tryd.underlying25 rfl ?_) | (refine wpList_ld1 rfl 25 _ rfl HP.out rfl rfl Tryd.underlying25 rfl ?_) | (refine wpList_ld2 rfl 25 _ rfl HP.out rfl rfl Tryd.underlying25 rfl ?_) | (refine wpList_ld3 rfl 25 _ rfl HP.out rfl rfl Tryd.underlying25 rfl ?_))
      refine wpList_nil ?_
      refine hK.out _ _ (HP.out.blkAt (.head _) 0) (fun hHeld => ?_)
      clear hK K hHeld
      (try simp only [Act.put, List.setIfInBounds_toArray, List.set_cons_zero, List.set_cons_succ])
      refine wpAnyH_ready (rs := [7]) (by kernel_rfl) (by simp) ?_
      refine AllReadyH.cons rfl (fun K hK => ?_) AllReadyH.nil
      refine wanted_only rfl ?_
      (refine wpList_slice_hp rfl 25 39 1 _ rfl HP.out Tryd.underlying25 (frmCells pc).toArray (by kernel_rfl) ?_; clear HP; intro gi wi HP; replace HP := Lib.hid HP)
      refine wpList_nil ?_
      refine hK.out _ _ (HP.out.blkAt (.tail _ (.head _)) 0) (fun hHeld => ?_)
      clear hK K hHeld
      (try simp only [Act.put, List.setIfInBounds_toArray, List.set_cons_zero, List.set_cons_succ])
      refine wpAnyH_ready (rs := [8]) (by kernel_rfl) (by simp) ?_
      refine AllReadyH.cons rfl (fun K hK => ?_) AllReadyH.nil
      refine wanted_only rfl ?_
      (refine wpList_app2 rfl _ _ 25 rfl i_Frm (.agg #[.int .i64 0, .int .i64 0, .int .i64 0, .int .i64 0, .int .i64 0, .int .i64 0, .int .i64 0, .int .i64 0, .int .i64 0, .int .i64 0, .int .i64 0, .int .i64 0, .int .i64 0, .int .i64 0]) Tryd.underlying25 hi_Frm hz_Frm hs_Frm rfl (by decide) hy_Frm (s.frames.length + 1) (by omega) HP.out rfl rfl rfl (by simp [Value.oneCell', frmCells]) (by unfold maxLen; omega) (by omega) ?_; clear HP; intro A' c' wap HP; replace HP := Lib.hid HP)
      refine wpList_nil ?_
      refine hK.out _ _ (HP.out.blkAt (.head _) 0) (fun hHeld => ?_)
      clear hK K hHeld
      refine wpAnyH_ready (rs := [9]) (by kernel_rfl) (by simp) ?_
      refine AllReadyH.cons rfl (fun K hK => ?_) AllReadyH.nil
      go_simp
      refine hK.out _ _ (HP.out.blkAt (.head _) 0) (fun hHeld => ?_)
      clear hK K hHeld
      refine wpAnyH_ready (rs := [10]) (by kernel_rfl) (by simp) ?_
      refine AllReadyH.cons rfl (fun K hK => ?_) AllReadyH.nil
      go_simp
      refine hK.out _ _ (HP.out.blkAt (.head _) 0) (fun hHeld => ?_)
      clear hK K hHeld
      refine wpAnyH_ready (rs := [11]) (by kernel_rfl) (by simp) ?_
      refine AllReadyH.cons rfl (fun K hK => ?_) AllReadyH.nil
      go_simp
      refine hK.out _ _ (HP.out.blkAt (.head _) 0) (fun hHeld => ?_)
      clear hK K hHeld
      refine wpAnyH_ready (rs := [12]) (by kernel_rfl) (by simp) ?_
      refine AllReadyH.cons rfl (fun K hK => ?_) AllReadyH.nil
      refine wanted_only rfl ?_
      (first | (refine wpList_st0 rfl 25 _ _ rfl HP.out rfl rfl (by simp) rfl rfl (by kernel_rfl) ?_; clear HP; intro wst HP; replace HP := Lib.hid HP) | (refine wpList_st1 rfl 25 _ _ rfl HP.out rfl rfl (by simp) rfl rfl (by kernel_rfl) ?_; clear HP; intro wst HP; replace HP := Lib.hid HP) | (refine wpList_st2 rfl 25 _ _ rfl HP.out rfl rfl (by simp) rfl rfl (by kernel_rfl) ?_; clear HP; intro wst HP; replace HP := Lib.hid HP))
      refine wpList_nil ?_
      refine hK.out _ _ (HP.out.blkAt (.head _) 0) (fun hHeld => ?_)
      clear hK K hHeld HS0
      refine wpAnyH_done (by kernel_rfl) ?_ _
      ((try simp only [Exit.inBlock, Exit.then]); first | refine bodyPost_end (results_none rfl _ _ _) rfl ?_ | refine bodyPost_ret (results_none rfl _ _ _) rfl ?_)
      have HH := HP.out.drop (A := [])
      rw [HPZ.out, hi, HPC.out]
      refine ⟨rfl, .inr ⟨h8', .slice A' (s.frames.length + 1) c', ?_⟩⟩
      rw [frms_snoc]
      exact HH
    · skip
      refine wanted_only rfl ?_
      (refine wpList_slice_hp rfl 25 39 1 _ rfl HP.out Tryd.underlying25 (frmCells pc).toArray (by kernel_rfl) ?_; clear HP; intro gi wi HP; replace HP := Lib.hid HP)
      refine wpList_nil ?_
      refine hK.out _ _ (HP.out.blkAt (.tail _ (.head _)) 0) (fun hHeld => ?_)
      clear hK K hHeld
      (try simp only [Act.put, List.setIfInBounds_toArray, List.set_cons_zero, List.set_cons_succ])
      refine wpAnyH_ready (rs := [5]) (by kernel_rfl) (by simp) ?_
      refine AllReadyH.cons rfl (fun K hK => ?_) AllReadyH.nil
      refine wanted_only rfl ?_
      (first | (refine wpList_ld0 rfl 25 _ rfl HP.out rfl rfl Tryd.underlying25 rfl ?_) | (refine wpList_ld1 rfl 25 _ rfl HP.out rfl rfl Tryd.underlying25 rfl ?_) | (refine wpList_ld2 rfl 25 _ rfl HP.out rfl rfl Tryd.underlying25 rfl ?_) | (refine wpList_ld3 rfl 25 _ rfl HP.out rfl rfl Tryd.underlying25 rfl ?_))
      refine wpList_nil ?_
      refine hK.out _ _ (HP.out.blkAt (.tail _ (.head _)) 0) (fun hHeld => ?_)
      clear hK K hHeld
      (try simp only [Act.put, List.setIfInBounds_toArray, List.set_cons_zero, List.set_cons_succ])
      refine wpAnyH_ready (rs := [8]) (by kernel_rfl) (by simp) ?_
      refine AllReadyH.cons rfl (fun K hK => ?_) AllReadyH.nil
      refine wanted_only rfl ?_
      (refine wpList_app2 rfl _ _ 25 rfl i_Frm (.agg #[.int .i64 0, .int .i64 0, .int .i64 0, .int .i64 0, .int .i64 0, .int .i64 0, .int .i64 0, .int .i64 0, .int .i64 0, .int .i64 0, .int .i64 0, .int .i64 0, .int .i64 0, .int .i64 0]) Tryd.underlying25 hi_Frm hz_Frm hs_Frm rfl (by decide) hy_Frm (s.frames.length + 1) (by omega) HP.out rfl rfl rfl (by simp [Value.oneCell', frmCells]) (by unfold maxLen; omega) (by omega) ?_; clear HP; intro A' c' wap HP; replace HP := Lib.hid HP)
      refine wpList_nil ?_
      refine hK.out _ _ (HP.out.blkAt (.head _) 0) (fun hHeld => ?_)
      clear hK K hHeld
      refine wpAnyH_ready (rs := [9]) (by kernel_rfl) (by simp) ?_
      refine AllReadyH.cons rfl (fun K hK => ?_) AllReadyH.nil
      go_simp
      refine hK.out _ _ (HP.out.blkAt (.head _) 0) (fun hHeld => ?_)
      clear hK K hHeld
      refine wpAnyH_ready (rs := [10]) (by kernel_rfl) (by simp) ?_
      refine AllReadyH.cons rfl (fun K hK => ?_) AllReadyH.nil
      go_simp
      refine hK.out _ _ (HP.out.blkAt (.head _) 0) (fun hHeld => ?_)
      clear hK K hHeld
      refine wpAnyH_ready (rs := [11]) (by kernel_rfl) (by simp) ?_
      refine AllReadyH.cons rfl (fun K hK => ?_) AllReadyH.nil
      go_simp
      refine hK.out _ _ (HP.out.blkAt (.head _) 0) (fun hHeld => ?_)
      clear hK K hHeld
      refine wpAnyH_ready (rs := [12]) (by kernel_rfl) (by simp) ?_
      refine AllReadyH.cons rfl (fun K hK => ?_) AllReadyH.nil
      refine wanted_only rfl ?_
      (first | (refine wpList_st0 rfl 25 _ _ rfl HP.out rfl rfl (by simp) rfl rfl (by kernel_rfl) ?_; clear HP; intro wst HP; replace HP := Lib.hid HP) | (refine wpList_st1 rfl 25 _ _ rfl HP.out rfl rfl (by simp) rfl rfl (by kernel_rfl) ?_; clear HP; intro wst HP; replace HP := Lib.hid HP) | (refine wpList_st2 rfl 25 _ _ rfl HP.out rfl rfl (by simp) rfl rfl (by kernel_rfl) ?_; clear HP; intro wst HP; replace HP := Lib.hid HP))
      refine wpList_nil ?_
      refine hK.out _ _ (HP.out.blkAt (.head _) 0) (fun hHeld => ?_)
      clear hK K hHeld HS0
      refine wpAnyH_done (by kernel_rfl) ?_ _
      ((try simp only [Exit.inBlock, Exit.then]); first | refine bodyPost_end (results_none rfl _ _ _) rfl ?_ | refine bodyPost_ret (results_none rfl _ _ _) rfl ?_)
      have HH := HP.out.drop (A := [])
      rw [HPZ.out, hi, HPC.out]
      refine ⟨rfl, .inr ⟨h8', .slice A' (s.frames.length + 1) c', ?_⟩⟩
      rw [frms_snoc]
      exact HH
end Go.Proofs.YtceilfmfidmfpaaDoor
namespace Go.Proofs.YtceilfmfidmfpaaDoor
open Go.RowKit
attribute [local irreducible] wpList Code.wp Oper.wp
/-- A run whose last function makes v. -/
def retS (p : Prg) (s : Sta) (fs : List Frm) (v : Int) : Sta := match fs.getLast? with
  | none => { s with frames := [], status := 1, value := v }
  | some g => { s with frames := fs.dropLast ++ [putF g (insAt p g).dst v] }
/-- Where an instruction lies. -/
theorem ins_at {w : World} {S : Nat → Prop} {p : Prg} {vP : Value} {f : Frm} (h : Lay.rep w S p [vP]) (ok : OkP p) (own : ownF p f) : ∃ (a ac : Addr) (c k j l cc : Nat) (x0 x1 : Value), vP = .slice (some a) p.funcs.length c ∧ f.fn = k ∧ f.pc = j ∧ k < p.funcs.length ∧ j < l ∧ S a.block ∧ S ac.block ∧
    At w (a.add (k * 3)) [x0, x1, .slice (some ac) l cc] ∧ At w (ac.add (j * 5)) [iV (insAt p f).op, iV (insAt p f).dst, iV (insAt p f).a, iV (insAt p f).b, iV (insAt p f).imm] ∧ l = (codeOf p f.fn).length ∧ l ≤ 40 ∧ OkI (insAt p f) l p.funcs.length := by
  obtain ⟨A, c, rfl, hc, hm, hx⟩ := rep_prg_at h
  obtain ⟨h1, h2, h3, h4⟩ := own
  obtain ⟨k, hk⟩ : ∃ k : Nat, f.fn = k := ⟨f.fn.toNat, by omega⟩
  obtain ⟨j, hj⟩ : ∃ j : Nat, f.pc = j := ⟨f.pc.toNat, by omega⟩
  have hkl : k < p.funcs.length := by omega
  obtain ⟨a, u, rfl, hab, hat, hcode⟩ := hx k hkl
  have hq := codeOf_eq (p := p) (k := k) (List.getElem?_eq_getElem hkl)
  rw [hk, hq, hj] at h4
  obtain ⟨A2, c2, rfl, hc2, hm2, hx2⟩ := rep_code_at hcode
  have hjl : j < p.funcs[k].code.length := by omega
  obtain ⟨a2, rfl, hab2, hat2⟩ := hx2 j hjl
  have hi := insAt_eq hk hj (List.getElem?_eq_getElem hkl) (List.getElem?_eq_getElem hjl)
  refine ⟨a, a2, c, k, j, _, c2, _, _, rfl, hk, hj, hkl, hjl, hab, hab2, hat, by rw [hi]; exact hat2, by rw [hk, hq], (ok.fns _ (List.getElem_mem hkl)).len.2, by rw [hi]; exact (ok.fns _ (List.getElem_mem hkl)).ins _ (List.getElem_mem hjl)⟩
theorem frms_put {gs : List Frm} {f : Frm} {q d k : Nat} (hq : gs.length = q) (hd : d < 12) (hk : k = q * 14 + (2 + d)) (v : Int) : (gs.flatMap frmCells ++ frmCells f).set k (iV v) = gs.flatMap frmCells ++ frmCells ⟨f.fn, f.pc, f.regs.setIfInBounds d v⟩ := by
  subst hk hq; rw [frms_set, frm_set _ _ hd]
theorem frms_pc {gs : List Frm} {f : Frm} {q k : Nat} (hq : gs.length = q) (hk : k = q * 14 + 1) (v : Int) : (gs.flatMap frmCells ++ frmCells f).set k (iV v) = gs.flatMap frmCells ++ frmCells ⟨f.fn, v, f.regs⟩ := by
  subst hk hq; rw [frms_set, frm_pc]
theorem frms_fn {gs : List Frm} {f : Frm} {q k : Nat} (hq : gs.length = q) (hk : k = q * 14) : (gs.flatMap frmCells ++ frmCells f)[k]? = some (iV f.fn) := by
  subst hk hq; exact (frms_at gs _ 0).trans rfl
theorem frms_pcAt {gs : List Frm} {f : Frm} {q k : Nat} (hq : gs.length = q) (hk : k = q * 14 + 1) : (gs.flatMap frmCells ++ frmCells f)[k]? = some (iV f.pc) := by
  subst hk hq; exact (frms_at gs _ 1).trans rfl
theorem frms_rg {gs : List Frm} {f : Frm} {q d k : Nat} (hq : gs.length = q) (hd : d < 12) (hk : k = q * 14 + (2 + d)) : (gs.flatMap frmCells ++ frmCells f)[k]? = some (iV (f.rg d)) := by
  subst hk hq; rw [frms_at, frm_reg _ _ hd]
theorem frms_lt {gs : List Frm} {f : Frm} {q k : Nat} (hq : gs.length = q) (hk : k < q * 14 + 14) : k < (gs.flatMap frmCells ++ frmCells f).length := by
  rw [List.length_append, frms_len, hq]; exact hk
set_option maxRecDepth 10000 in
set_option maxHeartbeats 1000000 in
theorem ret_any (s : Sta) (fs : List Frm) (f : Frm) (hfr : s.frames = fs ++ [f]) (F E A vP rE : Value) (tE : TypeId) (zE nE : Nat) (cE : List Value) (ge : Nat) (v : Int) (p : Prg) (w0 w : World) (Fs : List Fro) (L : List Res) (hl : s.frames.length ≤ 8) (ok : OkP p) (own : ∀ g ∈ s.frames, ownF p g) (G : Fro) (hG : G ∈ Fs) (hA : Lay.rep G.w G.S p [vP])
    (H : Hp w0 Fs (.blk ge 74 (engCells s F E A vP) :: .row F 39 14 s.frames.length (s.frames.flatMap frmCells) :: .row rE tE zE nE cE :: L) w) :
    Calls Tryd.prog 55 #[.pointer (some ⟨ge, 0, none⟩), iV v] w fun r w' => r = .returned (.tuple #[]) ∧ ∃ F', Hp w0 Fs (.blk ge 74 (engCells (retS p s fs v) F' E A vP) :: .row F' 39 14 (retS p s fs v).frames.length ((retS p s fs v).frames.flatMap frmCells) :: .row rE tE zE nE cE :: L) w' := by
  have HP := Lib.hid H
  have HA := Lib.hid hA
  obtain ⟨gF, c2, rfl⟩ := H.rowSome (v := F) (.tail _ (.head _)) (by rw [hfr]; simp)
  obtain ⟨_, _, e, hc2, hm2, -⟩ := rep_frames_at (H.rowFrames (.tail _ (.head _)) rfl)
  cases e
  unfold maxLen at hm2
  clear H
  unfold engCells at HP
  rcases List.eq_nil_or_concat fs with rfl | ⟨gs, g, hcat⟩
  · have hl1 : s.frames.length = 1 := by rw [hfr]; rfl
    rw [hl1] at HP hc2
    clear hA
    go_enter Tryd.func55, Tryd.ntmps55
    go_upto_region 0 with (fail)
    have hcf := HP.out.drew.cell (.head _) 2 _ rfl
    have hcf2 : ({ w with drawn := w.drawn + 1 } : World).cell? ⟨ge, 2, none⟩ = some (.slice (some ⟨gF, 0, none⟩) 1 c2) := hcf
    refine wp_region_still_tail 14 (by kernel_rfl) (by kernel_rfl) ?_
    simp only [List.take_succ_cons, List.take_zero, List.drop_succ_cons, List.drop_zero]
    repeat (first | still_step | simp only [show IntKind.i64.wrap 0 = 0 by decide])
    try refine wpStill_nil ?_
    clear hcf hcf2
    replace HP := Lib.hid HP.out.drew
    go_wp2_with (first | (refine wpList_ld0 rfl 25 _ rfl HP.out rfl rfl Tryd.underlying25 rfl ?_) | (refine wpList_ld1 rfl 25 _ rfl HP.out rfl rfl Tryd.underlying25 rfl ?_) | (refine wpList_st0 rfl 25 _ _ rfl HP.out rfl rfl (by simp) rfl rfl (by kernel_rfl) ?_; clear HP; intro wst HP; replace HP := Lib.hid HP) | (refine wpList_st1 rfl 25 _ _ rfl HP.out rfl rfl (by simp) rfl rfl (by kernel_rfl) ?_; clear HP; intro wst HP; replace HP := Lib.hid HP) | (refine wpList_st0 rfl 3 _ _ rfl HP.out rfl rfl (by simp) rfl rfl (by kernel_rfl) ?_; clear HP; intro wst HP; replace HP := Lib.hid HP) | (refine wpList_st1 rfl 3 _ _ rfl HP.out rfl rfl (by simp) rfl rfl (by kernel_rfl) ?_; clear HP; intro wst HP; replace HP := Lib.hid HP) | (go_at_call 51; refine (halt_any { s with value := v } _ _ _ _ _ _ _ _ _ _ HP.out).mono ?_; clear HP; rintro r w6 ⟨rfl, HP⟩; replace HP := Lib.hid HP))
    ((try simp only [Exit.inBlock, Exit.then]); first | refine bodyPost_end (results_none rfl _ _ _) rfl ?_ | refine bodyPost_ret (results_none rfl _ _ _) rfl ?_)
    have HH := HP.out.rowShrink (A := [_]) 0 (by omega)
    refine ⟨rfl, .slice (some ⟨gF, 0, none⟩) 0 c2, ?_⟩
    exact HH
  · rw [List.concat_eq_append] at hcat
    subst hcat
    have hl2 : s.frames.length = gs.length + 2 := by rw [hfr]; simp
    have hog : ownF p g := own g (by rw [hfr]; simp)
    obtain ⟨aP, ac, cP, k, j, l, cc, x0, x1, rfl, hgk, hgj, hkl, hjl, hSa, hSc, hat1, hat2, -, hl40, oki⟩ := ins_at hA ok hog
    obtain ⟨x, hx⟩ : ∃ x, insAt p g = x := ⟨_, rfl⟩
    rw [hx] at hat2 oki
    obtain ⟨d, hd⟩ : ∃ d : Nat, x.dst = d := ⟨x.dst.toNat, by have := oki.dst; omega⟩
    have hd11 : d ≤ 11 := by have := oki.dst; omega
    rw [hd] at hat2
    have hg0 : g = ⟨k, j, g.regs⟩ := by rw [← hgk, ← hgj]
    obtain ⟨rg, hrg⟩ : ∃ rg, g.regs = rg := ⟨_, rfl⟩
    rw [hrg] at hg0
    subst hg0
    have HRS := Lib.hid (show retS p s (gs ++ [⟨k, j, rg⟩]) v = { s with frames := gs ++ [⟨k, j + 1, rg.setIfInBounds d v⟩] } by unfold retS; simp [putF, hx, hd])
    obtain ⟨q, hq⟩ : ∃ q, gs.length = q := ⟨_, rfl⟩
    have HCS := Lib.hid (show s.frames.flatMap frmCells = (gs.flatMap frmCells ++ frmCells ⟨k, j, rg⟩) ++ frmCells f by rw [hfr, frms_snoc, frms_snoc])
    have HLN := Lib.hid (show (gs.flatMap frmCells).length = q * 14 by rw [frms_len, hq])
    have HQ := Lib.hid hq
    rw [hl2, hq] at HP hc2
    rw [hl2, hq] at hl
    rw [HCS.out] at HP
    have HAT1 := Lib.hid hat1
    have HAT2 := Lib.hid hat2
    clear hA hat1 hat2 hog hgk hgj hx hrg hl2 hq hfr own oki hd
    go_enter Tryd.func55, Tryd.ntmps55
    go_upto_region 0 with (fail)
    have hcf := HP.out.drew.cell (.head _) 2 _ rfl
    have hcf2 : ({ w with drawn := w.drawn + 1 } : World).cell? ⟨ge, 2, none⟩ = some (.slice (some ⟨gF, 0, none⟩) (q + 2) c2) := hcf
    refine wp_region_still_tail 14 (by kernel_rfl) (by kernel_rfl) ?_
    simp only [List.take_succ_cons, List.take_zero, List.drop_succ_cons, List.drop_zero]
    have hwr : IntKind.i64.wrap ((q : Int) + 2 - 1) = (q : Int) + 1 := by rw [IntKind.wrap_i64]; omega
    have hqc : q + 1 ≤ c2 := by omega
    have hqc2 : ((q : Int) + 1) ≤ (c2 : Int) := by omega
    have hqc3 : 0 ≤ ((q : Int) + 1) := by omega
    have hqc4 : ((q : Int) + 1).toNat = q + 1 := by omega
    repeat (first | still_step | fail)
    try refine wpStill_nil ?_
    clear hcf hcf2 hwr hqc2 hqc3 hqc4
    replace HP := Lib.hid HP.out.drew
    go_upto_region 1 with (first | (refine wpList_ld0 rfl 25 _ rfl HP.out rfl rfl Tryd.underlying25 rfl ?_) | (refine wpList_ld1 rfl 25 _ rfl HP.out rfl rfl Tryd.underlying25 rfl ?_) | (refine wpList_st0 rfl 25 _ _ rfl HP.out rfl rfl (by simp) rfl rfl (by kernel_rfl) ?_; clear HP; intro wst HP; replace HP := Lib.hid HP) | (refine wpList_st1 rfl 25 _ _ rfl HP.out rfl rfl (by simp) rfl rfl (by kernel_rfl) ?_; clear HP; intro wst HP; replace HP := Lib.hid HP))
    (try simp only [Act.put, List.setIfInBounds_toArray, List.set_cons_zero, List.set_cons_succ])
    have HTK : List.take ((q + 1) * 14) ((gs.flatMap frmCells ++ frmCells ⟨k, j, rg⟩) ++ frmCells f) = gs.flatMap frmCells ++ frmCells ⟨k, j, rg⟩ := List.take_left' (by rw [List.length_append, HLN.out]; show q * 14 + 14 = _; omega)
    have HH := HP.out.rowShrink (A := [_]) (q + 1) (by omega)
    rw [HTK] at HH
    replace HP := Lib.hid (show Hp w0 Fs (.blk ge 74 (engCells s (.slice (some ⟨gF, 0, none⟩) (q + 1) c2) E A (.slice (some aP) p.funcs.length cP)) :: .row (.slice (some ⟨gF, 0, none⟩) (q + 1) c2) 39 14 (q + 1) (gs.flatMap frmCells ++ frmCells ⟨k, j, rg⟩) :: .row rE tE zE nE cE :: L) _ from HH)
    unfold engCells at HP
    clear HH HTK
    have hqb : (((q : Int) + 1) == 0) = false := by rw [beq_eq_false_iff_ne]; omega
    go_upto_region 4 with (first | (refine wpList_ld0 rfl 25 _ rfl HP.out rfl rfl Tryd.underlying25 rfl ?_) | (refine wpList_ld1 rfl 25 _ rfl HP.out rfl rfl Tryd.underlying25 rfl ?_))
    have hwr : IntKind.i64.wrap ((q : Int) + 1 - 1) = (q : Int) := by rw [IntKind.wrap_i64]; omega
    have hqc3 : decide ((q : Int) < (q : Int) + 1) = true := decide_eq_true (by omega)
    have hcf := HP.out.cell (.head _) 2 _ rfl
    have hcf2 := HP.out.drew.cell (.head _) 2 _ rfl
    go_quiet (fail)
    replace HP := Lib.hid (HP.out.drewN nq)
    clear hcf hcf2 hwr hqc3
    go_upto_region 5 with (fail)
    generalize wst.drewN nq = wx at HP ⊢
    have HD := Lib.hid HP.out.drew
    have c1 : wx.cell? ⟨ge, 22, none⟩ = some (.slice (some aP) p.funcs.length cP) := HP.out.cell (.head _) 22 _ rfl
    have c2' : wx.cell? ⟨gF, q * 14, none⟩ = some (.int .i64 k) := HP.out.rowCell (g := gF) (.tail _ (.head _)) (q * 14 + 0) _ (by rw [← HQ.out, frms_at]; rfl)
    have c3 : wx.cell? ⟨gF, q * 14 + 1, none⟩ = some (.int .i64 j) := HP.out.rowCell (g := gF) (.tail _ (.head _)) (q * 14 + 1) _ (by rw [← HQ.out, frms_at]; rfl)
    have c4 : wx.cell? ⟨(aP.add (k * 3)).block, (aP.add (k * 3)).off + 2, none⟩ = some (.slice (some ac) l cc) := (HP.out.at_ hG HAT1.out (by rw [block_of_add]; exact hSa)).fld 1 rfl
    have c5 : wx.cell? ⟨(ac.add (j * 5)).block, (ac.add (j * 5)).off + 1, none⟩ = some (.int .i64 d) := (HP.out.at_ hG HAT2.out (by rw [block_of_add]; exact hSc)).fld 0 rfl
    refine wp_region_still_tail 23 (by kernel_rfl) (by kernel_rfl) ?_
    simp only [List.take_succ_cons, List.take_zero, List.drop_succ_cons, List.drop_zero]
    repeat still_step
    try refine wpStill_nil ?_
    clear c1 c2' c3 c4 c5
    replace HP := HD
    clear HD
    go_wp2_with (first | (refine wpList_stW1 rfl 3 _ _ rfl HP.out rfl rfl (frms_lt HQ.out (by omega)) rfl (frms_put (d := d) HQ.out (by omega) (by omega) _) (by kernel_rfl) ?_; clear HP; intro wst HP; replace HP := Lib.hid HP) | (refine wpList_stW1 rfl 3 _ _ rfl HP.out rfl rfl (frms_lt HQ.out (by omega)) rfl (frms_pc HQ.out (by omega) _) (by kernel_rfl) ?_; clear HP; intro wst HP; replace HP := Lib.hid HP) | (refine wpList_ldW1 rfl 3 _ rfl HP.out rfl (frms_pcAt HQ.out (by omega)) Tryd.underlying3 rfl ?_))
    ((try simp only [Exit.inBlock, Exit.then]); first | refine bodyPost_end (results_none rfl _ _ _) rfl ?_ | refine bodyPost_ret (results_none rfl _ _ _) rfl ?_)
    refine ⟨rfl, .slice (some ⟨gF, 0, none⟩) (q + 1) c2, ?_⟩
    rw [HRS.out]
    simp only
    rw [frms_snoc, List.length_append, HQ.out]
    exact HP.out
end Go.Proofs.YtceilfmfidmfpaaDoor
namespace Go.Proofs.YtceilfmfidmfpaaDoor
open Go.RowKit Plain64
theorem Hp.sub {w0 w : World} {Fs : List Fro} {L L' : List Res} (h : Hp w0 Fs L w) (hs : List.Sublist L' L) : Hp w0 Fs L' w := ⟨h.below, h.fro, fun r hr => h.own r (hs.subset hr), h.apart.sublist hs⟩
theorem Hp.pull {w0 w : World} {Fs : List Fro} {A B : List Res} {r : Res} (h : Hp w0 Fs (A ++ r :: B) w) : Hp w0 Fs (r :: (A ++ B)) w := h.perm List.perm_middle
theorem st_done {w0 w' : World} {Fs : List Fro} {F E A : Value} {t : Sta} {n m l : Nat} {cs ds es : List Value} (hn : t.frames.length = n) (hc : t.frames.flatMap frmCells = cs) (hm : t.events.length = m) (hd : t.events.map (Value.int .i64) = ds) (hl : t.answers.length = l) (he : t.answers.map (Value.int .i64) = es)
    (HP : Hp w0 Fs [.row F 39 14 n cs, .row E 3 1 m ds, .row A 3 1 l es] w') : Hp w0 Fs (ownS t F E A) w' := by
  subst hn hc hm hd hl he
  exact HP
theorem vset2 {n : Nat} (v : Vector Int n) (i : Nat) (a b : Int) : (v.setIfInBounds i a).setIfInBounds i b = v.setIfInBounds i b := by
  apply Vector.ext
  intro j hj
  simp only [Vector.getElem_setIfInBounds]
  split <;> rfl
end Go.Proofs.YtceilfmfidmfpaaDoor
