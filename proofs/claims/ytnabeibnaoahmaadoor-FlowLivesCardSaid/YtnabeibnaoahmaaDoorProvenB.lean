/- proof.Check. -/
import Derived.Test.YtnabeibnaoahmaaDoorProven
set_option linter.unusedSimpArgs false
set_option linter.unusedVariables false
namespace Go.Proofs.YtnabeibnaoahmaaDoor
open Go.RowKit Plain64
attribute [local irreducible] wpList Code.wp Oper.wp
theorem proven_bad {p : Prg} (h : prgFault p ≠ 0) : proven p = prgFault p := by unfold proven; rw [if_pos h]
theorem proven_at {p : Prg} (h : prgFault p = 0) (k : Nat) (hk : k < p.funcs.length) (hz : ∀ f ∈ p.funcs.take k, provenF p f = 0) (hne : provenF p p.funcs[k] ≠ 0) : proven p = provenF p p.funcs[k] := by
  unfold proven; rw [if_neg (by simpa using h)]; exact firstZ_map_at _ _ k hk hz hne
theorem proven_all {p : Prg} (h : prgFault p = 0) (hz : ∀ f ∈ p.funcs, provenF p f = 0) : proven p = 0 := by
  unfold proven; rw [if_neg (by simpa using h)]
  exact firstZ_eq_zero.2 fun y hy => by obtain ⟨f, hf, rfl⟩ := List.mem_map.1 hy; exact hz f hf
set_option maxRecDepth 10000 in
set_option maxHeartbeats 2000000 in
theorem proofCheck_any (p : Prg) (u : Value) (w : World) (hp : Lay.rep w (Lt w.heap.size) p [u]) (hh : Has w) :
    Calls Tryd.prog 25 #[.agg #[u]] w fun e w' => e = .returned (.int .i64 (proven p)) ∧ Below w.heap.size w w' := by
  obtain ⟨A, c, rfl, hc, hm, hx⟩ := rep_prg_at hp
  unfold maxLen at hm
  have HX := Lib.hid hx
  have HR := Lib.hid hp
  have HH := Lib.hid hh
  clear hx hp hh
  have HP := Lib.hid (Hp.start w)
  by_cases hz : prgFault p = 0
  · have ok := okP_of hz
    have HOK := Lib.hid ok
    obtain ⟨n1, n2⟩ := ok.len
    clear ok
    have HZ := Lib.hid hz
    clear hz
    go_enter Tryd.func25, Tryd.ntmps25
    go_wp2_with (first | (refine wpList_box_hp (o := ⟨some 1, _, _, _, _, _⟩) rfl _ _ rfl HP.out [_] rfl ?_; clear HP; intro g1 w1 HP; replace HP := Lib.hid HP) | (refine wpList_ldR0 rfl 24 _ rfl HP.out rfl Tryd.underlying24 rfl (by kernel_rfl) ?_) | (refine wpList_ld0 rfl 22 _ rfl HP.out rfl rfl Tryd.underlying22 rfl ?_) | (go_at_call 54; refine (codeCheck_any p _ _ (HP.out.rep (F := ⟨w, Lt w.heap.size⟩) (by simp) HR.out) (HH.out.keep HP.out.below rfl)).mono ?_; rintro e w4 ⟨rfl, hb⟩; replace HP := Lib.hid (HP.out.call0 hb); clear hb; rw [HZ.out]))
    go_loopw [15] (fun i wr => ∃ (k : Nat), k ≤ p.funcs.length ∧ i = .int .i64 k ∧ Hid (∀ f ∈ p.funcs.take k, provenF p f = 0) ∧ Hid (Hp w [{ w := w, S := Lt w.heap.size }] [Res.blk g1 24 [Value.slice A p.funcs.length c]] wr)) (fun i _ => p.funcs.length - (intOf i).toNat)
    case atStart => exact ⟨0, by omega, rfl, Lib.hid (fun f hf => by simp at hf), HP⟩
    case round =>
      clear HP
      obtain ⟨k, hk, rfl, HU, HP⟩ := hrel
      obtain ⟨wo, rfl⟩ : ∃ wo : World, wo = wr := ⟨_, rfl⟩
      by_cases hlt : k < p.funcs.length
      · have hlt2 : (k : Int) < (p.funcs.length : Int) := by omega
        obtain ⟨ad, v, rfl, hab, hat, hcode⟩ := HX.out k hlt
        have HBAD := Lib.hid (proven_at HZ.out k hlt HU.out)
        obtain ⟨f, hf⟩ : ∃ f, p.funcs[k] = f := ⟨_, rfl⟩
        rw [hf] at hat hcode HBAD
        have HF := Lib.hid (show p.funcs[k]? = some f by rw [← hf, List.getElem?_eq_getElem hlt])
        have HOF := Lib.hid (HOK.out.fns f (hf ▸ List.getElem_mem hlt))
        clear hf
        have HC := Lib.hid hcode
        obtain ⟨A2, c2, rfl, hc2, hm2, hx2⟩ := rep_code hcode
        unfold maxLen at hm2
        have HAT := Lib.hid hat
        clear hat hx2 hcode
        obtain ⟨e1, he1⟩ : ∃ e1, provenF p f = e1 := ⟨_, rfl⟩
        have HE1 := Lib.hid he1
        clear he1
        have HV2 := HC
        go_upto_region 7 with (first | (refine wpList_ld0 rfl 22 _ rfl HP.out rfl rfl Tryd.underlying22 rfl ?_) | (refine wpList_ld1 rfl 22 _ rfl HP.out rfl rfl Tryd.underlying22 rfl ?_) | (refine wpList_load_at rfl 57 _ rfl _ rfl _ _ (HP.out.at_ (F := ⟨w, Lt w.heap.size⟩) (by simp) HAT.out (by rw [block_of_add]; exact hab)) Tryd.underlying57 rfl (by kernel_rfl) ?_) | (refine wpList_alloc_hp (o := ⟨some 5, _, _, _, _, _⟩) rfl _ rfl HP.out (.agg #[.int .i64 0, .int .i64 0, .slice none 0 0]) (by kernel_rfl) [_, _, _] rfl ?_; clear HP; intro g5 w5 HP; replace HP := Lib.hid HP) | (refine wpList_stR0 rfl 57 _ _ rfl HP.out rfl (cs' := [_, _, _]) rfl rfl (by simp [Value.oneCell']) (by kernel_rfl) ?_; clear HP; intro wst HP; replace HP := Lib.hid HP))
        clear HV2
        by_cases he0 : e1 = 0
        · subst he0
          go_wp2_with (first | (refine wpList_ldR0 rfl 24 _ rfl HP.out rfl Tryd.underlying24 rfl (by kernel_rfl) ?_) | (refine wpList_ldR1 rfl 24 _ rfl HP.out rfl Tryd.underlying24 rfl (by kernel_rfl) ?_) | (refine wpList_ldR0 rfl 57 _ rfl HP.out rfl Tryd.underlying57 rfl (by kernel_rfl) ?_) | (refine wpList_ldR1 rfl 57 _ rfl HP.out rfl Tryd.underlying57 rfl (by kernel_rfl) ?_) | (go_at_call 55; refine (function_any p f _ _ _ (HP.out.rep (F := ⟨w, Lt w.heap.size⟩) (by simp) HR.out) (HP.out.rep (F := ⟨w, Lt w.heap.size⟩) (by simp) HC.out) HOK.out HOF.out).mono ?_; rintro e w8 ⟨rfl, hb8⟩; replace HP := Lib.hid (HP.out.call0 hb8); clear hb8; rw [HE1.out]))
          go_roundw
          case rel =>
            refine ⟨k + 1, by omega, by go_num, Lib.hid fun g hg => ?_, Lib.hid (Hp.drop (A := []) HP.out)⟩
            rw [List.take_add_one, HF.out] at hg
            rcases List.mem_append.1 hg with hg | hg
            · exact HU.out g hg
            · obtain rfl : g = f := by simpa using hg
              exact HE1.out
          case measure => simp [intOf]; omega
        · have HNE := Lib.hid he0
          have hzb : (e1 != 0) = true := by simpa using he0
          clear he0
          go_wp2_with (first | (refine wpList_ldR0 rfl 24 _ rfl HP.out rfl Tryd.underlying24 rfl (by kernel_rfl) ?_) | (refine wpList_ldR1 rfl 24 _ rfl HP.out rfl Tryd.underlying24 rfl (by kernel_rfl) ?_) | (refine wpList_ldR0 rfl 57 _ rfl HP.out rfl Tryd.underlying57 rfl (by kernel_rfl) ?_) | (refine wpList_ldR1 rfl 57 _ rfl HP.out rfl Tryd.underlying57 rfl (by kernel_rfl) ?_) | (go_at_call 55; refine (function_any p f _ _ _ (HP.out.rep (F := ⟨w, Lt w.heap.size⟩) (by simp) HR.out) (HP.out.rep (F := ⟨w, Lt w.heap.size⟩) (by simp) HC.out) HOK.out HOF.out).mono ?_; rintro e w8 ⟨rfl, hb8⟩; replace HP := Lib.hid (HP.out.call0 hb8); clear hb8; rw [HE1.out]))
          go_ret
          exact ⟨ret_int (by rw [HBAD.out (by rw [HE1.out]; exact HNE.out), HE1.out]), HP.out.below⟩
      · obtain rfl : k = p.funcs.length := by omega
        have HALL := Lib.hid (proven_all HZ.out (by have := HU.out; rwa [List.take_of_length_le (Nat.le_refl _)] at this))
        go_wp2_with fail
        go_ret
        exact ⟨ret_int HALL.out.symm, HP.out.below⟩
  · have HANS := Lib.hid (proven_bad hz)
    obtain ⟨e0, he0⟩ : ∃ e0, prgFault p = e0 := ⟨_, rfl⟩
    rw [he0] at hz HANS
    have HE0 := Lib.hid he0
    have hzb : (e0 != 0) = true := by simpa using hz
    clear he0 hz
    go_enter Tryd.func25, Tryd.ntmps25
    go_wp2_with (first | (refine wpList_box_hp (o := ⟨some 1, _, _, _, _, _⟩) rfl _ _ rfl HP.out [_] rfl ?_; clear HP; intro g1 w1 HP; replace HP := Lib.hid HP) | (refine wpList_ldR0 rfl 24 _ rfl HP.out rfl Tryd.underlying24 rfl (by kernel_rfl) ?_) | (go_at_call 54; refine (codeCheck_any p _ _ (HP.out.rep (F := ⟨w, Lt w.heap.size⟩) (by simp) HR.out) (HH.out.keep HP.out.below rfl)).mono ?_; rintro e w4 ⟨rfl, hb⟩; replace HP := Lib.hid (HP.out.call0 hb); clear hb; rw [HE0.out]))
    go_ret
    exact ⟨ret_int HANS.out.symm, HP.out.below⟩
end Go.Proofs.YtnabeibnaoahmaaDoor
