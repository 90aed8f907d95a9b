/- (*cpu.machine).step. -/
import Derived.Test.YtfhoffpdodjfeaaDoorCpuDo
set_option linter.unusedSimpArgs false
set_option linter.unusedVariables false
namespace Go.Proofs.YtfhoffpdodjfeaaDoor
open Go.RowKit Plain64
attribute [local irreducible] wpList Code.wp Oper.wp
theorem doZ_err (op : Int) (rd r1 r2 : Nat) (imm : Int) (c : Cpv) (h : (doZ op rd r1 r2 imm c).2.2 ≠ 0) : (doZ op rd r1 r2 imm c).1 = c := by
  unfold doZ at *
  split at h
  · exact absurd rfl h
  rename_i h1
  split at h
  · exact absurd rfl h
  rename_i h2
  rw [if_neg h1, if_neg h2]
  split at h
  · rename_i h3
    rw [if_pos h3]
    split at h
    · split at h <;> exact absurd rfl h
    · rename_i h4; rw [if_neg h4]
  rename_i h3
  rw [if_neg h3]
  split at h
  · exact absurd rfl h
  rename_i h4
  rw [if_neg h4]
  split at h
  · exact absurd rfl h
  rename_i h5
  rw [if_neg h5]
  split at h
  · rename_i h6
    rw [if_pos h6]
    split at h
    · exact absurd rfl h
    · rename_i h7; rw [if_neg h7]
  rename_i h6
  rw [if_neg h6]
  split at h <;> exact absurd rfl h
theorem stepC_out {ws : List Int} {c : Cpv} (h : ¬ (0 ≤ c.pc ∧ c.pc < ws.length)) : stepC ws c = (c, 8) := by unfold stepC; rw [if_neg h]
theorem stepC_dec {ws : List Int} {c : Cpv} {k : Nat} {x : Rvi} {e n : Int} (hp : c.pc = (k : Int)) (hk : k < ws.length) (hn : ws[k] = n) (hd : decAns n = (x, e)) (he : e ≠ 0) : stepC ws c = (c, 3) := by
  have hg : ws.getD c.pc.toNat 0 = n := by rw [hp, Int.toNat_natCast, List.getD_eq_getElem?_getD, List.getElem?_eq_getElem hk, hn]; rfl
  unfold stepC; rw [if_pos (by omega), hg, hd, if_neg he]
theorem stepC_do {ws : List Int} {c : Cpv} {k rd r1 r2 : Nat} {op imm n : Int} (hp : c.pc = (k : Int)) (hk : k < ws.length) (hn : ws[k] = n) (hd : decAns n = (⟨op, rd, r1, r2, imm⟩, 0)) {c2 : Cpv} {nx e2 : Int} (hz : doZ op rd r1 r2 imm c = (c2, nx, e2)) : stepC ws c = if e2 = 0 then ({ c2 with pc := nx }, 0) else (c, e2) := by
  have hg : ws.getD c.pc.toNat 0 = n := by rw [hp, Int.toNat_natCast, List.getD_eq_getElem?_getD, List.getElem?_eq_getElem hk, hn]; rfl
  unfold stepC; rw [if_pos (by omega), hg, hd, if_pos rfl]
  simp only [Int.toNat_natCast, hz]
/-- The numbers of what is decoded, as natural ones. -/
theorem dec_nat {n : Int} {x : Rvi} {e : Int} (hd : decAns n = (x, e)) (he : e = 0) : ∃ (op imm : Int) (rd r1 r2 : Nat), x = ⟨op, rd, r1, r2, imm⟩ ∧ (1 ≤ op ∧ op ≤ 29) ∧ rd < 32 ∧ r1 < 32 ∧ r2 < 32 ∧ (-1048576 ≤ imm ∧ imm ≤ 1048575) ∧ ((op = 21 ∨ (22 ≤ op ∧ op ≤ 25) ∨ op = 29) → rd = 0) := by
  have h := dec_ok (w := n) (by rw [hd]; exact he)
  rw [hd] at h
  obtain ⟨op, rd, r1, r2, imm⟩ := x
  obtain ⟨o, a, b, c, d, no⟩ := h
  dsimp only at *
  obtain ⟨rd, rfl⟩ : ∃ k : Nat, rd = (k : Int) := ⟨rd.toNat, by omega⟩
  obtain ⟨r1, rfl⟩ : ∃ k : Nat, r1 = (k : Int) := ⟨r1.toNat, by omega⟩
  obtain ⟨r2, rfl⟩ : ∃ k : Nat, r2 = (k : Int) := ⟨r2.toNat, by omega⟩
  exact ⟨op, imm, rd, r1, r2, rfl, o, by omega, by omega, by omega, d, fun h => by have := no h; omega⟩
set_option maxRecDepth 100000 in
set_option maxHeartbeats 4000000 in
theorem cstep_any (ws : List Int) (vw : Value) (c : Cpv) (gm : Nat) (w0 w : World) (Fs : List Fro) (L : List Res) (G : Fro) (hG : G ∈ Fs) (hw : Lay.rep G.w G.S ws [vw]) (hl : ws.length ≤ 32768) (ht : RvTabs w0)
    (H : Hp w0 Fs (.blk gm 89 (cpuCells c) :: L) w) :
    Calls Tryd.prog 57 #[.pointer (some ⟨gm, 0, none⟩), vw] w fun e w' => e = .returned (.int .i64 (stepC ws c).2) ∧ Hp w0 Fs (.blk gm 89 (cpuCells (stepC ws c).1) :: L) w' := by
  have HP := Lib.hid H
  have HT := Lib.hid ht
  have hrep := H.rep hG hw
  clear H ht hw
  obtain ⟨A, cap, rfl, hc, hm, hx⟩ := rep_ints_at hrep
  unfold maxLen at hm
  clear hrep
  have HPC := Lib.hid (cpu_pc c)
  by_cases hp : 0 ≤ c.pc ∧ c.pc < ws.length
  · obtain ⟨k, hk⟩ : ∃ k : Nat, c.pc = (k : Int) := ⟨c.pc.toNat, by omega⟩
    have hkl : k < ws.length := by omega
    have hpc : 0 ≤ c.pc ∧ c.pc < 32768 := by omega
    have HPCR := Lib.hid hpc
    have HKP := Lib.hid hk
    have HKL := Lib.hid hkl
    rw [hk] at HPC
    obtain ⟨a, rfl, hab, hca⟩ := hx k hkl
    obtain ⟨n, hn⟩ : ∃ n, ws[k] = n := ⟨_, rfl⟩
    replace hca : w.cell? (a.add k) = some (.int .i64 n) := by rw [← hn]; exact hca
    obtain ⟨x, hd⟩ : ∃ x, decAns n = x := ⟨_, rfl⟩
    obtain ⟨x, e⟩ := x
    have HN := Lib.hid hn
    have HD := Lib.hid hd
    have p1 : decide ((k : Int) < 0) = false := decide_eq_false (by omega)
    have p2 : decide ((ws.length : Int) ≤ (k : Int)) = false := decide_eq_false (by omega)
    have p2b : decide (ws.length ≤ k) = false := decide_eq_false (by omega)
    have p3 : (k : Int) < (ws.length : Int) := by omega
    have p4 : (0 : Int) ≤ (k : Int) := by omega
    clear hx hp hk hpc hab hn
    by_cases he : e = 0
    · obtain ⟨op, imm, rd, r1, r2, rfl, ho, hrd, hr1, hr2, him, -⟩ := dec_nat hd he
      subst he
      clear hd
      obtain ⟨z, hz⟩ : ∃ z, doZ op rd r1 r2 imm c = z := ⟨_, rfl⟩
      obtain ⟨c2, nx, e2⟩ := z
      have HS := Lib.hid (stepC_do HKP.out HKL.out HN.out HD.out hz)
      have HZE := Lib.hid (fun h => (doZ_err op rd r1 r2 imm c h).symm.trans (by rw [hz]))
      have HZ := Lib.hid hz
      clear hz
      have HO := Lib.hid ho
      clear ho
      have cg := HP.out.cell (.head _) 32 _ HPC.out
      go_enter Tryd.func57, Tryd.ntmps57
      go_upto_region 4 with (first | (refine wpList_ld0 rfl 3 _ rfl HP.out rfl HPC.out Tryd.underlying3 rfl ?_) | (refine wpList_ldW0 rfl 3 _ rfl HP.out rfl HPC.out Tryd.underlying3 rfl ?_) | (refine wpList_alloc_hp (o := ⟨some 5, _, _, _, _, _⟩) rfl _ rfl HP.out (.agg #[.int .i64 0, .int .i64 0, .int .i64 0, .int .i64 0, .int .i64 0]) (by kernel_rfl) [_, _, _, _, _] rfl ?_; clear HP; intro g5 w5 HP; replace HP := Lib.hid HP) | (refine wpList_stR0 rfl 102 _ _ rfl HP.out rfl (cs' := [_, _, _, _, _]) rfl rfl (by simp [Value.oneCell']) (by kernel_rfl) ?_; clear HP; intro wst HP; replace HP := Lib.hid HP) | (go_at_call 74; refine (rvDecode_any n _ (HT.out.keep HP.out.below rfl)).mono ?_; rintro e w7 ⟨rfl, hb⟩; replace HP := Lib.hid (HP.out.call0 hb); clear hb; rw [HD.out]))
      replace HP := Lib.hid (HP.out.perm (.swap _ _ _))
      by_cases he2 : e2 = 0
      · subst he2
        go_wp2_with (first | (refine wpList_ldR0 rfl 102 _ rfl HP.out rfl Tryd.underlying102 rfl (by kernel_rfl) ?_) | (refine wpList_ldR1 rfl 102 _ rfl HP.out rfl Tryd.underlying102 rfl (by kernel_rfl) ?_) | (go_at_call 75; refine (do_any op rd r1 r2 imm c gm w0 _ _ _ HO.out hrd hr1 hr2 him HPCR.out HP.out).mono ?_; clear HP; rintro e w7 ⟨rfl, HP⟩; rw [HZ.out] at HP ⊢; replace HP := Lib.hid HP) | (refine wpList_st0 rfl 3 _ _ rfl HP.out rfl rfl (by rw [cpu_len]; omega) rfl (cpu_setpc c2 _) (by kernel_rfl) ?_; clear HP; intro wst HP; replace HP := Lib.hid HP))
        (try simp only [Exit.inBlock, Exit.then])
        refine bodyPost_ret (results_tmp (by rfl) _ _ _) (by rfl) ?_
        rw [HS.out]
        exact ⟨rfl, HP.out.drop (A := [_])⟩
      · have e2b : (e2 != 0) = true := by simpa using he2
        have HE2 := Lib.hid he2
        have HC2 := Lib.hid (HZE.out (by rw [HZ.out]; exact he2))
        clear he2
        go_wp2_with (first | (refine wpList_ldR0 rfl 102 _ rfl HP.out rfl Tryd.underlying102 rfl (by kernel_rfl) ?_) | (refine wpList_ldR1 rfl 102 _ rfl HP.out rfl Tryd.underlying102 rfl (by kernel_rfl) ?_) | (go_at_call 75; refine (do_any op rd r1 r2 imm c gm w0 _ _ _ HO.out hrd hr1 hr2 him HPCR.out HP.out).mono ?_; clear HP; rintro e w7 ⟨rfl, HP⟩; rw [HZ.out] at HP ⊢; replace HP := Lib.hid HP))
        (try simp only [Exit.inBlock, Exit.then])
        refine bodyPost_ret (results_tmp (by rfl) _ _ _) (by rfl) ?_
        rw [HS.out, if_neg HE2.out]
        refine ⟨rfl, ?_⟩
        have h := HP.out.drop (A := [_])
        rw [← show c = c2 from HC2.out] at h
        exact h
    · have HS := Lib.hid (stepC_dec HKP.out HKL.out HN.out HD.out he)
      have eb : (e != 0) = true := by simpa using he
      clear he hd
      obtain ⟨op, rd, r1, r2, imm⟩ := x
      have cg := HP.out.cell (.head _) 32 _ HPC.out
      go_enter Tryd.func57, Tryd.ntmps57
      go_wp2_with (first | (refine wpList_ld0 rfl 3 _ rfl HP.out rfl HPC.out Tryd.underlying3 rfl ?_) | (refine wpList_ldW0 rfl 3 _ rfl HP.out rfl HPC.out Tryd.underlying3 rfl ?_) | (refine wpList_alloc_hp (o := ⟨some 5, _, _, _, _, _⟩) rfl _ rfl HP.out (.agg #[.int .i64 0, .int .i64 0, .int .i64 0, .int .i64 0, .int .i64 0]) (by kernel_rfl) [_, _, _, _, _] rfl ?_; clear HP; intro g5 w5 HP; replace HP := Lib.hid HP) | (refine wpList_stR0 rfl 102 _ _ rfl HP.out rfl (cs' := [_, _, _, _, _]) rfl rfl (by simp [Value.oneCell']) (by kernel_rfl) ?_; clear HP; intro wst HP; replace HP := Lib.hid HP) | (go_at_call 74; refine (rvDecode_any n _ (HT.out.keep HP.out.below rfl)).mono ?_; rintro e w7 ⟨rfl, hb⟩; replace HP := Lib.hid (HP.out.call0 hb); clear hb; rw [HD.out]))
      (try simp only [Exit.inBlock, Exit.then])
      refine bodyPost_ret (results_tmp (by rfl) _ _ _) (by rfl) ?_
      rw [HS.out]
      exact ⟨rfl, HP.out.drop (A := [])⟩
  · have HS := Lib.hid (stepC_out hp)
    have hq : decide (c.pc < 0) = true ∨ (decide (c.pc < 0) = false ∧ decide ((ws.length : Int) ≤ c.pc) = true) := by
      by_cases h : c.pc < 0
      · left; exact decide_eq_true h
      · right; exact ⟨decide_eq_false h, decide_eq_true (by omega)⟩
    clear hp hx
    rcases hq with p1 | ⟨p1, p2⟩
    all_goals
      have cg := HP.out.cell (.head _) 32 _ HPC.out
      go_enter Tryd.func57, Tryd.ntmps57
      go_wp2_with (first | (refine wpList_ld0 rfl 3 _ rfl HP.out rfl HPC.out Tryd.underlying3 rfl ?_) | (refine wpList_ldW0 rfl 3 _ rfl HP.out rfl HPC.out Tryd.underlying3 rfl ?_))
      (try simp only [Exit.inBlock, Exit.then])
      refine bodyPost_ret (results_tmp (by rfl) _ _ _) (by rfl) ?_
      rw [HS.out]
      exact ⟨rfl, HP.out⟩
end Go.Proofs.YtfhoffpdodjfeaaDoor
