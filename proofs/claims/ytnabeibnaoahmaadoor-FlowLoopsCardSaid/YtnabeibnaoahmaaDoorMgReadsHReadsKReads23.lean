/- P3.4: what proof.Reads answers. Numbers of read registers as bits. proof.Reads. -/
import Derived.Test.YtnabeibnaoahmaaDoorMgReadsOfState2
set_option linter.unusedSimpArgs false
set_option linter.unusedVariables false
namespace Go.Proofs.YtnabeibnaoahmaaDoor
open Go.RowKit Plain64
attribute [local irreducible] wpList Code.wp Oper.wp
/-- P3.4. -/
def readsAns (p : Prg) (fn pc : Int) : Int × Int × Int :=
  if prgFault p ≠ 0 then (0, 0, prgFault p) else
  match p.funcs[fn.toNat]? with
  | none => (0, 0, 2)
  | some f => match f.code[pc.toNat]? with
    | none => (0, 0, 2)
    | some x => if fn < 0 ∨ pc < 0 then (0, 0, 2) else (bitsL (readsL p x), if setsZ x.op then 2 ^ x.dst.toNat else 0, 0)
theorem sets_ok (op : Int) (h : 1 ≤ op) : (decide (op ≤ 13) || decide (op = 17) || decide (op = 18)) = setsZ op := by
  unfold setsZ; rw [Bool.eq_iff_iff]; simp; omega
theorem and_all_nat : ∀ d : Fin 12, bits .and .i64 (2 ^ d.1) 4095 = 2 ^ d.1 := by decide +kernel
theorem and_all (d : Int) (h : 0 ≤ d ∧ d ≤ 11) : bits .and .i64 (2 ^ d.toNat) 4095 = 2 ^ d.toNat := and_all_nat ⟨d.toNat, by omega⟩
theorem and_all0 : bits .and .i64 0 4095 = 0 := by decide +kernel
theorem rep_code {f : List Ins} {u : Value} {w : World} {S : Nat → Prop} (h : Lay.rep w S f [u]) : ∃ (A : Option Addr) (c : Nat), u = .slice A f.length c ∧ f.length ≤ c ∧ c ≤ maxLen ∧
    ∀ (k : Nat) (hk : k < f.length), ∃ (a : Addr), A = some a ∧ S a.block ∧ At w (a.add (k * 5)) [.int .i64 f[k].op, .int .i64 f[k].dst, .int .i64 f[k].a, .int .i64 f[k].b, .int .i64 f[k].imm] := rep_code_at h
end Go.Proofs.YtnabeibnaoahmaaDoor
namespace Go.Proofs.YtnabeibnaoahmaaDoor
open Go.RowKit Plain64
attribute [local irreducible] wpList Code.wp Oper.wp
theorem bit_pow_nat : ∀ a b : Fin 12, bitZ (2 ^ a.1) b.1 = decide ((a.1 : Int) = b.1) := by decide +kernel
theorem readsL_len (p : Prg) (x : Ins) : (readsL p x).length ≤ 2 := by
  unfold readsL; split <;> split <;> simp
theorem readsL_in (p : Prg) (x : Ins) {len funcs : Nat} (h : OkI x len funcs) : ∀ a ∈ readsL p x, 0 ≤ a ∧ a ≤ 11 := by
  unfold readsL
  intro a ha
  rcases List.mem_append.1 ha with ha | ha
  · split at ha
    · rw [List.mem_singleton.1 ha]; exact h.a
    · cases ha
  · split at ha
    · rw [List.mem_singleton.1 ha]; exact h.b
    · cases ha
theorem bits_step (l : List Int) (hl : l.length ≤ 2) (hb : ∀ a ∈ l, 0 ≤ a ∧ a ≤ 11) (k : Nat) (hk : k < l.length) :
    bitsL (l.take (k + 1)) = (if bitZ (bitsL (l.take k)) l[k].toNat then bitsL (l.take k) else bitsL (l.take k) + 2 ^ l[k].toNat) ∧ 0 ≤ bitsL (l.take k) ∧ bitsL (l.take k) ≤ 4095 ∧ 0 ≤ bitsL (l.take (k + 1)) ∧ bitsL (l.take (k + 1)) ≤ 4095 := by
  match l, hl, hk with
  | [a], _, hk =>
    obtain rfl : k = 0 := by simpa using hk
    have := pow_small a (hb a (by simp))
    simp [bitsL, bitZ]; omega
  | [a, b], _, hk =>
    have h1 := pow_small a (hb a (by simp))
    have h2 := pow_small b (hb b (by simp))
    have h3 : 0 ≤ bitsL [a, b] ∧ bitsL [a, b] ≤ 4095 := by
      show 0 ≤ (if a = b then _ else _) ∧ (if a = b then _ else _) ≤ _
      by_cases e : a = b
      · rw [if_pos e]; omega
      · rw [if_neg e]
        have : (2 : Int) ^ a.toNat + 2 ^ b.toNat ≤ 4095 := by
          have hn : ∀ a b : Fin 12, a ≠ b → (2 : Int) ^ a.1 + 2 ^ b.1 ≤ 4095 := by decide +kernel
          have ha := hb a (by simp)
          have hb' := hb b (by simp)
          exact hn ⟨a.toNat, by omega⟩ ⟨b.toNat, by omega⟩ (fun h => e (by have := congrArg Fin.val h; simp at this; omega))
        omega
    have hk2 : k = 0 ∨ k = 1 := by simp at hk; omega
    rcases hk2 with rfl | rfl
    · refine ⟨by simp [bitsL, bitZ], by simp [bitsL], by simp [bitsL], by simp [bitsL]; omega, by simp [bitsL]; omega⟩
    · have ha := hb a (by simp)
      have hb' := hb b (by simp)
      have := bit_pow_nat ⟨a.toNat, by omega⟩ ⟨b.toNat, by omega⟩
      simp only at this
      refine ⟨?_, by simp [bitsL]; omega, by simp [bitsL]; omega, h3⟩
      show (if a = b then _ else _) = if bitZ (2 ^ a.toNat) b.toNat then _ else _
      rw [this]
      by_cases e : a = b
      · rw [if_pos e, if_pos (by simp; omega)]; rfl
      · rw [if_neg e, if_neg (by simp; omega)]; rfl
end Go.Proofs.YtnabeibnaoahmaaDoor
namespace Go.Proofs.YtnabeibnaoahmaaDoor
open Go.RowKit Plain64
attribute [local irreducible] wpList Code.wp Oper.wp
set_option maxRecDepth 10000 in
set_option maxHeartbeats 1000000 in
theorem Reads_any (p : Prg) (u : Value) (fn pc : Int) (w : World) (hp : Lay.rep w (Lt w.heap.size) p [u]) (hh : Has w) :
    Calls Tryd.prog 28 #[.agg #[u], .int .i64 fn, .int .i64 pc] w fun e w' => e = .returned (.tuple #[.int .i64 (readsAns p fn pc).1, .int .i64 (readsAns p fn pc).2.1, .int .i64 (readsAns p fn pc).2.2]) ∧ Below w.heap.size w w' := by
  obtain ⟨A, c, rfl, hc, hm, hx⟩ := rep_prg_at hp
  unfold maxLen at hm
  have HX := Lib.hid hx
  have HR := Lib.hid hp
  have HH := Lib.hid hh
  clear hx hp hh
  have HP := Lib.hid (Hp.start w)
  have HA : Hid (readsAns p fn pc = readsAns p fn pc) := Lib.hid rfl
  by_cases hz : prgFault p = 0
  · have ok := okP_of hz
    have HOK := Lib.hid ok
    obtain ⟨n1, n2⟩ := ok.len
    clear ok
    have HZ := Lib.hid hz
    clear hz
    go_enter Tryd.func28, Tryd.ntmps28
    go_upto_region 2 with (first | (refine wpList_box_hp (o := ⟨some 3, _, _, _, _, _⟩) rfl _ _ rfl HP.out [_] rfl ?_; clear HP; intro g3 w3 HP; replace HP := Lib.hid HP) | (refine wpList_ldR0 rfl 24 _ rfl HP.out rfl Tryd.underlying24 rfl (by kernel_rfl) ?_) | (go_at_call 54; refine (codeCheck_any p _ _ (HP.out.rep (F := ⟨w, Lt w.heap.size⟩) (by simp) HR.out) (HH.out.keep HP.out.below rfl)).mono ?_; rintro e w4 ⟨rfl, hb⟩; replace HP := Lib.hid (HP.out.call0 hb); clear hb; rw [HZ.out]))
    have hfs := HP.out.cell (.head _) 0 _ rfl
    by_cases hfn : 0 ≤ fn ∧ fn < p.funcs.length
    · obtain ⟨f1, f2⟩ := hfn
      obtain ⟨k, rfl⟩ := Int.eq_ofNat_of_zero_le f1
      have hkl : k < p.funcs.length := by omega
      obtain ⟨ad, v, rfl, hab, hat, hcode⟩ := HX.out k hkl
      obtain ⟨f, hf⟩ : ∃ f, p.funcs[k] = f := ⟨_, rfl⟩
      rw [hf] at hat hcode
      have HF := Lib.hid (show p.funcs[k]? = some f by rw [← hf, List.getElem?_eq_getElem hkl])
      have HOF := Lib.hid (HOK.out.fns f (hf ▸ List.getElem_mem hkl))
      clear hf
      obtain ⟨A2, c2, rfl, hc2, hm2, hx2⟩ := rep_code hcode
      unfold maxLen at hm2
      have HX2 := Lib.hid hx2
      clear hx2 hcode
      have hlen := HOF.out.len
      obtain ⟨l1, l2⟩ := hlen
      have hcl := (HP.out.at_ (F := ⟨w, Lt w.heap.size⟩) (by simp) hat (by rw [block_of_add]; exact hab)).fld 1 rfl
      have HAT := Lib.hid hat
      clear hat
      by_cases hpc : 0 ≤ pc ∧ pc < f.code.length
      · obtain ⟨q1, q2⟩ := hpc
        obtain ⟨j, rfl⟩ := Int.eq_ofNat_of_zero_le q1
        have hjl : j < f.code.length := by omega
        obtain ⟨a2, rfl, hab2, hat2⟩ := HX2.out j hjl
        obtain ⟨x, hx⟩ : ∃ x, f.code[j] = x := ⟨_, rfl⟩
        rw [hx] at hat2
        have HI := Lib.hid (show f.code[j]? = some x by rw [← hx, List.getElem?_eq_getElem hjl])
        have HOI := Lib.hid (HOF.out.ins x (hx ▸ List.getElem_mem hjl))
        clear hx
        have HAT2 := Lib.hid hat2
        clear hat2
        have hans : readsAns p (k : Int) (j : Int) = (bitsL (readsL p x), if setsZ x.op then 2 ^ x.dst.toNat else 0, 0) := by
          unfold readsAns
          rw [if_neg (by simpa using HZ.out)]
          simp only [Int.toNat_natCast, HF.out, HI.out]
          rw [if_neg (by omega)]
        have HANS := Lib.hid hans
        clear hans
        have hs1 := sets_ok x.op HOI.out.op.1
        obtain ⟨sb, hsb⟩ : ∃ sb, setsZ x.op = sb := ⟨_, rfl⟩
        rw [hsb] at hs1 HANS
        have HS1 := Lib.hid hs1
        clear hs1 hsb
        have hd := pow_small x.dst HOI.out.dst
        have ed : wrap64 (2 ^ x.dst.toNat) = 2 ^ x.dst.toNat := by unfold wrap64; omega
        have hand := and_all x.dst HOI.out.dst
        have hand0 := and_all0
        obtain ⟨d1, d2⟩ := HOI.out.dst
        go_wp2_with (first | (refine wpList_alloc_hp (o := ⟨some 10, _, _, _, _, _⟩) rfl _ rfl HP.out (.agg #[.int .i64 0, .int .i64 0, .int .i64 0, .int .i64 0, .int .i64 0]) (by kernel_rfl) [_, _, _, _, _] rfl ?_; clear HP; intro g10 w10 HP; replace HP := Lib.hid HP) | (refine wpList_ld0 rfl 22 _ rfl HP.out rfl rfl Tryd.underlying22 rfl ?_) | (refine wpList_ld1 rfl 22 _ rfl HP.out rfl rfl Tryd.underlying22 rfl ?_) | (refine wpList_load_at rfl 65 _ rfl _ rfl _ _ (HP.out.at_ (F := ⟨w, Lt w.heap.size⟩) (by simp) HAT2.out (by rw [block_of_add]; exact hab2)) Tryd.underlying65 rfl (by kernel_rfl) ?_) | (refine wpList_stR0 rfl 65 _ _ rfl HP.out rfl (cs' := [_, _, _, _, _]) rfl rfl (by simp [Value.oneCell']) (by kernel_rfl) ?_; clear HP; intro wst HP; replace HP := Lib.hid HP) | (refine wpList_ldR0 rfl 65 _ rfl HP.out rfl Tryd.underlying65 rfl (by kernel_rfl) ?_) | (refine wpList_ldR1 rfl 65 _ rfl HP.out rfl Tryd.underlying65 rfl (by kernel_rfl) ?_) | (refine wpList_ldR0 rfl 24 _ rfl HP.out rfl Tryd.underlying24 rfl (by kernel_rfl) ?_) | (refine wpList_ldR1 rfl 24 _ rfl HP.out rfl Tryd.underlying24 rfl (by kernel_rfl) ?_) | (refine wpList_ld0 rfl 3 _ rfl HP.out rfl rfl Tryd.underlying3 rfl ?_) | (refine wpList_ld1 rfl 3 _ rfl HP.out rfl rfl Tryd.underlying3 rfl ?_) | (go_at_call 58; refine (sets_any x _).mono ?_; rintro e w5 ⟨rfl, hb⟩; replace HP := Lib.hid (HP.out.call0 hb); clear hb; rw [HS1.out]; clear HS1; cases sb) | (go_at_call 59; refine (reads_any p _ x f.code.length _ (HP.out.rep (F := ⟨w, Lt w.heap.size⟩) (by simp) HR.out) HOK.out HOI.out).mono ?_; rintro e w6 ⟨rfl, hb⟩; replace HP := Lib.hid (HP.out.call0 hb); clear hb))
        all_goals
          go_ret3
          refine ⟨?_, HP.out.below⟩
          rw [HANS.out]
          rfl
      · have hans : readsAns p (k : Int) pc = (0, 0, 2) := by
          unfold readsAns
          rw [if_neg (by simpa using HZ.out)]
          simp only [Int.toNat_natCast, HF.out]
          rcases hq : f.code[pc.toNat]? with _ | x
          · rfl
          · have := (List.getElem?_eq_some_iff.1 hq).1
            simp only
            rw [if_pos (by omega)]
        have HANS := Lib.hid hans
        clear hans
        by_cases q1 : 0 ≤ pc
        · have q2 : (f.code.length : Int) ≤ pc := by omega
          clear hpc
          go_wp2
          go_ret3
          exact ⟨by rw [HANS.out]; rfl, HP.out.below⟩
        · have q2 : pc < 0 := by omega
          clear hpc q1
          go_wp2
          go_ret3
          exact ⟨by rw [HANS.out]; rfl, HP.out.below⟩
    · have hans : readsAns p fn pc = (0, 0, 2) := by
        unfold readsAns
        rw [if_neg (by simpa using HZ.out)]
        rcases hq : p.funcs[fn.toNat]? with _ | f
        · rfl
        · have := (List.getElem?_eq_some_iff.1 hq).1
          rcases hq2 : f.code[pc.toNat]? with _ | x
          · simp only [hq2]
          · simp only [hq2]
            rw [if_pos (by omega)]
      have HANS := Lib.hid hans
      clear hans
      by_cases q1 : 0 ≤ fn
      · have q2 : (p.funcs.length : Int) ≤ fn := by omega
        clear hfn
        go_wp2
        go_ret3
        exact ⟨by rw [HANS.out]; rfl, HP.out.below⟩
      · have q2 : fn < 0 := by omega
        clear hfn q1
        go_wp2
        go_ret3
        exact ⟨by rw [HANS.out]; rfl, HP.out.below⟩
  · have hans : readsAns p fn pc = (0, 0, prgFault p) := by unfold readsAns; rw [if_pos hz]
    have HANS := Lib.hid hans
    obtain ⟨e0, he0⟩ : ∃ e0, prgFault p = e0 := ⟨_, rfl⟩
    rw [he0] at hz HANS
    have HE0 := Lib.hid he0
    have hzb : (e0 != 0) = true := by simpa using hz
    clear hans he0 hz
    go_enter Tryd.func28, Tryd.ntmps28
    go_wp2_with (first | (refine wpList_box_hp (o := ⟨some 3, _, _, _, _, _⟩) rfl _ _ rfl HP.out [_] rfl ?_; clear HP; intro g3 w3 HP; replace HP := Lib.hid HP) | (refine wpList_ldR0 rfl 24 _ rfl HP.out rfl Tryd.underlying24 rfl (by kernel_rfl) ?_) | (go_at_call 54; refine (codeCheck_any p _ _ (HP.out.rep (F := ⟨w, Lt w.heap.size⟩) (by simp) HR.out) (HH.out.keep HP.out.below rfl)).mono ?_; rintro e w4 ⟨rfl, hb⟩; replace HP := Lib.hid (HP.out.call0 hb); clear hb; rw [HE0.out]))
    go_ret3
    exact ⟨by rw [HANS.out]; rfl, HP.out.below⟩
end Go.Proofs.YtnabeibnaoahmaaDoor
