/- ref.oneBit, ref.hasBit; bits of small numbers. What a program that is refused by nothing is; what its instructions read. No program is named here. proof.reads. -/
import Derived.Test.YtfhoffpdodjfeaaDoorHpOps
import Derived.Test.YtfhoffpdodjfeaaDoorRows
import Derived.Test.YtfhoffpdodjfeaaDoorMgPr2
import Derived.Test.YtfhoffpdodjfeaaDoorData
import Derived.BigQuiet
set_option linter.unusedSimpArgs false
set_option linter.unusedVariables false
namespace Go.Proofs.YtfhoffpdodjfeaaDoor
open Go.RowKit Plain64
attribute [local irreducible] wpList Code.wp Oper.wp

theorem pow_pos' (k : Nat) : (1 : Int) ≤ 2 ^ k := by
  have : (0 : Int) < 2 ^ k := Int.pow_pos (by decide)
  omega
theorem pow_le' {j k : Nat} (h : j ≤ k) : (2 : Int) ^ j ≤ 2 ^ k := by
  have := Nat.pow_le_pow_right (n := 2) (by decide) h
  have e : ∀ n : Nat, ((2 ^ n : Nat) : Int) = 2 ^ n := fun n => by simp
  rw [← e, ← e]; omega
set_option maxHeartbeats 400000 in
theorem oneBit_any (k : Nat) (hk : k ≤ 60) (w : World) :
    Calls Tryd.prog 103 #[.int .i64 k] w fun e w' => e = .returned (.int .i64 (2 ^ k)) ∧ w = w' := by
  go_enter Tryd.func103, Tryd.ntmps103
  go_wp2
  go_loop [3, 4] (fun n i => ∃ (j : Nat) (m : Int), j ≤ k ∧ i = .int .i64 j ∧ n = .int .i64 m ∧ Hid (m = 2 ^ j) ∧ 1 ≤ m ∧ m ≤ 1152921504606846976) (fun _ i => k - (intOf i).toNat)
  case atStart => exact ⟨0, 1, by omega, rfl, rfl, Lib.hid rfl, by omega, by omega⟩
  case round =>
    obtain ⟨j, m, hj, rfl, rfl, hm, h1, h2⟩ := hrel
    by_cases hlt : j < k
    · have h3 : m * 2 ≤ 1152921504606846976 := by
        have := pow_le' (show j + 1 ≤ 60 by omega)
        rw [Int.pow_succ, ← hm.out] at this
        omega
      go_wp2
      go_round
      case rel => exact ⟨j + 1, m * 2, by omega, by go_num, by go_num, Lib.hid (by rw [hm.out, Int.pow_succ]), by omega, h3⟩
      case measure => simp [intOf]; omega
    · obtain rfl : j = k := by omega
      go_wp2
      go_ret
      exact ⟨ret_int hm.out, rfl⟩
set_option maxHeartbeats 400000 in
theorem hasBit_any (n : Int) (k : Nat) (hk : k ≤ 60) (hn : 0 ≤ n ∧ n ≤ 9223372036854775807) (w : World) :
    Calls Tryd.prog 70 #[.int .i64 n, .int .i64 k] w fun e w' => e = .returned (.bool (bitZ n k)) ∧ w = w' := by
  go_enter Tryd.func70, Tryd.ntmps70
  go_wp2
  go_loop [0, 5] (fun n' i => ∃ (j : Nat) (m : Int), j ≤ k ∧ i = .int .i64 j ∧ n' = .int .i64 m ∧ Hid (m = n / 2 ^ j) ∧ 0 ≤ m ∧ m ≤ 9223372036854775807) (fun _ i => k - (intOf i).toNat)
  case atStart => exact ⟨0, n, by omega, rfl, rfl, Lib.hid (by simp), hn.1, hn.2⟩
  case round =>
    obtain ⟨j, m, hj, rfl, rfl, hm, h1, h2⟩ := hrel
    by_cases hlt : j < k
    · go_wp2
      go_round
      case rel => exact ⟨j + 1, m / 2, by omega, by go_num, by go_num, Lib.hid (by rw [hm.out, half_step]), by omega, by omega⟩
      case measure => simp [intOf]; omega
    · obtain rfl : j = k := by omega
      go_wp2
      go_ret
      refine ⟨ret_bool ?_, rfl⟩
      rw [bitZ, ← hm.out, Bool.eq_iff_iff]
      simp
end Go.Proofs.YtfhoffpdodjfeaaDoor
namespace Go.Proofs.YtfhoffpdodjfeaaDoor
open Go.RowKit Plain64
structure OkI (x : Ins) (len funcs : Nat) : Prop where
  op : 1 ≤ x.op ∧ x.op ≤ 19
  dst : 0 ≤ x.dst ∧ x.dst ≤ 11
  a : 0 ≤ x.a ∧ x.a ≤ 11
  b : 0 ≤ x.b ∧ x.b ≤ 11
  tgt : x.op = 15 ∨ x.op = 16 → 0 ≤ x.imm ∧ x.imm < len
  cal : x.op = 17 → 0 ≤ x.imm ∧ x.imm < funcs
structure OkF (f : Fun) (funcs : Nat) : Prop where
  regs : 1 ≤ f.regs ∧ f.regs ≤ 12
  params : 0 ≤ f.params ∧ f.params ≤ 2 ∧ f.params ≤ f.regs
  len : 1 ≤ f.code.length ∧ f.code.length ≤ 40
  ins : ∀ x ∈ f.code, OkI x f.code.length funcs
structure OkP (p : Prg) : Prop where
  len : 1 ≤ p.funcs.length ∧ p.funcs.length ≤ 4
  fns : ∀ f ∈ p.funcs, OkF f p.funcs.length
theorem okI_of {x : Ins} {regs : Int} {len funcs : Nat} (h : insFault x regs len funcs = 0) (hr : regs ≤ 12) : OkI x len funcs := by
  unfold insFault at h
  by_cases h1 : 1 ≤ x.op ∧ x.op ≤ 19
  · rw [if_neg (by simpa using h1)] at h
    by_cases h2 : (regMayZ x.dst (setsZ x.op) regs && regMayZ x.a (readsAZ x.op) regs && regMayZ x.b (readsBZ x.op) regs && immMayZ x len funcs) = true
    · simp only [Bool.and_eq_true] at h2
      obtain ⟨⟨⟨d, a⟩, b⟩, i⟩ := h2
      have fld : ∀ (n : Int) (is : Bool), regMayZ n is regs = true → 0 ≤ n ∧ n ≤ 11 := fun n is hh => by
        unfold regMayZ at hh
        cases is
        · simp at hh; omega
        · simp at hh; omega
      refine ⟨h1, fld _ _ d, fld _ _ a, fld _ _ b, fun ht => ?_, fun ht => ?_⟩
      · unfold immMayZ at i
        rw [if_pos ht] at i
        simp at i; omega
      · unfold immMayZ at i
        rw [if_neg (by omega), if_pos ht] at i
        simp at i; omega
    · rw [if_neg h2] at h; cases h
  · rw [if_pos h1] at h; cases h
theorem okF_of {f : Fun} {funcs : Nat} (h : funFault f funcs = 0) : OkF f funcs := by
  unfold funFault at h
  by_cases h1 : 1 ≤ f.regs ∧ f.regs ≤ 12 ∧ 0 ≤ f.params ∧ f.params ≤ 2 ∧ f.params ≤ f.regs
  · rw [if_neg (by simpa using h1)] at h
    by_cases h2 : 1 ≤ f.code.length ∧ f.code.length ≤ 40
    · rw [if_neg (by simpa using h2)] at h
      exact ⟨⟨h1.1, h1.2.1⟩, h1.2.2, h2, fun x hx => okI_of (firstZ_eq_zero.1 h _ (List.mem_map.2 ⟨x, hx, rfl⟩)) h1.2.1⟩
    · rw [if_pos h2] at h; cases h
  · rw [if_pos h1] at h; cases h
theorem okP_of {p : Prg} (h : prgFault p = 0) : OkP p := by
  unfold prgFault at h
  by_cases h1 : 1 ≤ p.funcs.length ∧ p.funcs.length ≤ 4
  · rw [if_neg (by simpa using h1)] at h
    exact ⟨h1, fun f hf => okF_of (firstZ_eq_zero.1 h _ (List.mem_map.2 ⟨f, hf, rfl⟩))⟩
  · rw [if_pos h1] at h; cases h
/-- The parameters of a program's function. -/
def parZ (p : Prg) (k : Int) : Int := ((p.funcs[k.toNat]?).map Fun.params).getD 0
/-- P1.1: what an instruction reads. -/
def readsL (p : Prg) (x : Ins) : List Int :=
  (if readsAZ x.op && (decide (x.op ≠ 17) || decide (0 < parZ p x.imm)) then [x.a] else []) ++ (if readsBZ x.op && (decide (x.op ≠ 17) || decide (1 < parZ p x.imm)) then [x.b] else [])
/-- Registers as bits. -/
def bitsL : List Int → Int
  | [] => 0
  | [a] => 2 ^ a.toNat
  | a :: b :: _ => if a = b then 2 ^ a.toNat else 2 ^ a.toNat + 2 ^ b.toNat
theorem small (x : Int) (h : 0 ≤ x ∧ x ≤ 11) : x = 0 ∨ x = 1 ∨ x = 2 ∨ x = 3 ∨ x = 4 ∨ x = 5 ∨ x = 6 ∨ x = 7 ∨ x = 8 ∨ x = 9 ∨ x = 10 ∨ x = 11 := by omega
theorem or_bits_nat : ∀ a b : Fin 12, bits .or .i64 (2 ^ a.1) (2 ^ b.1) = if (a.1 : Int) = b.1 then 2 ^ a.1 else 2 ^ a.1 + 2 ^ b.1 := by decide +kernel
theorem or_bits (a b : Int) (ha : 0 ≤ a ∧ a ≤ 11) (hb : 0 ≤ b ∧ b ≤ 11) : bits .or .i64 (2 ^ a.toNat) (2 ^ b.toNat) = bitsL [a, b] := by
  have := or_bits_nat ⟨a.toNat, by omega⟩ ⟨b.toNat, by omega⟩
  simp only at this
  rw [this]
  show _ = if a = b then (2 : Int) ^ a.toNat else 2 ^ a.toNat + 2 ^ b.toNat
  by_cases e : a = b
  · rw [if_pos e, if_pos (by omega)]
  · rw [if_neg e, if_neg (by omega)]
theorem pow_small (a : Int) (ha : 0 ≤ a ∧ a ≤ 11) : 1 ≤ (2 : Int) ^ a.toNat ∧ (2 : Int) ^ a.toNat ≤ 2048 := by
  rcases small a ha with rfl | rfl | rfl | rfl | rfl | rfl | rfl | rfl | rfl | rfl | rfl | rfl <;> decide
end Go.Proofs.YtfhoffpdodjfeaaDoor
namespace Go.Proofs.YtfhoffpdodjfeaaDoor
open Go.RowKit Plain64
attribute [local irreducible] wpList Code.wp Oper.wp
theorem rep_prg_at {p : Prg} {u : Value} {w : World} {S : Nat → Prop} (h : Lay.rep w S p [u]) : ∃ (A : Option Addr) (c : Nat), u = .slice A p.funcs.length c ∧ p.funcs.length ≤ c ∧ c ≤ maxLen ∧
    ∀ (k : Nat) (hk : k < p.funcs.length), ∃ (a : Addr) (v : Value), A = some a ∧ S a.block ∧ At w (a.add (k * 3)) [.int .i64 p.funcs[k].params, .int .i64 p.funcs[k].regs, v] ∧ Lay.rep w S p.funcs[k].code [v] := rep_funs_at (rep_prg.1 h)
theorem index0 (a b c : Int) (w : World) : (Instr.index 126 (.agg #[.int .i64 a, .int .i64 b, .int .i64 c]) (.int .i64 0)).run Tryd.prog w = .ok (.int .i64 a) w := by kernel_rfl
theorem index1 (a b c : Int) (w : World) : (Instr.index 126 (.agg #[.int .i64 a, .int .i64 b, .int .i64 c]) (.int .i64 1)).run Tryd.prog w = .ok (.int .i64 b) w := by kernel_rfl
theorem index2 (a b c : Int) (w : World) : (Instr.index 126 (.agg #[.int .i64 a, .int .i64 b, .int .i64 c]) (.int .i64 2)).run Tryd.prog w = .ok (.int .i64 c) w := by kernel_rfl
set_option maxRecDepth 10000 in
set_option maxHeartbeats 1000000 in
theorem reads_any (p : Prg) (u : Value) (x : Ins) (len : Nat) (w : World) (hp : Lay.rep w (Lt w.heap.size) p [u]) (ok : OkP p) (okx : OkI x len p.funcs.length) :
    Calls Tryd.prog 89 #[.agg #[u], .agg #[.int .i64 x.op, .int .i64 x.dst, .int .i64 x.a, .int .i64 x.b, .int .i64 x.imm]] w fun e w' => e = .returned (.int .i64 (bitsL (readsL p x))) ∧ Below w.heap.size w w' := by
  obtain ⟨A, c, rfl, hc, hm, hx⟩ := rep_prg_at hp
  unfold maxLen at hm
  have HX := Lib.hid hx
  have HO := Lib.hid okx
  have HK := Lib.hid ok
  obtain ⟨a1, a2⟩ := okx.a
  obtain ⟨b1, b2⟩ := okx.b
  obtain ⟨n1, n2⟩ := ok.len
  clear hx hp ok okx
  have HP := Lib.hid (Hp.start w)
  go_enter Tryd.func89, Tryd.ntmps89
  go_upto_region 1 with (first | (refine wpList_box_hp (o := ⟨some 2, _, _, _, _, _⟩) rfl _ _ rfl HP.out [_] rfl ?_; clear HP; intro g2 w2 HP; replace HP := Lib.hid HP) | (refine wpList_box_hp (o := ⟨some 3, _, _, _, _, _⟩) rfl _ _ rfl HP.out [_, _, _, _, _] rfl ?_; clear HP; intro g3 w3 HP; replace HP := Lib.hid HP))
  have ha := HP.out.cell (.head _) 2 _ rfl
  have hb := HP.out.cell (.head _) 3 _ rfl
  have hop := HP.out.cell (.head _) 0 _ rfl
  have himm := HP.out.cell (.head _) 4 _ rfl
  have hfs := HP.out.cell (.tail _ (.head _)) 0 _ rfl
  have ea : wrap64 (2 ^ x.a.toNat) = 2 ^ x.a.toNat := by have := pow_small x.a ⟨a1, a2⟩; unfold wrap64; omega
  have eb : wrap64 (2 ^ x.b.toNat) = 2 ^ x.b.toNat := by have := pow_small x.b ⟨b1, b2⟩; unfold wrap64; omega
  by_cases h17 : x.op = 17
  · obtain ⟨i1, i2⟩ := HO.out.cal h17
    obtain ⟨k, hk⟩ := Int.eq_ofNat_of_zero_le i1
    have hkl : k < p.funcs.length := by omega
    have hki : (k : Int) < (p.funcs.length : Int) := by omega
    obtain ⟨ad, v, rfl, hab, hat, _⟩ := HX.out k hkl
    have hpar : parZ p x.imm = p.funcs[k].params := by unfold parZ; rw [hk]; simp [hkl]
    have hq := (HK.out.fns _ (List.getElem_mem hkl)).params
    have hcp := (HP.out.at_ (F := ⟨w, Lt w.heap.size⟩) (by simp) hat (by rw [block_of_add]; exact hab)).cell 0 rfl
    have e0 : (ad.add (k * 3)).add 0 = ad.add (k * 3) := by simp [Addr.add]
    rw [e0] at hcp
    have HO17 := Lib.hid h17
    have HPAR := Lib.hid hpar
    rw [hk] at himm
    rw [h17] at hop
    have HKK := Lib.hid hk
    obtain ⟨r, hr⟩ : ∃ r, p.funcs[k].params = r := ⟨_, rfl⟩
    rw [hr] at hcp hq HPAR
    clear h17 hk hpar hat hr e0 i1 i2
    have hr3 : r = 0 ∨ r = 1 ∨ r = 2 := by omega
    clear hq
    rcases hr3 with rfl | rfl | rfl
    all_goals
      go_quiet (fail)
      have i0 := index0
      have i1 := index1
      have i2 := index2
      go_wp2
      go_ret
      refine ⟨ret_int ?_, (HP.out.drewN nq).below⟩
      unfold readsL
      rw [HPAR.out, HO17.out]
      first | rfl | exact or_bits _ _ ⟨a1, a2⟩ ⟨b1, b2⟩
  · have h17b : (x.op == 17) = false := by simpa using h17
    have HN := Lib.hid h17
    clear h17
    go_quiet (fail)
    go_wp2
    all_goals
      go_ret
      refine ⟨ret_int ?_, (HP.out.drewN nq).below⟩
      have h17 := HN.out
      simp only [beq_iff_eq, beq_eq_false_iff_ne, ne_eq] at *
      have h1 := HO.out.op
      unfold readsL
      (try rw [ea]); (try rw [eb])
      first
        | (rw [show readsAZ x.op = false by unfold readsAZ; simp; omega, show readsBZ x.op = false by unfold readsBZ; simp; omega]; rfl)
        | (rw [show readsAZ x.op = true by unfold readsAZ; simp; omega, show readsBZ x.op = false by unfold readsBZ; simp; omega, decide_eq_true h17]; rfl)
        | (rw [show readsAZ x.op = true by unfold readsAZ; simp; omega, show readsBZ x.op = true by unfold readsBZ; simp; omega, decide_eq_true h17]; exact or_bits _ _ ⟨a1, a2⟩ ⟨b1, b2⟩)
end Go.Proofs.YtfhoffpdodjfeaaDoor
