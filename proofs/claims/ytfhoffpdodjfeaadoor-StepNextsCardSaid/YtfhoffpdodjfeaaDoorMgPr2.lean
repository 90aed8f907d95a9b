/- proof.next, proof.sets. Plain facts on numbers of 64 bits: no program is named here. -/
import Derived.Test.YtfhoffpdodjfeaaDoorHpOps
import Derived.Test.YtfhoffpdodjfeaaDoorRows
import Derived.Test.YtfhoffpdodjfeaaDoorData
import Derived.IntWalk
import Derived.Laws.BitsAllLaws
import Derived.Laws.BitsLemmas
set_option linter.unusedSimpArgs false
set_option linter.unusedVariables false
namespace Go.Proofs.YtfhoffpdodjfeaaDoor
open Go.RowKit
attribute [local irreducible] wpList Code.wp Oper.wp
def nextZ (x : Ins) (pc : Nat) : List Int := if x.op = 19 then [] else if x.op = 15 then [x.imm] else if x.op = 16 then [(pc : Int) + 1, x.imm] else [(pc : Int) + 1]
/-- What a call has made. -/
abbrev Fresh (w w' : World) : Nat → Prop := fun b => w.heap.size ≤ b ∧ b < w'.heap.size
theorem rep_ints_nil {w : World} {S : Nat → Prop} : Lay.rep w S ([] : List Int) [.slice none 0 0] := ⟨none, 0, rfl, Nat.le_refl _, by unfold maxLen; omega, fun k x h => by simp at h⟩
theorem Hp.ints {w0 w : World} {Fs : List Fro} {L : List Res} {g : Nat} {t : TypeId} {cs : List Value} {n : Nat} {xs : List Int} (h : Hp w0 Fs L w) (hm : Res.blk g t cs ∈ L) (hx : cs = xs.map (Value.int .i64)) (hn : n = xs.length) (hl : n ≤ maxLen) :
    Lay.rep w (Fresh w0 w) xs [.slice (some ⟨g, 0, none⟩) n n] := by
  subst hx hn
  exact rep_of_block (h.blk hm) ⟨((h.own _ hm).2 g rfl).1, ((h.own _ hm).2 g rfl).2.1⟩ (Nat.le_refl _) hl
set_option maxRecDepth 10000 in
set_option maxHeartbeats 400000 in
theorem next_any (f : Fun) (v : Value) (pc : Nat) (w : World) (hv : Lay.rep w (Lt w.heap.size) f.code [v]) (hpc : pc < f.code.length) :
    Calls Tryd.prog 110 #[.agg #[.int .i64 f.params, .int .i64 f.regs, v], .int .i64 pc] w fun e w' => ∃ u, e = .returned u ∧ Lay.rep w' (Fresh w w') (nextZ f.code[pc] pc) [u] ∧ Below w.heap.size w w' := by
  obtain ⟨A, c, rfl, hc, hm, hx⟩ := rep_code_at hv
  unfold maxLen at hm
  obtain ⟨a, rfl, hab, hat⟩ := hx pc hpc
  have HAT := Lib.hid hat
  clear hx hat
  have HP := Lib.hid (Hp.start w)
  go_enter Tryd.func110, Tryd.ntmps110
  go_wp2_with (first
    | (refine wpList_box_hp (o := ⟨some 2, _, _, _, _, _⟩) rfl _ _ rfl HP.out [_, _, _] rfl ?_; clear HP; intro g2 w1 HP; replace HP := Lib.hid HP)
    | (refine wpList_alloc_hp (o := ⟨some 5, _, _, _, _, _⟩) rfl _ rfl HP.out (.agg #[.int .i64 0, .int .i64 0, .int .i64 0, .int .i64 0, .int .i64 0]) (by kernel_rfl) [_, _, _, _, _] rfl ?_; clear HP; intro g5 w2 HP; replace HP := Lib.hid HP)
    | (refine wpList_ld0 rfl 70 _ rfl HP.out rfl rfl Tryd.underlying70 rfl ?_)
    | (refine wpList_ld0 rfl 3 _ rfl HP.out rfl rfl Tryd.underlying3 rfl ?_)
    | (refine wpList_load_at rfl 85 _ rfl _ rfl _ _ (HP.out.at_ (F := ⟨w, Lt w.heap.size⟩) (by simp) HAT.out (by rw [block_of_add]; exact hab)) Tryd.underlying85 rfl (by kernel_rfl) ?_)
    | (refine wpList_stR0 rfl 85 _ _ rfl HP.out rfl (cs' := [_, _, _, _, _]) rfl rfl (by simp [Value.oneCell']) (by kernel_rfl) ?_; clear HP; intro w3 HP; replace HP := Lib.hid HP)
    | (go_loud (refine wpList_ints_hp rfl 25 3 1 _ rfl HP.out Tryd.underlying25 [_] rfl (by kernel_rfl) ?_); clear HP; intro g8 w4 HP; replace HP := Lib.hid HP)
    | (refine wpList_ints_hp rfl 25 3 2 _ rfl HP.out Tryd.underlying25 [_, _] rfl (by kernel_rfl) ?_; clear HP; intro g8 w4 HP; replace HP := Lib.hid HP))
  all_goals
    go_ret
    refine ⟨_, rfl, ?_, HP.out.below⟩
    simp only [beq_iff_eq, beq_eq_false_iff_ne, ne_eq] at *
    unfold nextZ
    simp only [*, if_true, if_false]
    first | exact rep_ints_nil | exact HP.out.ints (.head _) rfl rfl (by unfold maxLen; decide)
set_option maxHeartbeats 400000 in
theorem sets_any (x : Ins) (w : World) :
    Calls Tryd.prog 109 #[.agg #[.int .i64 x.op, .int .i64 x.dst, .int .i64 x.a, .int .i64 x.b, .int .i64 x.imm]] w fun e w' => e = .returned (.bool (decide (x.op ≤ 13) || decide (x.op = 17) || decide (x.op = 18))) ∧ Below w.heap.size w w' := by
  have HP := Lib.hid (Hp.start w)
  go_enter Tryd.func109, Tryd.ntmps109
  go_wp2
  all_goals
    go_ret
    refine ⟨ret_bool ?_, HP.out.below.alloc (Nat.le_refl _) _⟩
    (try rw [Bool.eq_iff_iff]); (try simp [*]); (try omega)
end Go.Proofs.YtfhoffpdodjfeaaDoor
namespace Go.Proofs.YtfhoffpdodjfeaaDoor.Plain64
open Go.RowKit

theorem wrap64_bmod (n : Int) : wrap64 n = n.bmod (2 ^ 64) := by
  unfold wrap64; simp [Int.bmod]; omega
theorem wrap64_ofInt (n : Int) : wrap64 n = (BitVec.ofInt 64 n).toInt := by
  rw [BitVec.toInt_ofInt, wrap64_bmod]
theorem wrap64_toNat (x : BitVec 64) : wrap64 (x.toNat : Int) = x.toInt := by
  rw [wrap64_bmod, BitVec.toInt_eq_toNat_bmod]
theorem wrap64_range (n : Int) : -9223372036854775808 ≤ wrap64 n ∧ wrap64 n ≤ 9223372036854775807 := by
  unfold wrap64; omega

/-- The bit i of a number in two's complement. -/
def bitZ (n : Int) (i : Nat) : Bool := decide (n / 2 ^ i % 2 = 1)

theorem bitZ_zero (n : Int) : bitZ n 0 = decide (n % 2 = 1) := by simp [bitZ]
theorem half_step (n : Int) (i : Nat) : n / 2 ^ (i + 1) = n / 2 ^ i / 2 := by
  rw [Int.pow_succ, Int.mul_comm, Int.mul_comm]
  rw [Int.ediv_ediv_of_nonneg (Int.pow_nonneg (by decide))]

theorem ofInt_toNat (n : Int) : ((BitVec.ofInt 64 n).toNat : Int) = n % 2 ^ 64 := by
  rw [BitVec.toNat_ofInt]
  have : 0 ≤ n % 2 ^ 64 := Int.emod_nonneg _ (by decide)
  simp; omega

theorem bitZ_eq (n : Int) (i : Nat) (hi : i < 64) : bitZ n i = (BitVec.ofInt 64 n).getLsbD i := by
  have e := ofInt_toNat n
  rw [BitVec.getLsbD, Nat.testBit_eq_decide_div_mod_eq]
  have h : (((BitVec.ofInt 64 n).toNat / 2 ^ i % 2 : Nat) : Int) = n / 2 ^ i % 2 := by
    rw [Int.natCast_emod, Int.natCast_ediv, e]
    have hp : (((2 : Nat) ^ i : Nat) : Int) = (2 : Int) ^ i := by simp
    rw [hp]
    have hm : (2 : Int) ^ 64 = 2 ^ i * (2 ^ (63 - i) * 2) := by
      rw [← Int.pow_succ, ← Int.pow_add]; congr 1; omega
    have hq : n % 2 ^ 64 = n + 2 ^ i * (-(2 ^ (63 - i) * (n / 2 ^ 64)) * 2) := by
      have := Int.emod_add_mul_ediv n (2 ^ 64)
      have h2 : (2 : Int) ^ 64 * (n / 2 ^ 64) = 2 ^ i * (2 ^ (63 - i) * (n / 2 ^ 64) * 2) := by
        rw [show (2 : Int) ^ i * (2 ^ (63 - i) * (n / 2 ^ 64) * 2) = (2 ^ i * (2 ^ (63 - i) * 2)) * (n / 2 ^ 64) by ac_rfl, ← hm]
      have h3 : (2 : Int) ^ i * (-(2 ^ (63 - i) * (n / 2 ^ 64)) * 2) = - (2 ^ i * (2 ^ (63 - i) * (n / 2 ^ 64) * 2)) := by
        rw [Int.neg_mul, Int.mul_neg]
      rw [h3, ← h2]; omega
    rw [hq, Int.add_mul_ediv_left _ _ (Int.ne_of_gt (Int.pow_pos (by decide)))]
    omega
  unfold bitZ
  rw [decide_eq_decide]
  omega

/-- Bits put together from the top one on: behind m of them. -/
def vTop (b : Nat → Bool) : Nat → Nat
  | 0 => 0
  | m + 1 => 2 * vTop b m + (b (63 - m)).toNat

theorem vTop_eq (b : Nat → Bool) (x : Nat) (hx : x < 2 ^ 64) (hb : ∀ i, i < 64 → b i = x.testBit i) (m : Nat) (hm : m ≤ 64) : vTop b m = x / 2 ^ (64 - m) := by
  induction m with
  | zero => simp [vTop]; omega
  | succ m ih =>
    rw [vTop, ih (by omega), hb _ (by omega)]
    have e : 64 - m = (64 - (m + 1)) + 1 := by omega
    have e2 : 63 - m = 64 - (m + 1) := by omega
    rw [e, Nat.pow_succ, ← Nat.div_div_eq_div_mul, e2, Nat.testBit_eq_decide_div_mod_eq]
    generalize x / 2 ^ (64 - (m + 1)) = y
    by_cases h : y % 2 = 1 <;> simp [h] <;> omega

theorem vTop_all (b : Nat → Bool) (x : BitVec 64) (hb : ∀ i, i < 64 → b i = x.getLsbD i) : wrap64 (vTop b 64 : Nat) = x.toInt := by
  rw [vTop_eq b x.toNat x.isLt (fun i hi => hb i hi) 64 (Nat.le_refl _)]
  simpa using wrap64_toNat x

theorem bits_and (a b : Int) : bits .and .i64 a b = (BitVec.ofInt 64 a &&& BitVec.ofInt 64 b).toInt := by
  show IntKind.i64.wrap _ = _
  rw [IntWalk.i64_left]; exact wrap64_toNat _
theorem bits_or (a b : Int) : bits .or .i64 a b = (BitVec.ofInt 64 a ||| BitVec.ofInt 64 b).toInt := by
  show IntKind.i64.wrap _ = _
  rw [IntWalk.i64_left]; exact wrap64_toNat _
theorem bits_xor (a b : Int) : bits .xor .i64 a b = (BitVec.ofInt 64 a ^^^ BitVec.ofInt 64 b).toInt := by
  show IntKind.i64.wrap _ = _
  rw [IntWalk.i64_left]; exact wrap64_toNat _

/-- What the lowest six bits say. -/
theorem and63 (b : Int) : bits .and .i64 b 63 = b % 64 := by
  rw [bits_and]
  have h : (BitVec.ofInt 64 b &&& BitVec.ofInt 64 63).toNat = (BitVec.ofInt 64 b).toNat % 64 := by
    rw [BitVec.toNat_and]
    have : (BitVec.ofInt 64 63).toNat = 2 ^ 6 - 1 := by decide
    rw [this, Nat.and_two_pow_sub_one_eq_mod]
  have e := ofInt_toNat b
  rw [← wrap64_toNat, h, Int.natCast_emod, e]
  unfold wrap64; omega

theorem and1 (n : Int) : bits .and .i64 n 1 = n % 2 := by
  rw [bits_and]
  have h : (BitVec.ofInt 64 n &&& BitVec.ofInt 64 1).toNat = (BitVec.ofInt 64 n).toNat % 2 := by
    rw [BitVec.toNat_and]
    have : (BitVec.ofInt 64 1).toNat = 2 ^ 1 - 1 := by decide
    rw [this, Nat.and_two_pow_sub_one_eq_mod]
  have e := ofInt_toNat n
  rw [← wrap64_toNat, h, Int.natCast_emod, e]
  unfold wrap64; omega

theorem ofInt_toInt (a : Int) (h : -9223372036854775808 ≤ a ∧ a ≤ 9223372036854775807) : (BitVec.ofInt 64 a).toInt = a := by
  rw [← wrap64_ofInt]; exact IntWalk.wrap64_in a h

/-- Shifted left: as BitVec says. -/
theorem shl_eq (a : Int) (s : Nat) : wrap64 (a * 2 ^ s) = (BitVec.ofInt 64 a <<< s).toInt := by
  rw [← wrap64_toNat, BitVec.toNat_shiftLeft, Nat.shiftLeft_eq, Int.natCast_emod, Int.natCast_mul, ofInt_toNat]
  have h1 : (((2 : Nat) ^ s : Nat) : Int) = (2 : Int) ^ s := by simp
  have h64 : (((2 : Nat) ^ 64 : Nat) : Int) = 18446744073709551616 := by decide
  have hx : (a % 2 ^ 64 * 2 ^ s) % 18446744073709551616 = (a * 2 ^ s) % 18446744073709551616 := by
    rw [show (2 : Int) ^ 64 = 18446744073709551616 from rfl, Int.mul_emod, Int.emod_emod_of_dvd _ (Int.dvd_refl _), ← Int.mul_emod]
  rw [h1, h64, hx]
  generalize a * 2 ^ s = y
  unfold wrap64; omega

theorem sar_eq (a : Int) (h : -9223372036854775808 ≤ a ∧ a ≤ 9223372036854775807) (s : Nat) : a / 2 ^ s = ((BitVec.ofInt 64 a).sshiftRight s).toInt := by
  rw [BitVec.toInt_sshiftRight, ofInt_toInt a h, Int.shiftRight_eq_div_pow]
  simp
end Go.Proofs.YtfhoffpdodjfeaaDoor.Plain64
