/- proof.reads. P3.2: the ways through a function; a list of truths that is closed under them. No program is named here. P3.2: the sure registers of a function. No program is named here. P3.2: the sure registers by a list of places still to do. No program is named here. P3.3: what is read is set; a function does not run out behind its end. No program is named here. P4.2: a state of a program. No program is named here. P7.4: the live registers of a function. No program is named here. P7.1, P7.2: the blocks of a function. No program is named here. P7.3: which blocks stand on each way to a block. Of a graph; no program is named here. P7.3: the blocks' graph: all are come to; the nearest one above; counting. No program is named here. One more, wrapped. -/
import Derived.Test.YtceilfmfidmfpaaDoorMgPrNestNestBFind4
import Derived.Test.YtceilfmfidmfpaaDoorMgBitsBitsZ2
import Derived.Test.YtceilfmfidmfpaaDoorMgValidPureLaw2
import Derived.BigQuiet
set_option linter.unusedSimpArgs false
set_option linter.unusedVariables false
namespace Go.Proofs.YtceilfmfidmfpaaDoor
open Go.RowKit Plain64
attribute [local irreducible] wpList Code.wp Oper.wp
theorem rep_prg_at {p : Prg} {u : Value} {w : World} {S : Nat → Prop} (h : Lay.rep w S p [u]) : ∃ (A : Option Addr) (c : Nat), u = .slice A p.funcs.length c ∧ p.funcs.length ≤ c ∧ c ≤ maxLen ∧
    ∀ (k : Nat) (hk : k < p.funcs.length), ∃ (a : Addr) (v : Value), A = some a ∧ S a.block ∧ At w (a.add (k * 3)) [.int .i64 p.funcs[k].params, .int .i64 p.funcs[k].regs, v] ∧ Lay.rep w S p.funcs[k].code [v] := rep_funs_at (rep_prg.1 h)
theorem index0 (a b c : Int) (w : World) : (Instr.index 107 (.agg #[.int .i64 a, .int .i64 b, .int .i64 c]) (.int .i64 0)).run Tryd.prog w = .ok (.int .i64 a) w := by kernel_rfl
theorem index1 (a b c : Int) (w : World) : (Instr.index 107 (.agg #[.int .i64 a, .int .i64 b, .int .i64 c]) (.int .i64 1)).run Tryd.prog w = .ok (.int .i64 b) w := by kernel_rfl
theorem index2 (a b c : Int) (w : World) : (Instr.index 107 (.agg #[.int .i64 a, .int .i64 b, .int .i64 c]) (.int .i64 2)).run Tryd.prog w = .ok (.int .i64 c) w := by kernel_rfl
set_option maxRecDepth 10000 in
set_option maxHeartbeats 1000000 in
theorem reads_any (p : Prg) (u : Value) (x : Ins) (len : Nat) (w : World) (hp : Lay.rep w (Lt w.heap.size) p [u]) (ok : OkP p) (okx : OkI x len p.funcs.length) :
    Calls Tryd.prog 62 #[.agg #[u], .agg #[.int .i64 x.op, .int .i64 x.dst, .int .i64 x.a, .int .i64 x.b, .int .i64 x.imm]] w fun e w' => e = .returned (.int .i64 (bitsL (readsL p x))) ∧ Below w.heap.size w w' := by
  obtain ⟨A, c, rfl, hc, hm, hx⟩ := rep_prg_at hp
  unfold maxLen at hm
  have HX := Lib.hid hx
  have HO := Lib.hid okx
  have HK := Lib.hid ok
  obtain ⟨a1, a2⟩ := okx.a
  obtain ⟨b1, b2⟩ := okx.b
  obtain ⟨n1, n2⟩ := ok.len
  clear hx hp ok okx
  have HP := Lib.hid (Hp.start w)
  go_enter Tryd.func62, Tryd.ntmps62
  go_upto_region 1 with (first | (refine wpList_box_hp (o := ⟨some 2, _, _, _, _, _⟩) rfl _ _ rfl HP.out [_] rfl ?_; clear HP; intro g2 w2 HP; replace HP := Lib.hid HP) | (refine wpList_box_hp (o := ⟨some 3, _, _, _, _, _⟩) rfl _ _ rfl HP.out [_, _, _, _, _] rfl ?_; clear HP; intro g3 w3 HP; replace HP := Lib.hid HP))
  have ha := HP.out.cell (.head _) 2 _ rfl
  have hb := HP.out.cell (.head _) 3 _ rfl
  have hop := HP.out.cell (.head _) 0 _ rfl
  have himm := HP.out.cell (.head _) 4 _ rfl
  have hfs := HP.out.cell (.tail _ (.head _)) 0 _ rfl
  have ea : wrap64 (2 ^ x.a.toNat) = 2 ^ x.a.toNat := by have := pow_small x.a ⟨a1, a2⟩; unfold wrap64; omega
  have eb : wrap64 (2 ^ x.b.toNat) = 2 ^ x.b.toNat := by have := pow_small x.b ⟨b1, b2⟩; unfold wrap64; omega
  by_cases h17 : x.op = 17
  · obtain ⟨i1, i2⟩ := HO.out.cal h17
    obtain ⟨k, hk⟩ := Int.eq_ofNat_of_zero_le i1
    have hkl : k < p.funcs.length := by omega
    have hki : (k : Int) < (p.funcs.length : Int) := by omega
    obtain ⟨ad, v, rfl, hab, hat, _⟩ := HX.out k hkl
    have hpar : parZ p x.imm = p.funcs[k].params := by unfold parZ; rw [hk]; simp [hkl]
    have hq := (HK.out.fns _ (List.getElem_mem hkl)).params
    have hcp := (HP.out.at_ (F := ⟨w, Lt w.heap.size⟩) (by simp) hat (by rw [block_of_add]; exact hab)).cell 0 rfl
    have e0 : (ad.add (k * 3)).add 0 = ad.add (k * 3) := by simp [Addr.add]
    rw [e0] at hcp
    have HO17 := Lib.hid h17
    have HPAR := Lib.hid hpar
    rw [hk] at himm
    rw [h17] at hop
    have HKK := Lib.hid hk
    obtain ⟨r, hr⟩ : ∃ r, p.funcs[k].params = r := ⟨_, rfl⟩
    rw [hr] at hcp hq HPAR
    clear h17 hk hpar hat hr e0 i1 i2
    have hr3 : r = 0 ∨ r = 1 ∨ r = 2 := by omega
    clear hq
    rcases hr3 with rfl | rfl | rfl
    all_goals
      go_quiet (fail)
      have i0 := index0
      have i1 := index1
      have i2 := index2
      go_wp2
      go_ret
      refine ⟨ret_int ?_, (HP.out.drewN nq).below⟩
      unfold readsL
      rw [HPAR.out, HO17.out]
      first | rfl | exact or_bits _ _ ⟨a1, a2⟩ ⟨b1, b2⟩
  · have h17b : (x.op == 17) = false := by simpa using h17
    have HN := Lib.hid h17
    clear h17
    go_quiet (fail)
    go_wp2
    all_goals
      go_ret
      refine ⟨ret_int ?_, (HP.out.drewN nq).below⟩
      have h17 := HN.out
      simp only [beq_iff_eq, beq_eq_false_iff_ne, ne_eq] at *
      have h1 := HO.out.op
      unfold readsL
      (try rw [ea]); (try rw [eb])
      first
        | (rw [show readsAZ x.op = false by unfold readsAZ; simp; omega, show readsBZ x.op = false by unfold readsBZ; simp; omega]; rfl)
        | (rw [show readsAZ x.op = true by unfold readsAZ; simp; omega, show readsBZ x.op = false by unfold readsBZ; simp; omega, decide_eq_true h17]; rfl)
        | (rw [show readsAZ x.op = true by unfold readsAZ; simp; omega, show readsBZ x.op = true by unfold readsBZ; simp; omega, decide_eq_true h17]; exact or_bits _ _ ⟨a1, a2⟩ ⟨b1, b2⟩)
end Go.Proofs.YtceilfmfidmfpaaDoor
namespace Go.Proofs.YtceilfmfidmfpaaDoor
open Go.RowKit
theorem nextZ_len (x : Ins) (pc : Nat) : (nextZ x pc).length ≤ 2 := by
  unfold nextZ; split <;> (try split) <;> (try split) <;> simp
theorem nextZ_in {x : Ins} {len funcs : Nat} (h : OkI x len funcs) {pc : Nat} (hp : pc < len) : ∀ n ∈ nextZ x pc, 0 ≤ n ∧ n ≤ len := by
  unfold nextZ
  intro n hn
  split at hn
  · cases hn
  · split at hn
    · rename_i h1 h2
      have := h.tgt (.inl h2)
      rw [List.mem_singleton.1 hn]; omega
    · split at hn
      · rename_i h1 h2 h3
        have := h.tgt (.inr h3)
        simp at hn
        rcases hn with rfl | rfl <;> omega
      · rw [List.mem_singleton.1 hn]; omega
def Kill (r : Int) (x : Ins) : Bool := decide (0 ≤ r) && setsZ x.op && decide (x.dst = r)
/-- Is there a way to a place on which a register is not set (-1: whatever is set)? -/
inductive Way (f : Fun) (r : Int) : Nat → Prop
  | start (h : ¬ (0 ≤ r ∧ r < f.params)) : Way f r 0
  | step {pc : Nat} {x : Ins} {n : Int} (h : Way f r pc) (hx : f.code[pc]? = some x) (hk : Kill r x = false) (hn : n ∈ nextZ x pc) : Way f r n.toNat
open Classical in
noncomputable def wayL (f : Fun) (r : Int) : List Bool := (List.range (f.code.length + 1)).map fun pc => decide (Way f r pc)
theorem wayL_len (f : Fun) (r : Int) : (wayL f r).length = f.code.length + 1 := by simp [wayL]
theorem wayL_at (f : Fun) (r : Int) (pc : Nat) (h : pc ≤ f.code.length) : (wayL f r)[pc]? = some true ↔ Way f r pc := by
  unfold wayL
  rw [List.getElem?_map, List.getElem?_range (by omega)]
  simp
/-- So far as is known there is a way. -/
def Sound (f : Fun) (r : Int) (bs : List Bool) : Prop := ∀ pc : Nat, bs[pc]? = some true → Way f r pc
def ClosedAt (f : Fun) (r : Int) (bs : List Bool) (pc : Nat) : Prop := bs[pc]? = some true → ∀ x, f.code[pc]? = some x → Kill r x = false → ∀ n ∈ nextZ x pc, bs[n.toNat]? = some true
theorem way_closed {f : Fun} {funcs : Nat} (ok : OkF f funcs) {r : Int} {bs : List Bool} (hl : bs.length = f.code.length + 1) (h0 : ¬ (0 ≤ r ∧ r < f.params) → bs[0]? = some true) (hs : Sound f r bs) (hc : ∀ pc, pc < f.code.length → ClosedAt f r bs pc) : bs = wayL f r := by
  have hw : ∀ pc, Way f r pc → bs[pc]? = some true := fun pc h => by
    induction h with
    | start h => exact h0 h
    | step h hx hk hn ih => exact hc _ (List.getElem?_eq_some_iff.1 hx).1 ih _ hx hk _ hn
  apply List.ext_getElem?
  intro pc
  by_cases hpc : pc ≤ f.code.length
  · have hb : ∃ b, bs[pc]? = some b := ⟨_, List.getElem?_eq_getElem (by omega)⟩
    obtain ⟨b, hb⟩ := hb
    have hx : (wayL f r)[pc]? = some ((wayL f r)[pc]'(by rw [wayL_len]; omega)) := List.getElem?_eq_getElem _
    rw [hb]
    cases b
    · generalize (wayL f r)[pc]'(by rw [wayL_len]; omega) = c at hx
      cases c
      · exact hx.symm
      · have := hw pc ((wayL_at f r pc hpc).1 hx)
        rw [hb] at this; cases this
    · exact ((wayL_at f r pc hpc).2 (hs pc hb)).symm
  · rw [List.getElem?_eq_none (by omega), List.getElem?_eq_none (by rw [wayL_len]; omega)]
theorem wayL_none {f : Fun} {r : Int} (h : 0 ≤ r ∧ r < f.params) : List.replicate (f.code.length + 1) false = wayL f r := by
  have hw : ∀ pc, ¬ Way f r pc := fun pc hw => by
    induction hw with
    | start h' => exact h' h
    | step _ _ _ _ ih => exact ih
  apply List.ext_getElem
  · simp [wayL_len]
  · intro i h1 h2
    simp [wayL, hw]
theorem count_set {bs : List Bool} {n : Nat} (h : bs[n]? = some false) : (bs.set n true).count false + 1 = bs.count false := by
  induction bs generalizing n with
  | nil => simp at h
  | cons b bs ih =>
    cases n with
    | zero => simp at h; subst h; simp
    | succ n =>
      have := ih (n := n) (by simpa using h)
      simp only [List.set_cons_succ, List.count_cons]
      omega
/-- A round so far: whether something was found, and what is known by now. -/
structure Rnd (f : Fun) (r : Int) (bs0 bs : List Bool) (again : Bool) : Prop where
  len : bs.length = f.code.length + 1
  sound : Sound f r bs
  first : ¬ (0 ≤ r ∧ r < f.params) → bs[0]? = some true
  no : again = false → bs = bs0
  yes : again = true → bs.count false < bs0.count false
theorem Rnd.set {f : Fun} {r : Int} {bs0 bs : List Bool} {again : Bool} (h : Rnd f r bs0 bs again) {n : Nat} (hn : bs[n]? = some false) (hw : Way f r n) : Rnd f r bs0 (bs.set n true) true := by
  refine ⟨by simpa using h.len, fun pc hp => ?_, fun hf => ?_, fun e => (by cases e), fun _ => ?_⟩
  · by_cases e : n = pc
    · subst e; exact hw
    · rw [List.getElem?_set_ne e] at hp; exact h.sound pc hp
  · by_cases e : n = 0
    · subst e; rw [h.first hf] at hn; cases hn
    · rw [List.getElem?_set_ne e]; exact h.first hf
  · have := count_set hn
    cases again
    · have e := h.no rfl
      rw [← e]; omega
    · have := h.yes rfl; omega
end Go.Proofs.YtceilfmfidmfpaaDoor
namespace Go.Proofs.YtceilfmfidmfpaaDoor
open Go.RowKit Plain64
/-- Numbers below k that are so, as bits. -/
def mskZ (g : Nat → Bool) : Nat → Int
  | 0 => 0
  | k + 1 => mskZ g k + if g k then 2 ^ k else 0
theorem mskZ_range (g : Nat → Bool) : ∀ k, 0 ≤ mskZ g k ∧ mskZ g k ≤ 2 ^ k - 1
  | 0 => by simp [mskZ]
  | k + 1 => by
    have := mskZ_range g k
    have h : (0 : Int) < 2 ^ k := Int.pow_pos (by decide)
    rw [mskZ, Int.pow_succ]
    split <;> omega
/-- Up to a register: what is known of a place. -/
noncomputable def sureUpto (f : Fun) (r pc : Nat) : Int := if (wayL f (-1)).getD pc false then mskZ (fun r => !(wayL f r).getD pc false) r else -1
noncomputable def sureL (f : Fun) : List Int := (List.range (f.code.length + 1)).map (sureUpto f 12)
theorem sureL_len (f : Fun) : (sureL f).length = f.code.length + 1 := by simp [sureL]
theorem sureUpto_range (f : Fun) (r pc : Nat) (hr : r ≤ 12) : -1 ≤ sureUpto f r pc ∧ sureUpto f r pc ≤ 4095 := by
  unfold sureUpto
  split
  · have h1 := mskZ_range (fun r => !(wayL f r).getD pc false) r
    have h2 := Nat.pow_le_pow_right (n := 2) (by decide) hr
    have e : ((2 ^ r : Nat) : Int) = 2 ^ r := by simp
    have : (2 : Int) ^ r ≤ 4096 := by rw [← e]; exact Int.ofNat_le.2 h2
    omega
  · omega
theorem sureL_of {f : Fun} {os : List Int} (hl : os.length = f.code.length + 1) (h : ∀ q, q < f.code.length + 1 → os[q]? = some (sureUpto f 12 q)) : os = sureL f := by
  apply List.ext_getElem?
  intro q
  by_cases hq : q < f.code.length + 1
  · rw [h q hq, sureL, List.getElem?_map, List.getElem?_range hq]; rfl
  · rw [List.getElem?_eq_none (by omega), List.getElem?_eq_none (by rw [sureL_len]; omega)]
theorem sureUpto_succ (f : Fun) (r pc : Nat) : sureUpto f (r + 1) pc = sureUpto f r pc + if (wayL f (-1)).getD pc false && !(wayL f r).getD pc false then 2 ^ r else 0 := by
  unfold sureUpto
  cases (wayL f (-1)).getD pc false
  · simp
  · simp only [if_true, mskZ, Bool.true_and]
end Go.Proofs.YtceilfmfidmfpaaDoor
namespace Go.Proofs.YtceilfmfidmfpaaDoor
open Go.RowKit Plain64
/-! ### Masks of twelve bits -/
theorem bitZ_toInt (x : BitVec 64) (i : Nat) (hi : i < 64) : bitZ x.toInt i = x.getLsbD i := by
  rw [bitZ_eq _ _ hi, BitVec.ofInt_toInt]
theorem bitZ_and (a b : Int) (i : Nat) (hi : i < 64) : bitZ (bits .and .i64 a b) i = (bitZ a i && bitZ b i) := by
  rw [bits_and, bitZ_toInt _ _ hi, BitVec.getLsbD_and, bitZ_eq _ _ hi, bitZ_eq _ _ hi]
theorem bitZ_or (a b : Int) (i : Nat) (hi : i < 64) : bitZ (bits .or .i64 a b) i = (bitZ a i || bitZ b i) := by
  rw [bits_or, bitZ_toInt _ _ hi, BitVec.getLsbD_or, bitZ_eq _ _ hi, bitZ_eq _ _ hi]
theorem bitZ_high (a : Int) (h : 0 ≤ a ∧ a ≤ 4095) (i : Nat) (hi : 12 ≤ i) : bitZ a i = false := by
  unfold bitZ
  have h2 : (4096 : Int) ≤ 2 ^ i := by
    have := Nat.pow_le_pow_right (n := 2) (by decide) hi
    have e : ((2 ^ i : Nat) : Int) = 2 ^ i := by simp
    rw [← e]; omega
  rw [Int.ediv_eq_zero_of_lt h.1 (by omega)]
  rfl
theorem small12 (x : BitVec 64) (h : ∀ i, 12 ≤ i → i < 64 → x.getLsbD i = false) : 0 ≤ x.toInt ∧ x.toInt ≤ 4095 := by
  have hn : x.toNat < 2 ^ 12 := Nat.lt_pow_two_of_testBit _ fun i hi => by
    by_cases h64 : i < 64
    · exact h i hi h64
    · exact Nat.testBit_lt_two_pow (Nat.lt_of_lt_of_le x.isLt (Nat.pow_le_pow_right (by decide) (by omega)))
  rw [BitVec.toInt_eq_toNat_of_lt (by omega)]
  omega
theorem and_range (a b : Int) (ha : 0 ≤ a ∧ a ≤ 4095) : 0 ≤ bits .and .i64 a b ∧ bits .and .i64 a b ≤ 4095 := by
  rw [bits_and]
  exact small12 _ fun i h1 h2 => by rw [BitVec.getLsbD_and, ← bitZ_eq _ _ h2, bitZ_high a ha i h1]; rfl
theorem or_range (a b : Int) (ha : 0 ≤ a ∧ a ≤ 4095) (hb : 0 ≤ b ∧ b ≤ 4095) : 0 ≤ bits .or .i64 a b ∧ bits .or .i64 a b ≤ 4095 := by
  rw [bits_or]
  exact small12 _ fun i h1 h2 => by rw [BitVec.getLsbD_or, ← bitZ_eq _ _ h2, ← bitZ_eq _ _ h2, bitZ_high a ha i h1, bitZ_high b hb i h1]; rfl
theorem mskZ_bits (a : Int) (h : 0 ≤ a) : ∀ k, mskZ (bitZ a) k = a % 2 ^ k
  | 0 => by simp [mskZ]
  | k + 1 => by
    rw [mskZ, mskZ_bits a h k, Int.pow_succ]
    have hp : (0 : Int) < 2 ^ k := Int.pow_pos (by decide)
    have e1 := Int.emod_add_mul_ediv a (2 ^ k)
    have e2 := Int.emod_add_mul_ediv a (2 ^ k * 2)
    have e3 : a / (2 ^ k * 2) = a / 2 ^ k / 2 := by rw [Int.ediv_ediv_of_nonneg (by omega)]
    rw [e3] at e2
    unfold bitZ
    have e5 : 2 ^ k * 2 * (a / 2 ^ k / 2) = 2 ^ k * (2 * (a / 2 ^ k / 2)) := by rw [Int.mul_assoc]
    rw [e5] at e2
    generalize a / 2 ^ k = y at *
    by_cases hy : y % 2 = 1
    · rw [decide_eq_true hy, if_pos rfl]
      obtain ⟨h', hh⟩ : ∃ h', y = 2 * h' + 1 := ⟨y / 2, by omega⟩
      have e7 : y / 2 = h' := by omega
      rw [e7] at e2
      subst hh
      have e6 : 2 ^ k * (2 * h' + 1) = 2 ^ k * (2 * h') + 2 ^ k := by rw [Int.mul_add, Int.mul_one]
      omega
    · rw [decide_eq_false hy]
      obtain ⟨h', hh⟩ : ∃ h', y = 2 * h' := ⟨y / 2, by omega⟩
      have e7 : y / 2 = h' := by omega
      rw [e7] at e2
      subst hh
      simp only [Bool.false_eq_true, if_false]
      omega
theorem mskZ_congr {g h : Nat → Bool} : ∀ k, (∀ r, r < k → g r = h r) → mskZ g k = mskZ h k
  | 0, _ => rfl
  | k + 1, e => by rw [mskZ, mskZ, mskZ_congr k (fun r hr => e r (by omega)), e k (by omega)]
theorem mask_eq {a : Int} (ha : 0 ≤ a ∧ a ≤ 4095) : mskZ (bitZ a) 12 = a := by
  rw [mskZ_bits a ha.1]; omega
theorem mask_ext {a b : Int} (ha : 0 ≤ a ∧ a ≤ 4095) (hb : 0 ≤ b ∧ b ≤ 4095) (h : ∀ r, r < 12 → bitZ a r = bitZ b r) : a = b := by
  rw [← mask_eq ha, ← mask_eq hb]; exact mskZ_congr 12 h
theorem bit_one_nat : ∀ d r : Fin 12, bitZ (2 ^ d.1) r.1 = decide ((d.1 : Int) = r.1) := by decide +kernel
theorem bit_one (d : Int) (hd : 0 ≤ d ∧ d ≤ 11) (r : Nat) (hr : r < 12) : bitZ (2 ^ d.toNat) r = decide (d = r) := by
  have := bit_one_nat ⟨d.toNat, by omega⟩ ⟨r, hr⟩
  simp only at this
  rw [this, decide_eq_decide]; omega
/-- What is set behind an instruction. -/
def aftZ (z : Int) (x : Ins) : Int := if setsZ x.op then bits .or .i64 z (2 ^ x.dst.toNat) else z
theorem aftZ_range {z : Int} {x : Ins} (hz : 0 ≤ z ∧ z ≤ 4095) (hd : 0 ≤ x.dst ∧ x.dst ≤ 11) : 0 ≤ aftZ z x ∧ aftZ z x ≤ 4095 := by
  unfold aftZ
  split
  · have := pow_small x.dst hd
    exact or_range _ _ hz (by omega)
  · exact hz
theorem aftZ_bit {z : Int} {x : Ins} (hd : 0 ≤ x.dst ∧ x.dst ≤ 11) (r : Nat) (hr : r < 12) : bitZ (aftZ z x) r = (bitZ z r || (setsZ x.op && decide (x.dst = r))) := by
  unfold aftZ
  split
  · rename_i h; rw [bitZ_or _ _ _ (by omega), bit_one _ hd _ hr, h]; simp
  · rename_i h; simp at h; rw [h]; simp
/-- How much may still be taken away from a place. -/
def wtZ (z : Int) : Nat := if z < 0 then 13 else (List.range 12).countP (bitZ z)
theorem wtZ_new {y : Int} (hy : 0 ≤ y) : wtZ y < wtZ (-1) := by
  have : (List.range 12).countP (bitZ y) ≤ 12 := by have := List.countP_le_length (p := bitZ y) (l := List.range 12); simpa using this
  unfold wtZ
  rw [if_neg (by omega), if_pos (by omega)]; omega
theorem countP_lt {p q : Nat → Bool} : ∀ (l : List Nat), (∀ r ∈ l, p r = true → q r = true) → (∃ r ∈ l, p r = false ∧ q r = true) → l.countP p < l.countP q
  | [], _, ⟨_, h, _⟩ => by cases h
  | x :: l, hs, ⟨r, hr, h1, h2⟩ => by
    have hle : l.countP p ≤ l.countP q := List.countP_mono_left fun r hr => hs r (by simp [hr])
    rw [List.countP_cons, List.countP_cons]
    rcases List.mem_cons.1 hr with rfl | hr
    · rw [h1, h2]; simp; omega
    · have := countP_lt l (fun r hr => hs r (by simp [hr])) ⟨r, hr, h1, h2⟩
      have hx := hs x (by simp)
      cases hpx : p x
      · simp; split <;> omega
      · rw [hx hpx]; simp; omega
theorem wtZ_and {z b : Int} (hz : 0 ≤ z ∧ z ≤ 4095) (hne : bits .and .i64 z b ≠ z) : wtZ (bits .and .i64 z b) < wtZ z := by
  have hy := and_range z b hz
  unfold wtZ
  rw [if_neg (by omega), if_neg (by omega)]
  refine countP_lt _ (fun r hr h => ?_) ?_
  · rw [bitZ_and _ _ _ (by simp at hr; omega)] at h
    simp at h; exact h.1
  · apply Classical.byContradiction
    intro hno
    apply hne
    refine mask_ext hy hz fun r hr => ?_
    rw [bitZ_and _ _ _ (by omega)]
    cases h1 : bitZ z r
    · rfl
    · cases h2 : bitZ b r
      · exact absurd ⟨r, by simpa using hr, by rw [bitZ_and _ _ _ (by omega), h1, h2]; rfl, h1⟩ hno
      · rfl
def muZ (os : List Int) : Nat := (os.map wtZ).sum
theorem muZ_set {os : List Int} {n : Nat} {z y : Int} (h : os[n]? = some z) (hw : wtZ y < wtZ z) : muZ (os.set n y) + 1 ≤ muZ os := by
  unfold muZ
  induction os generalizing n with
  | nil => simp at h
  | cons a os ih =>
    cases n with
    | zero => simp at h; subst h; simp; omega
    | succ n =>
      have := ih (n := n) (by simpa using h)
      simp only [List.set_cons_succ, List.map_cons, List.sum_cons]; omega
/-! ### The run -/
def Sub (a b : Int) : Prop := ∀ r, r < 12 → bitZ a r = true → bitZ b r = true
/-- What stands at a place is a mask, and less than another one. -/
def Und (os : List Int) (n : Nat) (b : Int) : Prop := ∃ z, os[n]? = some z ∧ 0 ≤ z ∧ Sub z b
structure Inv0 (f : Fun) (os : List Int) (ts : List Nat) : Prop where
  len : os.length = f.code.length + 1
  ent : ∀ (q : Nat) z, os[q]? = some z → z = -1 ∨ (0 ≤ z ∧ z ≤ 4095)
  way : ∀ (q : Nat) z, os[q]? = some z → 0 ≤ z → Way f (-1) q
  wayR : ∀ (q : Nat) z, os[q]? = some z → 0 ≤ z → ∀ r : Nat, r < 12 → bitZ z r = false → Way f r q
  start : ∃ z, os[0]? = some z ∧ 0 ≤ z ∧ ∀ r : Nat, r < 12 → f.params ≤ r → bitZ z r = false
  todo : ∀ t ∈ ts, t ≤ f.code.length ∧ ∃ z, os[t]? = some z ∧ 0 ≤ z
/-- The places behind a place know of it. -/
def ClosedS (f : Fun) (os : List Int) (q : Nat) : Prop := ∀ z, os[q]? = some z → 0 ≤ z → ∀ x, f.code[q]? = some x → ∀ n ∈ nextZ x q, Und os n.toNat (aftZ z x)
structure Inv (f : Fun) (os : List Int) (ts : List Nat) : Prop extends Inv0 f os ts where
  closed : ∀ q, q < f.code.length → q ∉ ts → ClosedS f os q
/-- In the middle of a place's own round: j of what stands behind it is done. -/
structure InvIn (f : Fun) (os : List Int) (ts : List Nat) (pc : Nat) (b : Int) (l : List Int) (j : Nat) : Prop extends Inv0 f os ts where
  others : ∀ q, q < f.code.length → q ∉ ts → q ≠ pc → ClosedS f os q
  own : pc ∈ ts ∨ ((∀ z, os[pc]? = some z → ∀ x, f.code[pc]? = some x → aftZ z x = b) ∧ ∀ (i : Nat) n, i < j → l[i]? = some n → Und os n.toNat b)
theorem Sub.trans {a b c : Int} (h : Sub a b) (k : Sub b c) : Sub a c := fun r hr ha => k r hr (h r hr ha)
theorem Sub.refl (a : Int) : Sub a a := fun _ _ h => h
theorem Und.set {os : List Int} {n m : Nat} {b y z : Int} (h : Und os m b) (hn : os[n]? = some z) (hy : 0 ≤ y) (hs : 0 ≤ z → Sub y z) : Und (os.set n y) m b := by
  obtain ⟨u, hu, h0, h1⟩ := h
  by_cases e : n = m
  · subst e
    rw [hn] at hu; cases hu
    exact ⟨y, List.getElem?_set_self (List.getElem?_eq_some_iff.1 hn).1, hy, (hs h0).trans h1⟩
  · exact ⟨u, by rw [List.getElem?_set_ne e]; exact hu, h0, h1⟩
/-- A place behind the one that is being done gets less. -/
theorem InvIn.upd {f : Fun} {os : List Int} {ts : List Nat} {pc : Nat} {b : Int} {l : List Int} {j : Nat} (h : InvIn f os ts pc b l j) {n : Nat} {z y : Int} (hl : l[j]? = some (n : Int)) (hn : os[n]? = some z)
    (hy : 0 ≤ y ∧ y ≤ 4095) (hb : Sub y b) (hs : 0 ≤ z → Sub y z) (hw : Way f (-1) n) (hr : ∀ r : Nat, r < 12 → bitZ y r = false → Way f r n) (hle : n ≤ f.code.length) : InvIn f (os.set n y) (ts ++ [n]) pc b l (j + 1) := by
  have hlt : n < os.length := (List.getElem?_eq_some_iff.1 hn).1
  have hat : ∀ (q : Nat) u, (os.set n y)[q]? = some u → (q = n ∧ u = y) ∨ (q ≠ n ∧ os[q]? = some u) := fun q u hu => by
    by_cases e : n = q
    · subst e; rw [List.getElem?_set_self hlt] at hu; cases hu; exact .inl ⟨rfl, rfl⟩
    · rw [List.getElem?_set_ne e] at hu; exact .inr ⟨Ne.symm e, hu⟩
  refine ⟨⟨by simpa using h.len, fun q u hu => ?_, fun q u hu h0 => ?_, fun q u hu h0 r hr' hb' => ?_, ?_, fun t ht => ?_⟩, fun q hq hqt hqp => ?_, ?_⟩
  · rcases hat q u hu with ⟨rfl, rfl⟩ | ⟨_, hu⟩
    · exact .inr hy
    · exact h.ent q u hu
  · rcases hat q u hu with ⟨rfl, rfl⟩ | ⟨_, hu⟩
    · exact hw
    · exact h.way q u hu h0
  · rcases hat q u hu with ⟨rfl, rfl⟩ | ⟨_, hu⟩
    · exact hr r hr' hb'
    · exact h.wayR q u hu h0 r hr' hb'
  · obtain ⟨z0, h1, h2, h3⟩ := h.start
    by_cases e : n = 0
    · subst e
      rw [hn] at h1; cases h1
      refine ⟨y, List.getElem?_set_self hlt, hy.1, fun r hr' hp => ?_⟩
      cases hb' : bitZ y r
      · rfl
      · rw [← h3 r hr' hp, hs h2 r hr' hb']
    · exact ⟨z0, by rw [List.getElem?_set_ne e]; exact h1, h2, h3⟩
  · rcases List.mem_append.1 ht with ht | ht
    · obtain ⟨h1, u, h2, h3⟩ := h.todo t ht
      refine ⟨h1, ?_⟩
      by_cases e : n = t
      · subst e; exact ⟨y, List.getElem?_set_self hlt, hy.1⟩
      · exact ⟨u, by rw [List.getElem?_set_ne e]; exact h2, h3⟩
    · obtain rfl := List.mem_singleton.1 ht
      exact ⟨hle, y, List.getElem?_set_self hlt, hy.1⟩
  · intro u hu h0 x hx m hm
    have hqn : q ≠ n := fun e => hqt (by simp [e])
    have hqt' : q ∉ ts := fun e => hqt (by simp [e])
    rcases hat q u hu with ⟨e, _⟩ | ⟨_, hu⟩
    · exact absurd e hqn
    · exact (h.others q hq hqt' hqp u hu h0 x hx m hm).set hn hy.1 hs
  · by_cases e : pc = n
    · exact .inl (by simp [e])
    · rcases h.own with h1 | ⟨h1, h2⟩
      · exact .inl (by simp [h1])
      · refine .inr ⟨fun u hu => ?_, fun i m hi hm => ?_⟩
        · rcases hat pc u hu with ⟨e', _⟩ | ⟨_, hu⟩
          · exact absurd e' e
          · exact h1 u hu
        · by_cases hij : i < j
          · exact (h2 i m hij hm).set hn hy.1 hs
          · obtain rfl : i = j := by omega
            rw [hl] at hm; cases hm
            exact ⟨y, by rw [Int.toNat_natCast]; exact List.getElem?_set_self hlt, hy.1, hb⟩
/-- .. or has no more than that already. -/
theorem InvIn.skip {f : Fun} {os : List Int} {ts : List Nat} {pc : Nat} {b : Int} {l : List Int} {j : Nat} (h : InvIn f os ts pc b l j) {n : Nat} {z : Int} (hl : l[j]? = some (n : Int)) (hn : os[n]? = some z)
    (h0 : 0 ≤ z) (hb : Sub z b) : InvIn f os ts pc b l (j + 1) :=
  ⟨h.toInv0, h.others, h.own.imp id fun ⟨h1, h2⟩ => ⟨h1, fun i m hi hm => by
    by_cases hij : i < j
    · exact h2 i m hij hm
    · obtain rfl : i = j := by omega
      rw [hl] at hm; cases hm
      exact ⟨z, by rw [Int.toNat_natCast]; exact hn, h0, hb⟩⟩⟩
theorem InvIn.begin {f : Fun} {os : List Int} {ts : List Nat} {pc : Nat} {z : Int} {x : Ins} {l : List Int} (h : Inv f os (ts ++ [pc])) (hz : os[pc]? = some z) (hx : f.code[pc]? = some x) : InvIn f os ts pc (aftZ z x) l 0 :=
  ⟨⟨h.len, h.ent, h.way, h.wayR, h.start, fun t ht => h.todo t (by simp [ht])⟩, fun q hq hqt hqp => h.closed q hq (by simp [hqt, hqp]), .inr ⟨fun u hu y hy => by rw [hz] at hu; rw [hx] at hy; cases hu; cases hy; rfl, fun i n hi => by omega⟩⟩
theorem InvIn.ends {f : Fun} {os : List Int} {ts : List Nat} {pc : Nat} {b : Int} {x : Ins} (h : InvIn f os ts pc b (nextZ x pc) (nextZ x pc).length) (hx : f.code[pc]? = some x) : Inv f os ts :=
  ⟨h.toInv0, fun q hq hqt => by
    by_cases e : q = pc
    · subst e
      rcases h.own with h1 | ⟨h1, h2⟩
      · exact absurd h1 hqt
      · intro u hu h0 y hy n hn
        rw [hx] at hy; cases hy
        rw [h1 u hu x hx]
        obtain ⟨i, hi, rfl⟩ := List.getElem_of_mem hn
        exact h2 i _ hi (List.getElem?_eq_getElem hi)
    · exact h.others q hq hqt e⟩
theorem Inv.pop {f : Fun} {os : List Int} {ts : List Nat} (h : Inv f os (ts ++ [f.code.length])) : Inv f os ts :=
  ⟨⟨h.len, h.ent, h.way, h.wayR, h.start, fun t ht => h.todo t (by simp [ht])⟩, fun q hq hqt => h.closed q hq (by simp [hqt]; omega)⟩
/-- What is behind a place that is reached. -/
theorem step_way {f : Fun} {os : List Int} {ts : List Nat} {pc : Nat} {z : Int} {x : Ins} {n : Nat} (h : Inv0 f os ts) (hz : os[pc]? = some z) (h0 : 0 ≤ z) (hx : f.code[pc]? = some x) (hd : 0 ≤ x.dst ∧ x.dst ≤ 11) (hn : (n : Int) ∈ nextZ x pc) :
    Way f (-1) n ∧ ∀ r : Nat, r < 12 → bitZ (aftZ z x) r = false → Way f r n := by
  refine ⟨?_, fun r hr hb => ?_⟩
  · have := Way.step (h.way pc z hz h0) hx (by simp [Kill]) hn
    simpa using this
  · rw [aftZ_bit hd r hr] at hb
    simp only [Bool.or_eq_false_iff] at hb
    have := Way.step (h.wayR pc z hz h0 r hr hb.1) hx (by unfold Kill; rw [Bool.and_assoc, hb.2]; simp) hn
    simpa using this
theorem inv_done {f : Fun} {funcs : Nat} (ok : OkF f funcs) {os : List Int} (h : Inv f os []) : os = sureL f := by
  have hw : ∀ (r : Int) (n : Nat), Way f r n → ∃ z, os[n]? = some z ∧ 0 ≤ z ∧ ∀ k : Nat, k < 12 → (k : Int) = r → bitZ z k = false := fun r n hn => by
    induction hn with
    | start hp =>
      obtain ⟨z, h1, h2, h3⟩ := h.start
      exact ⟨z, h1, h2, fun k hk e => h3 k hk (by omega)⟩
    | @step pc x n hq hx hk hn ih =>
      obtain ⟨z, h1, h2, h3⟩ := ih
      obtain ⟨u, g1, g2, g3⟩ := h.closed pc (List.getElem?_eq_some_iff.1 hx).1 (by simp) z h1 h2 x hx n hn
      refine ⟨u, g1, g2, fun k hk' e => ?_⟩
      cases hb : bitZ u k
      · rfl
      · exfalso
        have ha := g3 k hk' hb
        have hz := h3 k hk' e
        unfold aftZ at ha
        split at ha
        · rename_i hs
          rw [bitZ_or _ _ _ (by omega), hz, Bool.false_or] at ha
          unfold Kill at hk
          rw [hs, ← e] at hk
          simp at hk
          rw [bit_one _ (ok.ins x (List.mem_of_getElem? hx)).dst _ hk'] at ha
          simp at ha; exact hk ha
        · rw [hz] at ha; cases ha
  refine sureL_of h.len fun q hq => ?_
  obtain ⟨z, hz⟩ : ∃ z, os[q]? = some z := ⟨_, List.getElem?_eq_getElem (by rw [h.len]; exact hq)⟩
  have gw : ∀ r : Int, (wayL f r).getD q false = true ↔ Way f r q := fun r => by
    rw [← wayL_at f r q (by omega), List.getD_eq_getElem?_getD]
    rcases hh : (wayL f r)[q]? with _ | c
    · simp
    · cases c <;> simp
  rw [hz]
  unfold sureUpto
  by_cases hway : Way f (-1) q
  · rw [if_pos ((gw _).2 hway)]
    obtain ⟨u, h1, h2, _⟩ := hw _ _ hway
    rw [hz] at h1; cases h1
    have he := (h.ent q z hz).resolve_left (by omega)
    rw [← mask_eq he]
    congr 1
    refine mskZ_congr 12 fun r hr => ?_
    cases hb : bitZ z r
    · have := (gw r).2 (h.wayR q z hz h2 r hr hb)
      rw [this]; rfl
    · cases hg : (wayL f r).getD q false
      · rfl
      · obtain ⟨u, h1, _, h3⟩ := hw _ _ ((gw r).1 hg)
        rw [hz] at h1; cases h1
        rw [h3 r hr rfl] at hb; cases hb
  · have : (wayL f (-1)).getD q false = false := by
      cases hg : (wayL f (-1)).getD q false
      · rfl
      · exact absurd ((gw _).1 hg) hway
    rw [this]
    rcases h.ent q z hz with rfl | hz0
    · rfl
    · exact absurd (h.way q z hz hz0.1) hway
end Go.Proofs.YtceilfmfidmfpaaDoor
namespace Go.Proofs.YtceilfmfidmfpaaDoor
open Go.RowKit Plain64
theorem bits_andNot (a b : Int) : bits .andNot .i64 a b = (BitVec.ofInt 64 a &&& ~~~ BitVec.ofInt 64 b).toInt := by
  show IntKind.i64.wrap _ = _
  rw [IntWalk.i64_left]; exact wrap64_toNat _
theorem bitZ_andNot (a b : Int) (i : Nat) (hi : i < 64) : bitZ (bits .andNot .i64 a b) i = (bitZ a i && !bitZ b i) := by
  rw [bits_andNot, bitZ_toInt _ _ hi, BitVec.getLsbD_and, BitVec.getLsbD_not, bitZ_eq _ _ hi, bitZ_eq _ _ hi, decide_eq_true hi, Bool.true_and]
theorem andNot_range (a b : Int) (ha : 0 ≤ a ∧ a ≤ 4095) : 0 ≤ bits .andNot .i64 a b ∧ bits .andNot .i64 a b ≤ 4095 := by
  rw [bits_andNot]
  exact small12 _ fun i h1 h2 => by rw [BitVec.getLsbD_and, ← bitZ_eq _ _ h2, bitZ_high a ha i h1]; rfl
theorem bitsL_or (a b : Int) (ha : 0 ≤ a ∧ a ≤ 11) (hb : 0 ≤ b ∧ b ≤ 11) : bitsL [a, b] = bits .or .i64 (2 ^ a.toNat) (2 ^ b.toNat) := (or_bits a b ha hb).symm
theorem bitsL_range {l : List Int} (hl : l.length ≤ 2) (hin : ∀ a ∈ l, 0 ≤ a ∧ a ≤ 11) : 0 ≤ bitsL l ∧ bitsL l ≤ 4095 := by
  match l, hl with
  | [], _ => simp [bitsL]
  | [a], _ => have := pow_small a (hin a (by simp)); simp [bitsL]; omega
  | [a, b], _ =>
    have h1 := pow_small a (hin a (by simp))
    have h2 := pow_small b (hin b (by simp))
    rw [bitsL_or a b (hin a (by simp)) (hin b (by simp))]
    exact or_range _ _ (by omega) (by omega)
theorem bitsL_bit {l : List Int} (hl : l.length ≤ 2) (hin : ∀ a ∈ l, 0 ≤ a ∧ a ≤ 11) (r : Nat) (hr : r < 12) : bitZ (bitsL l) r = l.any fun a => decide (a = r) := by
  match l, hl with
  | [], _ => simp [bitsL, bitZ]
  | [a], _ => rw [show bitsL [a] = 2 ^ a.toNat from rfl, bit_one a (hin a (by simp)) r hr]; simp
  | [a, b], _ =>
    rw [bitsL_or a b (hin a (by simp)) (hin b (by simp)), bitZ_or _ _ _ (by omega), bit_one a (hin a (by simp)) r hr, bit_one b (hin b (by simp)) r hr]; simp
/-- Is something read that is not set? -/
def unsetB (s : Int) (l : List Int) : Bool := decide (0 ≤ s) && l.any fun a => !bitZ s a.toNat
theorem andNot_ne {l : List Int} (hl : l.length ≤ 2) (hin : ∀ a ∈ l, 0 ≤ a ∧ a ≤ 11) (s : Int) : (bits .andNot .i64 (bitsL l) s != 0) = l.any fun a => !bitZ s a.toNat := by
  have hr := andNot_range (bitsL l) s (bitsL_range hl hin)
  rw [Bool.eq_iff_iff, bne_iff_ne, List.any_eq_true]
  constructor
  · intro hne
    apply Classical.byContradiction
    intro hno
    apply hne
    refine mask_ext hr (by omega) fun r hr' => ?_
    rw [bitZ_andNot _ _ _ (by omega), bitsL_bit hl hin r hr']
    have h0 : bitZ 0 r = false := by simp [bitZ]
    rw [h0]
    cases h1 : l.any fun a => decide (a = r)
    · rfl
    · obtain ⟨a, ha, hd⟩ := List.any_eq_true.1 h1
      have hd := of_decide_eq_true hd
      cases h2 : bitZ s r
      · exact absurd ⟨a, ha, by rw [hd, Int.toNat_natCast, h2]; rfl⟩ hno
      · rfl
  · rintro ⟨a, ha, hb⟩ h0
    have hia := hin a ha
    have h1 := bitZ_andNot (bitsL l) s a.toNat (by omega)
    rw [h0, bitsL_bit hl hin a.toNat (by omega)] at h1
    have h2 : (l.any fun a' => decide (a' = (a.toNat : Int))) = true := List.any_eq_true.2 ⟨a, ha, decide_eq_true (by omega)⟩
    rw [h2, Bool.true_and, hb] at h1
    simp [bitZ] at h1
noncomputable def unsetAt (p : Prg) (f : Fun) (pc : Nat) : Bool := match f.code[pc]? with | none => false | some x => unsetB ((sureL f).getD pc (-1)) (readsL p x)
noncomputable def endsAt (f : Fun) : Bool := decide (0 ≤ (sureL f).getD f.code.length (-1))
noncomputable def provenF (p : Prg) (f : Fun) : Int := if (List.range f.code.length).any (unsetAt p f) then 6 else if endsAt f then 7 else 0
noncomputable def proven (p : Prg) : Int := if prgFault p ≠ 0 then prgFault p else firstZ (p.funcs.map (provenF p))
theorem provenF_bad {p : Prg} {f : Fun} {pc : Nat} (h : pc < f.code.length) (hu : unsetAt p f pc = true) : provenF p f = 6 := by
  unfold provenF
  rw [if_pos]
  exact List.any_eq_true.2 ⟨pc, by simpa using h, hu⟩
theorem provenF_good {p : Prg} {f : Fun} (h : ∀ pc, pc < f.code.length → unsetAt p f pc = false) : provenF p f = if endsAt f then 7 else 0 := by
  unfold provenF
  rw [if_neg]
  intro he
  obtain ⟨pc, h1, h2⟩ := List.any_eq_true.1 he
  rw [h pc (by simpa using h1)] at h2
  cases h2
theorem unsetAt_eq {p : Prg} {f : Fun} {pc : Nat} {x : Ins} {s : Int} (hx : f.code[pc]? = some x) (hs : (sureL f)[pc]? = some s) : unsetAt p f pc = unsetB s (readsL p x) := by
  unfold unsetAt
  rw [hx, List.getD_eq_getElem?_getD, hs]; rfl
theorem endsAt_eq {f : Fun} {s : Int} (hs : (sureL f)[f.code.length]? = some s) : endsAt f = decide (0 ≤ s) := by
  unfold endsAt
  rw [List.getD_eq_getElem?_getD, hs]; rfl
theorem sureL_range {f : Fun} {s : Int} (hs : s ∈ sureL f) : -1 ≤ s ∧ s ≤ 4095 := by
  obtain ⟨q, _, rfl⟩ := List.mem_map.1 hs
  exact sureUpto_range f 12 q (Nat.le_refl _)
end Go.Proofs.YtceilfmfidmfpaaDoor
namespace Go.Proofs.YtceilfmfidmfpaaDoor
open Go.RowKit Plain64
def codeOf (p : Prg) (fn : Int) : List Ins := ((p.funcs[fn.toNat]?).map Fun.code).getD []
def ownF (p : Prg) (f : Frm) : Prop := 0 ≤ f.fn ∧ f.fn < p.funcs.length ∧ 0 ≤ f.pc ∧ f.pc < (codeOf p f.fn).length
def insAt (p : Prg) (f : Frm) : Ins := ((codeOf p f.fn)[f.pc.toNat]?).getD default
def linkF (p : Prg) (f g : Frm) : Prop := (insAt p f).op = 17 ∧ (insAt p f).imm = g.fn
structure FramesOk (p : Prg) (fs : List Frm) : Prop where
  own : ∀ f ∈ fs, ownF p f
  link : ∀ (i : Nat) f g, fs[i]? = some f → fs[i + 1]? = some g → linkF p f g
structure HeadOk (s : Sta) : Prop where
  status : 0 ≤ s.status ∧ s.status ≤ 5
  fuel : 0 ≤ s.fuel ∧ s.fuel ≤ 10000
  frames : s.frames.length ≤ 8
  answers : s.answers.length ≤ 100
  value : s.status ≠ 1 → s.value = 0
  done : s.frames.length = 0 ↔ s.status = 1
open Classical in
/-- P4.2, at every argument. -/
noncomputable def stateFault (p : Prg) (s : Sta) : Int := if proven p ≠ 0 then proven p else if HeadOk s ∧ FramesOk p s.frames then 0 else 8
theorem sf_bad {p : Prg} {s : Sta} (h : proven p ≠ 0) : stateFault p s = proven p := by unfold stateFault; rw [if_pos h]
theorem sf_head {p : Prg} {s : Sta} (h : proven p = 0) (hh : ¬ HeadOk s) : stateFault p s = 8 := by
  unfold stateFault; rw [if_neg (by simpa using h), if_neg (fun x => hh x.1)]
theorem sf_frames {p : Prg} {s : Sta} (h : proven p = 0) (hh : ¬ FramesOk p s.frames) : stateFault p s = 8 := by
  unfold stateFault; rw [if_neg (by simpa using h), if_neg (fun x => hh x.2)]
theorem sf_ok {p : Prg} {s : Sta} (h : proven p = 0) (hh : HeadOk s) (hf : FramesOk p s.frames) : stateFault p s = 0 := by
  unfold stateFault; rw [if_neg (by simpa using h), if_pos ⟨hh, hf⟩]
theorem codeOf_eq {p : Prg} {k : Nat} {f : Fun} (h : p.funcs[k]? = some f) : codeOf p (k : Int) = f.code := by unfold codeOf; rw [Int.toNat_natCast, h]; rfl
theorem insAt_eq {p : Prg} {g : Frm} {k j : Nat} {f : Fun} {x : Ins} (hk : g.fn = k) (hj : g.pc = j) (h : p.funcs[k]? = some f) (hx : f.code[j]? = some x) : insAt p g = x := by
  unfold insAt; rw [hk, hj, codeOf_eq h, Int.toNat_natCast, hx]; rfl
theorem proven_prg {p : Prg} (h : proven p = 0) : prgFault p = 0 := by
  by_cases hz : prgFault p = 0
  · exact hz
  · unfold proven at h; rw [if_pos hz] at h; exact h
/-- What of a head may be wrong, the first first: as the program asks. -/
theorem head_cases (s : Sta) : (HeadOk s ∧ 0 ≤ s.status ∧ s.status ≤ 5 ∧ 0 ≤ s.fuel ∧ s.fuel ≤ 10000 ∧ (s.frames.length : Int) ≤ 8 ∧ (s.answers.length : Int) ≤ 100 ∧ ((s.status == 1) = true ∧ ((s.frames.length : Int) == 0) = true ∨ (s.status == 1) = false ∧ (s.value == 0) = true ∧ ((s.frames.length : Int) == 0) = false)) ∨
    s.status < 0 ∨ (0 ≤ s.status ∧ 5 < s.status) ∨ (0 ≤ s.status ∧ s.status ≤ 5 ∧ s.fuel < 0) ∨ (0 ≤ s.status ∧ s.status ≤ 5 ∧ 0 ≤ s.fuel ∧ 10000 < s.fuel) ∨ (0 ≤ s.status ∧ s.status ≤ 5 ∧ 0 ≤ s.fuel ∧ s.fuel ≤ 10000 ∧ 8 < (s.frames.length : Int)) ∨ (0 ≤ s.status ∧ s.status ≤ 5 ∧ 0 ≤ s.fuel ∧ s.fuel ≤ 10000 ∧ (s.frames.length : Int) ≤ 8 ∧ 100 < (s.answers.length : Int)) ∨
    (0 ≤ s.status ∧ s.status ≤ 5 ∧ 0 ≤ s.fuel ∧ s.fuel ≤ 10000 ∧ (s.frames.length : Int) ≤ 8 ∧ (s.answers.length : Int) ≤ 100 ∧ (s.status == 1) = false ∧ (s.value == 0) = false) ∨ (0 ≤ s.status ∧ s.status ≤ 5 ∧ 0 ≤ s.fuel ∧ s.fuel ≤ 10000 ∧ (s.frames.length : Int) ≤ 8 ∧ (s.answers.length : Int) ≤ 100 ∧ (s.status == 1) = false ∧ (s.value == 0) = true ∧ ((s.frames.length : Int) == 0) = true) ∨ (0 ≤ s.status ∧ s.status ≤ 5 ∧ 0 ≤ s.fuel ∧ s.fuel ≤ 10000 ∧ (s.frames.length : Int) ≤ 8 ∧ (s.answers.length : Int) ≤ 100 ∧ (s.status == 1) = true ∧ ((s.frames.length : Int) == 0) = false) := by
  by_cases h1 : s.status < 0
  · exact .inr (.inl h1)
  by_cases h2 : 5 < s.status
  · exact .inr (.inr (.inl ⟨by omega, h2⟩))
  by_cases h3 : s.fuel < 0
  · exact .inr (.inr (.inr (.inl ⟨by omega, by omega, h3⟩)))
  by_cases h4 : 10000 < s.fuel
  · exact .inr (.inr (.inr (.inr (.inl ⟨by omega, by omega, by omega, h4⟩))))
  by_cases h5 : 8 < s.frames.length
  · exact .inr (.inr (.inr (.inr (.inr (.inl ⟨by omega, by omega, by omega, by omega, by omega⟩)))))
  by_cases h6 : 100 < s.answers.length
  · exact .inr (.inr (.inr (.inr (.inr (.inr (.inl ⟨by omega, by omega, by omega, by omega, by omega, by omega⟩))))))
  by_cases hs : s.status = 1
  · by_cases hl : s.frames.length = 0
    · exact .inl ⟨⟨by omega, by omega, by omega, by omega, fun h => absurd hs h, ⟨fun _ => hs, fun _ => hl⟩⟩, by omega, by omega, by omega, by omega, by omega, by omega, .inl ⟨by simpa using hs, by rw [beq_iff_eq]; omega⟩⟩
    · exact .inr (.inr (.inr (.inr (.inr (.inr (.inr (.inr (.inr ⟨by omega, by omega, by omega, by omega, by omega, by omega, by simpa using hs, by rw [beq_eq_false_iff_ne]; omega⟩))))))))
  · by_cases hv : s.value = 0
    · by_cases hl : s.frames.length = 0
      · exact .inr (.inr (.inr (.inr (.inr (.inr (.inr (.inr (.inl ⟨by omega, by omega, by omega, by omega, by omega, by omega, by simpa using hs, by simpa using hv, by rw [beq_iff_eq]; omega⟩))))))))
      · exact .inl ⟨⟨by omega, by omega, by omega, by omega, fun _ => hv, ⟨fun h => absurd h hl, fun h => absurd h hs⟩⟩, by omega, by omega, by omega, by omega, by omega, by omega, .inr ⟨by simpa using hs, by simpa using hv, by rw [beq_eq_false_iff_ne]; omega⟩⟩
    · exact .inr (.inr (.inr (.inr (.inr (.inr (.inr (.inl ⟨by omega, by omega, by omega, by omega, by omega, by omega, by simpa using hs, by simpa using hv⟩)))))))
theorem head_not {s : Sta} (h : s.status < 0 ∨ (0 ≤ s.status ∧ 5 < s.status) ∨ s.fuel < 0 ∨ 10000 < s.fuel ∨ 8 < (s.frames.length : Int) ∨ 100 < (s.answers.length : Int) ∨ ((s.status == 1) = false ∧ (s.value == 0) = false) ∨ ((s.status == 1) = false ∧ ((s.frames.length : Int) == 0) = true) ∨ ((s.status == 1) = true ∧ ((s.frames.length : Int) == 0) = false)) : ¬ HeadOk s := by
  intro hk
  have h1 := hk.status
  have h2 := hk.fuel
  have h3 := hk.frames
  have h4 := hk.answers
  simp only [beq_iff_eq, beq_eq_false_iff_ne, ne_eq] at h
  rcases h with h | h | h | h | h | h | h | h | h
  · omega
  · omega
  · omega
  · omega
  · omega
  · omega
  · exact h.2 (hk.value h.1)
  · exact h.1 (hk.done.1 (by omega))
  · exact h.2 (by have := hk.done.2 h.1; omega)
end Go.Proofs.YtceilfmfidmfpaaDoor
namespace Go.Proofs.YtceilfmfidmfpaaDoor
open Go.RowKit Plain64
/-- Is a place reached? -/
def SureAt (f : Fun) (pc : Nat) : Prop := 0 ≤ (sureL f).getD pc (-1)
def KillsR (x : Ins) (r : Nat) : Prop := setsZ x.op = true ∧ x.dst = (r : Int)
/-- There is a way from a reached place to a read of the register, on which it is not set ahead of that. -/
inductive LiveP (p : Prg) (f : Fun) (r : Nat) : Nat → Prop
  | read {pc : Nat} {x : Ins} (hx : f.code[pc]? = some x) (hs : SureAt f pc) (hr : (r : Int) ∈ readsL p x) : LiveP p f r pc
  | way {pc : Nat} {x : Ins} {n : Int} (hx : f.code[pc]? = some x) (hs : SureAt f pc) (hk : ¬ KillsR x r) (hn : n ∈ nextZ x pc) (hl : LiveP p f r n.toNat) : LiveP p f r pc
open Classical in
noncomputable def liveB (p : Prg) (f : Fun) (r pc : Nat) : Bool := decide (LiveP p f r pc)
theorem liveB_iff {p : Prg} {f : Fun} {r pc : Nat} : liveB p f r pc = true ↔ LiveP p f r pc := by unfold liveB; simp
open Classical in
/-- The registers below k that are live at a place, as bits; -1: it is not reached. -/
noncomputable def liveUpto (p : Prg) (f : Fun) (k pc : Nat) : Int := if SureAt f pc then mskZ (fun r => liveB p f r pc) k else -1
noncomputable def liveL (p : Prg) (f : Fun) : List Int := (List.range f.code.length).map (liveUpto p f 12)
noncomputable def liveAns (p : Prg) (fn : Int) : List Int × Int :=
  if proven p ≠ 0 then ([], proven p) else if fn < 0 then ([], 2) else match p.funcs[fn.toNat]? with | none => ([], 2) | some f => (liveL p f, 0)
theorem liveL_len (p : Prg) (f : Fun) : (liveL p f).length = f.code.length := by simp [liveL]
theorem sureL_at (f : Fun) (pc : Nat) (h : pc ≤ f.code.length) : (sureL f)[pc]? = some (sureUpto f 12 pc) := by
  unfold sureL; rw [List.getElem?_map, List.getElem?_range (by omega)]; rfl
theorem wayL_getD (f : Fun) (pc : Nat) (h : pc ≤ f.code.length) : (wayL f (-1)).getD pc false = true ↔ Way f (-1) pc := by
  rw [← wayL_at f (-1) pc h, List.getD_eq_getElem?_getD]
  cases (wayL f (-1))[pc]? <;> simp
theorem sure_iff {f : Fun} {pc : Nat} (h : pc ≤ f.code.length) : SureAt f pc ↔ Way f (-1) pc := by
  unfold SureAt
  rw [List.getD_eq_getElem?_getD, sureL_at f pc h, Option.getD_some]
  unfold sureUpto
  by_cases hw : (wayL f (-1)).getD pc false = true
  · rw [if_pos hw]
    have := mskZ_range (fun r => !(wayL f r).getD pc false) 12
    exact ⟨fun _ => (wayL_getD f pc h).1 hw, fun _ => this.1⟩
  · rw [if_neg hw]
    exact ⟨fun h => absurd h (by decide), fun hw' => absurd ((wayL_getD f pc h).2 hw') hw⟩
theorem SureAt.lt {f : Fun} {pc : Nat} (h : SureAt f pc) : pc ≤ f.code.length := by
  unfold SureAt at h
  rw [List.getD_eq_getElem?_getD] at h
  by_cases hp : pc ≤ f.code.length
  · exact hp
  · rw [List.getElem?_eq_none (by rw [sureL_len]; omega)] at h; exact absurd h (by decide)
theorem SureAt.next {f : Fun} {funcs : Nat} (ok : OkF f funcs) {pc : Nat} {x : Ins} (h : SureAt f pc) (hx : f.code[pc]? = some x) {n : Int} (hn : n ∈ nextZ x pc) : SureAt f n.toNat ∧ 0 ≤ n ∧ n ≤ f.code.length := by
  obtain ⟨hpc, rfl⟩ := List.getElem?_eq_some_iff.1 hx
  have hr := nextZ_in (ok.ins _ (List.getElem_mem hpc)) hpc n hn
  refine ⟨(sure_iff (by omega)).2 (.step ((sure_iff (by omega)).1 h) hx (by unfold Kill; simp) hn), hr⟩
/-- A place behind a reached one is no end. -/
theorem SureAt.nextLt {f : Fun} {funcs : Nat} (ok : OkF f funcs) (he : endsAt f = false) {pc : Nat} {x : Ins} (h : SureAt f pc) (hx : f.code[pc]? = some x) {n : Int} (hn : n ∈ nextZ x pc) : SureAt f n.toNat ∧ 0 ≤ n ∧ n < f.code.length := by
  obtain ⟨h1, h2, h3⟩ := h.next ok hx hn
  refine ⟨h1, h2, ?_⟩
  by_cases e : n = f.code.length
  · exfalso
    rw [e, Int.toNat_natCast] at h1
    unfold endsAt at he
    exact (decide_eq_false_iff_not.1 he) h1
  · omega
/-! ### All registers of a place at once -/
def FBit (p : Prg) (os : List Int) (x : Ins) (q r : Nat) : Prop := (r : Int) ∈ readsL p x ∨ (¬ KillsR x r ∧ ∃ n ∈ nextZ x q, ∃ z, os[n.toNat]? = some z ∧ bitZ z r = true)
def orL (os : List Int) : List Int → Int → Int
  | [], b => b
  | n :: l, b => orL os l (bits .or .i64 b (os.getD n.toNat 0))
def setM (x : Ins) : Int := if setsZ x.op then 2 ^ x.dst.toNat else 0
def liveStep (p : Prg) (os : List Int) (x : Ins) (q : Nat) : Int := bits .or .i64 (bits .andNot .i64 (orL os (nextZ x q) 0) (setM x)) (bitsL (readsL p x))
def Small (os : List Int) : Prop := ∀ (q : Nat) z, os[q]? = some z → 0 ≤ z ∧ z ≤ 4095
theorem Small.getD {os : List Int} (h : Small os) (q : Nat) : 0 ≤ os.getD q 0 ∧ os.getD q 0 ≤ 4095 := by
  rw [List.getD_eq_getElem?_getD]
  cases hq : os[q]? with
  | none => simp
  | some z => exact h q z hq
theorem orL_range {os : List Int} (h : Small os) : ∀ (l : List Int) (b : Int), 0 ≤ b ∧ b ≤ 4095 → 0 ≤ orL os l b ∧ orL os l b ≤ 4095
  | [], b, hb => hb
  | n :: l, b, hb => orL_range h l _ (or_range _ _ hb (h.getD _))
theorem bit_zero (r : Nat) : bitZ 0 r = false := by unfold bitZ; simp
theorem orL_bit {os : List Int} (r : Nat) (hr : r < 12) : ∀ (l : List Int) (b : Int), bitZ (orL os l b) r = true ↔ (bitZ b r = true ∨ ∃ n ∈ l, ∃ z, os[n.toNat]? = some z ∧ bitZ z r = true)
  | [], b => by simp [orL]
  | n :: l, b => by
    rw [orL, orL_bit r hr l, bitZ_or _ _ _ (by omega), Bool.or_eq_true, List.getD_eq_getElem?_getD]
    have e : bitZ (os[n.toNat]?.getD 0) r = true ↔ ∃ z, os[n.toNat]? = some z ∧ bitZ z r = true := by
      cases os[n.toNat]? with
      | none => simp [bit_zero]
      | some z => simp
    rw [e]
    constructor
    · rintro ((h | ⟨z, h1, h2⟩) | ⟨m, hm, h⟩)
      · exact .inl h
      · exact .inr ⟨n, by simp, z, h1, h2⟩
      · exact .inr ⟨m, by simp [hm], h⟩
    · rintro (h | ⟨m, hm, z, h1, h2⟩)
      · exact .inl (.inl h)
      · rcases List.mem_cons.1 hm with rfl | hm
        · exact .inl (.inr ⟨z, h1, h2⟩)
        · exact .inr ⟨m, hm, z, h1, h2⟩
theorem orL_append (os : List Int) : ∀ (l : List Int) (n b : Int), orL os (l ++ [n]) b = bits .or .i64 (orL os l b) (os.getD n.toNat 0)
  | [], _, _ => rfl
  | _ :: l, n, _ => orL_append os l n _
/-- What an instruction reads is a register. -/
structure InsR (p : Prg) (x : Ins) : Prop where
  len : (readsL p x).length ≤ 2
  mem : ∀ a ∈ readsL p x, 0 ≤ a ∧ a ≤ 11
  dst : 0 ≤ x.dst ∧ x.dst ≤ 11
theorem setM_bit {x : Ins} (hd : 0 ≤ x.dst ∧ x.dst ≤ 11) (r : Nat) (hr : r < 12) : bitZ (setM x) r = true ↔ KillsR x r := by
  unfold setM KillsR
  split
  · rename_i h; rw [bit_one _ hd _ hr, h]; simp
  · rename_i h; rw [bit_zero]; simp [h]
theorem setM_range {x : Ins} (hd : 0 ≤ x.dst ∧ x.dst ≤ 11) : 0 ≤ setM x ∧ setM x ≤ 4095 := by
  unfold setM
  split
  · have := pow_small x.dst hd; omega
  · omega
theorem liveStep_range {p : Prg} {os : List Int} (h : Small os) {x : Ins} (hi : InsR p x) (q : Nat) : 0 ≤ liveStep p os x q ∧ liveStep p os x q ≤ 4095 :=
  or_range _ _ (andNot_range _ _ (orL_range h _ _ (by omega))) (bitsL_range hi.len hi.mem)
theorem liveStep_bit {p : Prg} {os : List Int} {x : Ins} (hi : InsR p x) (q r : Nat) (hr : r < 12) : bitZ (liveStep p os x q) r = true ↔ FBit p os x q r := by
  unfold liveStep FBit
  rw [bitZ_or _ _ _ (by omega), bitZ_andNot _ _ _ (by omega), bitsL_bit hi.len hi.mem r hr, Bool.or_eq_true, Bool.and_eq_true, orL_bit r hr, Bool.not_eq_true', ← Bool.not_eq_true, setM_bit hi.dst r hr, bit_zero, List.any_eq_true]
  constructor
  · rintro (⟨h1 | h1, h2⟩ | ⟨a, h1, h2⟩)
    · cases h1
    · exact .inr ⟨h2, h1⟩
    · exact .inl (by have := of_decide_eq_true h2; rw [← this]; exact h1)
  · rintro (h | ⟨h1, h2⟩)
    · exact .inr ⟨_, h, by simp⟩
    · exact .inl ⟨.inr h2, h1⟩
structure LiveInv (p : Prg) (f : Fun) (os : List Int) : Prop where
  len : os.length = f.code.length
  rng : Small os
  uns : ∀ (q : Nat) z, os[q]? = some z → ¬ SureAt f q → z = 0
  snd : ∀ (q : Nat) z r, os[q]? = some z → r < 12 → bitZ z r = true → LiveP p f r q
  inc : ∀ (q : Nat) z x r, os[q]? = some z → SureAt f q → f.code[q]? = some x → r < 12 → bitZ z r = true → FBit p os x q r
theorem live_start (p : Prg) (f : Fun) : LiveInv p f (List.replicate f.code.length 0) := by
  have h0 : ∀ (q : Nat) z, (List.replicate f.code.length (0 : Int))[q]? = some z → z = 0 := fun q z h => by
    have := List.mem_of_getElem? h; simp at this; exact this.2
  refine ⟨by simp, fun q z h => by rw [h0 q z h]; omega, fun q z h _ => h0 q z h, fun q z r h _ hb => ?_, fun q z x r h _ _ _ hb => ?_⟩ <;> (rw [h0 q z h, bit_zero] at hb; cases hb)
/-- How many registers are not yet known to be live. -/
def nuZ (os : List Int) : Nat := (os.map fun z => 12 - wtZ z).sum
theorem nuZ_set {os : List Int} {n : Nat} {z y : Int} (h : os[n]? = some z) (hw : wtZ z < wtZ y) (hy : wtZ y ≤ 12) : nuZ (os.set n y) + 1 ≤ nuZ os := by
  unfold nuZ
  induction os generalizing n with
  | nil => simp at h
  | cons a os ih =>
    cases n with
    | zero => simp at h; subst h; simp; omega
    | succ n =>
      have := ih (n := n) (by simpa using h)
      simp only [List.set_cons_succ, List.map_cons, List.sum_cons]; omega
theorem wtZ_le {y : Int} (hy : 0 ≤ y) : wtZ y ≤ 12 := by
  have : (List.range 12).countP (bitZ y) ≤ 12 := by have := List.countP_le_length (p := bitZ y) (l := List.range 12); simpa using this
  unfold wtZ
  rw [if_neg (by omega)]; exact this
theorem wtZ_sub {z y : Int} (hz : 0 ≤ z ∧ z ≤ 4095) (hy : 0 ≤ y ∧ y ≤ 4095) (hs : Sub z y) (hne : y ≠ z) : wtZ z < wtZ y := by
  unfold wtZ
  rw [if_neg (by omega), if_neg (by omega)]
  refine countP_lt _ (fun r hr h => hs r (by simpa using hr) h) ?_
  apply Classical.byContradiction
  intro hno
  apply hne
  refine mask_ext hy hz fun r hr => ?_
  cases h1 : bitZ z r
  · cases h2 : bitZ y r
    · rfl
    · exact absurd ⟨r, by simpa using hr, h1, h2⟩ hno
  · exact hs r hr h1
theorem LiveInv.upd {p : Prg} {f : Fun} {os : List Int} (h : LiveInv p f os) {q : Nat} {z : Int} {x : Ins} (hq : os[q]? = some z) (hs : SureAt f q) (hx : f.code[q]? = some x) (hi : InsR p x) (hne : liveStep p os x q ≠ z) :
    LiveInv p f (os.set q (liveStep p os x q)) ∧ nuZ (os.set q (liveStep p os x q)) + 1 ≤ nuZ os := by
  have hlt : q < os.length := (List.getElem?_eq_some_iff.1 hq).1
  have hr := liveStep_range h.rng hi q
  have hsub : Sub z (liveStep p os x q) := fun r hr' hb => (liveStep_bit hi q r hr').2 (h.inc q z x r hq hs hx hr' hb)
  have hat : ∀ (k : Nat) u, (os.set q (liveStep p os x q))[k]? = some u → (k = q ∧ u = liveStep p os x q) ∨ (k ≠ q ∧ os[k]? = some u) := fun k u hu => by
    by_cases e : q = k
    · subst e; rw [List.getElem?_set_self hlt] at hu; cases hu; exact .inl ⟨rfl, rfl⟩
    · rw [List.getElem?_set_ne e] at hu; exact .inr ⟨Ne.symm e, hu⟩
  have hmono : ∀ y k r, r < 12 → FBit p os y k r → FBit p (os.set q (liveStep p os x q)) y k r := fun y k r hr' hf => by
    rcases hf with hf | ⟨h1, n, hn, u, hu, hb⟩
    · exact .inl hf
    · refine .inr ⟨h1, n, hn, ?_⟩
      by_cases e : q = n.toNat
      · rw [← e] at hu ⊢
        rw [hq] at hu; cases hu
        exact ⟨_, List.getElem?_set_self hlt, hsub r hr' hb⟩
      · exact ⟨u, by rw [List.getElem?_set_ne e]; exact hu, hb⟩
  refine ⟨⟨by simpa using h.len, fun k u hu => ?_, fun k u hu hn => ?_, fun k u r hu hr' hb => ?_, fun k u y r hu hsk hy hr' hb => ?_⟩, nuZ_set hq (wtZ_sub (h.rng q z hq) hr hsub hne) (wtZ_le hr.1)⟩
  · rcases hat k u hu with ⟨rfl, rfl⟩ | ⟨_, hu⟩
    · exact hr
    · exact h.rng k u hu
  · rcases hat k u hu with ⟨rfl, rfl⟩ | ⟨_, hu⟩
    · exact absurd hs hn
    · exact h.uns k u hu hn
  · rcases hat k u hu with ⟨rfl, rfl⟩ | ⟨_, hu⟩
    · rcases (liveStep_bit hi k r hr').1 hb with hf | ⟨h1, n, hn, v, hv, hbv⟩
      · exact .read hx hs hf
      · exact .way hx hs h1 hn (h.snd _ v r hv hr' hbv)
    · exact h.snd k u r hu hr' hb
  · rcases hat k u hu with ⟨rfl, rfl⟩ | ⟨_, hu⟩
    · rw [hx] at hy; cases hy
      exact hmono _ _ _ hr' ((liveStep_bit hi k r hr').1 hb)
    · exact hmono _ _ _ hr' (h.inc k u y r hu hsk hy hr' hb)
def LClosed (p : Prg) (f : Fun) (os : List Int) (q : Nat) : Prop := ∀ x z, f.code[q]? = some x → os[q]? = some z → SureAt f q → liveStep p os x q = z
theorem live_bit {p : Prg} {f : Fun} {os : List Int} (h : LiveInv p f os) (hi : ∀ x ∈ f.code, InsR p x) (hc : ∀ q, q < f.code.length → LClosed p f os q) {r q : Nat} (hr : r < 12) (hl : LiveP p f r q) : ∃ z, os[q]? = some z ∧ bitZ z r = true := by
  induction hl with
  | read hx hs hm =>
    obtain ⟨hq, rfl⟩ := List.getElem?_eq_some_iff.1 hx
    obtain ⟨z, hz⟩ : ∃ z, os[_]? = some z := ⟨_, List.getElem?_eq_getElem (by rw [h.len]; exact hq)⟩
    refine ⟨z, hz, ?_⟩
    rw [← hc _ hq _ z hx hz hs]
    exact (liveStep_bit (hi _ (List.getElem_mem hq)) _ r hr).2 (.inl hm)
  | way hx hs hk hn _ ih =>
    obtain ⟨hq, rfl⟩ := List.getElem?_eq_some_iff.1 hx
    obtain ⟨z, hz⟩ : ∃ z, os[_]? = some z := ⟨_, List.getElem?_eq_getElem (by rw [h.len]; exact hq)⟩
    refine ⟨z, hz, ?_⟩
    rw [← hc _ hq _ z hx hz hs]
    exact (liveStep_bit (hi _ (List.getElem_mem hq)) _ r hr).2 (.inr ⟨hk, _, hn, ih⟩)
theorem live_end {p : Prg} {f : Fun} {os : List Int} (h : LiveInv p f os) (hi : ∀ x ∈ f.code, InsR p x) (hc : ∀ q, q < f.code.length → LClosed p f os q) {q : Nat} (hq : q < f.code.length) :
    ∃ z, os[q]? = some z ∧ (SureAt f q → z = liveUpto p f 12 q) := by
  obtain ⟨z, hz⟩ : ∃ z, os[q]? = some z := ⟨_, List.getElem?_eq_getElem (by rw [h.len]; exact hq)⟩
  refine ⟨z, hz, fun hs => ?_⟩
  have hr := h.rng q z hz
  unfold liveUpto
  rw [if_pos hs, ← mask_eq hr]
  refine mskZ_congr 12 fun r hr' => ?_
  rw [Bool.eq_iff_iff, liveB_iff]
  refine ⟨h.snd q z r hz hr', fun hl => ?_⟩
  obtain ⟨u, hu, hb⟩ := live_bit h hi hc hr' hl
  rw [hz] at hu; cases hu
  exact hb
/-! ### Register by register -/
structure LvInv (p : Prg) (f : Fun) (r : Nat) (bs : List Bool) : Prop where
  len : bs.length = f.code.length
  snd : ∀ q : Nat, bs[q]? = some true → LiveP p f r q
def LvBit (p : Prg) (x : Ins) (r q : Nat) (bs : List Bool) : Prop := (r : Int) ∈ readsL p x ∨ (¬ KillsR x r ∧ ∃ n ∈ nextZ x q, bs[n.toNat]? = some true)
def LvClosed (p : Prg) (f : Fun) (r : Nat) (bs : List Bool) (q : Nat) : Prop := ∀ x, f.code[q]? = some x → SureAt f q → bs[q]? = some false → ¬ LvBit p x r q bs
theorem LvInv.set {p : Prg} {f : Fun} {r : Nat} {bs : List Bool} (h : LvInv p f r bs) {q : Nat} {x : Ins} (hx : f.code[q]? = some x) (hs : SureAt f q) (hb : LvBit p x r q bs) : LvInv p f r (bs.set q true) :=
  ⟨by simpa using h.len, fun k hk => by
    by_cases e : q = k
    · subst e
      rcases hb with hb | ⟨h1, n, hn, hb⟩
      · exact .read hx hs hb
      · exact .way hx hs h1 hn (h.snd _ hb)
    · rw [List.getElem?_set_ne e] at hk
      exact h.snd k hk⟩
theorem lv_end {p : Prg} {f : Fun} {r : Nat} {bs : List Bool} (h : LvInv p f r bs) (hc : ∀ q, q < f.code.length → LvClosed p f r bs q) {q : Nat} (hq : q < f.code.length) : bs[q]? = some (liveB p f r q) := by
  obtain ⟨b, hb⟩ : ∃ b, bs[q]? = some b := ⟨_, List.getElem?_eq_getElem (by rw [h.len]; exact hq)⟩
  have key : ∀ k, LiveP p f r k → bs[k]? = some true := fun k hl => by
    induction hl with
    | @read pc x hx hs hm =>
      have hk := (List.getElem?_eq_some_iff.1 hx).1
      obtain ⟨b, hb⟩ : ∃ b, bs[pc]? = some b := ⟨_, List.getElem?_eq_getElem (by rw [h.len]; exact hk)⟩
      cases b
      · exact absurd (Or.inl hm) (hc _ hk x hx hs hb)
      · exact hb
    | @way pc x n hx hs hkk hn _ ih =>
      have hk := (List.getElem?_eq_some_iff.1 hx).1
      obtain ⟨b, hb⟩ : ∃ b, bs[pc]? = some b := ⟨_, List.getElem?_eq_getElem (by rw [h.len]; exact hk)⟩
      cases b
      · exact absurd (Or.inr ⟨hkk, n, hn, ih⟩) (hc _ hk x hx hs hb)
      · exact hb
  rw [hb]
  congr 1
  rw [Bool.eq_iff_iff, liveB_iff]
  constructor
  · rintro rfl; exact h.snd q hb
  · intro hl; have := key q hl; rw [hb] at this; cases this; rfl
theorem liveUpto_succ (p : Prg) (f : Fun) (k pc : Nat) : liveUpto p f (k + 1) pc = liveUpto p f k pc + if liveB p f k pc then 2 ^ k else 0 := by
  unfold liveUpto
  by_cases hs : SureAt f pc
  · rw [if_pos hs, if_pos hs, mskZ]
  · rw [if_neg hs, if_neg hs]
    have : liveB p f k pc = false := by
      rw [← Bool.not_eq_true, liveB_iff]
      rintro (⟨_, h, _⟩ | ⟨_, h, _, _, _⟩) <;> exact hs h
    rw [this]; simp
end Go.Proofs.YtceilfmfidmfpaaDoor
namespace Go.Proofs.YtceilfmfidmfpaaDoor
open Go.RowKit Plain64
/-- Does a block begin at a place? -/
def HeadP (f : Fun) (pc : Nat) : Prop := pc = 0 ∨ ∃ (i : Nat) (x : Ins), f.code[i]? = some x ∧ SureAt f i ∧ 15 ≤ x.op ∧ (pc : Int) ∈ nextZ x i
open Classical in
noncomputable def headB (f : Fun) (pc : Nat) : Bool := decide (HeadP f pc)
theorem headB_iff {f : Fun} {pc : Nat} : headB f pc = true ↔ HeadP f pc := by unfold headB; simp
/-- The beginnings of blocks, rising. -/
noncomputable def headsL (f : Fun) : List Nat := (List.range f.code.length).filter (headB f)
theorem sure_zero {f : Fun} : SureAt f 0 := (sure_iff (Nat.zero_le _)).2 (.start (by omega))
theorem mem_headsL {f : Fun} {pc : Nat} : pc ∈ headsL f ↔ pc < f.code.length ∧ HeadP f pc := by
  unfold headsL; rw [List.mem_filter, List.mem_range, headB_iff]
theorem HeadP.sure {f : Fun} {funcs : Nat} (ok : OkF f funcs) (he : endsAt f = false) {pc : Nat} (h : HeadP f pc) : SureAt f pc ∧ pc < f.code.length := by
  rcases h with rfl | ⟨i, x, hx, hs, _, hn⟩
  · exact ⟨sure_zero, ok.len.1⟩
  · obtain ⟨h1, h2, h3⟩ := hs.nextLt ok he hx hn
    rw [Int.toNat_natCast] at h1
    exact ⟨h1, by omega⟩
def opAt (f : Fun) (pc : Nat) : Int := ((f.code[pc]?).map Ins.op).getD 0
theorem opAt_eq {f : Fun} {pc : Nat} {x : Ins} (h : f.code[pc]? = some x) : opAt f pc = x.op := by unfold opAt; rw [h]; rfl
/-- A block that begins at pc ends ahead of t. -/
structure IsTo (f : Fun) (pc t : Nat) : Prop where
  gt : pc < t
  le : t ≤ f.code.length
  stop : 15 ≤ opAt f (t - 1) ∨ HeadP f t
  run : ∀ s, pc < s → s < t → ¬ 15 ≤ opAt f (s - 1) ∧ ¬ HeadP f s
theorem IsTo.unique {f : Fun} {pc t u : Nat} (h : IsTo f pc t) (k : IsTo f pc u) : t = u := by
  rcases Nat.lt_trichotomy t u with h1 | h1 | h1
  · obtain ⟨a, b⟩ := k.run t h.gt h1
    rcases h.stop with c | c
    · exact absurd c a
    · exact absurd c b
  · exact h1
  · obtain ⟨a, b⟩ := h.run u k.gt h1
    rcases k.stop with c | c
    · exact absurd c a
    · exact absurd c b
open Classical in
noncomputable def toOf (f : Fun) (pc : Nat) : Nat := if h : ∃ t, IsTo f pc t then h.choose else 0
theorem IsTo.eq {f : Fun} {pc t : Nat} (h : IsTo f pc t) : toOf f pc = t := by
  have e : ∃ t, IsTo f pc t := ⟨t, h⟩
  unfold toOf; rw [dif_pos e]
  exact e.choose_spec.unique h
/-- A place on the way to a block's end. -/
structure OnTo (f : Fun) (pc t : Nat) : Prop where
  gt : pc < t
  le : t ≤ f.code.length
  sure : SureAt f (t - 1)
  run : ∀ s, pc < s → s < t → ¬ 15 ≤ opAt f (s - 1) ∧ ¬ HeadP f s
theorem OnTo.start {f : Fun} {pc : Nat} (h : SureAt f pc) (hl : pc < f.code.length) : OnTo f pc (pc + 1) := ⟨by omega, by omega, by rw [Nat.add_sub_cancel]; exact h, fun s h1 h2 => by omega⟩
theorem OnTo.done {f : Fun} {pc t : Nat} (h : OnTo f pc t) (hs : 15 ≤ opAt f (t - 1) ∨ HeadP f t) : IsTo f pc t := ⟨h.gt, h.le, hs, h.run⟩
theorem nextZ_plain {x : Ins} {pc : Nat} (h : ¬ 15 ≤ x.op) : nextZ x pc = [(pc : Int) + 1] := by
  unfold nextZ; rw [if_neg (by omega), if_neg (by omega), if_neg (by omega)]
theorem OnTo.lt {f : Fun} {funcs : Nat} (ok : OkF f funcs) (he : endsAt f = false) {pc t : Nat} (h : OnTo f pc t) (h1 : ¬ 15 ≤ opAt f (t - 1)) : t < f.code.length ∧ SureAt f t := by
  have hl : t - 1 < f.code.length := by have := h.gt; have := h.le; omega
  have hx := List.getElem?_eq_getElem hl
  rw [opAt_eq hx] at h1
  have hn : (((t - 1 : Nat) : Int) + 1) ∈ nextZ f.code[t - 1] (t - 1) := by rw [nextZ_plain h1]; simp
  obtain ⟨a, b, c⟩ := h.sure.nextLt ok he hx hn
  have e : (((t - 1 : Nat) : Int) + 1).toNat = t := by have := h.gt; omega
  rw [e] at a
  have := h.gt
  exact ⟨by omega, a⟩
theorem OnTo.next {f : Fun} {funcs : Nat} (ok : OkF f funcs) (he : endsAt f = false) {pc t : Nat} (h : OnTo f pc t) (h1 : ¬ 15 ≤ opAt f (t - 1)) (h2 : ¬ HeadP f t) : OnTo f pc (t + 1) := by
  obtain ⟨a, b⟩ := h.lt ok he h1
  refine ⟨by have := h.gt; omega, by omega, by rw [Nat.add_sub_cancel]; exact b, fun s g1 g2 => ?_⟩
  by_cases e : s = t
  · subst e; exact ⟨h1, h2⟩
  · exact h.run s g1 (by omega)
/-- What a block leads to are blocks' beginnings. -/
theorem IsTo.heads {f : Fun} {funcs : Nat} (ok : OkF f funcs) (he : endsAt f = false) {pc t : Nat} (h : OnTo f pc t) (hs : 15 ≤ opAt f (t - 1) ∨ HeadP f t) {x : Ins} (hx : f.code[t - 1]? = some x) {n : Int} (hn : n ∈ nextZ x (t - 1)) : n.toNat ∈ headsL f ∧ 0 ≤ n := by
  obtain ⟨a, b, c⟩ := h.sure.nextLt ok he hx hn
  refine ⟨mem_headsL.2 ⟨by omega, ?_⟩, b⟩
  by_cases h1 : 15 ≤ opAt f (t - 1)
  · rw [opAt_eq hx] at h1
    exact .inr ⟨t - 1, x, hx, h.sure, h1, by rw [show ((n.toNat : Nat) : Int) = n by omega]; exact hn⟩
  · rw [opAt_eq hx] at h1
    rw [nextZ_plain h1, List.mem_singleton] at hn
    have e : n.toNat = t := by have := h.gt; omega
    rw [e]
    rcases hs with c | c
    · rw [opAt_eq hx] at c; exact absurd c h1
    · exact c
structure Bk where
  frm : Int
  upto : Int
  nxt : List Int
  prv : List Int
def insB (f : Fun) (i : Nat) : Ins := (f.code[i]?).getD default
/-- Where the i-th block begins; its last place. -/
noncomputable def begB (f : Fun) (i : Nat) : Nat := (headsL f).getD i 0
noncomputable def lastB (f : Fun) (i : Nat) : Nat := toOf f (begB f i) - 1
/-- Does block i lead to block k? -/
noncomputable def edgeB (f : Fun) (i k : Nat) : Bool := decide ((begB f k : Int) ∈ nextZ (insB f (lastB f i)) (lastB f i))
noncomputable def nxtB (f : Fun) (i n : Nat) : List Int := ((List.range n).filter (fun k => edgeB f i k)).map fun k : Nat => (k : Int)
noncomputable def prvB (f : Fun) (k n : Nat) : List Int := ((List.range n).filter (fun i => edgeB f i k)).map fun i : Nat => (i : Int)
def preB (k : Nat) : List Int := if k = 0 then [-1] else []
noncomputable def blkOf (f : Fun) (i : Nat) : Bk := ⟨begB f i, toOf f (begB f i), nxtB f i (headsL f).length, preB i ++ prvB f i (headsL f).length⟩
noncomputable def blksL (f : Fun) : List Bk := (List.range (headsL f).length).map (blkOf f)
noncomputable def blocksAns (p : Prg) (fn : Int) : List Bk × Int :=
  if proven p ≠ 0 then ([], proven p) else if fn < 0 then ([], 2) else match p.funcs[fn.toNat]? with | none => ([], 2) | some f => (blksL f, 0)
theorem nxtB_succ (f : Fun) (i n : Nat) : nxtB f i (n + 1) = nxtB f i n ++ if edgeB f i n then [(n : Int)] else [] := by
  unfold nxtB
  rw [List.range_succ, List.filter_append, List.map_append]
  congr 1
  by_cases h : edgeB f i n = true
  · simp [h]
  · simp [h]
theorem prvB_succ (f : Fun) (k n : Nat) : prvB f k (n + 1) = prvB f k n ++ if edgeB f n k then [(n : Int)] else [] := by
  unfold prvB
  rw [List.range_succ, List.filter_append, List.map_append]
  congr 1
  by_cases h : edgeB f n k = true
  · simp [h]
  · simp [h]
theorem headsL_len (f : Fun) : (headsL f).length ≤ f.code.length := by
  unfold headsL; have := List.length_filter_le (headB f) (List.range f.code.length); rwa [List.length_range] at this
theorem headsL_pos {f : Fun} {funcs : Nat} (ok : OkF f funcs) : 0 < (headsL f).length := List.length_pos_of_mem (mem_headsL.2 ⟨ok.len.1, .inl rfl⟩)
theorem headsL_lt (f : Fun) : (headsL f).Pairwise (· < ·) := by
  unfold headsL; exact List.Pairwise.filter _ List.pairwise_lt_range
theorem begB_mem {f : Fun} {i : Nat} (h : i < (headsL f).length) : begB f i ∈ headsL f := by
  unfold begB; rw [List.getD_eq_getElem?_getD, List.getElem?_eq_getElem h]; exact List.getElem_mem h
theorem begB_get {f : Fun} {i : Nat} (h : i < (headsL f).length) : (headsL f)[i]? = some (begB f i) := by
  unfold begB; rw [List.getD_eq_getElem?_getD, List.getElem?_eq_getElem h]; rfl
theorem begB_inj {f : Fun} {i k : Nat} (hi : i < (headsL f).length) (hk : k < (headsL f).length) (h : begB f i = begB f k) : i = k := by
  have h1 := begB_get hi
  have h2 := begB_get hk
  rw [h] at h1
  obtain ⟨a, e1⟩ := List.getElem?_eq_some_iff.1 h1
  obtain ⟨b, e2⟩ := List.getElem?_eq_some_iff.1 h2
  have hp := List.pairwise_iff_getElem.1 (headsL_lt f)
  rcases Nat.lt_trichotomy i k with g | g | g
  · have := hp i k a b g; omega
  · exact g
  · have := hp k i b a g; omega
theorem head_at {f : Fun} {n : Nat} (h : n ∈ headsL f) : ∃ k, k < (headsL f).length ∧ begB f k = n := by
  obtain ⟨k, hk, e⟩ := List.mem_iff_getElem.1 h
  refine ⟨k, hk, ?_⟩
  have := begB_get hk
  rw [List.getElem?_eq_getElem hk, e] at this
  exact (Option.some.inj this).symm
end Go.Proofs.YtceilfmfidmfpaaDoor
namespace Go.Proofs.YtceilfmfidmfpaaDoor
open Go.RowKit Plain64
/-- There is a way from 0 to i that does not come to g. -/
inductive RA (E : Nat → Nat → Prop) (g : Nat) : Nat → Prop
  | start (h : 0 ≠ g) : RA E g 0
  | step {i k : Nat} (h : RA E g i) (he : E i k) (hk : k ≠ g) : RA E g k
/-- There is a way from 0 to i. -/
inductive Rch0 (E : Nat → Nat → Prop) : Nat → Prop
  | start : Rch0 E 0
  | step {i k : Nat} (h : Rch0 E i) (he : E i k) : Rch0 E k
variable {E : Nat → Nat → Prop}
theorem RA.ne {g i : Nat} (h : RA E g i) : i ≠ g := by
  cases h with
  | start h => exact h
  | step _ _ hk => exact hk
/-- g stands on each way to i, and is another one. -/
def SD (E : Nat → Nat → Prop) (g i : Nat) : Prop := g ≠ i ∧ ¬ RA E g i
theorem RA.or {a b i : Nat} (h : RA E a i) : RA E b i ∨ RA E a b := by
  induction h with
  | start h =>
    by_cases e : 0 = b
    · subst e; exact .inr (.start h)
    · exact .inl (.start e)
  | step h he hk ih =>
    rename_i j k
    rcases ih with ih | ih
    · by_cases e : k = b
      · subst e; exact .inr (.step h he hk)
      · exact .inl (.step ih he e)
    · exact .inr ih
theorem SD.trans {a b i : Nat} (h1 : ¬ RA E a b) (h2 : ¬ RA E b i) : ¬ RA E a i := fun h => by
  rcases h.or (b := b) with h3 | h3
  · exact h2 h3
  · exact h1 h3
/-- Of two that stand on each way to a block, one stands on each way to the other. -/
theorem dom_chain {a b i : Nat} (hr : Rch0 E i) (hab : a ≠ b) (ha : ¬ RA E a i) (hb : ¬ RA E b i) : ¬ RA E a b ∨ ¬ RA E b a := by
  by_cases h1 : RA E a b
  · right
    intro h2
    have key : ∀ j, Rch0 E j → RA E a j ∨ RA E b j := by
      intro j hj
      induction hj with
      | start =>
        by_cases e : 0 = a
        · exact .inr (.start (fun e2 => hab (e.symm.trans e2)))
        · exact .inl (.start e)
      | step h he ih =>
        rename_i j k
        rcases ih with ih | ih
        · by_cases e : k = a
          · exact .inr (e ▸ h2)
          · exact .inl (.step ih he e)
        · by_cases e : k = b
          · exact .inl (e ▸ h1)
          · exact .inr (.step ih he e)
    rcases key i hr with h3 | h3
    · exact ha h3
    · exact hb h3
  · exact .inl h1
theorem dom_anti {a b : Nat} (hr : Rch0 E a) (hab : a ≠ b) (h1 : ¬ RA E a b) (h2 : ¬ RA E b a) : False := by
  have key : ∀ j, Rch0 E j → RA E a j ∧ RA E b j := by
    intro j hj
    induction hj with
    | start =>
      refine ⟨.start fun e => ?_, .start fun e => ?_⟩
      · exact h2 (e ▸ .start (fun e2 => hab (e.symm.trans e2)))
      · exact h1 (e ▸ .start (fun e2 => hab (e2.symm.trans e)))
    | step h he ih =>
      rename_i j k
      by_cases e1 : k = a
      · exact absurd (e1 ▸ .step ih.2 he (fun e2 => hab (e1.symm.trans e2)) : RA E b a) h2
      · by_cases e2 : k = b
        · exact absurd (e2 ▸ .step ih.1 he e1 : RA E a b) h1
        · exact ⟨.step ih.1 he e1, .step ih.2 he e2⟩
  exact (key a hr).1.ne rfl
theorem ra_rch {g i : Nat} (h : RA E g i) : Rch0 E i := by
  induction h with
  | start _ => exact .start
  | step _ he _ ih => exact .step ih he
theorem sd_zero {g : Nat} (h : SD E g 0) : False := h.2 (.start (fun e => h.1 e.symm))
theorem zero_sd {i : Nat} (h : i ≠ 0) : SD E 0 i := by
  refine ⟨fun e => h e.symm, fun hr => ?_⟩
  have : ∀ j, RA E 0 j → False := by
    intro j hj
    induction hj with
    | start h => exact h rfl
    | step _ _ _ ih => exact ih
  exact this i hr
/-- The nearest one above a block: that which all others stand above. -/
structure IsAbv (E : Nat → Nat → Prop) (i k : Nat) : Prop where
  sd : SD E k i
  all : ∀ g, SD E g i → g = k ∨ SD E g k
theorem IsAbv.unique {i k l : Nat} (hr : ∀ j, Rch0 E j) (h : IsAbv E i k) (h2 : IsAbv E i l) : k = l := by
  rcases h.all l h2.sd with e | e
  · exact e.symm
  · rcases h2.all k h.sd with e2 | e2
    · exact e2
    · exact absurd (dom_anti (hr l) e.1 e.2 e2.2) id
end Go.Proofs.YtceilfmfidmfpaaDoor
namespace Go.Proofs.YtceilfmfidmfpaaDoor
open Go.RowKit Plain64
/-- Block i leads to block k. -/
def EB (f : Fun) (i k : Nat) : Prop := i < (headsL f).length ∧ k < (headsL f).length ∧ edgeB f i k = true
theorem to_exists {f : Fun} {funcs : Nat} (ok : OkF f funcs) (he : endsAt f = false) {pc : Nat} : ∀ (n t : Nat), f.code.length - t ≤ n → OnTo f pc t → ∃ u, OnTo f pc u ∧ (15 ≤ opAt f (u - 1) ∨ HeadP f u)
  | n, t, hn, h => by
    by_cases h1 : 15 ≤ opAt f (t - 1)
    · exact ⟨t, h, .inl h1⟩
    · by_cases h2 : HeadP f t
      · exact ⟨t, h, .inr h2⟩
      · have hl := (h.lt ok he h1).1
        cases n with
        | zero => omega
        | succ n => exact to_exists ok he n (t + 1) (by omega) (h.next ok he h1 h2)
theorem blk_to {f : Fun} {funcs : Nat} (ok : OkF f funcs) (he : endsAt f = false) {i : Nat} (hi : i < (headsL f).length) : ∃ t, OnTo f (begB f i) t ∧ (15 ≤ opAt f (t - 1) ∨ HeadP f t) ∧ toOf f (begB f i) = t := by
  have hm := mem_headsL.1 (begB_mem hi)
  obtain ⟨t, h1, h2⟩ := to_exists ok he (pc := begB f i) f.code.length (begB f i + 1) (by omega) (OnTo.start (hm.2.sure ok he).1 hm.1)
  exact ⟨t, h1, h2, (h1.done h2).eq⟩
theorem begB_zero {f : Fun} {funcs : Nat} (ok : OkF f funcs) : begB f 0 = 0 := by
  have h0 : 0 < (headsL f).length := headsL_pos ok
  obtain ⟨k, hk, e⟩ := head_at (f := f) (n := 0) (mem_headsL.2 ⟨ok.len.1, .inl rfl⟩)
  by_cases hk0 : k = 0
  · rw [hk0] at e; exact e
  · have hq := List.pairwise_iff_getElem.1 (headsL_lt f) 0 k h0 hk (by omega)
    have e1 := begB_get h0
    have e2 := begB_get hk
    rw [List.getElem?_eq_getElem h0] at e1
    rw [List.getElem?_eq_getElem hk] at e2
    have e1 := Option.some.inj e1
    have e2 := Option.some.inj e2
    omega
theorem way_blk {f : Fun} {funcs : Nat} (ok : OkF f funcs) (he : endsAt f = false) {pc : Nat} (h : Way f (-1) pc) : ∃ i, i < (headsL f).length ∧ begB f i ≤ pc ∧ pc < toOf f (begB f i) ∧ Rch0 (EB f) i := by
  induction h with
  | start _ =>
    have h0 : 0 < (headsL f).length := headsL_pos ok
    obtain ⟨t, h1, h2, h3⟩ := blk_to ok he h0
    refine ⟨0, h0, by rw [begB_zero ok]; exact Nat.le_refl _, ?_, .start⟩
    rw [h3]; have := h1.gt; omega
  | step hw hx hk hn ih =>
    rename_i pc x n
    obtain ⟨i, hi, h1, h2, h3⟩ := ih
    obtain ⟨t, g1, g2, g3⟩ := blk_to ok he hi
    rw [g3] at h2
    by_cases hl : pc = t - 1
    · subst hl
      obtain ⟨a, b⟩ := IsTo.heads ok he g1 g2 hx hn
      obtain ⟨k, hkl, e⟩ := head_at a
      obtain ⟨u, u1, u2, u3⟩ := blk_to ok he hkl
      refine ⟨k, hkl, by rw [e]; exact Nat.le_refl _, by rw [u3]; have := u1.gt; omega, .step h3 ⟨hi, hkl, ?_⟩⟩
      have e1 : lastB f i = t - 1 := by unfold lastB; rw [g3]
      have e2 : insB f (t - 1) = x := by unfold insB; rw [hx]; rfl
      unfold edgeB
      rw [e1, e2, decide_eq_true_iff, e, show ((n.toNat : Nat) : Int) = n by omega]
      exact hn
    · have hr := (g1.done g2).run (pc + 1) (by omega) (by omega)
      rw [Nat.add_sub_cancel, opAt_eq hx] at hr
      rw [nextZ_plain hr.1, List.mem_singleton] at hn
      have e : n.toNat = pc + 1 := by omega
      exact ⟨i, hi, by rw [e]; omega, by rw [e, g3]; omega, h3⟩
/-- Each block is come to. -/
theorem blk_rch {f : Fun} {funcs : Nat} (ok : OkF f funcs) (he : endsAt f = false) {i : Nat} (hi : i < (headsL f).length) : Rch0 (EB f) i := by
  have hm := mem_headsL.1 (begB_mem hi)
  have hs := (hm.2.sure ok he).1
  obtain ⟨k, hk, h1, h2, h3⟩ := way_blk ok he ((sure_iff (by omega)).1 hs)
  obtain ⟨t, g1, g2, g3⟩ := blk_to ok he hk
  rw [g3] at h2
  by_cases e : begB f k = begB f i
  · rw [begB_inj hi hk e.symm]; exact h3
  · exact absurd hm.2 ((g1.done g2).run (begB f i) (by omega) h2).2
variable {E : Nat → Nat → Prop} {m : Nat}
theorem rch_lt (hE : ∀ i k, E i k → k < m) (hm : 0 < m) {i : Nat} (h : Rch0 E i) : i < m := by
  cases h with
  | start => exact hm
  | step _ he => exact hE _ _ he
theorem sd_lt (hE : ∀ i k, E i k → k < m) (hm : 0 < m) {g i : Nat} (hr : Rch0 E i) (h : SD E g i) : g < m := by
  by_cases hg : g < m
  · exact hg
  · exfalso
    apply h.2
    clear h
    induction hr with
    | start => exact .start (by omega)
    | step _ he ih => exact .step ih he (by have := hE _ _ he; omega)
open Classical in
noncomputable def sdB (E : Nat → Nat → Prop) (g i : Nat) : Bool := decide (SD E g i)
theorem sdB_iff {g i : Nat} : sdB E g i = true ↔ SD E g i := by unfold sdB; simp
/-- How many stand above. -/
noncomputable def cntSD (E : Nat → Nat → Prop) (m g : Nat) : Nat := (List.range m).countP fun h => sdB E h g
theorem countP_ltD {p q : Nat → Bool} : ∀ {l : List Nat}, (∀ x ∈ l, p x = true → q x = true) → ∀ y ∈ l, q y = true → p y = false → l.countP p < l.countP q
  | [], _, y, hy, _, _ => by simp at hy
  | z :: l, h, y, hy, h1, h2 => by
    rw [List.countP_cons, List.countP_cons]
    have hm : l.countP p ≤ l.countP q := List.countP_mono_left (fun x hx => h x (by simp [hx]))
    rcases List.mem_cons.1 hy with e | e
    · subst e
      rw [h1, h2]; simp; omega
    · have := countP_ltD (fun x hx => h x (by simp [hx])) y e h1 h2
      have hz := h z (by simp)
      by_cases hp : p z = true
      · rw [hp, hz hp]; simp; omega
      · rw [if_neg hp]
        split <;> omega
theorem sd_sub {a b x : Nat} (hr : Rch0 E a) (hab : SD E a b) (hx : SD E x a) : SD E x b := by
  refine ⟨fun e => ?_, SD.trans hx.2 hab.2⟩
  subst e
  exact dom_anti hr (fun e => hab.1 e) hab.2 hx.2
theorem cnt_lt (hr : ∀ j, j < m → Rch0 E j) {a b : Nat} (ha : a < m) (hab : SD E a b) : cntSD E m a < cntSD E m b := by
  unfold cntSD
  refine countP_ltD (fun x _ hx => ?_) a (List.mem_range.2 ha) (sdB_iff.2 hab) ?_
  · exact sdB_iff.2 (sd_sub (hr a ha) hab (sdB_iff.1 hx))
  · cases h : sdB E a a with
    | false => rfl
    | true => exact absurd rfl (sdB_iff.1 h).1
/-- Of those above that one with most above itself is the nearest. -/
theorem abv_of_max (hr : ∀ j, j < m → Rch0 E j) (hE : ∀ i k, E i k → k < m) (hm : 0 < m) {i k : Nat} (hi : i < m) (hk : SD E k i) (hmax : ∀ g, SD E g i → cntSD E m g ≤ cntSD E m k) : IsAbv E i k := by
  refine ⟨hk, fun g hg => ?_⟩
  by_cases e : g = k
  · exact .inl e
  · right
    have hgm := sd_lt hE hm (hr i hi) hg
    have hkm := sd_lt hE hm (hr i hi) hk
    rcases dom_chain (hr i hi) e hg.2 hk.2 with h | h
    · exact ⟨e, h⟩
    · have h1 := cnt_lt hr hkm (show SD E k g from ⟨fun e2 => e e2.symm, h⟩)
      have h2 := hmax g hg
      omega
theorem max_exists {p : Nat → Prop} {c : Nat → Nat} : ∀ n, (∃ k, k < n ∧ p k) → ∃ k, k < n ∧ p k ∧ ∀ g, g < n → p g → c g ≤ c k
  | 0, ⟨k, hk, _⟩ => by omega
  | n + 1, ⟨k, hk, hp⟩ => by
    by_cases h : ∃ k, k < n ∧ p k
    · obtain ⟨a, ha, hpa, hmax⟩ := max_exists (p := p) (c := c) n h
      by_cases hn : p n ∧ c a < c n
      · refine ⟨n, by omega, hn.1, fun g hg hpg => ?_⟩
        by_cases e : g = n
        · subst e; exact Nat.le_refl _
        · have := hmax g (by omega) hpg; omega
      · refine ⟨a, by omega, hpa, fun g hg hpg => ?_⟩
        by_cases e : g = n
        · subst e
          by_cases h3 : c a < c g
          · exact absurd ⟨hpg, h3⟩ hn
          · omega
        · exact hmax g (by omega) hpg
    · have e : k = n := by
        by_cases e : k = n
        · exact e
        · exact absurd ⟨k, by omega, hp⟩ h
      subst e
      refine ⟨k, by omega, hp, fun g hg hpg => ?_⟩
      by_cases e : g = k
      · subst e; exact Nat.le_refl _
      · exact absurd ⟨g, by omega, hpg⟩ h
theorem abv_exists (hr : ∀ j, j < m → Rch0 E j) (hE : ∀ i k, E i k → k < m) (hm : 0 < m) {i : Nat} (hi : i < m) (h0 : i ≠ 0) : ∃ k, k < m ∧ IsAbv E i k := by
  obtain ⟨k, hk, hp, hmax⟩ := max_exists (p := fun g => SD E g i) (c := cntSD E m) m ⟨0, hm, zero_sd h0⟩
  exact ⟨k, hk, abv_of_max hr hE hm hi hp (fun g hg => hmax g (sd_lt hE hm (hr i hi) hg) hg)⟩
theorem eb_lt {f : Fun} (i k : Nat) (h : EB f i k) : k < (headsL f).length := h.2.1
open Classical in
noncomputable def abvZ (f : Fun) (i : Nat) : Int := if h : i ≠ 0 ∧ ∃ k, IsAbv (EB f) i k then ((h.2.choose : Nat) : Int) else -1
theorem abvZ_eq {f : Fun} {funcs : Nat} (ok : OkF f funcs) (he : endsAt f = false) {i k : Nat} (h0 : i ≠ 0) (h : IsAbv (EB f) i k) (hk : k < (headsL f).length) : abvZ f i = k := by
  have e : i ≠ 0 ∧ ∃ k, IsAbv (EB f) i k := ⟨h0, k, h⟩
  unfold abvZ
  rw [dif_pos e]
  have h2 := e.2.choose_spec
  have hx : ∀ l, IsAbv (EB f) i l → l = k := fun l hl => by
    rcases h.all l hl.sd with e | e
    · exact e
    · rcases hl.all k h.sd with e2 | e2
      · exact e2.symm
      · exact (dom_anti (blk_rch ok he hk) e2.1 e2.2 e.2).elim
  rw [hx _ h2]
theorem abvZ_zero (f : Fun) : abvZ f 0 = -1 := by unfold abvZ; rw [dif_neg (fun h => h.1 rfl)]
noncomputable def abvL (f : Fun) : List Int := (List.range (headsL f).length).map (abvZ f)
noncomputable def aboveAns (p : Prg) (fn : Int) : List Int × Int :=
  if proven p ≠ 0 then ([], proven p) else if fn < 0 then ([], 2) else match p.funcs[fn.toNat]? with | none => ([], 2) | some f => (abvL f, 0)
theorem above_bad {p : Prg} (h : proven p ≠ 0) (fn : Int) : aboveAns p fn = ([], proven p) := by unfold aboveAns; rw [if_pos h]
theorem above_out {p : Prg} (h : proven p = 0) {fn : Int} (hf : ¬ (0 ≤ fn ∧ fn < p.funcs.length)) : aboveAns p fn = ([], 2) := by
  unfold aboveAns
  rw [if_neg (by simpa using h)]
  by_cases h1 : fn < 0
  · rw [if_pos h1]
  · rw [if_neg h1, List.getElem?_eq_none (by omega)]
theorem above_in {p : Prg} (h : proven p = 0) {k : Nat} {f : Fun} (hf : p.funcs[k]? = some f) : aboveAns p (k : Int) = (abvL f, 0) := by
  unfold aboveAns
  rw [if_neg (by simpa using h), if_neg (by omega), Int.toNat_natCast, hf]
end Go.Proofs.YtceilfmfidmfpaaDoor
namespace Go.Proofs.YtceilfmfidmfpaaDoor
open Go.RowKit
theorem wrap64_succ (k k1 : Nat) (h : k + 1 = k1) (hk : k ≤ 1000) : wrap64 ((k : Int) + 1) = (k1 : Int) := by
  subst h
  exact IntWalk.wrap64_in _ ⟨by omega, by omega⟩
theorem wrapI_succ (k k1 : Nat) (h : k + 1 = k1) (hk : k ≤ 1000) : IntKind.i64.wrap ((k : Int) + 1) = (k1 : Int) := by
  rw [IntWalk.i64_left]
  exact wrap64_succ k k1 h hk
end Go.Proofs.YtceilfmfidmfpaaDoor
