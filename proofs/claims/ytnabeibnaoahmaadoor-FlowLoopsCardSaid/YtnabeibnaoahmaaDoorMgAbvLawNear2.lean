/- P7.3: which blocks stand above, by bits. No program is named here. flow.nearest. -/
import Derived.Test.YtnabeibnaoahmaaDoorMgDomBlkBitsReads3
import Derived.Laws.Bits64b
import Derived.Test.YtnabeibnaoahmaaDoorHpRow
import Derived.Test.YtnabeibnaoahmaaDoorMgPrNestNestBFind4
set_option linter.unusedSimpArgs false
set_option linter.unusedVariables false
namespace Go.Proofs.YtnabeibnaoahmaaDoor
open Go.RowKit Plain64
/-- Bits that all are 1. -/
theorem ones_bit (m k : Nat) : (2 ^ m - 1).testBit k = decide (k < m) := Nat.testBit_two_pow_sub_one m k
theorem bit_ext {a b m : Nat} (ha : a < 2 ^ m) (hb : b < 2 ^ m) (h : ∀ k, k < m → a.testBit k = b.testBit k) : a = b := by
  apply Nat.eq_of_testBit_eq
  intro k
  by_cases hk : k < m
  · exact h k hk
  · rw [Nat.testBit_lt_two_pow (Nat.lt_of_lt_of_le ha (Nat.pow_le_pow_right (by decide) (by omega))), Nat.testBit_lt_two_pow (Nat.lt_of_lt_of_le hb (Nat.pow_le_pow_right (by decide) (by omega)))]
theorem sub_lt {a b m : Nat} (ha : a < 2 ^ m) (hb : b < 2 ^ m) (h : ∀ k, k < m → a.testBit k = true → b.testBit k = true) (hne : a ≠ b) : a < b := by
  have e : a &&& b = a := by
    refine bit_ext (m := m) (Nat.lt_of_le_of_lt Nat.and_le_left ha) ha fun k hk => ?_
    rw [Nat.testBit_and]
    cases h1 : a.testBit k with
    | false => rfl
    | true => rw [h k hk h1]; rfl
  have : a ≤ b := by rw [← e]; exact Nat.and_le_right
  omega
/-- Bit k of what round i makes of the bits zs. -/
def nbit (f : Fun) (zs : List Nat) (i k : Nat) : Prop := k = i ∨ ∀ b, b < (headsL f).length → edgeB f b i = true → (zs.getD b 0).testBit k = true
structure AInv (f : Fun) (zs : List Nat) : Prop where
  len : zs.length = (headsL f).length
  first : zs[0]? = some 1
  lt : ∀ z ∈ zs, z < 2 ^ (headsL f).length
  sup : ∀ i k, i < (headsL f).length → k < (headsL f).length → ¬ RA (EB f) k i → (zs.getD i 0).testBit k = true
  desc : ∀ i k, 0 < i → i < (headsL f).length → k < (headsL f).length → nbit f zs i k → (zs.getD i 0).testBit k = true
def AClosed (f : Fun) (zs : List Nat) (i : Nat) : Prop := ∀ k, k < (headsL f).length → (zs.getD i 0).testBit k = true → nbit f zs i k
theorem AInv.start {f : Fun} {funcs : Nat} (ok : OkF f funcs) : AInv f ((List.replicate (headsL f).length (2 ^ (headsL f).length - 1)).set 0 1) := by
  have h0 := headsL_pos ok
  have hget : ∀ i, 0 < i → i < (headsL f).length → ((List.replicate (headsL f).length (2 ^ (headsL f).length - 1)).set 0 1).getD i 0 = 2 ^ (headsL f).length - 1 := fun i h1 h2 => by
    rw [List.getD_eq_getElem?_getD, List.getElem?_set_ne (by omega), List.getElem?_replicate, if_pos h2]; rfl
  have hz : ((List.replicate (headsL f).length (2 ^ (headsL f).length - 1)).set 0 1).getD 0 0 = 1 := by
    rw [List.getD_eq_getElem?_getD, List.getElem?_set_self (by simpa using h0)]; rfl
  have hp : 1 < 2 ^ (headsL f).length := Nat.one_lt_two_pow (by omega)
  refine ⟨by simp, List.getElem?_set_self (by simpa using h0), fun z hz2 => ?_, fun i k hi hk hr => ?_, fun i k h1 hi hk _ => ?_⟩
  · rcases List.mem_or_eq_of_mem_set hz2 with h | h
    · rw [List.eq_of_mem_replicate h]; omega
    · rw [h]; exact hp
  · by_cases e : i = 0
    · subst e
      rw [hz]
      by_cases e2 : k = 0
      · subst e2; rfl
      · exact absurd (.start (fun e => e2 e.symm)) hr
    · rw [hget i (by omega) hi, ones_bit, decide_eq_true hk]
  · rw [hget i h1 hi, ones_bit, decide_eq_true hk]
theorem getD_set_ne {zs : List Nat} {i j x : Nat} (h : i ≠ j) : (zs.set i x).getD j 0 = zs.getD j 0 := by
  rw [List.getD_eq_getElem?_getD, List.getElem?_set_ne h, List.getD_eq_getElem?_getD]
theorem getD_set_self {zs : List Nat} {i x : Nat} (h : i < zs.length) : (zs.set i x).getD i 0 = x := by
  rw [List.getD_eq_getElem?_getD, List.getElem?_set_self h]; rfl
theorem AInv.upd {f : Fun} {zs : List Nat} (h : AInv f zs) {i x : Nat} (h0 : 0 < i) (hi : i < (headsL f).length) (hx : x < 2 ^ (headsL f).length) (hb : ∀ k, k < (headsL f).length → (x.testBit k = true ↔ nbit f zs i k)) (hne : x ≠ zs.getD i 0) : AInv f (zs.set i x) ∧ x < zs.getD i 0 := by
  have hil : i < zs.length := by rw [h.len]; exact hi
  have hzi : zs.getD i 0 < 2 ^ (headsL f).length := by
    rw [List.getD_eq_getElem?_getD, List.getElem?_eq_getElem hil]; exact h.lt _ (List.getElem_mem hil)
  have hsub : ∀ k, k < (headsL f).length → x.testBit k = true → (zs.getD i 0).testBit k = true := fun k hk hxk => h.desc i k h0 hi hk ((hb k hk).1 hxk)
  have hle : ∀ b k, k < (headsL f).length → ((zs.set i x).getD b 0).testBit k = true → (zs.getD b 0).testBit k = true := fun b k hk hbk => by
    by_cases e : i = b
    · subst e; rw [getD_set_self hil] at hbk; exact hsub k hk hbk
    · rwa [getD_set_ne e] at hbk
  refine ⟨⟨by rw [List.length_set]; exact h.len, by rw [List.getElem?_set_ne (by omega)]; exact h.first, fun z hz => ?_, fun j k hj hk hr => ?_, fun j k hj0 hj hk hn => ?_⟩, sub_lt hx hzi hsub hne⟩
  · rcases List.mem_or_eq_of_mem_set hz with h1 | h1
    · exact h.lt z h1
    · rw [h1]; exact hx
  · by_cases e : i = j
    · subst e
      rw [getD_set_self hil, hb k hk]
      by_cases e2 : k = i
      · exact .inl e2
      · exact .inr fun b hbl he => h.sup b k hbl hk fun hrb => hr (.step hrb ⟨hbl, hi, he⟩ (fun e => e2 e.symm))
    · rw [getD_set_ne e]; exact h.sup j k hj hk hr
  · have hn2 : nbit f zs j k := by
      rcases hn with hn | hn
      · exact .inl hn
      · exact .inr fun b hbl he => hle b k hk (hn b hbl he)
    by_cases e : i = j
    · subst e
      rw [getD_set_self hil, hb k hk]; exact hn2
    · rw [getD_set_ne e]; exact h.desc j k hj0 hj hk hn2
theorem AInv.done {f : Fun} {zs : List Nat} (h : AInv f zs) (hc : ∀ i, 0 < i → i < (headsL f).length → AClosed f zs i) {i k : Nat} (hi : i < (headsL f).length) (hk : k < (headsL f).length) : (zs.getD i 0).testBit k = true ↔ ¬ RA (EB f) k i := by
  refine ⟨fun hb hr => ?_, h.sup i k hi hk⟩
  clear hi
  have h1 : zs.getD 0 0 = 1 := by rw [List.getD_eq_getElem?_getD, h.first]; rfl
  have hfirst : k ≠ 0 → (zs.getD 0 0).testBit k = false := fun e => by
    rw [h1]
    cases h2 : (1 : Nat).testBit k with
    | false => rfl
    | true => exact absurd (Nat.testBit_one_eq_true_iff_self_eq_zero.1 h2) e
  induction hr with
  | start h2 => rw [hfirst (fun e => h2 e.symm)] at hb; cases hb
  | step hr he hkk ih =>
    rename_i b j
    by_cases e : j = 0
    · subst e; rw [hfirst (fun e => hkk e.symm)] at hb; cases hb
    · rcases hc j (by omega) he.2.1 k hk hb with e2 | e2
      · exact hkk e2.symm
      · exact ih (e2 b he.1 he.2.2)
theorem sum_set {zs : List Nat} : ∀ {i x : Nat}, x < zs.getD i 0 → (zs.set i x).sum + 1 ≤ zs.sum := by
  induction zs with
  | nil => intro i x h; simp at h
  | cons z zs ih =>
    intro i x h
    cases i with
    | zero => simp at h ⊢; omega
    | succ i => 
      have := ih (i := i) (x := x) (by simpa using h)
      rw [List.set_cons_succ, List.sum_cons, List.sum_cons]; omega
/-- What nearest asks of a block. -/
theorem near_iff {f : Fun} {funcs : Nat} (ok : OkF f funcs) (he : endsAt f = false) {zs : List Nat} (h : AInv f zs) (hz : ∀ i k, i < (headsL f).length → k < (headsL f).length → ((zs.getD i 0).testBit k = true ↔ ¬ RA (EB f) k i)) {i k A : Nat} (hi : i < (headsL f).length) (hk : k < (headsL f).length) (hA : A < 2 ^ (headsL f).length) (hAb : ∀ g, g < (headsL f).length → (A.testBit g = true ↔ SD (EB f) g i)) : (A.testBit k = true ∧ zs.getD k 0 = A) ↔ IsAbv (EB f) i k := by
  have hr : ∀ j, j < (headsL f).length → Rch0 (EB f) j := fun j hj => blk_rch ok he hj
  have hE : ∀ i k, EB f i k → k < (headsL f).length := fun i k h => h.2.1
  have h0 := headsL_pos ok
  constructor
  · rintro ⟨h1, h2⟩
    refine ⟨(hAb k hk).1 h1, fun g hg => ?_⟩
    have hgm := sd_lt hE h0 (hr i hi) hg
    by_cases e : g = k
    · exact .inl e
    · refine .inr ⟨e, (hz k g hk hgm).1 ?_⟩
      rw [h2]; exact (hAb g hgm).2 hg
  · intro ha
    refine ⟨(hAb k hk).2 ha.sd, ?_⟩
    have hkl : zs.getD k 0 < 2 ^ (headsL f).length := by
      have hkz : k < zs.length := by rw [h.len]; exact hk
      rw [List.getD_eq_getElem?_getD, List.getElem?_eq_getElem hkz]; exact h.lt _ (List.getElem_mem hkz)
    refine bit_ext hkl hA fun g hg => ?_
    rw [Bool.eq_iff_iff, hz k g hk hg, hAb g hg]
    constructor
    · intro hn
      by_cases e : g = k
      · rw [e]; exact ha.sd
      · exact sd_sub (hr k hk) ha.sd ⟨e, hn⟩
    · intro hg2
      rcases ha.all g hg2 with e | e
      · rw [e]; exact fun hra => hra.ne rfl
      · exact e.2
theorem bits_andNot_u64 (a b : Nat) (ha : a < 18446744073709551616) (hb : b < 18446744073709551616) : ∃ y : Nat, bits .andNot .u64 (a : Int) (b : Int) = (y : Int) ∧ y ≤ a ∧ ∀ r, r < 64 → y.testBit r = (a.testBit r && !b.testBit r) := by
  have h1 : (BitVec.ofInt 64 (a : Int)).toNat = a := by
    rw [BitVec.ofInt_natCast, BitVec.toNat_ofNat]; exact Nat.mod_eq_of_lt (by omega)
  have h2 : (BitVec.ofInt 64 (b : Int)).toNat = b := by
    rw [BitVec.ofInt_natCast, BitVec.toNat_ofNat]; exact Nat.mod_eq_of_lt (by omega)
  refine ⟨(BitVec.ofInt 64 (a : Int) &&& ~~~ BitVec.ofInt 64 (b : Int)).toNat, ?_, ?_, fun r hr => ?_⟩
  · show IntKind.u64.wrap ((BitVec.ofInt 64 (a : Int) &&& ~~~ BitVec.ofInt 64 (b : Int)).toNat : Int) = _
    have := (BitVec.ofInt 64 (a : Int) &&& ~~~ BitVec.ofInt 64 (b : Int)).isLt
    rw [IntKind.wrap_u64]
    omega
  · rw [BitVec.toNat_and]
    exact Nat.le_trans Nat.and_le_left (by omega)
  · rw [← BitVec.getLsbD, BitVec.getLsbD_and, BitVec.getLsbD_not, decide_eq_true hr, Bool.true_and, BitVec.getLsbD, BitVec.getLsbD, h1, h2]
end Go.Proofs.YtnabeibnaoahmaaDoor
namespace Go.Proofs.YtnabeibnaoahmaaDoor
open Go.RowKit Plain64
attribute [local irreducible] wpList Code.wp Oper.wp
set_option maxRecDepth 100000 in
set_option maxHeartbeats 4000000 in
theorem nearest_any (f : Fun) (funcs : Nat) (ok : OkF f funcs) (he : endsAt f = false) (zs : List Nat) (h : AInv f zs) (hz : ∀ i k, i < (headsL f).length → k < (headsL f).length → ((zs.getD i 0).testBit k = true ↔ ¬ RA (EB f) k i)) (gz i m : Nat) (hmm : (headsL f).length = m) (h0 : 0 < i) (hi : i < m) (w : World)
    (hcell : ∀ k, k < m → w.cell? ⟨gz, k, none⟩ = some (.int .u64 (zs.getD k 0 : Nat))) :
    Calls Tryd.prog 48 #[.slice (some ⟨gz, 0, none⟩) m m, .int .i64 i] w fun e w' => (∃ k : Nat, k < m ∧ e = .returned (.int .i64 k) ∧ IsAbv (EB f) i k) ∧ Below w.heap.size w w' := by
  have hml : m ≤ 40 := by have h1 := headsL_len f; have h2 := ok.len.2; omega
  have hi2 : (i : Int) < (m : Int) := by omega
  have hpm : 2 ^ m ≤ 2 ^ 40 := Nat.pow_le_pow_right (by decide) hml
  obtain ⟨z, hze⟩ : ∃ z, zs.getD i 0 = z := ⟨_, rfl⟩
  have hzl : z < 2 ^ m := by
    have hil : i < zs.length := by rw [h.len, hmm]; exact hi
    rw [← hze, List.getD_eq_getElem?_getD, List.getElem?_eq_getElem hil, ← hmm]; exact h.lt _ (List.getElem_mem hil)
  have qz := hcell i hi
  rw [hze] at qz
  have HCE := Lib.hid hcell
  have HOK := Lib.hid ok
  have HEE := Lib.hid he
  have HIN := Lib.hid h
  have HZ := Lib.hid hz
  have HZE := Lib.hid hze
  have HM := Lib.hid hmm
  clear hcell ok he h hz hze hmm
  have HP := Lib.hid (Hp.start w)
  have hpi : 2 ^ i < 18446744073709551616 := Nat.lt_of_le_of_lt (Nat.pow_le_pow_right (by decide) (show i ≤ 40 by omega)) (by decide)
  have hp2 : (((2 : Nat) ^ i : Nat) : Int) = (2 : Int) ^ i := by simp
  have hw2 : IntKind.u64.wrap ((2 : Int) ^ i) = (((2 : Nat) ^ i : Nat) : Int) := by rw [← hp2]; exact IntWalk.u64_in _ ⟨Int.natCast_nonneg _, by omega⟩
  obtain ⟨A, hA, hAle, hAt⟩ := bits_andNot_u64 z (2 ^ i) (by omega) hpi
  rw [← hw2] at hA
  have HA := Lib.hid hA
  have hAm : A < 2 ^ m := by omega
  have HAB := Lib.hid (show ∀ g, g < (headsL f).length → (A.testBit g = true ↔ SD (EB f) g i) from fun g hg => by
    rw [HM.out] at hg
    rw [hAt g (by omega), Nat.testBit_two_pow, Bool.and_eq_true, Bool.not_eq_true', decide_eq_false_iff_not, ← HZE.out, HZ.out i g (by rw [HM.out]; exact hi) (by rw [HM.out]; exact hg)]
    exact ⟨fun h => ⟨fun e => h.2 e.symm, h.1⟩, fun h => ⟨h.2, fun e => h.1 e.symm⟩⟩)
  clear hA hAt hw2 hp2
  go_enter Tryd.func48, Tryd.ntmps48
  go_upto_region 1 with fail
  go_quiet (fail)
  rw [HA.out]
  replace HP := Lib.hid (HP.out.drewN nq)
  have HCQ := Lib.hid (show ∀ k, k < m → (w.drewN nq).cell? ⟨gz, k, none⟩ = some (.int .u64 (zs.getD k 0 : Nat)) from HCE.out)
  generalize w.drewN nq = wq at HP HCQ ⊢
  clear qz
  go_wp2
  go_loopw [16] (fun iv wr => ∃ k : Nat, k ≤ m ∧ iv = .int .i64 k ∧ Hid (∀ g, g < k → ¬ (A.testBit g = true ∧ zs.getD g 0 = A)) ∧ wr = wq) (fun iv _ => m - (intOf iv).toNat)
  case atStart => exact ⟨0, by omega, rfl, Lib.hid (fun g hg => by omega), rfl⟩
  case round =>
    obtain ⟨k, hk9, rfl, HN, rfl⟩ := hrel
    by_cases hk : k < m
    · have hk2 : (k : Int) < (m : Int) := by omega
      have qk := HCQ.out k hk
      have HNI := Lib.hid (near_iff HOK.out HEE.out HIN.out HZ.out (i := i) (k := k) (A := A) (by rw [HM.out]; exact hi) (by rw [HM.out]; exact hk) (by rw [HM.out]; exact hAm) HAB.out)
      obtain ⟨zk, hzk⟩ : ∃ zk, zs.getD k 0 = zk := ⟨_, rfl⟩
      rw [hzk] at qk HNI
      have HZK := Lib.hid hzk
      obtain ⟨bt, hbt⟩ : ∃ bt, A.testBit k = bt := ⟨_, rfl⟩
      have HBT := Lib.hid hbt
      obtain ⟨x, hx⟩ : ∃ x, (A : Int) / 2 ^ k = x := ⟨_, rfl⟩
      have hx2 : x = ((A / 2 ^ k : Nat) : Int) := by rw [← hx]; simp
      have hxr : 0 ≤ x ∧ x ≤ 18446744073709551615 := by
        have h1 := Nat.div_le_self A (2 ^ k)
        rw [hx2]
        exact ⟨Int.natCast_nonneg _, by omega⟩
      obtain ⟨y, hy⟩ : ∃ y, bits .and .u64 x 1 = y := ⟨_, rfl⟩
      have hyb : (y == 1) = bt := by
        rw [← hbt, ← hy, and_one_u64 x hxr.1 hxr.2, Nat.testBit_eq_decide_div_mod_eq, hx2]
        rw [Bool.eq_iff_iff, beq_iff_eq, decide_eq_true_iff]
        omega
      clear hbt hx2 hxr hzk
      cases bt with
      | false =>
        have HN2 := Lib.hid (show ∀ g, g < k + 1 → ¬ (A.testBit g = true ∧ zs.getD g 0 = A) from fun g hg => by
          by_cases e : g = k
          · subst e; intro h; rw [HBT.out] at h; cases h.1
          · exact HN.out g (by omega))
        go_wp2
        go_roundw
        case rel => exact ⟨k + 1, by omega, by go_num, HN2, by first | trivial | rfl⟩
        case measure => simp [intOf]; omega
      | true =>
        by_cases hq : zk = A
        · have hqb : ((zk : Int) == (A : Int)) = true := by simp; omega
          have hqb2 : (zk == A) = true := by simpa using hq
          have HAN := Lib.hid (HNI.out.1 ⟨HBT.out, hq⟩)
          clear hq
          go_wp2
          go_ret
          exact ⟨⟨k, hk, rfl, HAN.out⟩, HP.out.below⟩
        · have hqb : ((zk : Int) == (A : Int)) = false := by simp; omega
          have hqb2 : (zk == A) = false := by simpa using hq
          have HN2 := Lib.hid (show ∀ g, g < k + 1 → ¬ (A.testBit g = true ∧ zs.getD g 0 = A) from fun g hg => by
            by_cases e : g = k
            · subst e; intro h; rw [HZK.out] at h; exact hq h.2
            · exact HN.out g (by omega))
          clear hq
          go_wp2
          go_roundw
          case rel => exact ⟨k + 1, by omega, by go_num, HN2, by first | trivial | rfl⟩
          case measure => simp [intOf]; omega
    · exfalso
      have hr : ∀ j, j < (headsL f).length → Rch0 (EB f) j := fun j hj => blk_rch HOK.out HEE.out hj
      have hE : ∀ i k, EB f i k → k < (headsL f).length := fun i k h => h.2.1
      obtain ⟨k2, hk2, ha⟩ := abv_exists hr hE (headsL_pos HOK.out) (i := i) (by rw [HM.out]; exact hi) (by omega)
      have := (near_iff HOK.out HEE.out HIN.out HZ.out (i := i) (k := k2) (A := A) (by rw [HM.out]; exact hi) hk2 (by rw [HM.out]; exact hAm) HAB.out).2 ha
      rw [HM.out] at hk2
      exact HN.out k2 (by omega) this
end Go.Proofs.YtnabeibnaoahmaaDoor
