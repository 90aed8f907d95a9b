/- P3.3: what is read is set; a function does not run out behind its end. No program is named here. -/
import Derived.Test.YtnabeibnaoahmaaDoorSureRun
set_option linter.unusedSimpArgs false
set_option linter.unusedVariables false
namespace Go.Proofs.YtnabeibnaoahmaaDoor
open Go.RowKit Plain64
theorem bits_andNot (a b : Int) : bits .andNot .i64 a b = (BitVec.ofInt 64 a &&& ~~~ BitVec.ofInt 64 b).toInt := by
  show IntKind.i64.wrap _ = _
  rw [IntWalk.i64_left]; exact wrap64_toNat _
theorem bitZ_andNot (a b : Int) (i : Nat) (hi : i < 64) : bitZ (bits .andNot .i64 a b) i = (bitZ a i && !bitZ b i) := by
  rw [bits_andNot, bitZ_toInt _ _ hi, BitVec.getLsbD_and, BitVec.getLsbD_not, bitZ_eq _ _ hi, bitZ_eq _ _ hi, decide_eq_true hi, Bool.true_and]
theorem andNot_range (a b : Int) (ha : 0 ≤ a ∧ a ≤ 4095) : 0 ≤ bits .andNot .i64 a b ∧ bits .andNot .i64 a b ≤ 4095 := by
  rw [bits_andNot]
  exact small12 _ fun i h1 h2 => by rw [BitVec.getLsbD_and, ← bitZ_eq _ _ h2, bitZ_high a ha i h1]; rfl
theorem bitsL_or (a b : Int) (ha : 0 ≤ a ∧ a ≤ 11) (hb : 0 ≤ b ∧ b ≤ 11) : bitsL [a, b] = bits .or .i64 (2 ^ a.toNat) (2 ^ b.toNat) := (or_bits a b ha hb).symm
theorem bitsL_range {l : List Int} (hl : l.length ≤ 2) (hin : ∀ a ∈ l, 0 ≤ a ∧ a ≤ 11) : 0 ≤ bitsL l ∧ bitsL l ≤ 4095 := by
  match l, hl with
  | [], _ => simp [bitsL]
  | [a], _ => have := pow_small a (hin a (by simp)); simp [bitsL]; omega
  | [a, b], _ =>
    have h1 := pow_small a (hin a (by simp))
    have h2 := pow_small b (hin b (by simp))
    rw [bitsL_or a b (hin a (by simp)) (hin b (by simp))]
    exact or_range _ _ (by omega) (by omega)
theorem bitsL_bit {l : List Int} (hl : l.length ≤ 2) (hin : ∀ a ∈ l, 0 ≤ a ∧ a ≤ 11) (r : Nat) (hr : r < 12) : bitZ (bitsL l) r = l.any fun a => decide (a = r) := by
  match l, hl with
  | [], _ => simp [bitsL, bitZ]
  | [a], _ => rw [show bitsL [a] = 2 ^ a.toNat from rfl, bit_one a (hin a (by simp)) r hr]; simp
  | [a, b], _ =>
    rw [bitsL_or a b (hin a (by simp)) (hin b (by simp)), bitZ_or _ _ _ (by omega), bit_one a (hin a (by simp)) r hr, bit_one b (hin b (by simp)) r hr]; simp
/-- Is something read that is not set? -/
def unsetB (s : Int) (l : List Int) : Bool := decide (0 ≤ s) && l.any fun a => !bitZ s a.toNat
theorem andNot_ne {l : List Int} (hl : l.length ≤ 2) (hin : ∀ a ∈ l, 0 ≤ a ∧ a ≤ 11) (s : Int) : (bits .andNot .i64 (bitsL l) s != 0) = l.any fun a => !bitZ s a.toNat := by
  have hr := andNot_range (bitsL l) s (bitsL_range hl hin)
  rw [Bool.eq_iff_iff, bne_iff_ne, List.any_eq_true]
  constructor
  · intro hne
    apply Classical.byContradiction
    intro hno
    apply hne
    refine mask_ext hr (by omega) fun r hr' => ?_
    rw [bitZ_andNot _ _ _ (by omega), bitsL_bit hl hin r hr']
    have h0 : bitZ 0 r = false := by simp [bitZ]
    rw [h0]
    cases h1 : l.any fun a => decide (a = r)
    · rfl
    · obtain ⟨a, ha, hd⟩ := List.any_eq_true.1 h1
      have hd := of_decide_eq_true hd
      cases h2 : bitZ s r
      · exact absurd ⟨a, ha, by rw [hd, Int.toNat_natCast, h2]; rfl⟩ hno
      · rfl
  · rintro ⟨a, ha, hb⟩ h0
    have hia := hin a ha
    have h1 := bitZ_andNot (bitsL l) s a.toNat (by omega)
    rw [h0, bitsL_bit hl hin a.toNat (by omega)] at h1
    have h2 : (l.any fun a' => decide (a' = (a.toNat : Int))) = true := List.any_eq_true.2 ⟨a, ha, decide_eq_true (by omega)⟩
    rw [h2, Bool.true_and, hb] at h1
    simp [bitZ] at h1
noncomputable def unsetAt (p : Prg) (f : Fun) (pc : Nat) : Bool := match f.code[pc]? with | none => false | some x => unsetB ((sureL f).getD pc (-1)) (readsL p x)
noncomputable def endsAt (f : Fun) : Bool := decide (0 ≤ (sureL f).getD f.code.length (-1))
noncomputable def provenF (p : Prg) (f : Fun) : Int := if (List.range f.code.length).any (unsetAt p f) then 6 else if endsAt f then 7 else 0
noncomputable def proven (p : Prg) : Int := if prgFault p ≠ 0 then prgFault p else firstZ (p.funcs.map (provenF p))
theorem provenF_bad {p : Prg} {f : Fun} {pc : Nat} (h : pc < f.code.length) (hu : unsetAt p f pc = true) : provenF p f = 6 := by
  unfold provenF
  rw [if_pos]
  exact List.any_eq_true.2 ⟨pc, by simpa using h, hu⟩
theorem provenF_good {p : Prg} {f : Fun} (h : ∀ pc, pc < f.code.length → unsetAt p f pc = false) : provenF p f = if endsAt f then 7 else 0 := by
  unfold provenF
  rw [if_neg]
  intro he
  obtain ⟨pc, h1, h2⟩ := List.any_eq_true.1 he
  rw [h pc (by simpa using h1)] at h2
  cases h2
theorem unsetAt_eq {p : Prg} {f : Fun} {pc : Nat} {x : Ins} {s : Int} (hx : f.code[pc]? = some x) (hs : (sureL f)[pc]? = some s) : unsetAt p f pc = unsetB s (readsL p x) := by
  unfold unsetAt
  rw [hx, List.getD_eq_getElem?_getD, hs]; rfl
theorem endsAt_eq {f : Fun} {s : Int} (hs : (sureL f)[f.code.length]? = some s) : endsAt f = decide (0 ≤ s) := by
  unfold endsAt
  rw [List.getD_eq_getElem?_getD, hs]; rfl
theorem sureL_range {f : Fun} {s : Int} (hs : s ∈ sureL f) : -1 ≤ s ∧ s ≤ 4095 := by
  obtain ⟨q, _, rfl⟩ := List.mem_map.1 hs
  exact sureUpto_range f 12 q (Nat.le_refl _)
end Go.Proofs.YtnabeibnaoahmaaDoor
