/- P3.3: what is read is set; a function does not run out behind its end. No program is named here. P7.4: the live registers of a function. No program is named here. -/
import Derived.Test.YtnabeibnaoahmaaDoorMgWaySureLawSureRun3
set_option linter.unusedSimpArgs false
set_option linter.unusedVariables false
namespace Go.Proofs.YtnabeibnaoahmaaDoor
open Go.RowKit Plain64
theorem bits_andNot (a b : Int) : bits .andNot .i64 a b = (BitVec.ofInt 64 a &&& ~~~ BitVec.ofInt 64 b).toInt := by
  show IntKind.i64.wrap _ = _
  rw [IntWalk.i64_left]; exact wrap64_toNat _
theorem bitZ_andNot (a b : Int) (i : Nat) (hi : i < 64) : bitZ (bits .andNot .i64 a b) i = (bitZ a i && !bitZ b i) := by
  rw [bits_andNot, bitZ_toInt _ _ hi, BitVec.getLsbD_and, BitVec.getLsbD_not, bitZ_eq _ _ hi, bitZ_eq _ _ hi, decide_eq_true hi, Bool.true_and]
theorem andNot_range (a b : Int) (ha : 0 ≤ a ∧ a ≤ 4095) : 0 ≤ bits .andNot .i64 a b ∧ bits .andNot .i64 a b ≤ 4095 := by
  rw [bits_andNot]
  exact small12 _ fun i h1 h2 => by rw [BitVec.getLsbD_and, ← bitZ_eq _ _ h2, bitZ_high a ha i h1]; rfl
theorem bitsL_or (a b : Int) (ha : 0 ≤ a ∧ a ≤ 11) (hb : 0 ≤ b ∧ b ≤ 11) : bitsL [a, b] = bits .or .i64 (2 ^ a.toNat) (2 ^ b.toNat) := (or_bits a b ha hb).symm
theorem bitsL_range {l : List Int} (hl : l.length ≤ 2) (hin : ∀ a ∈ l, 0 ≤ a ∧ a ≤ 11) : 0 ≤ bitsL l ∧ bitsL l ≤ 4095 := by
  match l, hl with
  | [], _ => simp [bitsL]
  | [a], _ => have := pow_small a (hin a (by simp)); simp [bitsL]; omega
  | [a, b], _ =>
    have h1 := pow_small a (hin a (by simp))
    have h2 := pow_small b (hin b (by simp))
    rw [bitsL_or a b (hin a (by simp)) (hin b (by simp))]
    exact or_range _ _ (by omega) (by omega)
theorem bitsL_bit {l : List Int} (hl : l.length ≤ 2) (hin : ∀ a ∈ l, 0 ≤ a ∧ a ≤ 11) (r : Nat) (hr : r < 12) : bitZ (bitsL l) r = l.any fun a => decide (a = r) := by
  match l, hl with
  | [], _ => simp [bitsL, bitZ]
  | [a], _ => rw [show bitsL [a] = 2 ^ a.toNat from rfl, bit_one a (hin a (by simp)) r hr]; simp
  | [a, b], _ =>
    rw [bitsL_or a b (hin a (by simp)) (hin b (by simp)), bitZ_or _ _ _ (by omega), bit_one a (hin a (by simp)) r hr, bit_one b (hin b (by simp)) r hr]; simp
/-- Is something read that is not set? -/
def unsetB (s : Int) (l : List Int) : Bool := decide (0 ≤ s) && l.any fun a => !bitZ s a.toNat
theorem andNot_ne {l : List Int} (hl : l.length ≤ 2) (hin : ∀ a ∈ l, 0 ≤ a ∧ a ≤ 11) (s : Int) : (bits .andNot .i64 (bitsL l) s != 0) = l.any fun a => !bitZ s a.toNat := by
  have hr := andNot_range (bitsL l) s (bitsL_range hl hin)
  rw [Bool.eq_iff_iff, bne_iff_ne, List.any_eq_true]
  constructor
  · intro hne
    apply Classical.byContradiction
    intro hno
    apply hne
    refine mask_ext hr (by omega) fun r hr' => ?_
    rw [bitZ_andNot _ _ _ (by omega), bitsL_bit hl hin r hr']
    have h0 : bitZ 0 r = false := by simp [bitZ]
    rw [h0]
    cases h1 : l.any fun a => decide (a = r)
    · rfl
    · obtain ⟨a, ha, hd⟩ := List.any_eq_true.1 h1
      have hd := of_decide_eq_true hd
      cases h2 : bitZ s r
      · exact absurd ⟨a, ha, by rw [hd, Int.toNat_natCast, h2]; rfl⟩ hno
      · rfl
  · rintro ⟨a, ha, hb⟩ h0
    have hia := hin a ha
    have h1 := bitZ_andNot (bitsL l) s a.toNat (by omega)
    rw [h0, bitsL_bit hl hin a.toNat (by omega)] at h1
    have h2 : (l.any fun a' => decide (a' = (a.toNat : Int))) = true := List.any_eq_true.2 ⟨a, ha, decide_eq_true (by omega)⟩
    rw [h2, Bool.true_and, hb] at h1
    simp [bitZ] at h1
noncomputable def unsetAt (p : Prg) (f : Fun) (pc : Nat) : Bool := match f.code[pc]? with | none => false | some x => unsetB ((sureL f).getD pc (-1)) (readsL p x)
noncomputable def endsAt (f : Fun) : Bool := decide (0 ≤ (sureL f).getD f.code.length (-1))
noncomputable def provenF (p : Prg) (f : Fun) : Int := if (List.range f.code.length).any (unsetAt p f) then 6 else if endsAt f then 7 else 0
noncomputable def proven (p : Prg) : Int := if prgFault p ≠ 0 then prgFault p else firstZ (p.funcs.map (provenF p))
theorem provenF_bad {p : Prg} {f : Fun} {pc : Nat} (h : pc < f.code.length) (hu : unsetAt p f pc = true) : provenF p f = 6 := by
  unfold provenF
  rw [if_pos]
  exact List.any_eq_true.2 ⟨pc, by simpa using h, hu⟩
theorem provenF_good {p : Prg} {f : Fun} (h : ∀ pc, pc < f.code.length → unsetAt p f pc = false) : provenF p f = if endsAt f then 7 else 0 := by
  unfold provenF
  rw [if_neg]
  intro he
  obtain ⟨pc, h1, h2⟩ := List.any_eq_true.1 he
  rw [h pc (by simpa using h1)] at h2
  cases h2
theorem unsetAt_eq {p : Prg} {f : Fun} {pc : Nat} {x : Ins} {s : Int} (hx : f.code[pc]? = some x) (hs : (sureL f)[pc]? = some s) : unsetAt p f pc = unsetB s (readsL p x) := by
  unfold unsetAt
  rw [hx, List.getD_eq_getElem?_getD, hs]; rfl
theorem endsAt_eq {f : Fun} {s : Int} (hs : (sureL f)[f.code.length]? = some s) : endsAt f = decide (0 ≤ s) := by
  unfold endsAt
  rw [List.getD_eq_getElem?_getD, hs]; rfl
theorem sureL_range {f : Fun} {s : Int} (hs : s ∈ sureL f) : -1 ≤ s ∧ s ≤ 4095 := by
  obtain ⟨q, _, rfl⟩ := List.mem_map.1 hs
  exact sureUpto_range f 12 q (Nat.le_refl _)
end Go.Proofs.YtnabeibnaoahmaaDoor
namespace Go.Proofs.YtnabeibnaoahmaaDoor
open Go.RowKit Plain64
/-- Is a place reached? -/
def SureAt (f : Fun) (pc : Nat) : Prop := 0 ≤ (sureL f).getD pc (-1)
def KillsR (x : Ins) (r : Nat) : Prop := setsZ x.op = true ∧ x.dst = (r : Int)
/-- There is a way from a reached place to a read of the register, on which it is not set ahead of that. -/
inductive LiveP (p : Prg) (f : Fun) (r : Nat) : Nat → Prop
  | read {pc : Nat} {x : Ins} (hx : f.code[pc]? = some x) (hs : SureAt f pc) (hr : (r : Int) ∈ readsL p x) : LiveP p f r pc
  | way {pc : Nat} {x : Ins} {n : Int} (hx : f.code[pc]? = some x) (hs : SureAt f pc) (hk : ¬ KillsR x r) (hn : n ∈ nextZ x pc) (hl : LiveP p f r n.toNat) : LiveP p f r pc
open Classical in
noncomputable def liveB (p : Prg) (f : Fun) (r pc : Nat) : Bool := decide (LiveP p f r pc)
theorem liveB_iff {p : Prg} {f : Fun} {r pc : Nat} : liveB p f r pc = true ↔ LiveP p f r pc := by unfold liveB; simp
open Classical in
/-- The registers below k that are live at a place, as bits; -1: it is not reached. -/
noncomputable def liveUpto (p : Prg) (f : Fun) (k pc : Nat) : Int := if SureAt f pc then mskZ (fun r => liveB p f r pc) k else -1
noncomputable def liveL (p : Prg) (f : Fun) : List Int := (List.range f.code.length).map (liveUpto p f 12)
noncomputable def liveAns (p : Prg) (fn : Int) : List Int × Int :=
  if proven p ≠ 0 then ([], proven p) else if fn < 0 then ([], 2) else match p.funcs[fn.toNat]? with | none => ([], 2) | some f => (liveL p f, 0)
theorem liveL_len (p : Prg) (f : Fun) : (liveL p f).length = f.code.length := by simp [liveL]
theorem sureL_at (f : Fun) (pc : Nat) (h : pc ≤ f.code.length) : (sureL f)[pc]? = some (sureUpto f 12 pc) := by
  unfold sureL; rw [List.getElem?_map, List.getElem?_range (by omega)]; rfl
theorem wayL_getD (f : Fun) (pc : Nat) (h : pc ≤ f.code.length) : (wayL f (-1)).getD pc false = true ↔ Way f (-1) pc := by
  rw [← wayL_at f (-1) pc h, List.getD_eq_getElem?_getD]
  cases (wayL f (-1))[pc]? <;> simp
theorem sure_iff {f : Fun} {pc : Nat} (h : pc ≤ f.code.length) : SureAt f pc ↔ Way f (-1) pc := by
  unfold SureAt
  rw [List.getD_eq_getElem?_getD, sureL_at f pc h, Option.getD_some]
  unfold sureUpto
  by_cases hw : (wayL f (-1)).getD pc false = true
  · rw [if_pos hw]
    have := mskZ_range (fun r => !(wayL f r).getD pc false) 12
    exact ⟨fun _ => (wayL_getD f pc h).1 hw, fun _ => this.1⟩
  · rw [if_neg hw]
    exact ⟨fun h => absurd h (by decide), fun hw' => absurd ((wayL_getD f pc h).2 hw') hw⟩
theorem SureAt.lt {f : Fun} {pc : Nat} (h : SureAt f pc) : pc ≤ f.code.length := by
  unfold SureAt at h
  rw [List.getD_eq_getElem?_getD] at h
  by_cases hp : pc ≤ f.code.length
  · exact hp
  · rw [List.getElem?_eq_none (by rw [sureL_len]; omega)] at h; exact absurd h (by decide)
theorem SureAt.next {f : Fun} {funcs : Nat} (ok : OkF f funcs) {pc : Nat} {x : Ins} (h : SureAt f pc) (hx : f.code[pc]? = some x) {n : Int} (hn : n ∈ nextZ x pc) : SureAt f n.toNat ∧ 0 ≤ n ∧ n ≤ f.code.length := by
  obtain ⟨hpc, rfl⟩ := List.getElem?_eq_some_iff.1 hx
  have hr := nextZ_in (ok.ins _ (List.getElem_mem hpc)) hpc n hn
  refine ⟨(sure_iff (by omega)).2 (.step ((sure_iff (by omega)).1 h) hx (by unfold Kill; simp) hn), hr⟩
/-- A place behind a reached one is no end. -/
theorem SureAt.nextLt {f : Fun} {funcs : Nat} (ok : OkF f funcs) (he : endsAt f = false) {pc : Nat} {x : Ins} (h : SureAt f pc) (hx : f.code[pc]? = some x) {n : Int} (hn : n ∈ nextZ x pc) : SureAt f n.toNat ∧ 0 ≤ n ∧ n < f.code.length := by
  obtain ⟨h1, h2, h3⟩ := h.next ok hx hn
  refine ⟨h1, h2, ?_⟩
  by_cases e : n = f.code.length
  · exfalso
    rw [e, Int.toNat_natCast] at h1
    unfold endsAt at he
    exact (decide_eq_false_iff_not.1 he) h1
  · omega
/-! ### All registers of a place at once -/
def FBit (p : Prg) (os : List Int) (x : Ins) (q r : Nat) : Prop := (r : Int) ∈ readsL p x ∨ (¬ KillsR x r ∧ ∃ n ∈ nextZ x q, ∃ z, os[n.toNat]? = some z ∧ bitZ z r = true)
def orL (os : List Int) : List Int → Int → Int
  | [], b => b
  | n :: l, b => orL os l (bits .or .i64 b (os.getD n.toNat 0))
def setM (x : Ins) : Int := if setsZ x.op then 2 ^ x.dst.toNat else 0
def liveStep (p : Prg) (os : List Int) (x : Ins) (q : Nat) : Int := bits .or .i64 (bits .andNot .i64 (orL os (nextZ x q) 0) (setM x)) (bitsL (readsL p x))
def Small (os : List Int) : Prop := ∀ (q : Nat) z, os[q]? = some z → 0 ≤ z ∧ z ≤ 4095
theorem Small.getD {os : List Int} (h : Small os) (q : Nat) : 0 ≤ os.getD q 0 ∧ os.getD q 0 ≤ 4095 := by
  rw [List.getD_eq_getElem?_getD]
  cases hq : os[q]? with
  | none => simp
  | some z => exact h q z hq
theorem orL_range {os : List Int} (h : Small os) : ∀ (l : List Int) (b : Int), 0 ≤ b ∧ b ≤ 4095 → 0 ≤ orL os l b ∧ orL os l b ≤ 4095
  | [], b, hb => hb
  | n :: l, b, hb => orL_range h l _ (or_range _ _ hb (h.getD _))
theorem bit_zero (r : Nat) : bitZ 0 r = false := by unfold bitZ; simp
theorem orL_bit {os : List Int} (r : Nat) (hr : r < 12) : ∀ (l : List Int) (b : Int), bitZ (orL os l b) r = true ↔ (bitZ b r = true ∨ ∃ n ∈ l, ∃ z, os[n.toNat]? = some z ∧ bitZ z r = true)
  | [], b => by simp [orL]
  | n :: l, b => by
    rw [orL, orL_bit r hr l, bitZ_or _ _ _ (by omega), Bool.or_eq_true, List.getD_eq_getElem?_getD]
    have e : bitZ (os[n.toNat]?.getD 0) r = true ↔ ∃ z, os[n.toNat]? = some z ∧ bitZ z r = true := by
      cases os[n.toNat]? with
      | none => simp [bit_zero]
      | some z => simp
    rw [e]
    constructor
    · rintro ((h | ⟨z, h1, h2⟩) | ⟨m, hm, h⟩)
      · exact .inl h
      · exact .inr ⟨n, by simp, z, h1, h2⟩
      · exact .inr ⟨m, by simp [hm], h⟩
    · rintro (h | ⟨m, hm, z, h1, h2⟩)
      · exact .inl (.inl h)
      · rcases List.mem_cons.1 hm with rfl | hm
        · exact .inl (.inr ⟨z, h1, h2⟩)
        · exact .inr ⟨m, hm, z, h1, h2⟩
theorem orL_append (os : List Int) : ∀ (l : List Int) (n b : Int), orL os (l ++ [n]) b = bits .or .i64 (orL os l b) (os.getD n.toNat 0)
  | [], _, _ => rfl
  | _ :: l, n, _ => orL_append os l n _
/-- What an instruction reads is a register. -/
structure InsR (p : Prg) (x : Ins) : Prop where
  len : (readsL p x).length ≤ 2
  mem : ∀ a ∈ readsL p x, 0 ≤ a ∧ a ≤ 11
  dst : 0 ≤ x.dst ∧ x.dst ≤ 11
theorem setM_bit {x : Ins} (hd : 0 ≤ x.dst ∧ x.dst ≤ 11) (r : Nat) (hr : r < 12) : bitZ (setM x) r = true ↔ KillsR x r := by
  unfold setM KillsR
  split
  · rename_i h; rw [bit_one _ hd _ hr, h]; simp
  · rename_i h; rw [bit_zero]; simp [h]
theorem setM_range {x : Ins} (hd : 0 ≤ x.dst ∧ x.dst ≤ 11) : 0 ≤ setM x ∧ setM x ≤ 4095 := by
  unfold setM
  split
  · have := pow_small x.dst hd; omega
  · omega
theorem liveStep_range {p : Prg} {os : List Int} (h : Small os) {x : Ins} (hi : InsR p x) (q : Nat) : 0 ≤ liveStep p os x q ∧ liveStep p os x q ≤ 4095 :=
  or_range _ _ (andNot_range _ _ (orL_range h _ _ (by omega))) (bitsL_range hi.len hi.mem)
theorem liveStep_bit {p : Prg} {os : List Int} {x : Ins} (hi : InsR p x) (q r : Nat) (hr : r < 12) : bitZ (liveStep p os x q) r = true ↔ FBit p os x q r := by
  unfold liveStep FBit
  rw [bitZ_or _ _ _ (by omega), bitZ_andNot _ _ _ (by omega), bitsL_bit hi.len hi.mem r hr, Bool.or_eq_true, Bool.and_eq_true, orL_bit r hr, Bool.not_eq_true', ← Bool.not_eq_true, setM_bit hi.dst r hr, bit_zero, List.any_eq_true]
  constructor
  · rintro (⟨h1 | h1, h2⟩ | ⟨a, h1, h2⟩)
    · cases h1
    · exact .inr ⟨h2, h1⟩
    · exact .inl (by have := of_decide_eq_true h2; rw [← this]; exact h1)
  · rintro (h | ⟨h1, h2⟩)
    · exact .inr ⟨_, h, by simp⟩
    · exact .inl ⟨.inr h2, h1⟩
structure LiveInv (p : Prg) (f : Fun) (os : List Int) : Prop where
  len : os.length = f.code.length
  rng : Small os
  uns : ∀ (q : Nat) z, os[q]? = some z → ¬ SureAt f q → z = 0
  snd : ∀ (q : Nat) z r, os[q]? = some z → r < 12 → bitZ z r = true → LiveP p f r q
  inc : ∀ (q : Nat) z x r, os[q]? = some z → SureAt f q → f.code[q]? = some x → r < 12 → bitZ z r = true → FBit p os x q r
theorem live_start (p : Prg) (f : Fun) : LiveInv p f (List.replicate f.code.length 0) := by
  have h0 : ∀ (q : Nat) z, (List.replicate f.code.length (0 : Int))[q]? = some z → z = 0 := fun q z h => by
    have := List.mem_of_getElem? h; simp at this; exact this.2
  refine ⟨by simp, fun q z h => by rw [h0 q z h]; omega, fun q z h _ => h0 q z h, fun q z r h _ hb => ?_, fun q z x r h _ _ _ hb => ?_⟩ <;> (rw [h0 q z h, bit_zero] at hb; cases hb)
/-- How many registers are not yet known to be live. -/
def nuZ (os : List Int) : Nat := (os.map fun z => 12 - wtZ z).sum
theorem nuZ_set {os : List Int} {n : Nat} {z y : Int} (h : os[n]? = some z) (hw : wtZ z < wtZ y) (hy : wtZ y ≤ 12) : nuZ (os.set n y) + 1 ≤ nuZ os := by
  unfold nuZ
  induction os generalizing n with
  | nil => simp at h
  | cons a os ih =>
    cases n with
    | zero => simp at h; subst h; simp; omega
    | succ n =>
      have := ih (n := n) (by simpa using h)
      simp only [List.set_cons_succ, List.map_cons, List.sum_cons]; omega
theorem wtZ_le {y : Int} (hy : 0 ≤ y) : wtZ y ≤ 12 := by
  have : (List.range 12).countP (bitZ y) ≤ 12 := by have := List.countP_le_length (p := bitZ y) (l := List.range 12); simpa using this
  unfold wtZ
  rw [if_neg (by omega)]; exact this
theorem wtZ_sub {z y : Int} (hz : 0 ≤ z ∧ z ≤ 4095) (hy : 0 ≤ y ∧ y ≤ 4095) (hs : Sub z y) (hne : y ≠ z) : wtZ z < wtZ y := by
  unfold wtZ
  rw [if_neg (by omega), if_neg (by omega)]
  refine countP_lt _ (fun r hr h => hs r (by simpa using hr) h) ?_
  apply Classical.byContradiction
  intro hno
  apply hne
  refine mask_ext hy hz fun r hr => ?_
  cases h1 : bitZ z r
  · cases h2 : bitZ y r
    · rfl
    · exact absurd ⟨r, by simpa using hr, h1, h2⟩ hno
  · exact hs r hr h1
theorem LiveInv.upd {p : Prg} {f : Fun} {os : List Int} (h : LiveInv p f os) {q : Nat} {z : Int} {x : Ins} (hq : os[q]? = some z) (hs : SureAt f q) (hx : f.code[q]? = some x) (hi : InsR p x) (hne : liveStep p os x q ≠ z) :
    LiveInv p f (os.set q (liveStep p os x q)) ∧ nuZ (os.set q (liveStep p os x q)) + 1 ≤ nuZ os := by
  have hlt : q < os.length := (List.getElem?_eq_some_iff.1 hq).1
  have hr := liveStep_range h.rng hi q
  have hsub : Sub z (liveStep p os x q) := fun r hr' hb => (liveStep_bit hi q r hr').2 (h.inc q z x r hq hs hx hr' hb)
  have hat : ∀ (k : Nat) u, (os.set q (liveStep p os x q))[k]? = some u → (k = q ∧ u = liveStep p os x q) ∨ (k ≠ q ∧ os[k]? = some u) := fun k u hu => by
    by_cases e : q = k
    · subst e; rw [List.getElem?_set_self hlt] at hu; cases hu; exact .inl ⟨rfl, rfl⟩
    · rw [List.getElem?_set_ne e] at hu; exact .inr ⟨Ne.symm e, hu⟩
  have hmono : ∀ y k r, r < 12 → FBit p os y k r → FBit p (os.set q (liveStep p os x q)) y k r := fun y k r hr' hf => by
    rcases hf with hf | ⟨h1, n, hn, u, hu, hb⟩
    · exact .inl hf
    · refine .inr ⟨h1, n, hn, ?_⟩
      by_cases e : q = n.toNat
      · rw [← e] at hu ⊢
        rw [hq] at hu; cases hu
        exact ⟨_, List.getElem?_set_self hlt, hsub r hr' hb⟩
      · exact ⟨u, by rw [List.getElem?_set_ne e]; exact hu, hb⟩
  refine ⟨⟨by simpa using h.len, fun k u hu => ?_, fun k u hu hn => ?_, fun k u r hu hr' hb => ?_, fun k u y r hu hsk hy hr' hb => ?_⟩, nuZ_set hq (wtZ_sub (h.rng q z hq) hr hsub hne) (wtZ_le hr.1)⟩
  · rcases hat k u hu with ⟨rfl, rfl⟩ | ⟨_, hu⟩
    · exact hr
    · exact h.rng k u hu
  · rcases hat k u hu with ⟨rfl, rfl⟩ | ⟨_, hu⟩
    · exact absurd hs hn
    · exact h.uns k u hu hn
  · rcases hat k u hu with ⟨rfl, rfl⟩ | ⟨_, hu⟩
    · rcases (liveStep_bit hi k r hr').1 hb with hf | ⟨h1, n, hn, v, hv, hbv⟩
      · exact .read hx hs hf
      · exact .way hx hs h1 hn (h.snd _ v r hv hr' hbv)
    · exact h.snd k u r hu hr' hb
  · rcases hat k u hu with ⟨rfl, rfl⟩ | ⟨_, hu⟩
    · rw [hx] at hy; cases hy
      exact hmono _ _ _ hr' ((liveStep_bit hi k r hr').1 hb)
    · exact hmono _ _ _ hr' (h.inc k u y r hu hsk hy hr' hb)
def LClosed (p : Prg) (f : Fun) (os : List Int) (q : Nat) : Prop := ∀ x z, f.code[q]? = some x → os[q]? = some z → SureAt f q → liveStep p os x q = z
theorem live_bit {p : Prg} {f : Fun} {os : List Int} (h : LiveInv p f os) (hi : ∀ x ∈ f.code, InsR p x) (hc : ∀ q, q < f.code.length → LClosed p f os q) {r q : Nat} (hr : r < 12) (hl : LiveP p f r q) : ∃ z, os[q]? = some z ∧ bitZ z r = true := by
  induction hl with
  | read hx hs hm =>
    obtain ⟨hq, rfl⟩ := List.getElem?_eq_some_iff.1 hx
    obtain ⟨z, hz⟩ : ∃ z, os[_]? = some z := ⟨_, List.getElem?_eq_getElem (by rw [h.len]; exact hq)⟩
    refine ⟨z, hz, ?_⟩
    rw [← hc _ hq _ z hx hz hs]
    exact (liveStep_bit (hi _ (List.getElem_mem hq)) _ r hr).2 (.inl hm)
  | way hx hs hk hn _ ih =>
    obtain ⟨hq, rfl⟩ := List.getElem?_eq_some_iff.1 hx
    obtain ⟨z, hz⟩ : ∃ z, os[_]? = some z := ⟨_, List.getElem?_eq_getElem (by rw [h.len]; exact hq)⟩
    refine ⟨z, hz, ?_⟩
    rw [← hc _ hq _ z hx hz hs]
    exact (liveStep_bit (hi _ (List.getElem_mem hq)) _ r hr).2 (.inr ⟨hk, _, hn, ih⟩)
theorem live_end {p : Prg} {f : Fun} {os : List Int} (h : LiveInv p f os) (hi : ∀ x ∈ f.code, InsR p x) (hc : ∀ q, q < f.code.length → LClosed p f os q) {q : Nat} (hq : q < f.code.length) :
    ∃ z, os[q]? = some z ∧ (SureAt f q → z = liveUpto p f 12 q) := by
  obtain ⟨z, hz⟩ : ∃ z, os[q]? = some z := ⟨_, List.getElem?_eq_getElem (by rw [h.len]; exact hq)⟩
  refine ⟨z, hz, fun hs => ?_⟩
  have hr := h.rng q z hz
  unfold liveUpto
  rw [if_pos hs, ← mask_eq hr]
  refine mskZ_congr 12 fun r hr' => ?_
  rw [Bool.eq_iff_iff, liveB_iff]
  refine ⟨h.snd q z r hz hr', fun hl => ?_⟩
  obtain ⟨u, hu, hb⟩ := live_bit h hi hc hr' hl
  rw [hz] at hu; cases hu
  exact hb
/-! ### Register by register -/
structure LvInv (p : Prg) (f : Fun) (r : Nat) (bs : List Bool) : Prop where
  len : bs.length = f.code.length
  snd : ∀ q : Nat, bs[q]? = some true → LiveP p f r q
def LvBit (p : Prg) (x : Ins) (r q : Nat) (bs : List Bool) : Prop := (r : Int) ∈ readsL p x ∨ (¬ KillsR x r ∧ ∃ n ∈ nextZ x q, bs[n.toNat]? = some true)
def LvClosed (p : Prg) (f : Fun) (r : Nat) (bs : List Bool) (q : Nat) : Prop := ∀ x, f.code[q]? = some x → SureAt f q → bs[q]? = some false → ¬ LvBit p x r q bs
theorem LvInv.set {p : Prg} {f : Fun} {r : Nat} {bs : List Bool} (h : LvInv p f r bs) {q : Nat} {x : Ins} (hx : f.code[q]? = some x) (hs : SureAt f q) (hb : LvBit p x r q bs) : LvInv p f r (bs.set q true) :=
  ⟨by simpa using h.len, fun k hk => by
    by_cases e : q = k
    · subst e
      rcases hb with hb | ⟨h1, n, hn, hb⟩
      · exact .read hx hs hb
      · exact .way hx hs h1 hn (h.snd _ hb)
    · rw [List.getElem?_set_ne e] at hk
      exact h.snd k hk⟩
theorem lv_end {p : Prg} {f : Fun} {r : Nat} {bs : List Bool} (h : LvInv p f r bs) (hc : ∀ q, q < f.code.length → LvClosed p f r bs q) {q : Nat} (hq : q < f.code.length) : bs[q]? = some (liveB p f r q) := by
  obtain ⟨b, hb⟩ : ∃ b, bs[q]? = some b := ⟨_, List.getElem?_eq_getElem (by rw [h.len]; exact hq)⟩
  have key : ∀ k, LiveP p f r k → bs[k]? = some true := fun k hl => by
    induction hl with
    | @read pc x hx hs hm =>
      have hk := (List.getElem?_eq_some_iff.1 hx).1
      obtain ⟨b, hb⟩ : ∃ b, bs[pc]? = some b := ⟨_, List.getElem?_eq_getElem (by rw [h.len]; exact hk)⟩
      cases b
      · exact absurd (Or.inl hm) (hc _ hk x hx hs hb)
      · exact hb
    | @way pc x n hx hs hkk hn _ ih =>
      have hk := (List.getElem?_eq_some_iff.1 hx).1
      obtain ⟨b, hb⟩ : ∃ b, bs[pc]? = some b := ⟨_, List.getElem?_eq_getElem (by rw [h.len]; exact hk)⟩
      cases b
      · exact absurd (Or.inr ⟨hkk, n, hn, ih⟩) (hc _ hk x hx hs hb)
      · exact hb
  rw [hb]
  congr 1
  rw [Bool.eq_iff_iff, liveB_iff]
  constructor
  · rintro rfl; exact h.snd q hb
  · intro hl; have := key q hl; rw [hb] at this; cases this; rfl
theorem liveUpto_succ (p : Prg) (f : Fun) (k pc : Nat) : liveUpto p f (k + 1) pc = liveUpto p f k pc + if liveB p f k pc then 2 ^ k else 0 := by
  unfold liveUpto
  by_cases hs : SureAt f pc
  · rw [if_pos hs, if_pos hs, mskZ]
  · rw [if_neg hs, if_neg hs]
    have : liveB p f k pc = false := by
      rw [← Bool.not_eq_true, liveB_iff]
      rintro (⟨_, h, _⟩ | ⟨_, h, _, _, _⟩) <;> exact hs h
    rw [this]; simp
end Go.Proofs.YtnabeibnaoahmaaDoor
