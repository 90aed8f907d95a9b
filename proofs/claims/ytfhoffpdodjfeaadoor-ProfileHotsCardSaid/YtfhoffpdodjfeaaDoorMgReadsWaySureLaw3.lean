/- proof.reads. P3.2: the ways through a function; a list of truths that is closed under them. No program is named here. P3.2: the sure registers of a function. No program is named here. -/
import Derived.Test.YtfhoffpdodjfeaaDoorMgPrNestNestB3
import Derived.Test.YtfhoffpdodjfeaaDoorMgBitsBitsZ2
import Derived.Test.YtfhoffpdodjfeaaDoorMgValidPureLaw2
import Derived.BigQuiet
set_option linter.unusedSimpArgs false
set_option linter.unusedVariables false
namespace Go.Proofs.YtfhoffpdodjfeaaDoor
open Go.RowKit Plain64
attribute [local irreducible] wpList Code.wp Oper.wp
theorem rep_prg_at {p : Prg} {u : Value} {w : World} {S : Nat → Prop} (h : Lay.rep w S p [u]) : ∃ (A : Option Addr) (c : Nat), u = .slice A p.funcs.length c ∧ p.funcs.length ≤ c ∧ c ≤ maxLen ∧
    ∀ (k : Nat) (hk : k < p.funcs.length), ∃ (a : Addr) (v : Value), A = some a ∧ S a.block ∧ At w (a.add (k * 3)) [.int .i64 p.funcs[k].params, .int .i64 p.funcs[k].regs, v] ∧ Lay.rep w S p.funcs[k].code [v] := rep_funs_at (rep_prg.1 h)
theorem index0 (a b c : Int) (w : World) : (Instr.index 126 (.agg #[.int .i64 a, .int .i64 b, .int .i64 c]) (.int .i64 0)).run Tryd.prog w = .ok (.int .i64 a) w := by kernel_rfl
theorem index1 (a b c : Int) (w : World) : (Instr.index 126 (.agg #[.int .i64 a, .int .i64 b, .int .i64 c]) (.int .i64 1)).run Tryd.prog w = .ok (.int .i64 b) w := by kernel_rfl
theorem index2 (a b c : Int) (w : World) : (Instr.index 126 (.agg #[.int .i64 a, .int .i64 b, .int .i64 c]) (.int .i64 2)).run Tryd.prog w = .ok (.int .i64 c) w := by kernel_rfl
set_option maxRecDepth 10000 in
set_option maxHeartbeats 1000000 in
theorem reads_any (p : Prg) (u : Value) (x : Ins) (len : Nat) (w : World) (hp : Lay.rep w (Lt w.heap.size) p [u]) (ok : OkP p) (okx : OkI x len p.funcs.length) :
    Calls Tryd.prog 89 #[.agg #[u], .agg #[.int .i64 x.op, .int .i64 x.dst, .int .i64 x.a, .int .i64 x.b, .int .i64 x.imm]] w fun e w' => e = .returned (.int .i64 (bitsL (readsL p x))) ∧ Below w.heap.size w w' := by
  obtain ⟨A, c, rfl, hc, hm, hx⟩ := rep_prg_at hp
  unfold maxLen at hm
  have HX := Lib.hid hx
  have HO := Lib.hid okx
  have HK := Lib.hid ok
  obtain ⟨a1, a2⟩ := okx.a
  obtain ⟨b1, b2⟩ := okx.b
  obtain ⟨n1, n2⟩ := ok.len
  clear hx hp ok okx
  have HP := Lib.hid (Hp.start w)
  go_enter Tryd.func89, Tryd.ntmps89
  go_upto_region 1 with (first | (refine wpList_box_hp (o := ⟨some 2, _, _, _, _, _⟩) rfl _ _ rfl HP.out [_] rfl ?_; clear HP; intro g2 w2 HP; replace HP := Lib.hid HP) | (refine wpList_box_hp (o := ⟨some 3, _, _, _, _, _⟩) rfl _ _ rfl HP.out [_, _, _, _, _] rfl ?_; clear HP; intro g3 w3 HP; replace HP := Lib.hid HP))
  have ha := HP.out.cell (.head _) 2 _ rfl
  have hb := HP.out.cell (.head _) 3 _ rfl
  have hop := HP.out.cell (.head _) 0 _ rfl
  have himm := HP.out.cell (.head _) 4 _ rfl
  have hfs := HP.out.cell (.tail _ (.head _)) 0 _ rfl
  have ea : wrap64 (2 ^ x.a.toNat) = 2 ^ x.a.toNat := by have := pow_small x.a ⟨a1, a2⟩; unfold wrap64; omega
  have eb : wrap64 (2 ^ x.b.toNat) = 2 ^ x.b.toNat := by have := pow_small x.b ⟨b1, b2⟩; unfold wrap64; omega
  by_cases h17 : x.op = 17
  · obtain ⟨i1, i2⟩ := HO.out.cal h17
    obtain ⟨k, hk⟩ := Int.eq_ofNat_of_zero_le i1
    have hkl : k < p.funcs.length := by omega
    have hki : (k : Int) < (p.funcs.length : Int) := by omega
    obtain ⟨ad, v, rfl, hab, hat, _⟩ := HX.out k hkl
    have hpar : parZ p x.imm = p.funcs[k].params := by unfold parZ; rw [hk]; simp [hkl]
    have hq := (HK.out.fns _ (List.getElem_mem hkl)).params
    have hcp := (HP.out.at_ (F := ⟨w, Lt w.heap.size⟩) (by simp) hat (by rw [block_of_add]; exact hab)).cell 0 rfl
    have e0 : (ad.add (k * 3)).add 0 = ad.add (k * 3) := by simp [Addr.add]
    rw [e0] at hcp
    have HO17 := Lib.hid h17
    have HPAR := Lib.hid hpar
    rw [hk] at himm
    rw [h17] at hop
    have HKK := Lib.hid hk
    obtain ⟨r, hr⟩ : ∃ r, p.funcs[k].params = r := ⟨_, rfl⟩
    rw [hr] at hcp hq HPAR
    clear h17 hk hpar hat hr e0 i1 i2
    have hr3 : r = 0 ∨ r = 1 ∨ r = 2 := by omega
    clear hq
    rcases hr3 with rfl | rfl | rfl
    all_goals
      go_quiet (fail)
      have i0 := index0
      have i1 := index1
      have i2 := index2
      go_wp2
      go_ret
      refine ⟨ret_int ?_, (HP.out.drewN nq).below⟩
      unfold readsL
      rw [HPAR.out, HO17.out]
      first | rfl | exact or_bits _ _ ⟨a1, a2⟩ ⟨b1, b2⟩
  · have h17b : (x.op == 17) = false := by simpa using h17
    have HN := Lib.hid h17
    clear h17
    go_quiet (fail)
    go_wp2
    all_goals
      go_ret
      refine ⟨ret_int ?_, (HP.out.drewN nq).below⟩
      have h17 := HN.out
      simp only [beq_iff_eq, beq_eq_false_iff_ne, ne_eq] at *
      have h1 := HO.out.op
      unfold readsL
      (try rw [ea]); (try rw [eb])
      first
        | (rw [show readsAZ x.op = false by unfold readsAZ; simp; omega, show readsBZ x.op = false by unfold readsBZ; simp; omega]; rfl)
        | (rw [show readsAZ x.op = true by unfold readsAZ; simp; omega, show readsBZ x.op = false by unfold readsBZ; simp; omega, decide_eq_true h17]; rfl)
        | (rw [show readsAZ x.op = true by unfold readsAZ; simp; omega, show readsBZ x.op = true by unfold readsBZ; simp; omega, decide_eq_true h17]; exact or_bits _ _ ⟨a1, a2⟩ ⟨b1, b2⟩)
end Go.Proofs.YtfhoffpdodjfeaaDoor
namespace Go.Proofs.YtfhoffpdodjfeaaDoor
open Go.RowKit
theorem nextZ_len (x : Ins) (pc : Nat) : (nextZ x pc).length ≤ 2 := by
  unfold nextZ; split <;> (try split) <;> (try split) <;> simp
theorem nextZ_in {x : Ins} {len funcs : Nat} (h : OkI x len funcs) {pc : Nat} (hp : pc < len) : ∀ n ∈ nextZ x pc, 0 ≤ n ∧ n ≤ len := by
  unfold nextZ
  intro n hn
  split at hn
  · cases hn
  · split at hn
    · rename_i h1 h2
      have := h.tgt (.inl h2)
      rw [List.mem_singleton.1 hn]; omega
    · split at hn
      · rename_i h1 h2 h3
        have := h.tgt (.inr h3)
        simp at hn
        rcases hn with rfl | rfl <;> omega
      · rw [List.mem_singleton.1 hn]; omega
def Kill (r : Int) (x : Ins) : Bool := decide (0 ≤ r) && setsZ x.op && decide (x.dst = r)
/-- Is there a way to a place on which a register is not set (-1: whatever is set)? -/
inductive Way (f : Fun) (r : Int) : Nat → Prop
  | start (h : ¬ (0 ≤ r ∧ r < f.params)) : Way f r 0
  | step {pc : Nat} {x : Ins} {n : Int} (h : Way f r pc) (hx : f.code[pc]? = some x) (hk : Kill r x = false) (hn : n ∈ nextZ x pc) : Way f r n.toNat
open Classical in
noncomputable def wayL (f : Fun) (r : Int) : List Bool := (List.range (f.code.length + 1)).map fun pc => decide (Way f r pc)
theorem wayL_len (f : Fun) (r : Int) : (wayL f r).length = f.code.length + 1 := by simp [wayL]
theorem wayL_at (f : Fun) (r : Int) (pc : Nat) (h : pc ≤ f.code.length) : (wayL f r)[pc]? = some true ↔ Way f r pc := by
  unfold wayL
  rw [List.getElem?_map, List.getElem?_range (by omega)]
  simp
/-- So far as is known there is a way. -/
def Sound (f : Fun) (r : Int) (bs : List Bool) : Prop := ∀ pc : Nat, bs[pc]? = some true → Way f r pc
def ClosedAt (f : Fun) (r : Int) (bs : List Bool) (pc : Nat) : Prop := bs[pc]? = some true → ∀ x, f.code[pc]? = some x → Kill r x = false → ∀ n ∈ nextZ x pc, bs[n.toNat]? = some true
theorem way_closed {f : Fun} {funcs : Nat} (ok : OkF f funcs) {r : Int} {bs : List Bool} (hl : bs.length = f.code.length + 1) (h0 : ¬ (0 ≤ r ∧ r < f.params) → bs[0]? = some true) (hs : Sound f r bs) (hc : ∀ pc, pc < f.code.length → ClosedAt f r bs pc) : bs = wayL f r := by
  have hw : ∀ pc, Way f r pc → bs[pc]? = some true := fun pc h => by
    induction h with
    | start h => exact h0 h
    | step h hx hk hn ih => exact hc _ (List.getElem?_eq_some_iff.1 hx).1 ih _ hx hk _ hn
  apply List.ext_getElem?
  intro pc
  by_cases hpc : pc ≤ f.code.length
  · have hb : ∃ b, bs[pc]? = some b := ⟨_, List.getElem?_eq_getElem (by omega)⟩
    obtain ⟨b, hb⟩ := hb
    have hx : (wayL f r)[pc]? = some ((wayL f r)[pc]'(by rw [wayL_len]; omega)) := List.getElem?_eq_getElem _
    rw [hb]
    cases b
    · generalize (wayL f r)[pc]'(by rw [wayL_len]; omega) = c at hx
      cases c
      · exact hx.symm
      · have := hw pc ((wayL_at f r pc hpc).1 hx)
        rw [hb] at this; cases this
    · exact ((wayL_at f r pc hpc).2 (hs pc hb)).symm
  · rw [List.getElem?_eq_none (by omega), List.getElem?_eq_none (by rw [wayL_len]; omega)]
theorem wayL_none {f : Fun} {r : Int} (h : 0 ≤ r ∧ r < f.params) : List.replicate (f.code.length + 1) false = wayL f r := by
  have hw : ∀ pc, ¬ Way f r pc := fun pc hw => by
    induction hw with
    | start h' => exact h' h
    | step _ _ _ _ ih => exact ih
  apply List.ext_getElem
  · simp [wayL_len]
  · intro i h1 h2
    simp [wayL, hw]
theorem count_set {bs : List Bool} {n : Nat} (h : bs[n]? = some false) : (bs.set n true).count false + 1 = bs.count false := by
  induction bs generalizing n with
  | nil => simp at h
  | cons b bs ih =>
    cases n with
    | zero => simp at h; subst h; simp
    | succ n =>
      have := ih (n := n) (by simpa using h)
      simp only [List.set_cons_succ, List.count_cons]
      omega
/-- A round so far: whether something was found, and what is known by now. -/
structure Rnd (f : Fun) (r : Int) (bs0 bs : List Bool) (again : Bool) : Prop where
  len : bs.length = f.code.length + 1
  sound : Sound f r bs
  first : ¬ (0 ≤ r ∧ r < f.params) → bs[0]? = some true
  no : again = false → bs = bs0
  yes : again = true → bs.count false < bs0.count false
theorem Rnd.set {f : Fun} {r : Int} {bs0 bs : List Bool} {again : Bool} (h : Rnd f r bs0 bs again) {n : Nat} (hn : bs[n]? = some false) (hw : Way f r n) : Rnd f r bs0 (bs.set n true) true := by
  refine ⟨by simpa using h.len, fun pc hp => ?_, fun hf => ?_, fun e => (by cases e), fun _ => ?_⟩
  · by_cases e : n = pc
    · subst e; exact hw
    · rw [List.getElem?_set_ne e] at hp; exact h.sound pc hp
  · by_cases e : n = 0
    · subst e; rw [h.first hf] at hn; cases hn
    · rw [List.getElem?_set_ne e]; exact h.first hf
  · have := count_set hn
    cases again
    · have e := h.no rfl
      rw [← e]; omega
    · have := h.yes rfl; omega
end Go.Proofs.YtfhoffpdodjfeaaDoor
namespace Go.Proofs.YtfhoffpdodjfeaaDoor
open Go.RowKit Plain64
/-- Numbers below k that are so, as bits. -/
def mskZ (g : Nat → Bool) : Nat → Int
  | 0 => 0
  | k + 1 => mskZ g k + if g k then 2 ^ k else 0
theorem mskZ_range (g : Nat → Bool) : ∀ k, 0 ≤ mskZ g k ∧ mskZ g k ≤ 2 ^ k - 1
  | 0 => by simp [mskZ]
  | k + 1 => by
    have := mskZ_range g k
    have h : (0 : Int) < 2 ^ k := Int.pow_pos (by decide)
    rw [mskZ, Int.pow_succ]
    split <;> omega
/-- Up to a register: what is known of a place. -/
noncomputable def sureUpto (f : Fun) (r pc : Nat) : Int := if (wayL f (-1)).getD pc false then mskZ (fun r => !(wayL f r).getD pc false) r else -1
noncomputable def sureL (f : Fun) : List Int := (List.range (f.code.length + 1)).map (sureUpto f 12)
theorem sureL_len (f : Fun) : (sureL f).length = f.code.length + 1 := by simp [sureL]
theorem sureUpto_range (f : Fun) (r pc : Nat) (hr : r ≤ 12) : -1 ≤ sureUpto f r pc ∧ sureUpto f r pc ≤ 4095 := by
  unfold sureUpto
  split
  · have h1 := mskZ_range (fun r => !(wayL f r).getD pc false) r
    have h2 := Nat.pow_le_pow_right (n := 2) (by decide) hr
    have e : ((2 ^ r : Nat) : Int) = 2 ^ r := by simp
    have : (2 : Int) ^ r ≤ 4096 := by rw [← e]; exact Int.ofNat_le.2 h2
    omega
  · omega
theorem sureL_of {f : Fun} {os : List Int} (hl : os.length = f.code.length + 1) (h : ∀ q, q < f.code.length + 1 → os[q]? = some (sureUpto f 12 q)) : os = sureL f := by
  apply List.ext_getElem?
  intro q
  by_cases hq : q < f.code.length + 1
  · rw [h q hq, sureL, List.getElem?_map, List.getElem?_range hq]; rfl
  · rw [List.getElem?_eq_none (by omega), List.getElem?_eq_none (by rw [sureL_len]; omega)]
theorem sureUpto_succ (f : Fun) (r pc : Nat) : sureUpto f (r + 1) pc = sureUpto f r pc + if (wayL f (-1)).getD pc false && !(wayL f r).getD pc false then 2 ^ r else 0 := by
  unfold sureUpto
  cases (wayL f (-1)).getD pc false
  · simp
  · simp only [if_true, mskZ, Bool.true_and]
end Go.Proofs.YtfhoffpdodjfeaaDoor
