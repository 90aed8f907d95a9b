/- What a program that is refused by nothing is; what its instructions read. No program is named here. -/
import Derived.Test.YtpnapnmkjpolmaaDoorData
import Derived.Test.YtpnapnmkjpolmaaDoorPlain64
set_option linter.unusedSimpArgs false
set_option linter.unusedVariables false
namespace Go.Proofs.YtpnapnmkjpolmaaDoor
open Go.RowKit Plain64
structure OkI (x : Ins) (len funcs : Nat) : Prop where
  op : 1 ≤ x.op ∧ x.op ≤ 19
  dst : 0 ≤ x.dst ∧ x.dst ≤ 11
  a : 0 ≤ x.a ∧ x.a ≤ 11
  b : 0 ≤ x.b ∧ x.b ≤ 11
  tgt : x.op = 15 ∨ x.op = 16 → 0 ≤ x.imm ∧ x.imm < len
  cal : x.op = 17 → 0 ≤ x.imm ∧ x.imm < funcs
structure OkF (f : Fun) (funcs : Nat) : Prop where
  regs : 1 ≤ f.regs ∧ f.regs ≤ 12
  params : 0 ≤ f.params ∧ f.params ≤ 2 ∧ f.params ≤ f.regs
  len : 1 ≤ f.code.length ∧ f.code.length ≤ 40
  ins : ∀ x ∈ f.code, OkI x f.code.length funcs
structure OkP (p : Prg) : Prop where
  len : 1 ≤ p.funcs.length ∧ p.funcs.length ≤ 4
  fns : ∀ f ∈ p.funcs, OkF f p.funcs.length
theorem okI_of {x : Ins} {regs : Int} {len funcs : Nat} (h : insFault x regs len funcs = 0) (hr : regs ≤ 12) : OkI x len funcs := by
  unfold insFault at h
  by_cases h1 : 1 ≤ x.op ∧ x.op ≤ 19
  · rw [if_neg (by simpa using h1)] at h
    by_cases h2 : (regMayZ x.dst (setsZ x.op) regs && regMayZ x.a (readsAZ x.op) regs && regMayZ x.b (readsBZ x.op) regs && immMayZ x len funcs) = true
    · simp only [Bool.and_eq_true] at h2
      obtain ⟨⟨⟨d, a⟩, b⟩, i⟩ := h2
      have fld : ∀ (n : Int) (is : Bool), regMayZ n is regs = true → 0 ≤ n ∧ n ≤ 11 := fun n is hh => by
        unfold regMayZ at hh
        cases is
        · simp at hh; omega
        · simp at hh; omega
      refine ⟨h1, fld _ _ d, fld _ _ a, fld _ _ b, fun ht => ?_, fun ht => ?_⟩
      · unfold immMayZ at i
        rw [if_pos ht] at i
        simp at i; omega
      · unfold immMayZ at i
        rw [if_neg (by omega), if_pos ht] at i
        simp at i; omega
    · rw [if_neg h2] at h; cases h
  · rw [if_pos h1] at h; cases h
theorem okF_of {f : Fun} {funcs : Nat} (h : funFault f funcs = 0) : OkF f funcs := by
  unfold funFault at h
  by_cases h1 : 1 ≤ f.regs ∧ f.regs ≤ 12 ∧ 0 ≤ f.params ∧ f.params ≤ 2 ∧ f.params ≤ f.regs
  · rw [if_neg (by simpa using h1)] at h
    by_cases h2 : 1 ≤ f.code.length ∧ f.code.length ≤ 40
    · rw [if_neg (by simpa using h2)] at h
      exact ⟨⟨h1.1, h1.2.1⟩, h1.2.2, h2, fun x hx => okI_of (firstZ_eq_zero.1 h _ (List.mem_map.2 ⟨x, hx, rfl⟩)) h1.2.1⟩
    · rw [if_pos h2] at h; cases h
  · rw [if_pos h1] at h; cases h
theorem okP_of {p : Prg} (h : prgFault p = 0) : OkP p := by
  unfold prgFault at h
  by_cases h1 : 1 ≤ p.funcs.length ∧ p.funcs.length ≤ 4
  · rw [if_neg (by simpa using h1)] at h
    exact ⟨h1, fun f hf => okF_of (firstZ_eq_zero.1 h _ (List.mem_map.2 ⟨f, hf, rfl⟩))⟩
  · rw [if_pos h1] at h; cases h
/-- The parameters of a program's function. -/
def parZ (p : Prg) (k : Int) : Int := ((p.funcs[k.toNat]?).map Fun.params).getD 0
/-- P1.1: what an instruction reads. -/
def readsL (p : Prg) (x : Ins) : List Int :=
  (if readsAZ x.op && (decide (x.op ≠ 17) || decide (0 < parZ p x.imm)) then [x.a] else []) ++ (if readsBZ x.op && (decide (x.op ≠ 17) || decide (1 < parZ p x.imm)) then [x.b] else [])
/-- Registers as bits. -/
def bitsL : List Int → Int
  | [] => 0
  | [a] => 2 ^ a.toNat
  | a :: b :: _ => if a = b then 2 ^ a.toNat else 2 ^ a.toNat + 2 ^ b.toNat
theorem small (x : Int) (h : 0 ≤ x ∧ x ≤ 11) : x = 0 ∨ x = 1 ∨ x = 2 ∨ x = 3 ∨ x = 4 ∨ x = 5 ∨ x = 6 ∨ x = 7 ∨ x = 8 ∨ x = 9 ∨ x = 10 ∨ x = 11 := by omega
theorem or_bits_nat : ∀ a b : Fin 12, bits .or .i64 (2 ^ a.1) (2 ^ b.1) = if (a.1 : Int) = b.1 then 2 ^ a.1 else 2 ^ a.1 + 2 ^ b.1 := by decide +kernel
theorem or_bits (a b : Int) (ha : 0 ≤ a ∧ a ≤ 11) (hb : 0 ≤ b ∧ b ≤ 11) : bits .or .i64 (2 ^ a.toNat) (2 ^ b.toNat) = bitsL [a, b] := by
  have := or_bits_nat ⟨a.toNat, by omega⟩ ⟨b.toNat, by omega⟩
  simp only at this
  rw [this]
  show _ = if a = b then (2 : Int) ^ a.toNat else 2 ^ a.toNat + 2 ^ b.toNat
  by_cases e : a = b
  · rw [if_pos e, if_pos (by omega)]
  · rw [if_neg e, if_neg (by omega)]
theorem pow_small (a : Int) (ha : 0 ≤ a ∧ a ≤ 11) : 1 ≤ (2 : Int) ^ a.toNat ∧ (2 : Int) ^ a.toNat ≤ 2048 := by
  rcases small a ha with rfl | rfl | rfl | rfl | rfl | rfl | rfl | rfl | rfl | rfl | rfl | rfl <;> decide
end Go.Proofs.YtpnapnmkjpolmaaDoor
