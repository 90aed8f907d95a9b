/- The data of package api as Lean's own, and how they lie in memory. -/
import Derived.Test.YtpnapnmkjpolmaaDoorMem
set_option linter.unusedSimpArgs false
set_option linter.unusedVariables false
namespace Go.Proofs.YtpnapnmkjpolmaaDoor
open Go.RowKit

/-- api.Instr. -/
structure Ins where
  op : Int
  dst : Int
  a : Int
  b : Int
  imm : Int
  deriving DecidableEq, Inhabited
/-- api.Func. -/
structure Fun where
  params : Int
  regs : Int
  code : List Ins
  deriving DecidableEq, Inhabited
/-- api.Program. -/
structure Prg where
  funcs : List Fun
  deriving DecidableEq, Inhabited
/-- api.Rv. -/
structure Rvi where
  op : Int
  rd : Int
  rs1 : Int
  rs2 : Int
  imm : Int
  deriving DecidableEq, Inhabited
/-- api.Frame. -/
structure Frm where
  fn : Int
  pc : Int
  regs : Vector Int 12
  deriving DecidableEq
/-- api.State. -/
structure Sta where
  status : Int
  value : Int
  frames : List Frm
  memory : Vector Int 16
  fuel : Int
  events : List Int
  answers : List Int
  deriving DecidableEq

instance layIns : Lay Ins := Lay.via fun x => (x.op, x.dst, x.a, x.b, x.imm)
instance layFun : Lay Fun := Lay.via fun x => (x.params, x.regs, x.code)
instance layPrg : Lay Prg := Lay.via fun x => x.funcs
instance layRvi : Lay Rvi := Lay.via fun x => (x.op, x.rd, x.rs1, x.rs2, x.imm)
instance layFrm : Lay Frm := Lay.via fun x => (x.fn, x.pc, x.regs)
instance laySta : Lay Sta := Lay.via fun x => (x.status, x.value, x.frames, x.memory, x.fuel, x.events, x.answers)

section
variable {w w' : World} {B : Nat → Prop} {cs : List Value}
theorem rep_ins {x : Ins} : Lay.rep w B x cs ↔ cs = [.int .i64 x.op, .int .i64 x.dst, .int .i64 x.a, .int .i64 x.b, .int .i64 x.imm] := by
  constructor
  · rintro ⟨_, _, rfl, rfl, _, _, rfl, rfl, _, _, rfl, rfl, _, _, rfl, rfl, rfl⟩; rfl
  · rintro rfl; exact ⟨_, _, rfl, rfl, _, _, rfl, rfl, _, _, rfl, rfl, _, _, rfl, rfl, rfl⟩
theorem rep_rvi {x : Rvi} : Lay.rep w B x cs ↔ cs = [.int .i64 x.op, .int .i64 x.rd, .int .i64 x.rs1, .int .i64 x.rs2, .int .i64 x.imm] := by
  constructor
  · rintro ⟨_, _, rfl, rfl, _, _, rfl, rfl, _, _, rfl, rfl, _, _, rfl, rfl, rfl⟩; rfl
  · rintro rfl; exact ⟨_, _, rfl, rfl, _, _, rfl, rfl, _, _, rfl, rfl, _, _, rfl, rfl, rfl⟩
theorem rep_fun {x : Fun} : Lay.rep w B x cs ↔ ∃ v, cs = [.int .i64 x.params, .int .i64 x.regs, v] ∧ Lay.rep w B x.code [v] := by
  constructor
  · rintro ⟨_, _, rfl, rfl, _, _, rfl, rfl, h⟩
    obtain ⟨A, c, rfl, h⟩ := h
    exact ⟨_, rfl, A, c, rfl, h⟩
  · rintro ⟨v, rfl, h⟩
    exact ⟨_, _, rfl, rfl, _, _, rfl, rfl, h⟩
theorem rep_prg {x : Prg} : Lay.rep w B x cs ↔ Lay.rep w B x.funcs cs := Iff.rfl
theorem rep_frm {x : Frm} : Lay.rep w B x cs ↔ cs = .int .i64 x.fn :: .int .i64 x.pc :: x.regs.toList.map (Value.int .i64) := by
  constructor
  · rintro ⟨_, _, rfl, rfl, _, _, rfl, rfl, h⟩
    rw [rep_vec_int] at h; subst h; rfl
  · rintro rfl; exact ⟨_, _, rfl, rfl, _, _, rfl, rfl, rep_vec_int.2 rfl⟩
theorem ok_ins {x : Ins} : Lay.ok x ↔ I64 x.op ∧ I64 x.dst ∧ I64 x.a ∧ I64 x.b ∧ I64 x.imm := Iff.rfl
theorem ok_fun {x : Fun} : Lay.ok x ↔ I64 x.params ∧ I64 x.regs ∧ Lay.ok x.code := Iff.rfl
theorem ok_prg {x : Prg} : Lay.ok x ↔ Lay.ok x.funcs := Iff.rfl
theorem ok_rvi {x : Rvi} : Lay.ok x ↔ I64 x.op ∧ I64 x.rd ∧ I64 x.rs1 ∧ I64 x.rs2 ∧ I64 x.imm := Iff.rfl
theorem ok_frm {x : Frm} : Lay.ok x ↔ I64 x.fn ∧ I64 x.pc ∧ Lay.ok x.regs := Iff.rfl
theorem ok_list {α : Type} [Lay α] {xs : List α} : Lay.ok xs ↔ xs.length * Lay.bytes α ≤ 140737488351232 ∧ ∀ x, x ∈ xs → Lay.ok x := Iff.rfl
/-- An element of a slice of instructions. -/
theorem rep_code_at {xs : List Ins} {v : Value} (h : Lay.rep w B xs [v]) : ∃ (A : Option Addr) (c : Nat), v = .slice A xs.length c ∧ xs.length ≤ c ∧ c ≤ maxLen ∧
    ∀ (k : Nat) (hk : k < xs.length), ∃ (a : Addr), A = some a ∧ B a.block ∧ At w (a.add (k * 5)) [.int .i64 xs[k].op, .int .i64 xs[k].dst, .int .i64 xs[k].a, .int .i64 xs[k].b, .int .i64 xs[k].imm] := by
  obtain ⟨A, c, e, h1, h2, h3⟩ := rep_list h
  injection e with e
  refine ⟨A, c, e, h1, h2, fun k hk => ?_⟩
  obtain ⟨a, ds, ha, hb, hat, hr⟩ := h3 k hk
  rw [rep_ins] at hr
  subst hr
  exact ⟨a, ha, hb, hat⟩
/-- An element of a slice of functions. -/
theorem rep_funs_at {xs : List Fun} {v : Value} (h : Lay.rep w B xs [v]) : ∃ (A : Option Addr) (c : Nat), v = .slice A xs.length c ∧ xs.length ≤ c ∧ c ≤ maxLen ∧
    ∀ (k : Nat) (hk : k < xs.length), ∃ (a : Addr) (u : Value), A = some a ∧ B a.block ∧ At w (a.add (k * 3)) [.int .i64 xs[k].params, .int .i64 xs[k].regs, u] ∧ Lay.rep w B xs[k].code [u] := by
  obtain ⟨A, c, e, h1, h2, h3⟩ := rep_list h
  injection e with e
  refine ⟨A, c, e, h1, h2, fun k hk => ?_⟩
  obtain ⟨a, ds, ha, hb, hat, hr⟩ := h3 k hk
  rw [rep_fun] at hr
  obtain ⟨u, rfl, hu⟩ := hr
  exact ⟨a, u, ha, hb, hat, hu⟩
end

/-! ## What the document says: chapters 1 and 11 -/
def setsZ (op : Int) : Bool := decide (1 ≤ op ∧ op ≤ 13) || decide (op = 17) || decide (op = 18)
def readsAZ (op : Int) : Bool := decide (op ≠ 1) && decide (op ≠ 15)
def readsBZ (op : Int) : Bool := decide (2 ≤ op ∧ op ≤ 12) || decide (op = 14) || decide (op = 17)
def regMayZ (n : Int) (is : Bool) (regs : Int) : Bool := if is then decide (0 ≤ n ∧ n ≤ regs - 1) else decide (n = 0)
/-- P1.2. -/
def immMayZ (x : Ins) (len funcs : Nat) : Bool :=
  if x.op = 15 ∨ x.op = 16 then decide (0 ≤ x.imm ∧ x.imm ≤ (len : Int) - 1) else if x.op = 17 then decide (0 ≤ x.imm ∧ x.imm ≤ (funcs : Int) - 1) else if x.op = 1 then true else decide (x.imm = 0)
def insFault (x : Ins) (regs : Int) (len funcs : Nat) : Int :=
  if ¬ (1 ≤ x.op ∧ x.op ≤ 19) then 3 else if regMayZ x.dst (setsZ x.op) regs && regMayZ x.a (readsAZ x.op) regs && regMayZ x.b (readsBZ x.op) regs && immMayZ x len funcs then 0 else 2
/-- The first that is not 0. -/
def firstZ : List Int → Int
  | [] => 0
  | x :: r => if x = 0 then firstZ r else x
def funFault (f : Fun) (funcs : Nat) : Int :=
  if ¬ (1 ≤ f.regs ∧ f.regs ≤ 12 ∧ 0 ≤ f.params ∧ f.params ≤ 2 ∧ f.params ≤ f.regs) then 2 else if ¬ (1 ≤ f.code.length ∧ f.code.length ≤ 40) then 1 else firstZ (f.code.map fun x => insFault x f.regs f.code.length funcs)
/-- P1.3. -/
def prgFault (p : Prg) : Int :=
  if ¬ (1 ≤ p.funcs.length ∧ p.funcs.length ≤ 4) then 1 else firstZ (p.funcs.map fun f => funFault f p.funcs.length)
theorem firstZ_append (l r : List Int) (h : ∀ x, x ∈ l → x = 0) : firstZ (l ++ r) = firstZ r := by
  induction l with
  | nil => rfl
  | cons x l ih => rw [List.cons_append, firstZ, if_pos (h x (by simp)), ih fun y hy => h y (by simp [hy])]
theorem firstZ_eq_zero {l : List Int} : firstZ l = 0 ↔ ∀ x, x ∈ l → x = 0 := by
  induction l with
  | nil => simp [firstZ]
  | cons x l ih =>
    rw [firstZ]
    by_cases h : x = 0
    · simp [h, ih]
    · simp [h]
theorem firstZ_map_at {α : Type} (f : α → Int) (l : List α) (k : Nat) (hk : k < l.length) (h : ∀ x, x ∈ l.take k → f x = 0) (hne : f l[k] ≠ 0) : firstZ (l.map f) = f l[k] := by
  have e : l.map f = (l.take k).map f ++ (f l[k] :: (l.drop (k + 1)).map f) := by
    rw [← List.map_cons, ← List.drop_eq_getElem_cons hk, ← List.map_append, List.take_append_drop]
  rw [e, firstZ_append _ _ (by intro y hy; obtain ⟨x, hx, rfl⟩ := List.mem_map.1 hy; exact h x hx), firstZ, if_neg hne]
end Go.Proofs.YtpnapnmkjpolmaaDoor
