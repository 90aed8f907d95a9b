/- Words for memory: what cells hold, and values that stand for data. No program is named here. -/
import Derived.WalkKit
import Derived.WalkSpells
import Derived.WalkLawsBesides
import Derived.Lib.Hide
import Derived.Outline
import Derived.Deep.Slices
import Derived.Laws.Tables
import Derived.Deep.MidRow
import Derived.OwnWalk
import Derived.Deep.WholeRow
namespace Go.Proofs.Ytpgakmopkgbahaa
open Go.RowKit

theorem block_of_add (a : Addr) (n : Nat) : (a.add n).block = a.block := by unfold Addr.add; split <;> rfl
theorem add_of_add (a : Addr) (i j : Nat) : (a.add i).add j = a.add (i + j) := by
  unfold Addr.add
  by_cases hi : i = 0 <;> by_cases hj : j = 0 <;> simp [hi, hj, Nat.add_assoc]

/-- From the address a on lie these cells. -/
def At (w : World) (a : Addr) (cs : List Value) : Prop := ∀ j v, cs[j]? = some v → w.cell? (a.add j) = some v

/-- Two worlds are alike below a block number. -/
def Alike (B : Nat) (w w' : World) : Prop := ∀ p : Addr, p.block < B → w'.cell? p = w.cell? p

section
variable {w w' w'' : World} {a : Addr} {cs ds : List Value} {B B' : Nat}
theorem Alike.refl : Alike B w w := fun _ _ => rfl
theorem Alike.trans (h : Alike B w w') (k : Alike B w' w'') : Alike B w w'' := fun p hp => (k p hp).trans (h p hp)
theorem Alike.mono (h : Alike B w w') (k : B' ≤ B) : Alike B' w w' := fun p hp => h p (Nat.lt_of_lt_of_le hp k)
theorem Alike.of_below (h : Below B w w') : Alike B w w' := fun _ hp => h.cell hp
theorem Alike.alloc (o : Obj) (h : B ≤ w.heap.size) : Alike B w (w.alloc o) := fun p hp => World.cell?_alloc_lt w o p (by omega)
theorem Alike.drew : Alike B w w.drew := fun _ _ => rfl
theorem Alike.setCell (p : Addr) (u : Value) (h : B ≤ p.block) : Alike B w (w.setCell p u) := fun q hq => World.cell?_setCell_other w p q u (fun e => by subst e; omega)
theorem Alike.grown {row : Option Nat} (hg : w.grownBy w' row) (hB : B ≤ w.heap.size) (hr : ∀ g, row = some g → B ≤ g) : Alike B w w' :=
  fun p hp => World.cell?_of_block (hg.block p.block (by omega) (fun e => by have := hr _ e.symm; omega))

theorem At.nil : At w a [] := fun j v h => by simp at h
theorem At.keep (h : At w a cs) (hb : a.block < B) (k : Alike B w w') : At w' a cs := fun j v hv => (k _ (by rw [block_of_add]; exact hb)).trans (h j v hv)
theorem At.drop (h : At w a cs) (n : Nat) : At w (a.add n) (cs.drop n) := fun j v hv => by rw [add_of_add]; exact h _ v (by rwa [List.getElem?_drop] at hv)
theorem At.take (h : At w a cs) (n : Nat) : At w a (cs.take n) := fun j v hv => h j v (by rw [List.getElem?_take] at hv; split at hv <;> simp_all)
theorem At.left (h : At w a (cs ++ ds)) : At w a cs := fun j v hv => h j v (by rw [List.getElem?_append_left]; exact hv; exact (List.getElem?_eq_some_iff.1 hv).1)
theorem At.right (h : At w a (cs ++ ds)) : At w (a.add cs.length) ds := by have := h.drop cs.length; rwa [List.drop_left] at this
theorem At.cell {v : Value} (h : At w a cs) (j : Nat) (hv : cs[j]? = some v) : w.cell? (a.add j) = some v := h j v hv
theorem At.app (h : At w a cs) (k : At w (a.add cs.length) ds) : At w a (cs ++ ds) := fun j v hv => by
  by_cases hj : j < cs.length
  · exact h j v (by rwa [List.getElem?_append_left hj] at hv)
  · rw [List.getElem?_append_right (by omega)] at hv
    have := k _ v hv
    rwa [add_of_add, show cs.length + (j - cs.length) = j by omega] at this
end

/-- What data look like in memory: so many cells; below the block number B lies what they lead to. -/
class Lay (α : Type) where
  size : Nat
  rep : World → Nat → α → List Value → Prop
  len : ∀ {w B x cs}, rep w B x cs → cs.length = size
  keep : ∀ {w w' B x cs}, Alike B w w' → rep w B x cs → rep w' B x cs
  more : ∀ {w B B' x cs}, B ≤ B' → rep w B x cs → rep w B' x cs

instance layInt : Lay Int where
  size := 1
  rep _ _ n cs := cs = [.int .i64 n]
  len h := by subst h; rfl
  keep _ h := h
  more _ h := h
instance layBool : Lay Bool where
  size := 1
  rep _ _ b cs := cs = [.bool b]
  len h := by subst h; rfl
  keep _ h := h
  more _ h := h
/-- A byte. -/
instance layByte : Lay UInt8 where
  size := 1
  rep _ _ n cs := cs = [.int .u8 n.toNat]
  len h := by subst h; rfl
  keep _ h := h
  more _ h := h
instance layProd {α β : Type} [Lay α] [Lay β] : Lay (α × β) where
  size := Lay.size α + Lay.size β
  rep w B x cs := ∃ c d, cs = c ++ d ∧ Lay.rep w B x.1 c ∧ Lay.rep w B x.2 d
  len h := by obtain ⟨c, d, rfl, h1, h2⟩ := h; rw [List.length_append, Lay.len h1, Lay.len h2]
  keep k h := by obtain ⟨c, d, rfl, h1, h2⟩ := h; exact ⟨c, d, rfl, Lay.keep k h1, Lay.keep k h2⟩
  more k h := by obtain ⟨c, d, rfl, h1, h2⟩ := h; exact ⟨c, d, rfl, Lay.more k h1, Lay.more k h2⟩
/-- A slice: nil where it has no elements, or anything of that length. -/
instance layList {α : Type} [Lay α] : Lay (List α) where
  size := 1
  rep w B xs cs := ∃ (A : Option Addr) (c : Nat), cs = [.slice A xs.length c] ∧ xs.length ≤ c ∧ c ≤ maxLen ∧ ∀ (k : Nat) (x : α), xs[k]? = some x → ∃ (a : Addr) (ds : List Value), A = some a ∧ a.block < B ∧ At w (a.add (k * Lay.size α)) ds ∧ Lay.rep w B x ds
  len h := by obtain ⟨A, c, rfl, _⟩ := h; rfl
  keep k h := by
    obtain ⟨A, c, rfl, h1, h2, h3⟩ := h
    refine ⟨A, c, rfl, h1, h2, fun i x hx => ?_⟩
    obtain ⟨a, ds, e, hb, hat, hr⟩ := h3 i x hx
    exact ⟨a, ds, e, hb, hat.keep (by rw [block_of_add]; exact hb) k, Lay.keep k hr⟩
  more k h := by
    obtain ⟨A, c, rfl, h1, h2, h3⟩ := h
    refine ⟨A, c, rfl, h1, h2, fun i x hx => ?_⟩
    obtain ⟨a, ds, e, hb, hat, hr⟩ := h3 i x hx
    exact ⟨a, ds, e, by omega, hat, Lay.more k hr⟩
/-- An array of numbers. -/
instance layVec {n : Nat} : Lay (Vector Int n) where
  size := n
  rep _ _ v cs := cs = v.toList.map (Value.int .i64)
  len h := by subst h; simp
  keep _ h := h
  more _ h := h
/-- A struct as the tuple of its fields. -/
@[reducible] def Lay.via {α β : Type} [Lay β] (f : α → β) : Lay α where
  size := Lay.size β
  rep w B x cs := Lay.rep w B (f x) cs
  len h := Lay.len (α := β) h
  keep k h := Lay.keep (α := β) k h
  more k h := Lay.more (α := β) k h

/-! ## The program's data -/
structure Instr where
  op : Int
  dst : Int
  a : Int
  b : Int
  imm : Int
  deriving DecidableEq, Inhabited
structure Func where
  params : Int
  regs : Int
  code : List Instr
  deriving DecidableEq, Inhabited
structure Prog where
  funcs : List Func
  deriving DecidableEq, Inhabited
instance : Lay Instr := Lay.via fun x => (x.op, x.dst, x.a, x.b, x.imm)
instance : Lay Func := Lay.via fun x => (x.params, x.regs, x.code)
instance : Lay Prog := Lay.via fun x => x.funcs

section
variable {w w' : World} {B : Nat} {cs : List Value}
theorem rep_int {n : Int} : Lay.rep w B n cs ↔ cs = [.int .i64 n] := Iff.rfl
theorem rep_instr {x : Instr} : Lay.rep w B x cs ↔ cs = [.int .i64 x.op, .int .i64 x.dst, .int .i64 x.a, .int .i64 x.b, .int .i64 x.imm] := by
  constructor
  · rintro ⟨_, _, rfl, rfl, _, _, rfl, rfl, _, _, rfl, rfl, _, _, rfl, rfl, rfl⟩; rfl
  · rintro rfl; exact ⟨_, _, rfl, rfl, _, _, rfl, rfl, _, _, rfl, rfl, _, _, rfl, rfl, rfl⟩
theorem rep_func {x : Func} : Lay.rep w B x cs ↔ ∃ v, cs = [.int .i64 x.params, .int .i64 x.regs, v] ∧ Lay.rep w B x.code [v] := by
  constructor
  · rintro ⟨_, _, rfl, rfl, _, _, rfl, rfl, h⟩
    obtain ⟨A, c, rfl, h⟩ := h
    exact ⟨_, rfl, A, c, rfl, h⟩
  · rintro ⟨v, rfl, h⟩
    exact ⟨_, _, rfl, rfl, _, _, rfl, rfl, h⟩
theorem rep_prog {x : Prog} : Lay.rep w B x cs ↔ Lay.rep w B x.funcs cs := Iff.rfl
/-- What a slice is. -/
theorem rep_list {α : Type} [Lay α] {xs : List α} (h : Lay.rep w B xs cs) : ∃ (A : Option Addr) (c : Nat), cs = [.slice A xs.length c] ∧ xs.length ≤ c ∧ c ≤ maxLen ∧
    ∀ (k : Nat) (hk : k < xs.length), ∃ (a : Addr) (ds : List Value), A = some a ∧ a.block < B ∧ At w (a.add (k * Lay.size α)) ds ∧ Lay.rep w B (xs[k]) ds := by
  obtain ⟨A, c, rfl, h1, h2, h3⟩ := h
  exact ⟨A, c, rfl, h1, h2, fun k hk => h3 k _ (List.getElem?_eq_getElem hk)⟩
end

/-! ## Laws at an operation -/
section
variable {P : Program}
theorem run_loadVar_at (w : World) (a : Addr) (ty : TypeId) (cs : List Value) (d : TypeDesc) (hc : At w a cs)
    (hu : P.underlying ty = some d) (hd : d.isRow = true) (hi : (P.info? ty).map (·.size) = some cs.length) : (loadVar ty a).run P w = .ok (.agg cs.toArray) w := by
  have hl : (loadCells a cs.length).run P w = .ok cs.toArray w := run_loadCells_list (P := P) w a cs hc
  cases hq : P.info? ty with
  | none => simp [hq] at hi
  | some i =>
    have hs : i.size = cs.length := by simpa [hq] using hi
    have hagg : (isAgg ty).run P w = .ok true w := by
      unfold isAgg
      rw [Sem.run_bind, run_underlying hu w]
      cases d <;> simp_all
    simp [loadVar, Sem.run_bind, hagg, sizeOf, typeInfo, hq, hs, hl]

theorem wp_load_at {op : Oper} {a : Act} {w : World} {K : Act → World → Prop} {Q : Exit → Act → World → Prop} (ty : TypeId) (x : Operand) (ho : op.op = .load ty x)
    (ad : Addr) (hx : a.eval x = .pointer (some ad)) (cs : List Value) (d : TypeDesc) (hc : At w ad cs)
    (hu : P.underlying ty = some d) (hd : d.isRow = true) (hi : (P.info? ty).map (·.size) = some cs.length)
    (h : K (a.put op.dst (.agg cs.toArray)) w) : op.wp P a w K Q := by
  unfold Oper.wp execOp
  simp only [ho, hx, Instr.loadAt, Instr.sureAddr, Sem.run_bind, Sem.run_pure, Result.andThen_ok, run_loadVar_at w ad ty cs d hc hu hd hi]
  exact h
theorem wpList_load_at {ops : Array Oper} {rest : List Oper} {op : Oper} {a : Act} {w : World} {Q : Exit → Act → World → Prop} (hgd : op.guard = none) (ty : TypeId) (x : Operand) (ho : op.op = .load ty x)
    (ad : Addr) (hx : a.eval x = .pointer (some ad)) (cs : List Value) (d : TypeDesc) (hc : At w ad cs)
    (hu : P.underlying ty = some d) (hd : d.isRow = true) (hi : (P.info? ty).map (·.size) = some cs.length)
    (h : wpList P ops Q rest (a.put op.dst (.agg cs.toArray)) w) : wpList P ops Q (op :: rest) a w :=
  wpList_plain hgd fun _ hK => wp_load_at ty x ho ad hx cs d hc hu hd hi (hK _ _ h)
end
end Go.Proofs.Ytpgakmopkgbahaa
