/- Words for memory: what cells hold, and values that stand for data. No program is named here. -/
import Derived.WalkKit
import Derived.WalkSpells
import Derived.WalkLawsBesides
import Derived.Lib.Hide
import Derived.Outline
import Derived.Deep.Slices
import Derived.Laws.Tables
import Derived.Deep.MidRow
import Derived.OwnWalk
import Derived.Deep.WholeRow
import Derived.Deep.QuietTactic
import Derived.BigQuiet
import Derived.Deep.Cut
import Derived.Deep.DeepCutAuto
import Derived.Deep.DeepFit
import Derived.Deep.RegionWith
set_option linter.unusedSimpArgs false
set_option linter.unusedVariables false
namespace Go.Proofs.YtpnapnmkjpolmaaDoor
open Go.RowKit

theorem block_of_add (a : Addr) (n : Nat) : (a.add n).block = a.block := by unfold Addr.add; split <;> rfl
theorem add_of_add (a : Addr) (i j : Nat) : (a.add i).add j = a.add (i + j) := by
  unfold Addr.add
  by_cases hi : i = 0 <;> by_cases hj : j = 0 <;> simp [hi, hj, Nat.add_assoc]

/-- From the address a on lie these cells. -/
def At (w : World) (a : Addr) (cs : List Value) : Prop := ∀ j v, cs[j]? = some v → w.cell? (a.add j) = some v

/-- The blocks below a number. -/
abbrev Lt (B : Nat) : Nat → Prop := fun b => b < B
/-- Two worlds are alike in some blocks. -/
def Alike (S : Nat → Prop) (w w' : World) : Prop := ∀ p : Addr, S p.block → w'.cell? p = w.cell? p

section
variable {w w' w'' : World} {a : Addr} {cs ds : List Value} {B B' : Nat} {S S' : Nat → Prop}
theorem Alike.refl : Alike S w w := fun _ _ => rfl
theorem Alike.trans (h : Alike S w w') (k : Alike S w' w'') : Alike S w w'' := fun p hp => (k p hp).trans (h p hp)
theorem Alike.mono (h : Alike S w w') (k : ∀ b, S' b → S b) : Alike S' w w' := fun p hp => h p (k _ hp)
theorem Alike.of_below (h : Below B w w') : Alike (Lt B) w w' := fun _ hp => h.cell hp
theorem Alike.below (h : Below B w w') (k : ∀ b, S b → b < B) : Alike S w w' := fun p hp => h.cell (k _ hp)
theorem Alike.alloc (o : Obj) (h : ∀ b, S b → b < w.heap.size) : Alike S w (w.alloc o) := fun p hp => World.cell?_alloc_lt w o p (h _ hp)
theorem Alike.drew : Alike S w w.drew := fun _ _ => rfl
theorem Alike.drewN (n : Nat) : Alike S w (w.drewN n) := fun _ _ => rfl
theorem Alike.setCell (p : Addr) (u : Value) (h : ¬ S p.block) : Alike S w (w.setCell p u) := fun q hq => World.cell?_setCell_other w p q u (fun e => by subst e; exact h hq)
theorem Alike.setRow (g : Nat) (cs : Array Value) (h : ¬ S g) : Alike S w (w.setRow g cs) := fun q hq => World.cell?_of_block (setRow_other w g q.block cs (fun e => by subst e; exact h hq))
theorem Alike.grown {row : Option Nat} (hg : w.grownBy w' row) (hB : ∀ b, S b → b < w.heap.size) (hr : ∀ g, row = some g → ¬ S g) : Alike S w w' :=
  fun p hp => World.cell?_of_block (hg.block p.block (hB _ hp) (fun e => hr _ e.symm hp))

theorem At.nil : At w a [] := fun j v h => by simp at h
theorem At.keep (h : At w a cs) (hb : S a.block) (k : Alike S w w') : At w' a cs := fun j v hv => (k _ (by rw [block_of_add]; exact hb)).trans (h j v hv)
theorem At.drop (h : At w a cs) (n : Nat) : At w (a.add n) (cs.drop n) := fun j v hv => by rw [add_of_add]; exact h _ v (by rwa [List.getElem?_drop] at hv)
theorem At.take (h : At w a cs) (n : Nat) : At w a (cs.take n) := fun j v hv => h j v (by rw [List.getElem?_take] at hv; split at hv <;> simp_all)
theorem At.left (h : At w a (cs ++ ds)) : At w a cs := fun j v hv => h j v (by rw [List.getElem?_append_left]; exact hv; exact (List.getElem?_eq_some_iff.1 hv).1)
theorem At.right (h : At w a (cs ++ ds)) : At w (a.add cs.length) ds := by have := h.drop cs.length; rwa [List.drop_left] at this
theorem At.cell {v : Value} (h : At w a cs) (j : Nat) (hv : cs[j]? = some v) : w.cell? (a.add j) = some v := h j v hv
theorem At.app (h : At w a cs) (k : At w (a.add cs.length) ds) : At w a (cs ++ ds) := fun j v hv => by
  by_cases hj : j < cs.length
  · exact h j v (by rwa [List.getElem?_append_left hj] at hv)
  · rw [List.getElem?_append_right (by omega)] at hv
    have := k _ v hv
    rwa [add_of_add, show cs.length + (j - cs.length) = j by omega] at this
end

/-- A block that is known whole. -/
def Blk (w : World) (g : Nat) (t : TypeId) (cs : Array Value) : Prop := w.heap[g]? = some (.cells cs t (0, 0))
section
variable {w w' : World} {g : Nat} {t : TypeId} {cs : Array Value}
theorem Blk.lt (h : Blk w g t cs) : g < w.heap.size := by
  rcases Nat.lt_or_ge g w.heap.size with hlt | hge
  · exact hlt
  · unfold Blk at h; rw [Array.getElem?_eq_none hge] at h; cases h
theorem Blk.cell (h : Blk w g t cs) (i : Nat) : w.cell? ⟨g, i, none⟩ = cs[i]? := cell_of_row w g i cs t (0, 0) h
theorem Blk.frozen (h : Blk w g t cs) (i : Nat) : w.frozen? ⟨g, i, none⟩ = false := frozen_of_row w g i cs t h
theorem Blk.new (w : World) (t : TypeId) (cs : Array Value) : Blk (w.alloc (.cells cs t)) w.heap.size t cs := heap_alloc_new w _
theorem Blk.alloc (h : Blk w g t cs) (o : Obj) : Blk (w.alloc o) g t cs := (Below.heap_alloc w o g h.lt).trans h
theorem Blk.drew (h : Blk w g t cs) : Blk w.drew g t cs := h
theorem Blk.drewN (h : Blk w g t cs) (n : Nat) : Blk (w.drewN n) g t cs := h
theorem Blk.set_ (h : Blk w g t cs) (i : Nat) (u : Value) : Blk (w.setCell ⟨g, i, none⟩ u) g t (cs.setIfInBounds i u) := heap_setCell_same w g i cs t u h
theorem Blk.far (h : Blk w g t cs) {p : Addr} (hp : g ≠ p.block) (u : Value) : Blk (w.setCell p u) g t cs := (Below.heap_setCell w p u g hp).trans h
theorem Blk.below {B : Nat} (h : Blk w g t cs) (hb : Below B w w') (hg : g < B) : Blk w' g t cs := (hb.block g hg).trans h
theorem Blk.grown {row : Option Nat} (h : Blk w g t cs) (hb : w.grownBy w' row) (hg : some g ≠ row) : Blk w' g t cs := (hb.block g h.lt hg).trans h
theorem Blk.at_ (h : Blk w g t cs) (i : Nat) : At w ⟨g, i, none⟩ (cs.toList.drop i) := fun j v hv => by
  rw [Addr.add_lit, h.cell]; rw [List.getElem?_drop] at hv; simpa using hv
theorem Blk.setRow (h : Blk w g t cs) (cs' : Array Value) : Blk (w.setRow g cs') g t cs' := setRow_heap w g cs cs' t _ h
theorem Blk.farRow {g' : Nat} (h : Blk w g t cs) (hp : g ≠ g') (cs' : Array Value) : Blk (w.setRow g' cs') g t cs := (setRow_other w g' g cs' hp).trans h
theorem below_setRow {B : Nat} {a w : World} (h : Below B a w) {g : Nat} (hp : B ≤ g) (cs : Array Value) : Below B a (w.setRow g cs) :=
  h.trans ⟨rfl, rfl, rfl, by simp, fun k hk => setRow_other w g k cs (by omega)⟩
theorem below_drewN {B : Nat} {a w : World} (h : Below B a w) (n : Nat) : Below B a (w.drewN n) := ⟨h.os, h.tape, h.output, h.size, h.block⟩
theorem below_alloc_new {B : Nat} {a w w' : World} (h : Below B a w) (hB : B ≤ w.heap.size) (o : Obj) (k : Below (w.heap.size + 1) (w.alloc o) w') : Below B a w' :=
  (h.alloc hB o).trans (k.mono (by omega))
theorem wp_world {P : Program} {c : Code} {Q : Exit → Act → World → Prop} {a : Act} {W W' : World} (h : W = W') (k : c.wp P Q a W') : c.wp P Q a W := h ▸ k
theorem calls_world {P : Program} {f : FuncId} {args : Array Value} {R : Ending → World → Prop} {W W' : World} (h : W = W') (k : Calls P f args W' R) : Calls P f args W R := h ▸ k
theorem ret_int {k : IntKind} {a b : Int} (h : a = b) : Ending.returned (.int k a) = .returned (.int k b) := by rw [h]
theorem ret_bool {a b : Bool} (h : a = b) : Ending.returned (.bool a) = .returned (.bool b) := by rw [h]
theorem ret_two {k l : IntKind} {a b c d : Int} (h : a = b) (h' : c = d) : Ending.returned (.tuple #[.int k a, .int l c]) = .returned (.tuple #[.int k b, .int l d]) := by rw [h, h']
end

/-- A contract that leaves the world alone, in a region that draws its order. -/
theorem quiet_left {P : Program} {f : FuncId} {args : Array Value} {w : World} {n : Nat} {v : Value}
    (h : Calls P f args (w.drewN n) fun e w' => e = .returned v ∧ w.drewN n = w') : Calls P f args (w.drewN n) fun e w'' => e = .returned v ∧ ∃ m, w'' = w.drewN m :=
  h.mono fun _ _ ⟨he, hm⟩ => ⟨he, n, hm.symm⟩
theorem quiet_add_left {P : Program} {f : FuncId} {args : Array Value} {w : World} {a n : Nat} {v : Value}
    (h : Calls P f args (w.drewN (a + n)) fun e w' => e = .returned v ∧ w.drewN (a + n) = w') :
    Calls P f args (w.drewN (a + n)) fun e w'' => e = .returned v ∧ ∃ m, w'' = w.drewN (a + m) :=
  h.mono fun _ _ ⟨he, hm⟩ => ⟨he, n, hm.symm⟩
theorem calls_value {P : Program} {f : FuncId} {args : Array Value} {w : World} {v v' : Value} (h : Calls P f args w fun e w' => e = .returned v ∧ w = w') (hv : v = v') : Calls P f args w fun e w' => e = .returned v' ∧ w = w' := hv ▸ h

/-- Data in memory: so many cells; below the block number B lies what they lead to; that they are within bounds; what a reader takes them for. -/
class Lay (α : Type) where
  size : Nat
  bytes : Nat
  rep : World → (Nat → Prop) → α → List Value → Prop
  len : ∀ {w B x cs}, rep w B x cs → cs.length = size
  keep : ∀ {w w' S x cs}, Alike S w w' → rep w S x cs → rep w' S x cs
  more : ∀ {w S S' x cs}, (∀ b, S b → S' b) → rep w S x cs → rep w S' x cs
  ok : α → Prop
  dat : {H : Type} → α → DataW H → Prop

def I64 (n : Int) : Prop := -9223372036854775808 ≤ n ∧ n ≤ 9223372036854775807
instance layInt : Lay Int where
  size := 1
  bytes := 8
  rep _ _ n cs := cs = [.int .i64 n]
  len h := by subst h; rfl
  keep _ h := h
  more _ h := h
  ok n := I64 n
  dat n d := d = .lit (.int .i64 n)
instance layBool : Lay Bool where
  size := 1
  bytes := 1
  rep _ _ b cs := cs = [.bool b]
  len h := by subst h; rfl
  keep _ h := h
  more _ h := h
  ok _ := True
  dat b d := d = .lit (.bool b)
/-- A byte. -/
instance layByte : Lay UInt8 where
  size := 1
  bytes := 1
  rep _ _ n cs := cs = [.int .u8 n.toNat]
  len h := by subst h; rfl
  keep _ h := h
  more _ h := h
  ok _ := True
  dat n d := d = .lit (.int .u8 n.toNat)
instance layProd {α β : Type} [Lay α] [Lay β] : Lay (α × β) where
  size := Lay.size α + Lay.size β
  bytes := Lay.bytes α + Lay.bytes β
  rep w B x cs := ∃ c d, cs = c ++ d ∧ Lay.rep w B x.1 c ∧ Lay.rep w B x.2 d
  len h := by obtain ⟨c, d, rfl, h1, h2⟩ := h; rw [List.length_append, Lay.len h1, Lay.len h2]
  keep k h := by obtain ⟨c, d, rfl, h1, h2⟩ := h; exact ⟨c, d, rfl, Lay.keep k h1, Lay.keep k h2⟩
  more k h := by obtain ⟨c, d, rfl, h1, h2⟩ := h; exact ⟨c, d, rfl, Lay.more k h1, Lay.more k h2⟩
  ok x := Lay.ok x.1 ∧ Lay.ok x.2
  dat x d := ∃ a b, d = .agg (a :: b) ∧ Lay.dat x.1 a ∧ (Lay.dat x.2 (.agg b) ∨ ∃ c, b = [c] ∧ Lay.dat x.2 c)
/-- A slice: nil where it has no elements, or anything of that length. -/
instance layList {α : Type} [Lay α] : Lay (List α) where
  size := 1
  bytes := 24
  rep w B xs cs := ∃ (A : Option Addr) (c : Nat), cs = [.slice A xs.length c] ∧ xs.length ≤ c ∧ c ≤ maxLen ∧ ∀ (k : Nat) (x : α), xs[k]? = some x → ∃ (a : Addr) (ds : List Value), A = some a ∧ B a.block ∧ At w (a.add (k * Lay.size α)) ds ∧ Lay.rep w B x ds
  len h := by obtain ⟨A, c, rfl, _⟩ := h; rfl
  keep k h := by
    obtain ⟨A, c, rfl, h1, h2, h3⟩ := h
    refine ⟨A, c, rfl, h1, h2, fun i x hx => ?_⟩
    obtain ⟨a, ds, e, hb, hat, hr⟩ := h3 i x hx
    exact ⟨a, ds, e, hb, hat.keep (by rw [block_of_add]; exact hb) k, Lay.keep k hr⟩
  more k h := by
    obtain ⟨A, c, rfl, h1, h2, h3⟩ := h
    refine ⟨A, c, rfl, h1, h2, fun i x hx => ?_⟩
    obtain ⟨a, ds, e, hb, hat, hr⟩ := h3 i x hx
    exact ⟨a, ds, e, k _ hb, hat, Lay.more k hr⟩
  ok xs := xs.length * Lay.bytes α ≤ 140737488351232 ∧ ∀ x, x ∈ xs → Lay.ok x
  dat xs d := (xs = [] ∧ d = .nil) ∨ ∃ es sp, d = .slice es sp ∧ es.length = xs.length ∧ ∀ (i : Nat) x e, xs[i]? = some x → es[i]? = some e → Lay.dat x e
/-- An array. -/
instance layVec {n : Nat} {α : Type} [Lay α] : Lay (Vector α n) where
  size := n * Lay.size α
  bytes := n * Lay.bytes α
  rep w B v cs := cs.length = n * Lay.size α ∧ ∀ i (h : i < n), Lay.rep w B v[i] ((cs.drop (i * Lay.size α)).take (Lay.size α))
  len h := h.1
  keep k h := ⟨h.1, fun i hi => Lay.keep k (h.2 i hi)⟩
  more k h := ⟨h.1, fun i hi => Lay.more k (h.2 i hi)⟩
  ok v := ∀ i (h : i < n), Lay.ok v[i]
  dat v d := ∃ es, d = .agg es ∧ es.length = n ∧ ∀ i (h : i < n) e, es[i]? = some e → Lay.dat v[i] e
/-- A struct as the tuple of its fields. -/
@[reducible] def Lay.via {α β : Type} [Lay β] (f : α → β) : Lay α where
  size := Lay.size β
  bytes := Lay.bytes β
  rep w B x cs := Lay.rep w B (f x) cs
  len h := Lay.len (α := β) h
  keep k h := Lay.keep (α := β) k h
  more k h := Lay.more (α := β) k h
  ok x := Lay.ok (f x)
  dat x d := Lay.dat (f x) d

section
variable {w w' : World} {B : Nat → Prop} {cs : List Value}
theorem rep_int {n : Int} : Lay.rep w B n cs ↔ cs = [.int .i64 n] := Iff.rfl
theorem rep_bool {b : Bool} : Lay.rep w B b cs ↔ cs = [.bool b] := Iff.rfl
/-- What a slice is. -/
theorem rep_list {α : Type} [Lay α] {xs : List α} (h : Lay.rep w B xs cs) : ∃ (A : Option Addr) (c : Nat), cs = [.slice A xs.length c] ∧ xs.length ≤ c ∧ c ≤ maxLen ∧
    ∀ (k : Nat) (hk : k < xs.length), ∃ (a : Addr) (ds : List Value), A = some a ∧ B a.block ∧ At w (a.add (k * Lay.size α)) ds ∧ Lay.rep w B (xs[k]) ds := by
  obtain ⟨A, c, rfl, h1, h2, h3⟩ := h
  exact ⟨A, c, rfl, h1, h2, fun k hk => h3 k _ (List.getElem?_eq_getElem hk)⟩
/-- A slice of numbers. -/
theorem rep_ints_at {xs : List Int} {v : Value} (h : Lay.rep w B xs [v]) : ∃ (A : Option Addr) (c : Nat), v = .slice A xs.length c ∧ xs.length ≤ c ∧ c ≤ maxLen ∧
    ∀ (k : Nat) (hk : k < xs.length), ∃ (a : Addr), A = some a ∧ B a.block ∧ w.cell? (a.add k) = some (.int .i64 xs[k]) := by
  obtain ⟨A, c, e, h1, h2, h3⟩ := rep_list h
  injection e with e
  refine ⟨A, c, e, h1, h2, fun k hk => ?_⟩
  obtain ⟨a, ds, ha, hb, hat, hr⟩ := h3 k hk
  rw [rep_int] at hr
  subst hr
  refine ⟨a, ha, hb, ?_⟩
  have := hat.cell 0 rfl
  rwa [add_of_add, show k * Lay.size Int + 0 = k from Nat.mul_one k] at this
/-- An array of numbers. -/
theorem rep_vec_int {n : Nat} {v : Vector Int n} : Lay.rep w B v cs ↔ cs = v.toList.map (Value.int .i64) := by
  constructor
  · rintro ⟨h1, h2⟩
    have h1 : cs.length = n := by rw [h1]; exact Nat.mul_one n
    apply List.ext_getElem
    · simp [h1]
    · intro i hi hi'
      have hin : i < n := by omega
      have h := h2 i hin
      rw [rep_int] at h
      have e1 : Lay.size Int = 1 := rfl
      rw [e1, Nat.mul_one] at h
      have h0 := congrArg (fun l => l[0]?) h
      simp [hi] at h0
      simp [h0]
  · rintro rfl
    have e1 : Lay.size Int = 1 := rfl
    refine ⟨by simp [e1], fun i hi => ?_⟩
    rw [rep_int, e1, Nat.mul_one, List.drop_eq_getElem_cons (by simpa using hi)]
    simp
theorem rep_vec_bool {n : Nat} {v : Vector Bool n} : Lay.rep w B v cs ↔ cs = v.toList.map Value.bool := by
  constructor
  · rintro ⟨h1, h2⟩
    have h1 : cs.length = n := by rw [h1]; exact Nat.mul_one n
    apply List.ext_getElem
    · simp [h1]
    · intro i hi hi'
      have hin : i < n := by omega
      have h := h2 i hin
      rw [rep_bool] at h
      have e1 : Lay.size Bool = 1 := rfl
      rw [e1, Nat.mul_one] at h
      have h0 := congrArg (fun l => l[0]?) h
      simp [hi] at h0
      simp [h0]
  · rintro rfl
    have e1 : Lay.size Bool = 1 := rfl
    refine ⟨by simp [e1], fun i hi => ?_⟩
    rw [rep_bool, e1, Nat.mul_one, List.drop_eq_getElem_cons (by simpa using hi)]
    simp
/-- A block of numbers reads as these numbers. -/
theorem rep_of_block {g cap : Nat} {t : TypeId} {fr : Nat × Nat} {xs : List Int} (hg : w.heap[g]? = some (.cells (xs.map (Value.int .i64)).toArray t fr)) (hB : B g) (hc : xs.length ≤ cap) (hm : cap ≤ maxLen) :
    Lay.rep w B xs [.slice (some ⟨g, 0, none⟩) xs.length cap] := by
  refine ⟨_, _, rfl, hc, hm, fun k x hx => ⟨⟨g, 0, none⟩, [.int .i64 x], rfl, hB, fun j v hv => ?_, rfl⟩⟩
  have hj : j = 0 := by have := (List.getElem?_eq_some_iff.1 hv).1; simpa using this
  subst hj
  simp at hv
  subst hv
  rw [add_of_add, Addr.add_lit, cell_of_row _ _ _ _ _ _ hg]
  show ((xs.map (Value.int .i64)).toArray)[0 + (k * 1 + 0)]? = _
  rw [Nat.mul_one, Nat.add_zero, Nat.zero_add]
  simp [hx]
end

/-! ## Laws at an operation -/
section
variable {P : Program}
theorem run_loadVar_at (w : World) (a : Addr) (ty : TypeId) (cs : List Value) (d : TypeDesc) (hc : At w a cs)
    (hu : P.underlying ty = some d) (hd : d.isRow = true) (hi : (P.info? ty).map (·.size) = some cs.length) : (loadVar ty a).run P w = .ok (.agg cs.toArray) w := by
  have hl : (loadCells a cs.length).run P w = .ok cs.toArray w := run_loadCells_list (P := P) w a cs hc
  cases hq : P.info? ty with
  | none => simp [hq] at hi
  | some i =>
    have hs : i.size = cs.length := by simpa [hq] using hi
    have hagg : (isAgg ty).run P w = .ok true w := by
      unfold isAgg
      rw [Sem.run_bind, run_underlying hu w]
      cases d <;> simp_all
    simp [loadVar, Sem.run_bind, hagg, sizeOf, typeInfo, hq, hs, hl]

theorem wp_load_at {op : Oper} {a : Act} {w : World} {K : Act → World → Prop} {Q : Exit → Act → World → Prop} (ty : TypeId) (x : Operand) (ho : op.op = .load ty x)
    (ad : Addr) (hx : a.eval x = .pointer (some ad)) (cs : List Value) (d : TypeDesc) (hc : At w ad cs)
    (hu : P.underlying ty = some d) (hd : d.isRow = true) (hi : (P.info? ty).map (·.size) = some cs.length)
    (h : K (a.put op.dst (.agg cs.toArray)) w) : op.wp P a w K Q := by
  unfold Oper.wp execOp
  simp only [ho, hx, Instr.loadAt, Instr.sureAddr, Sem.run_bind, Sem.run_pure, Result.andThen_ok, run_loadVar_at w ad ty cs d hc hu hd hi]
  exact h
theorem wpList_load_at {ops : Array Oper} {rest : List Oper} {op : Oper} {a : Act} {w : World} {Q : Exit → Act → World → Prop} (hgd : op.guard = none) (ty : TypeId) (x : Operand) (ho : op.op = .load ty x)
    (ad : Addr) (hx : a.eval x = .pointer (some ad)) (cs : List Value) (d : TypeDesc) (hc : At w ad cs)
    (hu : P.underlying ty = some d) (hd : d.isRow = true) (hi : (P.info? ty).map (·.size) = some cs.length)
    (h : wpList P ops Q rest (a.put op.dst (.agg cs.toArray)) w) : wpList P ops Q (op :: rest) a w :=
  wpList_plain hgd fun _ hK => wp_load_at ty x ho ad hx cs d hc hu hd hi (hK _ _ h)
end
end Go.Proofs.YtpnapnmkjpolmaaDoor
