/- What a call owns in memory, and what stays as it is: one word for both. No program is named here. -/
import Derived.Test.YtpnapnmkjpolmaaDoorGrow
import Derived.OneCell
set_option linter.unusedSimpArgs false
set_option linter.unusedVariables false
namespace Go.Proofs.YtpnapnmkjpolmaaDoor
open Go.RowKit

/-- A piece of memory that a call owns: a block that is known whole; a row that append has filled; any other block (a map, a loop's record). -/
inductive Res where
  | blk (g : Nat) (t : TypeId) (cs : List Value)
  | row (v : Value) (e : TypeId) (sz n : Nat) (cs : List Value)
  | obj (g : Nat) (o : Obj)
def Res.foot : Res → Option Nat
  | .blk g _ _ => some g
  | .row v _ _ _ _ => v.ownBlock
  | .obj g _ => some g
def Res.holds (w : World) : Res → Prop
  | .blk g t cs => w.heap[g]? = some (.cells cs.toArray t (0, 0))
  | .row v e sz n cs => w.ownsRow 0 e sz v n cs
  | .obj g o => w.heap[g]? = some o
/-- Blocks that stay as they are in a world. -/
structure Fro where
  w : World
  S : Nat → Prop
/-- In the world w of a call that began in w0: what stays, and what the call owns. -/
structure Hp (w0 : World) (Fs : List Fro) (L : List Res) (w : World) : Prop where
  below : Below w0.heap.size w0 w
  fro : ∀ F ∈ Fs, ∀ b, F.S b → b < w.heap.size ∧ w.heap[b]? = F.w.heap[b]?
  own : ∀ r ∈ L, r.holds w ∧ ∀ b, r.foot = some b → w0.heap.size ≤ b ∧ b < w.heap.size ∧ ∀ F ∈ Fs, ¬ F.S b
  apart : L.Pairwise fun r s => ∀ b, r.foot = some b → s.foot ≠ some b

theorem At.fld0 {w : World} {a : Addr} {cs : List Value} {v : Value} (h : At w a cs) (hv : cs[0]? = some v) : w.cell? a = some v := by
  have := h 0 v hv
  simpa [Addr.add] using this
theorem At.fld {w : World} {a : Addr} {cs : List Value} {v : Value} (h : At w a cs) (j : Nat) (hv : cs[j + 1]? = some v) : w.cell? ⟨a.block, a.off + (j + 1), none⟩ = some v := by
  have := h (j + 1) v hv
  simpa [Addr.add] using this
section
variable {w0 w w' : World} {Fs : List Fro} {L A B : List Res} {r r' : Res}
theorem Res.holds.moved (h : r.holds w) (k : ∀ b, r.foot = some b → w'.heap[b]? = w.heap[b]?) : r.holds w' := by
  cases r with
  | blk g t cs => exact (k g rfl).trans h
  | obj g o => exact (k g rfl).trans h
  | row v e sz n cs =>
    refine ⟨h.1, ?_⟩
    rcases h.2 with h' | ⟨g, cap, cur, rfl, hb, hg, hr⟩
    · exact .inl h'
    · exact .inr ⟨g, cap, cur, rfl, hb, (k g rfl).trans hg, hr⟩
theorem Hp.start (w : World) : Hp w [⟨w, Lt w.heap.size⟩] [] w :=
  ⟨Below.refl _ _, fun F hF b hb => by rw [List.mem_singleton.1 hF] at hb ⊢; exact ⟨hb, rfl⟩, fun r hr => (by cases hr), List.Pairwise.nil⟩
theorem Hp.size (h : Hp w0 Fs L w) : w0.heap.size ≤ w.heap.size := h.below.size
/-- A step that changes nothing of the heap. -/
theorem Hp.same (h : Hp w0 Fs L w) (h1 : w'.heap = w.heap) (h2 : w'.os = w.os) (h3 : w'.tape = w.tape) (h4 : w'.output = w.output) : Hp w0 Fs L w' :=
  ⟨h.below.trans ⟨h2, h3, h4, by rw [h1]; exact Nat.le_refl _, fun _ _ => by rw [h1]⟩, fun F hF b hb => by rw [h1]; exact h.fro F hF b hb,
    fun r hr => ⟨(h.own r hr).1.moved (fun _ _ => by rw [h1]), fun b hb => by rw [h1]; exact (h.own r hr).2 b hb⟩, h.apart⟩
theorem Hp.drew (h : Hp w0 Fs L w) : Hp w0 Fs L w.drew := h.same rfl rfl rfl rfl
theorem Hp.drewN (h : Hp w0 Fs L w) (n : Nat) : Hp w0 Fs L (w.drewN n) := h.same rfl rfl rfl rfl
theorem Hp.drawn (h : Hp w0 Fs L w) (n : Nat) : Hp w0 Fs L { w with drawn := n } := h.same rfl rfl rfl rfl
/-- One piece is written or moved. -/
theorem Hp.chg (h : Hp w0 Fs (A ++ r :: B) w) (hg : w.grownBy w' r.foot) (hr : r'.holds w') (hf : ∀ b, r'.foot = some b → r.foot = some b ∨ (w.heap.size ≤ b ∧ b < w'.heap.size)) : Hp w0 Fs (A ++ r' :: B) w' := by
  have hr0 := h.own r (by simp)
  have hnew : ∀ b, r'.foot = some b → w0.heap.size ≤ b ∧ b < w'.heap.size ∧ ∀ F ∈ Fs, ¬ F.S b := fun b hb => by
    rcases hf b hb with hb | ⟨h1, h2⟩
    · obtain ⟨g1, g2, g3⟩ := hr0.2 b hb
      exact ⟨g1, Nat.lt_of_lt_of_le g2 hg.size, g3⟩
    · exact ⟨Nat.le_trans h.size h1, h2, fun F hF hS => by have := (h.fro F hF b hS).1; omega⟩
  have hap := List.pairwise_append.1 h.apart
  have hap2 := List.pairwise_cons.1 hap.2.1
  have hA : ∀ s ∈ A, ∀ b, s.foot = some b → r.foot ≠ some b := fun s hs b hb => hap.2.2 s hs r (by simp) b hb
  have hB : ∀ s ∈ B, ∀ b, r.foot = some b → s.foot ≠ some b := fun s hs b hb => hap2.1 s hs b hb
  have hkeep : ∀ s, (s ∈ A ∨ s ∈ B) → ∀ b, s.foot = some b → b < w.heap.size ∧ w'.heap[b]? = w.heap[b]? := fun s hs b hb => by
    have hm : s ∈ A ++ r :: B := by rcases hs with hs | hs <;> simp [hs]
    have hlt := ((h.own s hm).2 b hb).2.1
    refine ⟨hlt, hg.block b hlt fun e => ?_⟩
    rcases hs with hs | hs
    · exact hA s hs b hb e.symm
    · exact hB s hs b e.symm hb
  refine ⟨h.below.trans ⟨hg.os, hg.tape, hg.output, hg.size, fun k hk => hg.block k (Nat.lt_of_lt_of_le hk h.size) fun e => by have := (hr0.2 k e.symm).1; omega⟩,
    fun F hF b hb => ?_, fun s hs => ?_, ?_⟩
  · obtain ⟨h1, h2⟩ := h.fro F hF b hb
    exact ⟨Nat.lt_of_lt_of_le h1 hg.size, (hg.block b h1 fun e => (hr0.2 b e.symm).2.2 F hF hb).trans h2⟩
  · rcases List.mem_append.1 hs with hs' | hs'
    · have hm : s ∈ A ++ r :: B := by simp [hs']
      exact ⟨(h.own s hm).1.moved fun b hb => (hkeep s (.inl hs') b hb).2, fun b hb => ⟨((h.own s hm).2 b hb).1, Nat.lt_of_lt_of_le (hkeep s (.inl hs') b hb).1 hg.size, ((h.own s hm).2 b hb).2.2⟩⟩
    · rcases List.mem_cons.1 hs' with rfl | hs''
      · exact ⟨hr, hnew⟩
      · have hm : s ∈ A ++ r :: B := by simp [hs'']
        exact ⟨(h.own s hm).1.moved fun b hb => (hkeep s (.inr hs'') b hb).2, fun b hb => ⟨((h.own s hm).2 b hb).1, Nat.lt_of_lt_of_le (hkeep s (.inr hs'') b hb).1 hg.size, ((h.own s hm).2 b hb).2.2⟩⟩
  · refine List.pairwise_append.2 ⟨hap.1, List.pairwise_cons.2 ⟨fun s hs b hb hsb => ?_, hap2.2⟩, fun s hs t ht b hb htb => ?_⟩
    · rcases hf b hb with h1 | h1
      · exact hB s hs b h1 hsb
      · have := (hkeep s (.inr hs) b hsb).1; omega
    · rcases List.mem_cons.1 ht with rfl | ht
      · rcases hf b htb with h1 | h1
        · exact hA s hs b hb h1
        · have := (hkeep s (.inl hs) b hb).1; omega
      · exact hap.2.2 s hs t (by simp [ht]) b hb htb
/-- A new piece. -/
theorem Hp.add (h : Hp w0 Fs L w) (hg : w.grownBy w' none) (hr : r.holds w') (hf : ∀ b, r.foot = some b → w.heap.size ≤ b ∧ b < w'.heap.size) : Hp w0 Fs (r :: L) w' := by
  refine ⟨h.below.trans ⟨hg.os, hg.tape, hg.output, hg.size, fun k hk => hg.block k (Nat.lt_of_lt_of_le hk h.size) (by simp)⟩, fun F hF b hb => ?_, fun s hs => ?_, List.pairwise_cons.2 ⟨fun s hs b hb hsb => ?_, h.apart⟩⟩
  · obtain ⟨h1, h2⟩ := h.fro F hF b hb
    exact ⟨Nat.lt_of_lt_of_le h1 hg.size, (hg.block b h1 (by simp)).trans h2⟩
  · rcases List.mem_cons.1 hs with rfl | hs
    · refine ⟨hr, fun b hb => ⟨Nat.le_trans h.size (hf b hb).1, (hf b hb).2, fun F hF hS => ?_⟩⟩
      have := (h.fro F hF b hS).1
      have := (hf b hb).1
      omega
    · exact ⟨(h.own s hs).1.moved fun b hb => hg.block b ((h.own s hs).2 b hb).2.1 (by simp), fun b hb => ⟨((h.own s hs).2 b hb).1, Nat.lt_of_lt_of_le ((h.own s hs).2 b hb).2.1 hg.size, ((h.own s hs).2 b hb).2.2⟩⟩
  · have := ((h.own s hs).2 b hsb).2.1
    have := (hf b hb).1
    omega
theorem Hp.alloc (h : Hp w0 Fs L w) (cs : Array Value) (t : TypeId) : Hp w0 Fs (.blk w.heap.size t cs.toList :: L) (w.alloc (.cells cs t)) :=
  h.add (World.grownBy_alloc w _ none) (by show _ = _; simpa using heap_alloc_new w (.cells cs t)) (fun b hb => by cases hb; simp)
/-- A row that holds nothing. -/
theorem Hp.nil (h : Hp w0 Fs L w) (e : TypeId) (sz : Nat) : Hp w0 Fs (.row (.slice none 0 0) e sz 0 [] :: L) w :=
  h.add ⟨rfl, rfl, rfl, Nat.le_refl _, fun _ _ _ => rfl⟩ (World.ownsRow_nil w 0 e sz) (fun b hb => by cases hb)
/-- A block whose cells are all in use is a row. -/
theorem Hp.rowOf {g n sz : Nat} {t : TypeId} {cs : List Value} (h : Hp w0 Fs (A ++ .blk g t cs :: B) w) (hl : cs.length = n * sz) (hm : n ≤ maxLen) : Hp w0 Fs (A ++ .row (.slice (some ⟨g, 0, none⟩) n n) t sz n cs :: B) w :=
  h.chg ⟨rfl, rfl, rfl, Nat.le_refl _, fun _ _ _ => rfl⟩
    ⟨hl, .inr ⟨g, n, cs.toArray, rfl, Nat.zero_le _, (h.own (.blk g t cs) (by simp)).1, Nat.le_refl _, hm, by simpa using hl, by rw [← hl]; simp⟩⟩ (fun b hb => .inl hb)
/-- What stays may be said of less. -/
theorem Hp.froLess {F F' : Fro} (h : Hp w0 (F :: Fs) L w) (hw : F'.w = F.w) (hS : ∀ b, F'.S b → F.S b) : Hp w0 (F' :: Fs) L w := by
  refine ⟨h.below, fun G hG b hb => ?_, fun r hr => ⟨(h.own r hr).1, fun b hb => ⟨((h.own r hr).2 b hb).1, ((h.own r hr).2 b hb).2.1, fun G hG hb' => ?_⟩⟩, h.apart⟩
  · rcases List.mem_cons.1 hG with rfl | hG
    · rw [hw]; exact h.fro F (by simp) b (hS b hb)
    · exact h.fro G (by simp [hG]) b hb
  · rcases List.mem_cons.1 hG with rfl | hG
    · exact ((h.own r hr).2 b hb).2.2 F (by simp) (hS b hb')
    · exact ((h.own r hr).2 b hb).2.2 G (by simp [hG]) hb'
theorem Hp.froDrop {F : Fro} (h : Hp w0 (F :: Fs) L w) : Hp w0 Fs L w :=
  ⟨h.below, fun G hG b hb => h.fro G (by simp [hG]) b hb, fun r hr => ⟨(h.own r hr).1, fun b hb => ⟨((h.own r hr).2 b hb).1, ((h.own r hr).2 b hb).2.1, fun G hG => ((h.own r hr).2 b hb).2.2 G (by simp [hG])⟩⟩, h.apart⟩
theorem Hp.drop (h : Hp w0 Fs (A ++ r :: B) w) : Hp w0 Fs (A ++ B) w :=
  ⟨h.below, h.fro, fun s hs => h.own s (by rcases List.mem_append.1 hs with hs | hs <;> simp [hs]), by
    have := List.pairwise_append.1 h.apart
    exact List.pairwise_append.2 ⟨this.1, (List.pairwise_cons.1 this.2.1).2, fun s hs t ht => this.2.2 s hs t (by simp [ht])⟩⟩
/-- A callee that leaves old memory as it was; what it made stays as it is. -/
theorem Hp.call (h : Hp w0 Fs L w) (hb : Below w.heap.size w w') : Hp w0 (⟨w', fun b => w.heap.size ≤ b ∧ b < w'.heap.size⟩ :: Fs) L w' :=
  ⟨h.below.trans (hb.mono h.size), fun F hF b hS => by
    rcases List.mem_cons.1 hF with rfl | hF
    · exact ⟨hS.2, rfl⟩
    · obtain ⟨h1, h2⟩ := h.fro F hF b hS
      exact ⟨Nat.lt_of_lt_of_le h1 hb.size, (hb.block b h1).trans h2⟩,
    fun r hr => ⟨(h.own r hr).1.moved fun b hb' => hb.block b ((h.own r hr).2 b hb').2.1, fun b hb' => by
      obtain ⟨g1, g2, g3⟩ := (h.own r hr).2 b hb'
      refine ⟨g1, Nat.lt_of_lt_of_le g2 hb.size, fun F hF hS => ?_⟩
      rcases List.mem_cons.1 hF with rfl | hF
      · have := hS.1; omega
      · exact g3 F hF hS⟩, h.apart⟩
theorem Hp.call0 (h : Hp w0 Fs L w) (hb : Below w.heap.size w w') : Hp w0 Fs L w' := (h.call hb).froDrop
/-- A row is not written any more: what it holds stays. -/
theorem Hp.freeze {F : Fro} (h : Hp w0 (F :: Fs) (A ++ r :: B) w) : Hp w0 (⟨w, fun b => F.S b ∨ r.foot = some b⟩ :: Fs) (A ++ B) w := by
  have hd := h.drop
  have hap := List.pairwise_append.1 h.apart
  have hap2 := List.pairwise_cons.1 hap.2.1
  refine ⟨hd.below, fun G hG b hb => ?_, fun s hs => ⟨(hd.own s hs).1, fun b hb => ⟨((hd.own s hs).2 b hb).1, ((hd.own s hs).2 b hb).2.1, fun G hG hS => ?_⟩⟩, hd.apart⟩
  · rcases List.mem_cons.1 hG with rfl | hG
    · rcases hb with hb | hb
      · exact ⟨(h.fro F (by simp) b hb).1, rfl⟩
      · exact ⟨((h.own r (by simp)).2 b hb).2.1, rfl⟩
    · exact h.fro G (by simp [hG]) b hb
  · rcases List.mem_cons.1 hG with rfl | hG
    · rcases hS with hS | hS
      · exact ((hd.own s hs).2 b hb).2.2 F (by simp) hS
      · rcases List.mem_append.1 hs with hs | hs
        · exact hap.2.2 s hs r (by simp) b hb hS
        · exact hap2.1 s hs b hS hb
    · exact ((hd.own s hs).2 b hb).2.2 G (by simp [hG]) hS
theorem Hp.alike {F : Fro} (h : Hp w0 Fs L w) (hF : F ∈ Fs) : Alike F.S F.w w := fun p hp => World.cell?_of_block (h.fro F hF _ hp).2
theorem Hp.at_ {F : Fro} {a : Addr} {cs : List Value} (h : Hp w0 Fs L w) (hF : F ∈ Fs) (hat : At F.w a cs) (hb : F.S a.block) : At w a cs := hat.keep hb (h.alike hF)
theorem Hp.rep {F : Fro} {α : Type} [Lay α] {x : α} {cs : List Value} (h : Hp w0 Fs L w) (hF : F ∈ Fs) (hr : Lay.rep F.w F.S x cs) : Lay.rep w (Lt w.heap.size) x cs :=
  Lay.more (fun b hb => (h.fro F hF b hb).1) (Lay.keep (h.alike hF) hr)
/-- What one world's reading becomes when more stays. -/
theorem Hp.repMore {F : Fro} {S : Nat → Prop} {α : Type} [Lay α] {x : α} {cs : List Value} (h : Hp w0 Fs L w) (hF : F ∈ Fs) (hr : Lay.rep F.w F.S x cs) (hS : ∀ b, F.S b → S b) : Lay.rep w S x cs :=
  Lay.more hS (Lay.keep (h.alike hF) hr)
theorem Hp.blk {g : Nat} {t : TypeId} {cs : List Value} (h : Hp w0 Fs L w) (hr : Res.blk g t cs ∈ L) : w.heap[g]? = some (.cells cs.toArray t (0, 0)) := (h.own _ hr).1
theorem Hp.cell {g : Nat} {t : TypeId} {cs : List Value} (h : Hp w0 Fs L w) (hr : Res.blk g t cs ∈ L) (k : Nat) (v : Value) (hk : cs[k]? = some v) : w.cell? ⟨g, k, none⟩ = some v := by
  rw [cell_of_row w g k _ t (0, 0) (h.blk hr)]; simpa using hk
theorem Hp.free {g : Nat} {t : TypeId} {cs : List Value} (h : Hp w0 Fs L w) (hr : Res.blk g t cs ∈ L) (k : Nat) : w.frozen? ⟨g, k, none⟩ = false := frozen_of_row _ _ _ _ _ (h.blk hr)
theorem Hp.blkAt {g : Nat} {t : TypeId} {cs : List Value} (h : Hp w0 Fs L w) (hr : Res.blk g t cs ∈ L) (k : Nat) : At w ⟨g, k, none⟩ (cs.drop k) := Blk.at_ (cs := cs.toArray) (t := t) (h.blk hr) k
theorem Hp.row {v : Value} {e : TypeId} {sz n : Nat} {cs : List Value} (h : Hp w0 Fs L w) (hr : Res.row v e sz n cs ∈ L) : w.ownsRow 0 e sz v n cs := (h.own _ hr).1
/-- A cell of a block is written. -/
theorem Hp.set {g : Nat} {t : TypeId} {cs : List Value} (h : Hp w0 Fs (A ++ .blk g t cs :: B) w) (k : Nat) (u : Value) : Hp w0 Fs (A ++ .blk g t (cs.set k u) :: B) (w.setCell ⟨g, k, none⟩ u) := by
  have hb := h.blk (g := g) (t := t) (cs := cs) (by simp)
  refine h.chg ⟨rfl, rfl, rfl, by simp [World.setCell], fun b _ hne => heap_setCell_other _ _ _ _ (fun e => hne (by rw [e]; rfl))⟩ ?_ (fun b hb => .inl hb)
  have := heap_setCell_same w g k _ t u hb
  show _ = _
  rw [this]
  simp
/-- Behind a law that ends in grownBy. -/
theorem Hp.grownRow {v v' : Value} {e : TypeId} {sz n n' : Nat} {cs cs' : List Value} (h : Hp w0 Fs (A ++ .row v e sz n cs :: B) w) (hg : w.grownBy w' v.ownBlock) (hr : w'.ownsRow 0 e sz v' n' cs')
    (hf : ∀ b, v'.ownBlock = some b → v.ownBlock = some b ∨ (w.heap.size ≤ b ∧ b < w'.heap.size)) : Hp w0 Fs (A ++ .row v' e sz n' cs' :: B) w' := h.chg hg hr hf
end
/-- What a callee hands over is owned. -/
theorem Hp.take {w0 w w' : World} {Fs : List Fro} {L M : List Res} (h : Hp w0 Fs L w) (k : Hp w [] M w') : Hp w0 Fs (M ++ L) w' := by
  have hlt : ∀ r ∈ L, ∀ b, r.foot = some b → b < w.heap.size := fun r hr b hb => ((h.own r hr).2 b hb).2.1
  refine ⟨h.below.trans (k.below.mono h.size), fun F hF b hb => ?_, fun r hr => ?_, ?_⟩
  · obtain ⟨h1, h2⟩ := h.fro F hF b hb
    exact ⟨Nat.lt_of_lt_of_le h1 k.below.size, (k.below.block b h1).trans h2⟩
  · rcases List.mem_append.1 hr with hr | hr
    · refine ⟨(k.own r hr).1, fun b hb => ?_⟩
      obtain ⟨g1, g2, -⟩ := (k.own r hr).2 b hb
      refine ⟨Nat.le_trans h.size g1, g2, fun F hF hS => ?_⟩
      have := (h.fro F hF b hS).1
      omega
    · refine ⟨(h.own r hr).1.moved fun b hb => k.below.block b (hlt r hr b hb), fun b hb => ?_⟩
      obtain ⟨g1, g2, g3⟩ := (h.own r hr).2 b hb
      exact ⟨g1, Nat.lt_of_lt_of_le g2 k.below.size, g3⟩
  · refine List.pairwise_append.2 ⟨k.apart, h.apart, fun r hr s hs b hb hsb => ?_⟩
    have h1 := ((k.own r hr).2 b hb).1
    have h2 := hlt s hs b hsb
    omega
theorem Hp.perm {w0 w : World} {Fs : List Fro} {L M : List Res} (h : Hp w0 Fs L w) (hp : L.Perm M) : Hp w0 Fs M w :=
  ⟨h.below, h.fro, fun r hr => h.own r (hp.mem_iff.2 hr), (hp.pairwise_iff (fun {_ _} hab b h1 h2 => hab b h2 h1)).1 h.apart⟩
theorem Hp.takeEnd {w0 w w' : World} {Fs : List Fro} {L M : List Res} (h : Hp w0 Fs L w) (k : Hp w [⟨w, Lt w.heap.size⟩] M w') : Hp w0 Fs (L ++ M) w' := (h.take k.froDrop).perm List.perm_append_comm
end Go.Proofs.YtpnapnmkjpolmaaDoor
