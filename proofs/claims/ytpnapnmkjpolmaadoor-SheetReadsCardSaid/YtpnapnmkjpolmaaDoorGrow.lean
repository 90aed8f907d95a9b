/- A slice that a function fills by append: what has gone in lies there as data. -/
import Derived.Test.YtpnapnmkjpolmaaDoorStill
import Derived.Laws.AppendOwn
import Derived.OwnWalk
set_option linter.unusedSimpArgs false
set_option linter.unusedVariables false
namespace Go.Proofs.YtpnapnmkjpolmaaDoor
open Go.RowKit

/-- A block of rows of another type, from a number on. -/
def Oth (w : World) (base : Nat) (e : TypeId) (b : Nat) : Prop := base ≤ b ∧ ∃ cur t fr, w.heap[b]? = some (.cells cur t fr) ∧ t ≠ e
/-- What has been appended so far. -/
def Grow {α : Type} [Lay α] (w : World) (base : Nat) (e : TypeId) (v : Value) (xs : List α) : Prop :=
  ∃ cs, w.ownsRow base e (Lay.size α) v xs.length cs ∧ ∀ k x, xs[k]? = some x → Lay.rep w (Oth w base e) x ((cs.drop (k * Lay.size α)).take (Lay.size α))

section
variable {w w' : World} {base : Nat} {e : TypeId} {v v' : Value} {n sz : Nat} {cs ds : List Value} {α : Type} [Lay α] {xs : List α}
theorem Oth.lt {b : Nat} (h : Oth w base e b) : b < w.heap.size := by
  obtain ⟨_, cur, t, fr, hh, _⟩ := h
  rcases Nat.lt_or_ge b w.heap.size with hlt | hge
  · exact hlt
  · rw [Array.getElem?_eq_none hge] at hh; cases hh
theorem Oth.not_own {b : Nat} (h : Oth w base e b) (hown : w.ownsRow base e sz v n cs) : some b ≠ v.ownBlock := by
  obtain ⟨_, cur, t, fr, hh, ht⟩ := h
  intro hb
  obtain ⟨_, ⟨rfl, _⟩ | ⟨g, cap, cur', rfl, _, hg, _⟩⟩ := hown
  · cases hb
  · cases hb
    rw [hg] at hh
    cases hh
    exact ht rfl
theorem Oth.of_heap {b : Nat} (h : Oth w base e b) (k : w'.heap[b]? = w.heap[b]?) : Oth w' base e b := by
  obtain ⟨h1, cur, t, fr, hh, ht⟩ := h
  exact ⟨h1, cur, t, fr, k.trans hh, ht⟩
theorem Oth.alike (k : ∀ b, Oth w base e b → w'.heap[b]? = w.heap[b]?) : Alike (Oth w base e) w w' := fun p hp => World.cell?_of_block (k _ hp)
theorem rep_moved {x : α} (k : ∀ b, Oth w base e b → w'.heap[b]? = w.heap[b]?) (h : Lay.rep w (Oth w base e) x cs) : Lay.rep w' (Oth w' base e) x cs :=
  Lay.more (fun b hb => hb.of_heap (k b hb)) (Lay.keep (Oth.alike k) h)
theorem Grow.nil : Grow w base e (.slice none 0 0) ([] : List α) := ⟨[], World.ownsRow_nil w base e _, fun k x h => by simp at h⟩
theorem Grow.moved (h : Grow w base e v xs) (k : ∀ b, Oth w base e b → w'.heap[b]? = w.heap[b]?) (hv : ∀ g, v.ownBlock = some g → w'.heap[g]? = w.heap[g]?) : Grow w' base e v xs := by
  obtain ⟨cs, h1, h2⟩ := h
  refine ⟨cs, ⟨h1.1, ?_⟩, fun j x hx => rep_moved k (h2 j x hx)⟩
  rcases h1.2 with h | ⟨g, cap, cur, rfl, hb, hg, hr⟩
  · exact .inl h
  · exact .inr ⟨g, cap, cur, rfl, hb, (hv g rfl).trans hg, hr⟩
theorem Grow.alloc (h : Grow w base e v xs) (o : Obj) : Grow (w.alloc o) base e v xs :=
  h.moved (fun b hb => Below.heap_alloc w o b hb.lt) (fun g hg => by
    obtain ⟨cs, h1, _⟩ := h
    exact Below.heap_alloc w o g (h1.lt g hg).2)
theorem grow_push {x : α} (hn : xs.length = n) (hown : w.ownsRow base e (Lay.size α) v n cs) (hel : ∀ k y, xs[k]? = some y → Lay.rep w (Oth w base e) y ((cs.drop (k * Lay.size α)).take (Lay.size α)))
    (hg : w.grownBy w' v.ownBlock) (hown' : w'.ownsRow base e (Lay.size α) v' (n + 1) (cs ++ ds)) (hnew : Lay.rep w (Oth w base e) x ds) : Grow w' base e v' (xs ++ [x]) := by
  have hk : ∀ b, Oth w base e b → w'.heap[b]? = w.heap[b]? := fun b hb => hg.block b hb.lt (hb.not_own hown)
  have hcs : cs.length = n * Lay.size α := hown.1
  refine ⟨cs ++ ds, by simpa [hn] using hown', fun k y hy => ?_⟩
  by_cases hkn : k < n
  · rw [List.getElem?_append_left (by omega)] at hy
    have h := rep_moved hk (hel k y hy)
    have hle : (k + 1) * Lay.size α ≤ n * Lay.size α := Nat.mul_le_mul_right _ hkn
    rw [Nat.add_mul, Nat.one_mul] at hle
    rw [List.drop_append_of_le_length (by omega), List.take_append_of_le_length (by simp; omega)]
    exact h
  · rw [List.getElem?_append_right (by omega)] at hy
    have h0 : k - xs.length = 0 := by
      rcases Nat.eq_zero_or_pos (k - xs.length) with h | h
      · exact h
      · rw [List.getElem?_eq_none (show [x].length ≤ k - xs.length from h)] at hy; cases hy
    have hke : k = n := by omega
    rw [h0] at hy
    cases hy
    subst hke
    rw [← hcs, List.drop_left, List.take_of_length_le (by rw [Lay.len hnew]; exact Nat.le_refl _)]
    exact rep_moved hk hnew
/-- What was filled is data. -/
theorem Grow.rep (h : Grow w base e v xs) : Lay.rep w (fun b => base ≤ b ∧ b < w.heap.size) xs [v] := by
  obtain ⟨cs, h1, h2⟩ := h
  rcases h1.2 with ⟨rfl, hn⟩ | ⟨g, cap, cur, rfl, hb, hg, hle, hm, hs, ht⟩
  · have : xs = [] := by cases xs; rfl; simp at hn
    subst this
    exact ⟨none, 0, rfl, Nat.le_refl _, by simp [maxLen], fun k x hx => by simp at hx⟩
  · refine ⟨_, _, rfl, hle, hm, fun k x hx => ⟨_, _, rfl, ⟨hb, (h1.lt g rfl).2⟩, ?_, Lay.more (fun b hb => ⟨hb.1, hb.lt⟩) (h2 k x hx)⟩⟩
    intro j u hu
    have hc := h1.cells (g := g) rfl
    have : ((⟨g, 0, none⟩ : Addr).add (k * Lay.size α)).add j = (⟨g, 0, none⟩ : Addr).add (k * Lay.size α + j) := add_of_add _ _ _
    rw [this]
    refine hc _ _ ?_
    rw [List.getElem?_take] at hu
    split at hu
    · rwa [List.getElem?_drop] at hu
    · cases hu
theorem Grow.repS (h : Grow w base e v xs) (S : Nat → Prop) (hS : ∀ g cur, base ≤ g → w.heap[g]? = some (.cells cur e (0, 0)) → S g) (hin : ∀ (x : α) cs, Lay.rep w (Oth w base e) x cs → Lay.rep w S x cs) : Lay.rep w S xs [v] := by
  obtain ⟨cs, h1, h2⟩ := h
  rcases h1.2 with ⟨rfl, hn⟩ | ⟨g, cap, cur, rfl, hb, hg, hle, hm, hs, ht⟩
  · have : xs = [] := by cases xs; rfl; simp at hn
    subst this
    exact ⟨none, 0, rfl, Nat.le_refl _, by simp [maxLen], fun k x hx => by simp at hx⟩
  · refine ⟨_, _, rfl, hle, hm, fun k x hx => ⟨_, _, rfl, hS g _ hb hg, ?_, hin _ _ (h2 k x hx)⟩⟩
    intro j u hu
    have hc := h1.cells (g := g) rfl
    have : ((⟨g, 0, none⟩ : Addr).add (k * Lay.size α)).add j = (⟨g, 0, none⟩ : Addr).add (k * Lay.size α + j) := add_of_add _ _ _
    rw [this]
    refine hc _ _ ?_
    rw [List.getElem?_take] at hu
    split at hu
    · rwa [List.getElem?_drop] at hu
    · cases hu
theorem Grow.slice (h : Grow w base e v xs) : ∃ A c, v = .slice A xs.length c := by
  obtain ⟨A, c, e, _⟩ := rep_list h.rep
  injection e with e
  exact ⟨A, c, e⟩
/-- The cells of a row of data. -/
theorem cells_of_list {S : Nat → Prop} {ad : Addr} {ys : List α} (h : ∀ k y, ys[k]? = some y → ∃ ds, At w (ad.add (k * Lay.size α)) ds ∧ Lay.rep w S y ds ∧ ∀ u ∈ ds, u.oneCell' = true) :
    ∀ n, n ≤ ys.length → ∃ news : List Value, news.length = n * Lay.size α ∧ At w ad news ∧ (∀ u ∈ news, u.oneCell' = true) ∧ ∀ k y, k < n → ys[k]? = some y → Lay.rep w S y ((news.drop (k * Lay.size α)).take (Lay.size α))
  | 0, _ => ⟨[], by simp, At.nil, by simp, fun k y hk => by omega⟩
  | n + 1, hn => by
    obtain ⟨news, h1, h2, h3, h4⟩ := cells_of_list h n (by omega)
    obtain ⟨ds, g1, g2, g3⟩ := h n _ (List.getElem?_eq_getElem (by omega))
    have hlen := Lay.len g2
    refine ⟨news ++ ds, by rw [List.length_append, h1, hlen, Nat.add_mul, Nat.one_mul], h2.app (by rw [h1]; exact g1), fun u hu => ?_, fun k y hk hy => ?_⟩
    · rcases List.mem_append.1 hu with hu | hu
      · exact h3 u hu
      · exact g3 u hu
    · by_cases hkn : k < n
      · have hle : (k + 1) * Lay.size α ≤ n * Lay.size α := Nat.mul_le_mul_right _ hkn
        rw [Nat.add_mul, Nat.one_mul] at hle
        rw [List.drop_append_of_le_length (by omega), List.take_append_of_le_length (by simp; omega)]
        exact h4 k y hkn hy
      · have : k = n := by omega
        subst this
        rw [List.getElem?_eq_getElem (by omega)] at hy
        cases hy
        rw [← h1, List.drop_left, List.take_of_length_le (by rw [hlen]; exact Nat.le_refl _)]
        exact g2
theorem run_append_none0 {P : Program} (w : World) (base : Nat) (t ty e : TypeId) (i : TypeInfo) (size : Nat) (ht : P.underlying t = some (.slice e)) (hi : P.info? e = some i)
    (v : Value) (n : Nat) (xs : List Value) (hown : w.ownsRow base e size v n xs) (c : Nat) :
    (Builtin.append_ #[t, t] ty #[v, .slice none 0 c]).run P w = .ok v w := by
  rcases hown.2 with ⟨rfl, rfl⟩ | ⟨g, cap, cur, rfl, _, _, hnc, _⟩
  · simp [Builtin.append_, run_underlying ht, sizeOf, typeInfo, hi, Builtin.lenOf, Builtin.firstCells]
  · simp [Builtin.append_, run_underlying ht, sizeOf, typeInfo, hi, Builtin.lenOf, Builtin.firstCells, hnc, storeCells]
theorem wpList_append_none0 {P : Program} {ops : Array Oper} {rest : List Oper} {o : Oper} {a : Act} {Q : Exit → Act → World → Prop} (hgd : o.guard = none) (s x : Operand) (t : TypeId)
    (ho : o.op = .call { callee := .builtin .append, args := #[s, x], argTypes := #[t, t] })
    (base : Nat) (e : TypeId) (i : TypeInfo) (size : Nat) (ht : P.underlying t = some (.slice e)) (hi : P.info? e = some i)
    (v : Value) (n c : Nat) (xs : List Value) (hs : a.eval s = v) (hown : w.ownsRow base e size v n xs) (hx : a.eval x = .slice none 0 c)
    (h : wpList P ops Q rest (a.put o.dst v) w) : wpList P ops Q (o :: rest) a w := by
  refine wpList_plain hgd fun K hK => ?_
  have hrun := run_append_none0 (P := P) (w := w) base t o.type e i size ht hi v n xs hown c
  unfold Oper.wp
  simp [execOp, ho, resolve, invoke, builtin, hs, hx, hrun, Result.andThen]
  exact hK _ _ h
/-- A row of data is appended. -/
theorem wpList_append_lay {P : Program} {ops : Array Oper} {rest : List Oper} {o : Oper} {a : Act} {Q : Exit → Act → World → Prop} (hgd : o.guard = none) (s x : Operand) (t : TypeId)
    (ho : o.op = .call { callee := .builtin .append, args := #[s, x], argTypes := #[t, t] })
    (base : Nat) (e : TypeId) (i : TypeInfo) (z : Value) (bytes : Nat) (ht : P.underlying t = some (.slice e)) (hi : P.info? e = some i) (hz : i.zero = some z)
    (hsize : i.size = Lay.size α) (hby : i.bytes = bytes) (hzs : z.cells.size = Lay.size α) (hsz : 0 < Lay.size α)
    (v : Value) (hs : a.eval s = v) (hgr : Grow w base e v xs) (A : Option Addr) (c : Nat) (ys : List α) (hx : a.eval x = .slice A ys.length c)
    (hys : ∀ k y, ys[k]? = some y → ∃ ad ds, A = some ad ∧ At w (ad.add (k * Lay.size α)) ds ∧ Lay.rep w (Oth w base e) y ds ∧ ∀ u ∈ ds, u.oneCell' = true)
    (h63 : xs.length + ys.length ≤ maxLen) (hbytes : (xs.length + ys.length) * bytes ≤ 140737488355328) (hbase : base ≤ w.heap.size)
    (h : ∀ v' w', Grow w' base e v' (xs ++ ys) → w.grownBy w' v.ownBlock → wpList P ops Q rest (a.put o.dst v') w') : wpList P ops Q (o :: rest) a w := by
  obtain ⟨cs, hown, hel⟩ := hgr
  cases A with
  | none =>
    have hy0 : ys = [] := by
      cases ys with
      | nil => rfl
      | cons y l => obtain ⟨ad, _, e, _⟩ := hys 0 y rfl; cases e
    subst hy0
    refine wpList_append_none0 hgd s x t ho base e i (Lay.size α) ht hi v _ c cs hs hown hx (h v w ⟨cs, by simpa using hown, fun k y hy => hel k y (by simpa using hy)⟩ ⟨rfl, rfl, rfl, Nat.le_refl _, fun _ _ _ => rfl⟩)
  | some ad =>
    obtain ⟨news, n1, n2, n3, n4⟩ := cells_of_list (ys := ys) (ad := ad) (fun k y hy => by
      obtain ⟨ad', ds, e, r⟩ := hys k y hy
      cases e
      exact ⟨ds, r⟩) ys.length (Nat.le_refl _)
    refine wpList_append_own w hgd s x t ho base e i z (Lay.size α) bytes ht hi hz hsize hby hzs hsz v xs.length cs hs hown ad ys.length c news hx n1 n2 n3 h63 hbytes hbase fun v' w' h1 h2 _ => h v' w' ⟨cs ++ news, by simpa using h1, fun k y hy => ?_⟩ h2
    have hk : ∀ b, Oth w base e b → w'.heap[b]? = w.heap[b]? := fun b hb => h2.block b hb.lt (hb.not_own hown)
    have hcs : cs.length = xs.length * Lay.size α := hown.1
    by_cases hkn : k < xs.length
    · rw [List.getElem?_append_left hkn] at hy
      have hle : (k + 1) * Lay.size α ≤ xs.length * Lay.size α := Nat.mul_le_mul_right _ hkn
      rw [Nat.add_mul, Nat.one_mul] at hle
      rw [List.drop_append_of_le_length (by omega), List.take_append_of_le_length (by simp; omega)]
      exact rep_moved hk (hel k y hy)
    · rw [List.getElem?_append_right (by omega)] at hy
      have hkl : k - xs.length < ys.length := (List.getElem?_eq_some_iff.1 hy).1
      have hd : (cs ++ news).drop (k * Lay.size α) = news.drop ((k - xs.length) * Lay.size α) := by
        rw [List.drop_append, List.drop_eq_nil_of_le (by rw [hcs]; exact Nat.mul_le_mul_right _ (by omega)), List.nil_append, hcs, Nat.sub_mul]
      rw [hd]
      exact rep_moved hk (n4 _ y hkl hy)
end
end Go.Proofs.YtpnapnmkjpolmaaDoor
