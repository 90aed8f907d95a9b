/- Rows that append has filled: an element read, an element written. Printed by wip/hprow.py. No program is named here. -/
import Derived.Test.YtpnapnmkjpolmaaDoorHpOps
set_option linter.unusedSimpArgs false
set_option linter.unusedVariables false
namespace Go.Proofs.YtpnapnmkjpolmaaDoor
open Go.RowKit
section
variable {P : Program} {ops : Array Oper} {rest : List Oper} {o : Oper} {a : Act} {w w0 : World} {Q : Exit → Act → World → Prop} {Fs : List Fro} {L A B : List Res}
theorem Hp.rowSome {v : Value} {e : TypeId} {sz n : Nat} {cs : List Value} (h : Hp w0 Fs L w) (hm : Res.row v e sz n cs ∈ L) (hn : 0 < n) : ∃ g c, v = .slice (some ⟨g, 0, none⟩) n c := by
  rcases (h.row hm).2 with ⟨_, h0⟩ | ⟨g, cap, cur, rfl, _⟩
  · omega
  · exact ⟨g, cap, rfl⟩
theorem Hp.rowLen {v : Value} {e : TypeId} {sz n : Nat} {cs : List Value} (h : Hp w0 Fs L w) (hm : Res.row v e sz n cs ∈ L) : cs.length = n * sz := (h.row hm).1
theorem Hp.rowCell {g n c sz : Nat} {e : TypeId} {cs : List Value} (h : Hp w0 Fs L w) (hm : Res.row (.slice (some ⟨g, 0, none⟩) n c) e sz n cs ∈ L) (j : Nat) (u : Value) (hu : cs[j]? = some u) : w.cell? ⟨g, j, none⟩ = some u := by
  have := (h.row hm).cells (g := g) rfl j u hu
  rwa [Addr.add_lit, Nat.zero_add] at this
theorem Hp.rowFree {g n c sz : Nat} {e : TypeId} {cs : List Value} (h : Hp w0 Fs L w) (hm : Res.row (.slice (some ⟨g, 0, none⟩) n c) e sz n cs ∈ L) (j : Nat) : w.frozen? ⟨g, j, none⟩ = false := by
  rcases (h.row hm).2 with ⟨h0, _⟩ | ⟨g', cap, cur, hv, _, hg, _⟩
  · cases h0
  · cases hv
    exact frozen_of_row _ _ _ _ _ hg
theorem Hp.rowSet {g n c sz : Nat} {e : TypeId} {cs : List Value} (h : Hp w0 Fs (A ++ .row (.slice (some ⟨g, 0, none⟩) n c) e sz n cs :: B) w) (j : Nat) (hj : j < cs.length) (u : Value) :
    Hp w0 Fs (A ++ .row (.slice (some ⟨g, 0, none⟩) n c) e sz n (cs.set j u) :: B) (w.setCell ⟨g, j, none⟩ u) := by
  have ho := h.row (v := .slice (some ⟨g, 0, none⟩) n c) (e := e) (sz := sz) (n := n) (cs := cs) (by simp)
  refine h.chg ⟨rfl, rfl, rfl, by simp [World.setCell], fun b _ hne => heap_setCell_other _ _ _ _ (fun e => hne (by rw [e]; rfl))⟩ ?_ (fun b hb => .inl hb)
  refine ⟨by simpa using ho.1, ?_⟩
  rcases ho.2 with ⟨h0, _⟩ | ⟨g', cap, cur, hv, h1, hg, h2, h3, h4, h5⟩
  · cases h0
  · cases hv
    refine .inr ⟨g, c, cur.setIfInBounds j u, rfl, h1, heap_setCell_same w g j _ _ u hg, h2, h3, by simpa using h4, ?_⟩
    rw [Array.toList_setIfInBounds, List.take_set, h5]

theorem wpList_ldW0 (hgd : o.guard = none) (ty : TypeId) (x : Operand) (ho : o.op = .load ty x) {g k n c sz : Nat} {t : TypeId} {cs : List Value} (H : Hp w0 Fs (.row (.slice (some ⟨g, 0, none⟩) n c) t sz n cs :: L) w) (hx : a.eval x = .pointer (some ⟨g, k, none⟩)) {v : Value} (hv : cs[k]? = some v)
    {d : TypeDesc} (hu : P.underlying ty = some d) (hd : d.isRow = false) (h : wpList P ops Q rest (a.put o.dst v) w) : wpList P ops Q (o :: rest) a w :=
  wpList_load1 hgd ty x ho _ hx v (H.rowCell (g := g) (n := n) (c := c) (sz := sz) (e := t) (cs := cs) (by simp) k v hv) d hu hd h
theorem wpList_stW0 (hgd : o.guard = none) (ty : TypeId) (x y : Operand) (ho : o.op = .store ty x y) {g k n c sz : Nat} {t : TypeId} {cs : List Value} (H : Hp w0 Fs (.row (.slice (some ⟨g, 0, none⟩) n c) t sz n cs :: L) w) (hx : a.eval x = .pointer (some ⟨g, k, none⟩)) {v : Value} (hv : a.eval y = v) (hk : k < cs.length) (h1 : v.oneCell' = true)
    {cs' : List Value} (hcs : cs.set k v = cs') (hi : (P.info? ty).map (·.size) = some 1)
    (h : ∀ w', Hp w0 Fs (.row (.slice (some ⟨g, 0, none⟩) n c) t sz n cs' :: L) w' → wpList P ops Q rest (a.put o.dst undef) w') : wpList P ops Q (o :: rest) a w := by
  subst hcs
  exact wpList_store1 hgd ty x y ho hx v hv cs[k] (H.rowCell (g := g) (n := n) (c := c) (sz := sz) (e := t) (cs := cs) (by simp) k _ (List.getElem?_eq_getElem hk)) (H.rowFree (g := g) (n := n) (c := c) (sz := sz) (e := t) (cs := cs) (by simp) k) h1 hi (h _ (Hp.rowSet (A := []) H k hk v))
theorem wpList_apg0 (hgd : o.guard = none) (s x : Operand) (t : TypeId) (ho : o.op = .call { callee := .builtin .append, args := #[s, x], argTypes := #[t, t] })
    {e e' : TypeId} (i : TypeInfo) (z : Value) (ht : P.underlying t = some (.slice e)) (hi : P.info? e = some i) (hz : i.zero = some z) {gi n m c sz bytes : Nat} (hs' : i.size = sz) (hzs : z.cells.size = sz) (hsz : 0 < sz)
    {v : Value} {cs news : List Value} (hby : i.bytes = bytes) (k : Nat) (hk : n + m = k) (H : Hp w0 Fs (.blk gi e' news :: .row v e sz n cs :: L) w) (hs : a.eval s = v) (hx : a.eval x = .slice (some ⟨gi, 0, none⟩) m c) (hl : news.length = m * sz) (h1 : ∀ u ∈ news, u.oneCell' = true)
    (h63 : k ≤ maxLen) (hbytes : k * bytes ≤ 140737488355328) (h0 : 0 < k)
    (h : ∀ g c' w', Hp w0 Fs (.row (.slice (some ⟨g, 0, none⟩) k c') e sz k (cs ++ news) :: L) w' → wpList P ops Q rest (a.put o.dst (.slice (some ⟨g, 0, none⟩) k c')) w') : wpList P ops Q (o :: rest) a w :=
  wpList_append_hp (A := []) hgd s x t ho i z ht hi hz hs' hzs hsz hby k hk H hs hx hl h1 h63 hbytes fun A' c' w' H' => by
    obtain ⟨g, c2, hv⟩ := H'.rowSome (v := .slice A' k c') (e := e) (sz := sz) (n := k) (cs := cs ++ news) (by simp) h0
    cases hv
    exact h g _ w' H'

theorem wpList_ldW1 {r0 : Res} (hgd : o.guard = none) (ty : TypeId) (x : Operand) (ho : o.op = .load ty x) {g k n c sz : Nat} {t : TypeId} {cs : List Value} (H : Hp w0 Fs (r0 :: .row (.slice (some ⟨g, 0, none⟩) n c) t sz n cs :: L) w) (hx : a.eval x = .pointer (some ⟨g, k, none⟩)) {v : Value} (hv : cs[k]? = some v)
    {d : TypeDesc} (hu : P.underlying ty = some d) (hd : d.isRow = false) (h : wpList P ops Q rest (a.put o.dst v) w) : wpList P ops Q (o :: rest) a w :=
  wpList_load1 hgd ty x ho _ hx v (H.rowCell (g := g) (n := n) (c := c) (sz := sz) (e := t) (cs := cs) (by simp) k v hv) d hu hd h
theorem wpList_stW1 {r0 : Res} (hgd : o.guard = none) (ty : TypeId) (x y : Operand) (ho : o.op = .store ty x y) {g k n c sz : Nat} {t : TypeId} {cs : List Value} (H : Hp w0 Fs (r0 :: .row (.slice (some ⟨g, 0, none⟩) n c) t sz n cs :: L) w) (hx : a.eval x = .pointer (some ⟨g, k, none⟩)) {v : Value} (hv : a.eval y = v) (hk : k < cs.length) (h1 : v.oneCell' = true)
    {cs' : List Value} (hcs : cs.set k v = cs') (hi : (P.info? ty).map (·.size) = some 1)
    (h : ∀ w', Hp w0 Fs (r0 :: .row (.slice (some ⟨g, 0, none⟩) n c) t sz n cs' :: L) w' → wpList P ops Q rest (a.put o.dst undef) w') : wpList P ops Q (o :: rest) a w := by
  subst hcs
  exact wpList_store1 hgd ty x y ho hx v hv cs[k] (H.rowCell (g := g) (n := n) (c := c) (sz := sz) (e := t) (cs := cs) (by simp) k _ (List.getElem?_eq_getElem hk)) (H.rowFree (g := g) (n := n) (c := c) (sz := sz) (e := t) (cs := cs) (by simp) k) h1 hi (h _ (Hp.rowSet (A := [r0]) H k hk v))
theorem wpList_apg1 {r0 : Res} (hgd : o.guard = none) (s x : Operand) (t : TypeId) (ho : o.op = .call { callee := .builtin .append, args := #[s, x], argTypes := #[t, t] })
    {e e' : TypeId} (i : TypeInfo) (z : Value) (ht : P.underlying t = some (.slice e)) (hi : P.info? e = some i) (hz : i.zero = some z) {gi n m c sz bytes : Nat} (hs' : i.size = sz) (hzs : z.cells.size = sz) (hsz : 0 < sz)
    {v : Value} {cs news : List Value} (hby : i.bytes = bytes) (k : Nat) (hk : n + m = k) (H : Hp w0 Fs (.blk gi e' news :: r0 :: .row v e sz n cs :: L) w) (hs : a.eval s = v) (hx : a.eval x = .slice (some ⟨gi, 0, none⟩) m c) (hl : news.length = m * sz) (h1 : ∀ u ∈ news, u.oneCell' = true)
    (h63 : k ≤ maxLen) (hbytes : k * bytes ≤ 140737488355328) (h0 : 0 < k)
    (h : ∀ g c' w', Hp w0 Fs (r0 :: .row (.slice (some ⟨g, 0, none⟩) k c') e sz k (cs ++ news) :: L) w' → wpList P ops Q rest (a.put o.dst (.slice (some ⟨g, 0, none⟩) k c')) w') : wpList P ops Q (o :: rest) a w :=
  wpList_append_hp (A := [r0]) hgd s x t ho i z ht hi hz hs' hzs hsz hby k hk H hs hx hl h1 h63 hbytes fun A' c' w' H' => by
    obtain ⟨g, c2, hv⟩ := H'.rowSome (v := .slice A' k c') (e := e) (sz := sz) (n := k) (cs := cs ++ news) (by simp) h0
    cases hv
    exact h g _ w' H'

theorem wpList_ldW2 {r0 r1 : Res} (hgd : o.guard = none) (ty : TypeId) (x : Operand) (ho : o.op = .load ty x) {g k n c sz : Nat} {t : TypeId} {cs : List Value} (H : Hp w0 Fs (r0 :: r1 :: .row (.slice (some ⟨g, 0, none⟩) n c) t sz n cs :: L) w) (hx : a.eval x = .pointer (some ⟨g, k, none⟩)) {v : Value} (hv : cs[k]? = some v)
    {d : TypeDesc} (hu : P.underlying ty = some d) (hd : d.isRow = false) (h : wpList P ops Q rest (a.put o.dst v) w) : wpList P ops Q (o :: rest) a w :=
  wpList_load1 hgd ty x ho _ hx v (H.rowCell (g := g) (n := n) (c := c) (sz := sz) (e := t) (cs := cs) (by simp) k v hv) d hu hd h
theorem wpList_stW2 {r0 r1 : Res} (hgd : o.guard = none) (ty : TypeId) (x y : Operand) (ho : o.op = .store ty x y) {g k n c sz : Nat} {t : TypeId} {cs : List Value} (H : Hp w0 Fs (r0 :: r1 :: .row (.slice (some ⟨g, 0, none⟩) n c) t sz n cs :: L) w) (hx : a.eval x = .pointer (some ⟨g, k, none⟩)) {v : Value} (hv : a.eval y = v) (hk : k < cs.length) (h1 : v.oneCell' = true)
    {cs' : List Value} (hcs : cs.set k v = cs') (hi : (P.info? ty).map (·.size) = some 1)
    (h : ∀ w', Hp w0 Fs (r0 :: r1 :: .row (.slice (some ⟨g, 0, none⟩) n c) t sz n cs' :: L) w' → wpList P ops Q rest (a.put o.dst undef) w') : wpList P ops Q (o :: rest) a w := by
  subst hcs
  exact wpList_store1 hgd ty x y ho hx v hv cs[k] (H.rowCell (g := g) (n := n) (c := c) (sz := sz) (e := t) (cs := cs) (by simp) k _ (List.getElem?_eq_getElem hk)) (H.rowFree (g := g) (n := n) (c := c) (sz := sz) (e := t) (cs := cs) (by simp) k) h1 hi (h _ (Hp.rowSet (A := [r0, r1]) H k hk v))
theorem wpList_apg2 {r0 r1 : Res} (hgd : o.guard = none) (s x : Operand) (t : TypeId) (ho : o.op = .call { callee := .builtin .append, args := #[s, x], argTypes := #[t, t] })
    {e e' : TypeId} (i : TypeInfo) (z : Value) (ht : P.underlying t = some (.slice e)) (hi : P.info? e = some i) (hz : i.zero = some z) {gi n m c sz bytes : Nat} (hs' : i.size = sz) (hzs : z.cells.size = sz) (hsz : 0 < sz)
    {v : Value} {cs news : List Value} (hby : i.bytes = bytes) (k : Nat) (hk : n + m = k) (H : Hp w0 Fs (.blk gi e' news :: r0 :: r1 :: .row v e sz n cs :: L) w) (hs : a.eval s = v) (hx : a.eval x = .slice (some ⟨gi, 0, none⟩) m c) (hl : news.length = m * sz) (h1 : ∀ u ∈ news, u.oneCell' = true)
    (h63 : k ≤ maxLen) (hbytes : k * bytes ≤ 140737488355328) (h0 : 0 < k)
    (h : ∀ g c' w', Hp w0 Fs (r0 :: r1 :: .row (.slice (some ⟨g, 0, none⟩) k c') e sz k (cs ++ news) :: L) w' → wpList P ops Q rest (a.put o.dst (.slice (some ⟨g, 0, none⟩) k c')) w') : wpList P ops Q (o :: rest) a w :=
  wpList_append_hp (A := [r0, r1]) hgd s x t ho i z ht hi hz hs' hzs hsz hby k hk H hs hx hl h1 h63 hbytes fun A' c' w' H' => by
    obtain ⟨g, c2, hv⟩ := H'.rowSome (v := .slice A' k c') (e := e) (sz := sz) (n := k) (cs := cs ++ news) (by simp) h0
    cases hv
    exact h g _ w' H'

theorem wpList_ldW3 {r0 r1 r2 : Res} (hgd : o.guard = none) (ty : TypeId) (x : Operand) (ho : o.op = .load ty x) {g k n c sz : Nat} {t : TypeId} {cs : List Value} (H : Hp w0 Fs (r0 :: r1 :: r2 :: .row (.slice (some ⟨g, 0, none⟩) n c) t sz n cs :: L) w) (hx : a.eval x = .pointer (some ⟨g, k, none⟩)) {v : Value} (hv : cs[k]? = some v)
    {d : TypeDesc} (hu : P.underlying ty = some d) (hd : d.isRow = false) (h : wpList P ops Q rest (a.put o.dst v) w) : wpList P ops Q (o :: rest) a w :=
  wpList_load1 hgd ty x ho _ hx v (H.rowCell (g := g) (n := n) (c := c) (sz := sz) (e := t) (cs := cs) (by simp) k v hv) d hu hd h
theorem wpList_stW3 {r0 r1 r2 : Res} (hgd : o.guard = none) (ty : TypeId) (x y : Operand) (ho : o.op = .store ty x y) {g k n c sz : Nat} {t : TypeId} {cs : List Value} (H : Hp w0 Fs (r0 :: r1 :: r2 :: .row (.slice (some ⟨g, 0, none⟩) n c) t sz n cs :: L) w) (hx : a.eval x = .pointer (some ⟨g, k, none⟩)) {v : Value} (hv : a.eval y = v) (hk : k < cs.length) (h1 : v.oneCell' = true)
    {cs' : List Value} (hcs : cs.set k v = cs') (hi : (P.info? ty).map (·.size) = some 1)
    (h : ∀ w', Hp w0 Fs (r0 :: r1 :: r2 :: .row (.slice (some ⟨g, 0, none⟩) n c) t sz n cs' :: L) w' → wpList P ops Q rest (a.put o.dst undef) w') : wpList P ops Q (o :: rest) a w := by
  subst hcs
  exact wpList_store1 hgd ty x y ho hx v hv cs[k] (H.rowCell (g := g) (n := n) (c := c) (sz := sz) (e := t) (cs := cs) (by simp) k _ (List.getElem?_eq_getElem hk)) (H.rowFree (g := g) (n := n) (c := c) (sz := sz) (e := t) (cs := cs) (by simp) k) h1 hi (h _ (Hp.rowSet (A := [r0, r1, r2]) H k hk v))
theorem wpList_apg3 {r0 r1 r2 : Res} (hgd : o.guard = none) (s x : Operand) (t : TypeId) (ho : o.op = .call { callee := .builtin .append, args := #[s, x], argTypes := #[t, t] })
    {e e' : TypeId} (i : TypeInfo) (z : Value) (ht : P.underlying t = some (.slice e)) (hi : P.info? e = some i) (hz : i.zero = some z) {gi n m c sz bytes : Nat} (hs' : i.size = sz) (hzs : z.cells.size = sz) (hsz : 0 < sz)
    {v : Value} {cs news : List Value} (hby : i.bytes = bytes) (k : Nat) (hk : n + m = k) (H : Hp w0 Fs (.blk gi e' news :: r0 :: r1 :: r2 :: .row v e sz n cs :: L) w) (hs : a.eval s = v) (hx : a.eval x = .slice (some ⟨gi, 0, none⟩) m c) (hl : news.length = m * sz) (h1 : ∀ u ∈ news, u.oneCell' = true)
    (h63 : k ≤ maxLen) (hbytes : k * bytes ≤ 140737488355328) (h0 : 0 < k)
    (h : ∀ g c' w', Hp w0 Fs (r0 :: r1 :: r2 :: .row (.slice (some ⟨g, 0, none⟩) k c') e sz k (cs ++ news) :: L) w' → wpList P ops Q rest (a.put o.dst (.slice (some ⟨g, 0, none⟩) k c')) w') : wpList P ops Q (o :: rest) a w :=
  wpList_append_hp (A := [r0, r1, r2]) hgd s x t ho i z ht hi hz hs' hzs hsz hby k hk H hs hx hl h1 h63 hbytes fun A' c' w' H' => by
    obtain ⟨g, c2, hv⟩ := H'.rowSome (v := .slice A' k c') (e := e) (sz := sz) (n := k) (cs := cs ++ news) (by simp) h0
    cases hv
    exact h g _ w' H'

theorem wpList_ldW4 {r0 r1 r2 r3 : Res} (hgd : o.guard = none) (ty : TypeId) (x : Operand) (ho : o.op = .load ty x) {g k n c sz : Nat} {t : TypeId} {cs : List Value} (H : Hp w0 Fs (r0 :: r1 :: r2 :: r3 :: .row (.slice (some ⟨g, 0, none⟩) n c) t sz n cs :: L) w) (hx : a.eval x = .pointer (some ⟨g, k, none⟩)) {v : Value} (hv : cs[k]? = some v)
    {d : TypeDesc} (hu : P.underlying ty = some d) (hd : d.isRow = false) (h : wpList P ops Q rest (a.put o.dst v) w) : wpList P ops Q (o :: rest) a w :=
  wpList_load1 hgd ty x ho _ hx v (H.rowCell (g := g) (n := n) (c := c) (sz := sz) (e := t) (cs := cs) (by simp) k v hv) d hu hd h
theorem wpList_stW4 {r0 r1 r2 r3 : Res} (hgd : o.guard = none) (ty : TypeId) (x y : Operand) (ho : o.op = .store ty x y) {g k n c sz : Nat} {t : TypeId} {cs : List Value} (H : Hp w0 Fs (r0 :: r1 :: r2 :: r3 :: .row (.slice (some ⟨g, 0, none⟩) n c) t sz n cs :: L) w) (hx : a.eval x = .pointer (some ⟨g, k, none⟩)) {v : Value} (hv : a.eval y = v) (hk : k < cs.length) (h1 : v.oneCell' = true)
    {cs' : List Value} (hcs : cs.set k v = cs') (hi : (P.info? ty).map (·.size) = some 1)
    (h : ∀ w', Hp w0 Fs (r0 :: r1 :: r2 :: r3 :: .row (.slice (some ⟨g, 0, none⟩) n c) t sz n cs' :: L) w' → wpList P ops Q rest (a.put o.dst undef) w') : wpList P ops Q (o :: rest) a w := by
  subst hcs
  exact wpList_store1 hgd ty x y ho hx v hv cs[k] (H.rowCell (g := g) (n := n) (c := c) (sz := sz) (e := t) (cs := cs) (by simp) k _ (List.getElem?_eq_getElem hk)) (H.rowFree (g := g) (n := n) (c := c) (sz := sz) (e := t) (cs := cs) (by simp) k) h1 hi (h _ (Hp.rowSet (A := [r0, r1, r2, r3]) H k hk v))
theorem wpList_apg4 {r0 r1 r2 r3 : Res} (hgd : o.guard = none) (s x : Operand) (t : TypeId) (ho : o.op = .call { callee := .builtin .append, args := #[s, x], argTypes := #[t, t] })
    {e e' : TypeId} (i : TypeInfo) (z : Value) (ht : P.underlying t = some (.slice e)) (hi : P.info? e = some i) (hz : i.zero = some z) {gi n m c sz bytes : Nat} (hs' : i.size = sz) (hzs : z.cells.size = sz) (hsz : 0 < sz)
    {v : Value} {cs news : List Value} (hby : i.bytes = bytes) (k : Nat) (hk : n + m = k) (H : Hp w0 Fs (.blk gi e' news :: r0 :: r1 :: r2 :: r3 :: .row v e sz n cs :: L) w) (hs : a.eval s = v) (hx : a.eval x = .slice (some ⟨gi, 0, none⟩) m c) (hl : news.length = m * sz) (h1 : ∀ u ∈ news, u.oneCell' = true)
    (h63 : k ≤ maxLen) (hbytes : k * bytes ≤ 140737488355328) (h0 : 0 < k)
    (h : ∀ g c' w', Hp w0 Fs (r0 :: r1 :: r2 :: r3 :: .row (.slice (some ⟨g, 0, none⟩) k c') e sz k (cs ++ news) :: L) w' → wpList P ops Q rest (a.put o.dst (.slice (some ⟨g, 0, none⟩) k c')) w') : wpList P ops Q (o :: rest) a w :=
  wpList_append_hp (A := [r0, r1, r2, r3]) hgd s x t ho i z ht hi hz hs' hzs hsz hby k hk H hs hx hl h1 h63 hbytes fun A' c' w' H' => by
    obtain ⟨g, c2, hv⟩ := H'.rowSome (v := .slice A' k c') (e := e) (sz := sz) (n := k) (cs := cs ++ news) (by simp) h0
    cases hv
    exact h g _ w' H'

theorem wpList_ldW5 {r0 r1 r2 r3 r4 : Res} (hgd : o.guard = none) (ty : TypeId) (x : Operand) (ho : o.op = .load ty x) {g k n c sz : Nat} {t : TypeId} {cs : List Value} (H : Hp w0 Fs (r0 :: r1 :: r2 :: r3 :: r4 :: .row (.slice (some ⟨g, 0, none⟩) n c) t sz n cs :: L) w) (hx : a.eval x = .pointer (some ⟨g, k, none⟩)) {v : Value} (hv : cs[k]? = some v)
    {d : TypeDesc} (hu : P.underlying ty = some d) (hd : d.isRow = false) (h : wpList P ops Q rest (a.put o.dst v) w) : wpList P ops Q (o :: rest) a w :=
  wpList_load1 hgd ty x ho _ hx v (H.rowCell (g := g) (n := n) (c := c) (sz := sz) (e := t) (cs := cs) (by simp) k v hv) d hu hd h
theorem wpList_stW5 {r0 r1 r2 r3 r4 : Res} (hgd : o.guard = none) (ty : TypeId) (x y : Operand) (ho : o.op = .store ty x y) {g k n c sz : Nat} {t : TypeId} {cs : List Value} (H : Hp w0 Fs (r0 :: r1 :: r2 :: r3 :: r4 :: .row (.slice (some ⟨g, 0, none⟩) n c) t sz n cs :: L) w) (hx : a.eval x = .pointer (some ⟨g, k, none⟩)) {v : Value} (hv : a.eval y = v) (hk : k < cs.length) (h1 : v.oneCell' = true)
    {cs' : List Value} (hcs : cs.set k v = cs') (hi : (P.info? ty).map (·.size) = some 1)
    (h : ∀ w', Hp w0 Fs (r0 :: r1 :: r2 :: r3 :: r4 :: .row (.slice (some ⟨g, 0, none⟩) n c) t sz n cs' :: L) w' → wpList P ops Q rest (a.put o.dst undef) w') : wpList P ops Q (o :: rest) a w := by
  subst hcs
  exact wpList_store1 hgd ty x y ho hx v hv cs[k] (H.rowCell (g := g) (n := n) (c := c) (sz := sz) (e := t) (cs := cs) (by simp) k _ (List.getElem?_eq_getElem hk)) (H.rowFree (g := g) (n := n) (c := c) (sz := sz) (e := t) (cs := cs) (by simp) k) h1 hi (h _ (Hp.rowSet (A := [r0, r1, r2, r3, r4]) H k hk v))
theorem wpList_apg5 {r0 r1 r2 r3 r4 : Res} (hgd : o.guard = none) (s x : Operand) (t : TypeId) (ho : o.op = .call { callee := .builtin .append, args := #[s, x], argTypes := #[t, t] })
    {e e' : TypeId} (i : TypeInfo) (z : Value) (ht : P.underlying t = some (.slice e)) (hi : P.info? e = some i) (hz : i.zero = some z) {gi n m c sz bytes : Nat} (hs' : i.size = sz) (hzs : z.cells.size = sz) (hsz : 0 < sz)
    {v : Value} {cs news : List Value} (hby : i.bytes = bytes) (k : Nat) (hk : n + m = k) (H : Hp w0 Fs (.blk gi e' news :: r0 :: r1 :: r2 :: r3 :: r4 :: .row v e sz n cs :: L) w) (hs : a.eval s = v) (hx : a.eval x = .slice (some ⟨gi, 0, none⟩) m c) (hl : news.length = m * sz) (h1 : ∀ u ∈ news, u.oneCell' = true)
    (h63 : k ≤ maxLen) (hbytes : k * bytes ≤ 140737488355328) (h0 : 0 < k)
    (h : ∀ g c' w', Hp w0 Fs (r0 :: r1 :: r2 :: r3 :: r4 :: .row (.slice (some ⟨g, 0, none⟩) k c') e sz k (cs ++ news) :: L) w' → wpList P ops Q rest (a.put o.dst (.slice (some ⟨g, 0, none⟩) k c')) w') : wpList P ops Q (o :: rest) a w :=
  wpList_append_hp (A := [r0, r1, r2, r3, r4]) hgd s x t ho i z ht hi hz hs' hzs hsz hby k hk H hs hx hl h1 h63 hbytes fun A' c' w' H' => by
    obtain ⟨g, c2, hv⟩ := H'.rowSome (v := .slice A' k c') (e := e) (sz := sz) (n := k) (cs := cs ++ news) (by simp) h0
    cases hv
    exact h g _ w' H'

end
end Go.Proofs.YtpnapnmkjpolmaaDoor
