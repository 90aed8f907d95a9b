/- The walk's laws over what a call owns (Hp). Printed by wip/hpops.py. No program is named here. -/
import Derived.Test.YtpnapnmkjpolmaaDoorHp
import Derived.Great.Walk
import Derived.Laws.MakeOwn
set_option linter.unusedSimpArgs false
set_option linter.unusedVariables false
namespace Go.Proofs.YtpnapnmkjpolmaaDoor
open Go.RowKit
section
variable {P : Program} {ops : Array Oper} {rest : List Oper} {o : Oper} {a : Act} {w w0 : World} {Q : Exit → Act → World → Prop} {Fs : List Fro} {L : List Res}

theorem wpList_box_hp (hgd : o.guard = none) (T : TypeId) (x : Operand) (ho : o.op = .box T x) (H : Hp w0 Fs L w) (cs : List Value) (hcs : (a.eval x).cells.toList = cs)
    (h : ∀ g w', Hp w0 Fs (.blk g T cs :: L) w' → wpList P ops Q rest (a.put o.dst (.pointer (some ⟨g, 0, none⟩))) w') : wpList P ops Q (o :: rest) a w := by
  subst hcs
  exact Great.wpList_boxTo hgd T x ho o.dst rfl _ rfl _ rfl (h _ _ (H.alloc _ T))
theorem wpList_alloc_hp (hgd : o.guard = none) (T : TypeId) (ho : o.op = .alloc T) (H : Hp w0 Fs L w) (z : Value) (hz : (P.info? T).bind (·.zero) = some z) (cs : List Value) (hcs : z.cells.toList = cs)
    (h : ∀ g w', Hp w0 Fs (.blk g T cs :: L) w' → wpList P ops Q rest (a.put o.dst (.pointer (some ⟨g, 0, none⟩))) w') : wpList P ops Q (o :: rest) a w := by
  subst hcs
  refine Great.wpList_runTo hgd o.dst rfl (.pointer (some ⟨w.heap.size, 0, none⟩)) (w.alloc (.cells z.cells T)) ?_ (h _ _ (H.alloc _ T))
  have hzr : (zeroValue T).run P w = .ok z w := by
    cases hi : P.info? T with
    | none => rw [hi] at hz; cases hz
    | some i => rw [hi] at hz; simp only [Option.bind_some] at hz; simp [zeroValue, typeInfo, hi, hz]
  unfold execOp
  simp only [ho, Instr.alloc, Sem.run_bind, hzr, Sem.run_pure, Result.andThen_ok, newVar, newRow, run_newObj_alloc]
theorem run_loadVar1 (w : World) (ty : TypeId) (ad : Addr) (v : Value) (hc : w.cell? ad = some v) (d : TypeDesc) (hu : P.underlying ty = some d) (hd : d.isRow = false) : (loadVar ty ad).run P w = .ok v w := by
  have hagg : (isAgg ty).run P w = .ok false w := by
    unfold isAgg
    rw [Sem.run_bind, run_underlying hu w]
    cases d <;> simp_all
  simp [loadVar, Sem.run_bind, hagg, hc, go_sem]
theorem wpList_load1 (hgd : o.guard = none) (ty : TypeId) (x : Operand) (ho : o.op = .load ty x) (ad : Addr) (hx : a.eval x = .pointer (some ad)) (v : Value) (hc : w.cell? ad = some v) (d : TypeDesc) (hu : P.underlying ty = some d) (hd : d.isRow = false)
    (h : wpList P ops Q rest (a.put o.dst v) w) : wpList P ops Q (o :: rest) a w :=
  wpList_plain hgd fun _ hK => by
    unfold Oper.wp execOp
    simp only [ho, hx, Instr.loadAt, Instr.sureAddr, Sem.run_bind, Sem.run_pure, Result.andThen_ok, run_loadVar1 w ty ad v hc d hu hd]
    exact hK _ _ h

theorem run_storeVar1 (w : World) (b k : Nat) (ty : TypeId) (v u : Value) (hc : w.cell? ⟨b, k, none⟩ = some u) (hf : w.frozen? ⟨b, k, none⟩ = false) (h1 : v.oneCell' = true) (hi : (P.info? ty).map (·.size) = some 1) :
    (storeVar ty ⟨b, k, none⟩ v).run P w = .ok () (w.setCell ⟨b, k, none⟩ v) := by
  have := run_storeCells_cells (P := P) b k [v] 0 w (fun j hj => by obtain rfl : j = 0 := by simpa using hj
                                                                    simp [hc]) (fun j hj => by obtain rfl : j = 0 := by simpa using hj
                                                                                               simp [hf]) (by simpa using h1)
  have hcs : v.cells = #[v] := by cases v <;> first | rfl | cases h1
  cases hq : P.info? ty with
  | none => simp [hq] at hi
  | some i =>
    have hs : i.size = 1 := by simpa [hq] using hi
    simp only [Nat.add_zero, World.setCells] at this
    simp [storeVar, sizeOf, typeInfo, hq, hcs, hs, this]
theorem wpList_store1 (hgd : o.guard = none) (ty : TypeId) (x y : Operand) (ho : o.op = .store ty x y) {b k : Nat} (hx : a.eval x = .pointer (some ⟨b, k, none⟩)) (v : Value) (hv : a.eval y = v) (u : Value) (hc : w.cell? ⟨b, k, none⟩ = some u) (hf : w.frozen? ⟨b, k, none⟩ = false)
    (h1 : v.oneCell' = true) (hi : (P.info? ty).map (·.size) = some 1) (h : wpList P ops Q rest (a.put o.dst undef) (w.setCell ⟨b, k, none⟩ v)) : wpList P ops Q (o :: rest) a w :=
  wpList_plain hgd fun _ hK => by
    unfold Oper.wp execOp
    simp only [ho, hx, hv, Instr.storeAt, Instr.sureAddr, Sem.run_bind, Sem.run_pure, Result.andThen_ok, run_storeVar1 w b k ty v u hc hf h1 hi]
    exact hK _ _ h
theorem wpList_store_all (hgd : o.guard = none) (ty : TypeId) (x y : Operand) (ho : o.op = .store ty x y) (g : Nat) (hx : a.eval x = .pointer (some ⟨g, 0, none⟩)) (cells : Array Value) (hy : a.eval y = .agg cells)
    (t : TypeId) (old : Array Value) (hg : w.heap[g]? = some (.cells old t (0, 0))) (hold : old.size = cells.size) (hi : (P.info? ty).map (·.size) = some cells.size) (h1 : ∀ v ∈ cells, v.oneCell' = true)
    (h : wpList P ops Q rest (a.put o.dst undef) (w.setRow g cells)) : wpList P ops Q (o :: rest) a w :=
  wpList_store_row hgd ty x y ho g cells hx hy t old hg hi hold (Array.all_eq_true_iff_forall_mem.2 h1) h
theorem Hp.setAll {A B : List Res} {g : Nat} {t : TypeId} {cs : List Value} (h : Hp w0 Fs (A ++ .blk g t cs :: B) w) (cs' : List Value) (_hl : cs'.length = cs.length) : Hp w0 Fs (A ++ .blk g t cs' :: B) (w.setRow g cs'.toArray) := by
  have hb := h.blk (g := g) (t := t) (cs := cs) (by simp)
  refine h.chg ⟨rfl, rfl, rfl, by simp [World.setRow], fun b _ hne => setRow_other w g b _ (fun e => hne (by rw [e]; rfl))⟩ ?_ (fun b hb => .inl hb)
  exact setRow_heap w g _ _ t _ hb
theorem madeOne (v : Value) (n : Nat) : (madeCells #[v] n).toList = List.replicate n v := by
  apply List.ext_getElem
  · simp [madeCells]
  · intro i h1 h2
    simp [madeCells, Nat.mod_one]
/-- make([]T, n): an element of one cell. -/
theorem wpList_make_hp (hgd : o.guard = none) (t : TypeId) (x y : Operand) (ho : o.op = .makeSlice t x y) (e : TypeId) (i : TypeInfo) (z : Value) (ht : P.underlying t = some (.slice e)) (hi : P.info? e = some i) (hz : i.zero = some z) (hzc : z.cells = #[z]) (hs : i.size = 1)
    (n : Nat) (hx : a.eval x = .int .i64 n) (hy : a.eval y = .int .i64 n) (hb : i.bytes * n ≤ 281474976710656) (hn : n ≤ maxLen) (H : Hp w0 Fs L w)
    (h : ∀ g w', Hp w0 Fs (.blk g e (List.replicate n z) :: L) w' → wpList P ops Q rest (a.put o.dst (.slice (some ⟨g, 0, none⟩) n n)) w') : wpList P ops Q (o :: rest) a w := by
  have hb' : (i.bytes : Int) * (n : Int) ≤ 281474976710656 := by
    have : ((i.bytes * n : Nat) : Int) ≤ 281474976710656 := by omega
    rwa [Int.natCast_mul] at this
  have hr := run_make (P := P) (w := w) t e i z ht hi hz .i64 .i64 n n (by omega) (Int.le_refl _) hb' (by unfold maxLen at hn; omega)
  simp only [Int.toNat_natCast, hs, Nat.mul_one, hzc] at hr
  have H' := H.alloc (madeCells #[z] n) e
  rw [madeOne] at H'
  refine Great.wpList_runTo hgd o.dst rfl _ _ ?_ (h _ _ H')
  unfold execOp
  simp only [ho, hx, hy, Sem.run_bind, hr, Sem.run_pure, Result.andThen_ok]
theorem wpList_ints_hp (hgd : o.guard = none) (t e : TypeId) (len : Nat) (parts : Array (Nat × Operand)) (ho : o.op = .buildSlice t len parts) (H : Hp w0 Fs L w) (hu : P.underlying t = some (.slice e)) (ns : List Int)
    (hp : (parts.toList.map fun x => (x.1, a.eval x.2)) = ns.zipIdx.map fun x => (x.2, .int .i64 x.1)) (hf : P.builtSlice e len (ns.zipIdx.map fun x => (x.2, .int .i64 x.1)) = some (ns.map (Value.int .i64)).toArray)
    (h : ∀ g w', Hp w0 Fs (.blk g e (ns.map (Value.int .i64)) :: L) w' → wpList P ops Q rest (a.put o.dst (.slice (some ⟨g, 0, none⟩) len len)) w') : wpList P ops Q (o :: rest) a w :=
  Great.wpList_buildSliceTo hgd t e len parts ho _ rfl o.dst rfl hu _ (by rw [← hf, ← hp]; simp [Array.toList_map]) (h _ _ (by simpa using H.alloc (ns.map (Value.int .i64)).toArray e))
theorem wpList_slice_hp (hgd : o.guard = none) (t e : TypeId) (len : Nat) (parts : Array (Nat × Operand)) (ho : o.op = .buildSlice t len parts) (H : Hp w0 Fs L w) (hu : P.underlying t = some (.slice e)) (cells : Array Value)
    (hf : P.builtSlice e len (parts.map fun (i, x) => (i, a.eval x)).toList = some cells)
    (h : ∀ g w', Hp w0 Fs (.blk g e cells.toList :: L) w' → wpList P ops Q rest (a.put o.dst (.slice (some ⟨g, 0, none⟩) len len)) w') : wpList P ops Q (o :: rest) a w :=
  Great.wpList_buildSliceTo hgd t e len parts ho _ rfl o.dst rfl hu cells hf (h _ _ (H.alloc _ e))

/-- Where a row lies that append has filled. -/
theorem append_block {t ty e : TypeId} {i : TypeInfo} {z : Value} (ht : P.underlying t = some (.slice e)) (hi : P.info? e = some i) (hz : i.zero = some z) (hzs : z.cells.size = i.size) (hsz : 0 < i.size)
    {v v' : Value} {n : Nat} {xs : List Value} (hown : w.ownsRow 0 e i.size v n xs) {ad : Addr} {m c : Nat} {news : List Value} (hl : news.length = m * i.size) (hnews : ∀ j u, news[j]? = some u → w.cell? (ad.add j) = some u) (h1 : ∀ u ∈ news, u.oneCell' = true)
    (h63 : n + m ≤ maxLen) (hbytes : (n + m) * i.bytes ≤ 140737488355328) {w' : World} (hrun : (Builtin.append_ #[t, t] ty #[v, .slice (some ad) m c]).run P w = .ok v' w') :
    ∀ b, v'.ownBlock = some b → v.ownBlock = some b ∨ w.heap.size ≤ b := by
  have hsmall : n + m ≤ 9223372036854775807 := by simp only [maxLen] at h63; omega
  intro b hb
  rcases hown.2 with ⟨rfl, rfl⟩ | ⟨g, cap, cur, rfl, hbg, hg, hnc, hcm, hcs, htake⟩
  · obtain ⟨v2, w2, hr, ho, _⟩ := run_append_own (P := P) (w := w) w.heap.size t ty e i z i.size i.bytes ht hi hz rfl rfl hzs hsz (.slice none 0 0) 0 [] (World.ownsRow_nil _ _ _ _) ad m c news hl hnews h1 h63 hbytes (Nat.le_refl _)
    rw [hrun] at hr
    injection hr with hv hw
    subst hv hw
    exact .inr (ho.lt b hb).1
  · by_cases hroom : n + m ≤ cap
    · have hfit : n * i.size + news.length ≤ cur.size := by rw [hl, hcs, ← Nat.add_mul]; exact Nat.mul_le_mul_right _ hroom
      have hr := run_append_room (P := P) w t ty e i ht hi g n cap cur hg ad m c news hl hnews h1 hroom hfit
      rw [hrun] at hr
      injection hr with hv hw
      subst hv
      exact .inl hb
    · have holds : ∀ j u, xs[j]? = some u → w.cell? ((⟨g, 0, none⟩ : Addr).add j) = some u := hown.cells (g := g) rfl
      have hr := run_append_grow (P := P) w t ty e i z ht hi hz ⟨g, 0, none⟩ n cap xs hown.1 holds ad m c news hl hnews (by omega) (by omega) (growslice_fits (by omega) hbytes)
      rw [hrun] at hr
      injection hr with hv hw
      subst hv
      simp [Value.ownBlock] at hb
      exact .inr (by omega)
theorem wpList_append_hp {A B : List Res} (hgd : o.guard = none) (s x : Operand) (t : TypeId) (ho : o.op = .call { callee := .builtin .append, args := #[s, x], argTypes := #[t, t] })
    {e e' : TypeId} (i : TypeInfo) (z : Value) (ht : P.underlying t = some (.slice e)) (hi : P.info? e = some i) (hz : i.zero = some z) {gi n m c sz bytes : Nat} (hs' : i.size = sz) (hzs : z.cells.size = sz) (hsz : 0 < sz)
    {v : Value} {cs news : List Value} (hby : i.bytes = bytes) (k : Nat) (hk : n + m = k) (H : Hp w0 Fs (.blk gi e' news :: (A ++ .row v e sz n cs :: B)) w) (hs : a.eval s = v) (hx : a.eval x = .slice (some ⟨gi, 0, none⟩) m c) (hl : news.length = m * sz) (h1 : ∀ u ∈ news, u.oneCell' = true)
    (h63 : k ≤ maxLen) (hbytes : k * bytes ≤ 140737488355328)
    (h : ∀ A' c' w', Hp w0 Fs (A ++ .row (.slice A' k c') e sz k (cs ++ news) :: B) w' → wpList P ops Q rest (a.put o.dst (.slice A' k c')) w') : wpList P ops Q (o :: rest) a w := by
  subst hs' hby hk
  have hown := H.row (v := v) (e := e) (sz := i.size) (n := n) (cs := cs) (by simp)
  have hat : ∀ j u, news[j]? = some u → w.cell? ((⟨gi, 0, none⟩ : Addr).add j) = some u := H.blkAt (g := gi) (t := e') (cs := news) (.head _) 0
  obtain ⟨v', w', hr, h2, h3, _⟩ := run_append_own (P := P) (w := w) 0 t o.type e i z i.size i.bytes ht hi hz rfl rfl hzs hsz v n cs hown ⟨gi, 0, none⟩ m c news hl hat h1 h63 hbytes (Nat.zero_le _)
  have hblk := append_block ht hi hz hzs hsz hown hl hat h1 h63 hbytes hr
  have H2 := (Hp.drop (A := []) H).grownRow h3 h2 (fun b hb => by
    rcases hblk b hb with hb' | hb'
    · exact .inl hb'
    · exact .inr ⟨hb', (h2.lt b hb).2⟩)
  have hv' : ∃ A' c', v' = .slice A' (n + m) c' := by
    rcases h2.2 with ⟨rfl, h0⟩ | ⟨g, cap, cur, rfl, _⟩
    · exact ⟨none, 0, by rw [h0]⟩
    · exact ⟨_, _, rfl⟩
  obtain ⟨A', c', rfl⟩ := hv'
  refine wpList_plain hgd fun K hK => ?_
  unfold Oper.wp execOp
  simp only [ho, resolve, invoke, builtin, Sem.run_bind, Sem.run_pure, Result.andThen_ok, List.map_toArray, List.map_cons, List.map_nil, hs, hx, hr]
  exact hK _ _ (h _ _ _ H2)

theorem wpList_ld0 (hgd : o.guard = none) (ty : TypeId) (x : Operand) (ho : o.op = .load ty x) {g k : Nat} {t : TypeId} {cs : List Value} (H : Hp w0 Fs (.blk g t cs :: L) w) (hx : a.eval x = .pointer (some ⟨g, k, none⟩)) {v : Value} (hv : cs[k]? = some v)
    {d : TypeDesc} (hu : P.underlying ty = some d) (hd : d.isRow = false) (h : wpList P ops Q rest (a.put o.dst v) w) : wpList P ops Q (o :: rest) a w :=
  wpList_load1 hgd ty x ho _ hx v (H.cell (t := t) (cs := cs) (by simp) k v hv) d hu hd h
theorem wpList_ldR0 (hgd : o.guard = none) (ty : TypeId) (x : Operand) (ho : o.op = .load ty x) {g : Nat} {t : TypeId} {cs : List Value} (H : Hp w0 Fs (.blk g t cs :: L) w) (hx : a.eval x = .pointer (some ⟨g, 0, none⟩))
    {d : TypeDesc} (hu : P.underlying ty = some d) (hd : d.isRow = true) (hi : (P.info? ty).map (·.size) = some cs.length) (h : wpList P ops Q rest (a.put o.dst (.agg cs.toArray)) w) : wpList P ops Q (o :: rest) a w :=
  wpList_load_at hgd ty x ho _ hx cs d (H.blkAt (t := t) (cs := cs) (by simp) 0) hu hd hi h
theorem Hp.set0 {g : Nat} {t : TypeId} {cs : List Value} (H : Hp w0 Fs (.blk g t cs :: L) w) (k : Nat) (u : Value) : Hp w0 Fs (.blk g t (cs.set k u) :: L) (w.setCell ⟨g, k, none⟩ u) := Hp.set (A := []) H k u
theorem Hp.setAll0 {g : Nat} {t : TypeId} {cs : List Value} (H : Hp w0 Fs (.blk g t cs :: L) w) (cs' : List Value) (hl : cs'.length = cs.length) : Hp w0 Fs (.blk g t cs' :: L) (w.setRow g cs'.toArray) :=
  Hp.setAll (A := []) H cs' hl
theorem wpList_st0 (hgd : o.guard = none) (ty : TypeId) (x y : Operand) (ho : o.op = .store ty x y) {g k : Nat} {t : TypeId} {cs : List Value} (H : Hp w0 Fs (.blk g t cs :: L) w) (hx : a.eval x = .pointer (some ⟨g, k, none⟩)) {v : Value} (hv : a.eval y = v) (hk : k < cs.length) (h1 : v.oneCell' = true)
    {cs' : List Value} (hcs : cs.set k v = cs') (hi : (P.info? ty).map (·.size) = some 1)
    (h : ∀ w', Hp w0 Fs (.blk g t cs' :: L) w' → wpList P ops Q rest (a.put o.dst undef) w') : wpList P ops Q (o :: rest) a w := by
  subst hcs
  exact wpList_store1 hgd ty x y ho hx v hv cs[k] (H.cell (t := t) (cs := cs) (by simp) k _ (List.getElem?_eq_getElem hk)) (H.free (t := t) (cs := cs) (by simp) k) h1 hi (h _ (H.set0 k v))
theorem wpList_stR0 (hgd : o.guard = none) (ty : TypeId) (x y : Operand) (ho : o.op = .store ty x y) {g : Nat} {t : TypeId} {cs : List Value} (H : Hp w0 Fs (.blk g t cs :: L) w) (hx : a.eval x = .pointer (some ⟨g, 0, none⟩)) {cs' : List Value} (hv : a.eval y = .agg cs'.toArray) (hl : cs'.length = cs.length) (h1 : ∀ u ∈ cs', u.oneCell' = true)
    (hi : (P.info? ty).map (·.size) = some cs'.length)
    (h : ∀ w', Hp w0 Fs (.blk g t cs' :: L) w' → wpList P ops Q rest (a.put o.dst undef) w') : wpList P ops Q (o :: rest) a w :=
  wpList_store_all hgd ty x y ho g hx cs'.toArray hv t cs.toArray (H.blk (t := t) (cs := cs) (by simp)) (by simpa using hl.symm) (by simpa using hi) (by simpa using h1) (h _ (H.setAll0 cs' hl))

theorem wpList_ld1 {r0 : Res} (hgd : o.guard = none) (ty : TypeId) (x : Operand) (ho : o.op = .load ty x) {g k : Nat} {t : TypeId} {cs : List Value} (H : Hp w0 Fs (r0 :: .blk g t cs :: L) w) (hx : a.eval x = .pointer (some ⟨g, k, none⟩)) {v : Value} (hv : cs[k]? = some v)
    {d : TypeDesc} (hu : P.underlying ty = some d) (hd : d.isRow = false) (h : wpList P ops Q rest (a.put o.dst v) w) : wpList P ops Q (o :: rest) a w :=
  wpList_load1 hgd ty x ho _ hx v (H.cell (t := t) (cs := cs) (by simp) k v hv) d hu hd h
theorem wpList_ldR1 {r0 : Res} (hgd : o.guard = none) (ty : TypeId) (x : Operand) (ho : o.op = .load ty x) {g : Nat} {t : TypeId} {cs : List Value} (H : Hp w0 Fs (r0 :: .blk g t cs :: L) w) (hx : a.eval x = .pointer (some ⟨g, 0, none⟩))
    {d : TypeDesc} (hu : P.underlying ty = some d) (hd : d.isRow = true) (hi : (P.info? ty).map (·.size) = some cs.length) (h : wpList P ops Q rest (a.put o.dst (.agg cs.toArray)) w) : wpList P ops Q (o :: rest) a w :=
  wpList_load_at hgd ty x ho _ hx cs d (H.blkAt (t := t) (cs := cs) (by simp) 0) hu hd hi h
theorem Hp.set1 {r0 : Res} {g : Nat} {t : TypeId} {cs : List Value} (H : Hp w0 Fs (r0 :: .blk g t cs :: L) w) (k : Nat) (u : Value) : Hp w0 Fs (r0 :: .blk g t (cs.set k u) :: L) (w.setCell ⟨g, k, none⟩ u) := Hp.set (A := [r0]) H k u
theorem Hp.setAll1 {r0 : Res} {g : Nat} {t : TypeId} {cs : List Value} (H : Hp w0 Fs (r0 :: .blk g t cs :: L) w) (cs' : List Value) (hl : cs'.length = cs.length) : Hp w0 Fs (r0 :: .blk g t cs' :: L) (w.setRow g cs'.toArray) :=
  Hp.setAll (A := [r0]) H cs' hl
theorem wpList_st1 {r0 : Res} (hgd : o.guard = none) (ty : TypeId) (x y : Operand) (ho : o.op = .store ty x y) {g k : Nat} {t : TypeId} {cs : List Value} (H : Hp w0 Fs (r0 :: .blk g t cs :: L) w) (hx : a.eval x = .pointer (some ⟨g, k, none⟩)) {v : Value} (hv : a.eval y = v) (hk : k < cs.length) (h1 : v.oneCell' = true)
    {cs' : List Value} (hcs : cs.set k v = cs') (hi : (P.info? ty).map (·.size) = some 1)
    (h : ∀ w', Hp w0 Fs (r0 :: .blk g t cs' :: L) w' → wpList P ops Q rest (a.put o.dst undef) w') : wpList P ops Q (o :: rest) a w := by
  subst hcs
  exact wpList_store1 hgd ty x y ho hx v hv cs[k] (H.cell (t := t) (cs := cs) (by simp) k _ (List.getElem?_eq_getElem hk)) (H.free (t := t) (cs := cs) (by simp) k) h1 hi (h _ (H.set1 k v))
theorem wpList_stR1 {r0 : Res} (hgd : o.guard = none) (ty : TypeId) (x y : Operand) (ho : o.op = .store ty x y) {g : Nat} {t : TypeId} {cs : List Value} (H : Hp w0 Fs (r0 :: .blk g t cs :: L) w) (hx : a.eval x = .pointer (some ⟨g, 0, none⟩)) {cs' : List Value} (hv : a.eval y = .agg cs'.toArray) (hl : cs'.length = cs.length) (h1 : ∀ u ∈ cs', u.oneCell' = true)
    (hi : (P.info? ty).map (·.size) = some cs'.length)
    (h : ∀ w', Hp w0 Fs (r0 :: .blk g t cs' :: L) w' → wpList P ops Q rest (a.put o.dst undef) w') : wpList P ops Q (o :: rest) a w :=
  wpList_store_all hgd ty x y ho g hx cs'.toArray hv t cs.toArray (H.blk (t := t) (cs := cs) (by simp)) (by simpa using hl.symm) (by simpa using hi) (by simpa using h1) (h _ (H.setAll1 cs' hl))

theorem wpList_ld2 {r0 r1 : Res} (hgd : o.guard = none) (ty : TypeId) (x : Operand) (ho : o.op = .load ty x) {g k : Nat} {t : TypeId} {cs : List Value} (H : Hp w0 Fs (r0 :: r1 :: .blk g t cs :: L) w) (hx : a.eval x = .pointer (some ⟨g, k, none⟩)) {v : Value} (hv : cs[k]? = some v)
    {d : TypeDesc} (hu : P.underlying ty = some d) (hd : d.isRow = false) (h : wpList P ops Q rest (a.put o.dst v) w) : wpList P ops Q (o :: rest) a w :=
  wpList_load1 hgd ty x ho _ hx v (H.cell (t := t) (cs := cs) (by simp) k v hv) d hu hd h
theorem wpList_ldR2 {r0 r1 : Res} (hgd : o.guard = none) (ty : TypeId) (x : Operand) (ho : o.op = .load ty x) {g : Nat} {t : TypeId} {cs : List Value} (H : Hp w0 Fs (r0 :: r1 :: .blk g t cs :: L) w) (hx : a.eval x = .pointer (some ⟨g, 0, none⟩))
    {d : TypeDesc} (hu : P.underlying ty = some d) (hd : d.isRow = true) (hi : (P.info? ty).map (·.size) = some cs.length) (h : wpList P ops Q rest (a.put o.dst (.agg cs.toArray)) w) : wpList P ops Q (o :: rest) a w :=
  wpList_load_at hgd ty x ho _ hx cs d (H.blkAt (t := t) (cs := cs) (by simp) 0) hu hd hi h
theorem Hp.set2 {r0 r1 : Res} {g : Nat} {t : TypeId} {cs : List Value} (H : Hp w0 Fs (r0 :: r1 :: .blk g t cs :: L) w) (k : Nat) (u : Value) : Hp w0 Fs (r0 :: r1 :: .blk g t (cs.set k u) :: L) (w.setCell ⟨g, k, none⟩ u) := Hp.set (A := [r0, r1]) H k u
theorem Hp.setAll2 {r0 r1 : Res} {g : Nat} {t : TypeId} {cs : List Value} (H : Hp w0 Fs (r0 :: r1 :: .blk g t cs :: L) w) (cs' : List Value) (hl : cs'.length = cs.length) : Hp w0 Fs (r0 :: r1 :: .blk g t cs' :: L) (w.setRow g cs'.toArray) :=
  Hp.setAll (A := [r0, r1]) H cs' hl
theorem wpList_st2 {r0 r1 : Res} (hgd : o.guard = none) (ty : TypeId) (x y : Operand) (ho : o.op = .store ty x y) {g k : Nat} {t : TypeId} {cs : List Value} (H : Hp w0 Fs (r0 :: r1 :: .blk g t cs :: L) w) (hx : a.eval x = .pointer (some ⟨g, k, none⟩)) {v : Value} (hv : a.eval y = v) (hk : k < cs.length) (h1 : v.oneCell' = true)
    {cs' : List Value} (hcs : cs.set k v = cs') (hi : (P.info? ty).map (·.size) = some 1)
    (h : ∀ w', Hp w0 Fs (r0 :: r1 :: .blk g t cs' :: L) w' → wpList P ops Q rest (a.put o.dst undef) w') : wpList P ops Q (o :: rest) a w := by
  subst hcs
  exact wpList_store1 hgd ty x y ho hx v hv cs[k] (H.cell (t := t) (cs := cs) (by simp) k _ (List.getElem?_eq_getElem hk)) (H.free (t := t) (cs := cs) (by simp) k) h1 hi (h _ (H.set2 k v))
theorem wpList_stR2 {r0 r1 : Res} (hgd : o.guard = none) (ty : TypeId) (x y : Operand) (ho : o.op = .store ty x y) {g : Nat} {t : TypeId} {cs : List Value} (H : Hp w0 Fs (r0 :: r1 :: .blk g t cs :: L) w) (hx : a.eval x = .pointer (some ⟨g, 0, none⟩)) {cs' : List Value} (hv : a.eval y = .agg cs'.toArray) (hl : cs'.length = cs.length) (h1 : ∀ u ∈ cs', u.oneCell' = true)
    (hi : (P.info? ty).map (·.size) = some cs'.length)
    (h : ∀ w', Hp w0 Fs (r0 :: r1 :: .blk g t cs' :: L) w' → wpList P ops Q rest (a.put o.dst undef) w') : wpList P ops Q (o :: rest) a w :=
  wpList_store_all hgd ty x y ho g hx cs'.toArray hv t cs.toArray (H.blk (t := t) (cs := cs) (by simp)) (by simpa using hl.symm) (by simpa using hi) (by simpa using h1) (h _ (H.setAll2 cs' hl))

theorem wpList_ld3 {r0 r1 r2 : Res} (hgd : o.guard = none) (ty : TypeId) (x : Operand) (ho : o.op = .load ty x) {g k : Nat} {t : TypeId} {cs : List Value} (H : Hp w0 Fs (r0 :: r1 :: r2 :: .blk g t cs :: L) w) (hx : a.eval x = .pointer (some ⟨g, k, none⟩)) {v : Value} (hv : cs[k]? = some v)
    {d : TypeDesc} (hu : P.underlying ty = some d) (hd : d.isRow = false) (h : wpList P ops Q rest (a.put o.dst v) w) : wpList P ops Q (o :: rest) a w :=
  wpList_load1 hgd ty x ho _ hx v (H.cell (t := t) (cs := cs) (by simp) k v hv) d hu hd h
theorem wpList_ldR3 {r0 r1 r2 : Res} (hgd : o.guard = none) (ty : TypeId) (x : Operand) (ho : o.op = .load ty x) {g : Nat} {t : TypeId} {cs : List Value} (H : Hp w0 Fs (r0 :: r1 :: r2 :: .blk g t cs :: L) w) (hx : a.eval x = .pointer (some ⟨g, 0, none⟩))
    {d : TypeDesc} (hu : P.underlying ty = some d) (hd : d.isRow = true) (hi : (P.info? ty).map (·.size) = some cs.length) (h : wpList P ops Q rest (a.put o.dst (.agg cs.toArray)) w) : wpList P ops Q (o :: rest) a w :=
  wpList_load_at hgd ty x ho _ hx cs d (H.blkAt (t := t) (cs := cs) (by simp) 0) hu hd hi h
theorem Hp.set3 {r0 r1 r2 : Res} {g : Nat} {t : TypeId} {cs : List Value} (H : Hp w0 Fs (r0 :: r1 :: r2 :: .blk g t cs :: L) w) (k : Nat) (u : Value) : Hp w0 Fs (r0 :: r1 :: r2 :: .blk g t (cs.set k u) :: L) (w.setCell ⟨g, k, none⟩ u) := Hp.set (A := [r0, r1, r2]) H k u
theorem Hp.setAll3 {r0 r1 r2 : Res} {g : Nat} {t : TypeId} {cs : List Value} (H : Hp w0 Fs (r0 :: r1 :: r2 :: .blk g t cs :: L) w) (cs' : List Value) (hl : cs'.length = cs.length) : Hp w0 Fs (r0 :: r1 :: r2 :: .blk g t cs' :: L) (w.setRow g cs'.toArray) :=
  Hp.setAll (A := [r0, r1, r2]) H cs' hl
theorem wpList_st3 {r0 r1 r2 : Res} (hgd : o.guard = none) (ty : TypeId) (x y : Operand) (ho : o.op = .store ty x y) {g k : Nat} {t : TypeId} {cs : List Value} (H : Hp w0 Fs (r0 :: r1 :: r2 :: .blk g t cs :: L) w) (hx : a.eval x = .pointer (some ⟨g, k, none⟩)) {v : Value} (hv : a.eval y = v) (hk : k < cs.length) (h1 : v.oneCell' = true)
    {cs' : List Value} (hcs : cs.set k v = cs') (hi : (P.info? ty).map (·.size) = some 1)
    (h : ∀ w', Hp w0 Fs (r0 :: r1 :: r2 :: .blk g t cs' :: L) w' → wpList P ops Q rest (a.put o.dst undef) w') : wpList P ops Q (o :: rest) a w := by
  subst hcs
  exact wpList_store1 hgd ty x y ho hx v hv cs[k] (H.cell (t := t) (cs := cs) (by simp) k _ (List.getElem?_eq_getElem hk)) (H.free (t := t) (cs := cs) (by simp) k) h1 hi (h _ (H.set3 k v))
theorem wpList_stR3 {r0 r1 r2 : Res} (hgd : o.guard = none) (ty : TypeId) (x y : Operand) (ho : o.op = .store ty x y) {g : Nat} {t : TypeId} {cs : List Value} (H : Hp w0 Fs (r0 :: r1 :: r2 :: .blk g t cs :: L) w) (hx : a.eval x = .pointer (some ⟨g, 0, none⟩)) {cs' : List Value} (hv : a.eval y = .agg cs'.toArray) (hl : cs'.length = cs.length) (h1 : ∀ u ∈ cs', u.oneCell' = true)
    (hi : (P.info? ty).map (·.size) = some cs'.length)
    (h : ∀ w', Hp w0 Fs (r0 :: r1 :: r2 :: .blk g t cs' :: L) w' → wpList P ops Q rest (a.put o.dst undef) w') : wpList P ops Q (o :: rest) a w :=
  wpList_store_all hgd ty x y ho g hx cs'.toArray hv t cs.toArray (H.blk (t := t) (cs := cs) (by simp)) (by simpa using hl.symm) (by simpa using hi) (by simpa using h1) (h _ (H.setAll3 cs' hl))

theorem wpList_ld4 {r0 r1 r2 r3 : Res} (hgd : o.guard = none) (ty : TypeId) (x : Operand) (ho : o.op = .load ty x) {g k : Nat} {t : TypeId} {cs : List Value} (H : Hp w0 Fs (r0 :: r1 :: r2 :: r3 :: .blk g t cs :: L) w) (hx : a.eval x = .pointer (some ⟨g, k, none⟩)) {v : Value} (hv : cs[k]? = some v)
    {d : TypeDesc} (hu : P.underlying ty = some d) (hd : d.isRow = false) (h : wpList P ops Q rest (a.put o.dst v) w) : wpList P ops Q (o :: rest) a w :=
  wpList_load1 hgd ty x ho _ hx v (H.cell (t := t) (cs := cs) (by simp) k v hv) d hu hd h
theorem wpList_ldR4 {r0 r1 r2 r3 : Res} (hgd : o.guard = none) (ty : TypeId) (x : Operand) (ho : o.op = .load ty x) {g : Nat} {t : TypeId} {cs : List Value} (H : Hp w0 Fs (r0 :: r1 :: r2 :: r3 :: .blk g t cs :: L) w) (hx : a.eval x = .pointer (some ⟨g, 0, none⟩))
    {d : TypeDesc} (hu : P.underlying ty = some d) (hd : d.isRow = true) (hi : (P.info? ty).map (·.size) = some cs.length) (h : wpList P ops Q rest (a.put o.dst (.agg cs.toArray)) w) : wpList P ops Q (o :: rest) a w :=
  wpList_load_at hgd ty x ho _ hx cs d (H.blkAt (t := t) (cs := cs) (by simp) 0) hu hd hi h
theorem Hp.set4 {r0 r1 r2 r3 : Res} {g : Nat} {t : TypeId} {cs : List Value} (H : Hp w0 Fs (r0 :: r1 :: r2 :: r3 :: .blk g t cs :: L) w) (k : Nat) (u : Value) : Hp w0 Fs (r0 :: r1 :: r2 :: r3 :: .blk g t (cs.set k u) :: L) (w.setCell ⟨g, k, none⟩ u) := Hp.set (A := [r0, r1, r2, r3]) H k u
theorem Hp.setAll4 {r0 r1 r2 r3 : Res} {g : Nat} {t : TypeId} {cs : List Value} (H : Hp w0 Fs (r0 :: r1 :: r2 :: r3 :: .blk g t cs :: L) w) (cs' : List Value) (hl : cs'.length = cs.length) : Hp w0 Fs (r0 :: r1 :: r2 :: r3 :: .blk g t cs' :: L) (w.setRow g cs'.toArray) :=
  Hp.setAll (A := [r0, r1, r2, r3]) H cs' hl
theorem wpList_st4 {r0 r1 r2 r3 : Res} (hgd : o.guard = none) (ty : TypeId) (x y : Operand) (ho : o.op = .store ty x y) {g k : Nat} {t : TypeId} {cs : List Value} (H : Hp w0 Fs (r0 :: r1 :: r2 :: r3 :: .blk g t cs :: L) w) (hx : a.eval x = .pointer (some ⟨g, k, none⟩)) {v : Value} (hv : a.eval y = v) (hk : k < cs.length) (h1 : v.oneCell' = true)
    {cs' : List Value} (hcs : cs.set k v = cs') (hi : (P.info? ty).map (·.size) = some 1)
    (h : ∀ w', Hp w0 Fs (r0 :: r1 :: r2 :: r3 :: .blk g t cs' :: L) w' → wpList P ops Q rest (a.put o.dst undef) w') : wpList P ops Q (o :: rest) a w := by
  subst hcs
  exact wpList_store1 hgd ty x y ho hx v hv cs[k] (H.cell (t := t) (cs := cs) (by simp) k _ (List.getElem?_eq_getElem hk)) (H.free (t := t) (cs := cs) (by simp) k) h1 hi (h _ (H.set4 k v))
theorem wpList_stR4 {r0 r1 r2 r3 : Res} (hgd : o.guard = none) (ty : TypeId) (x y : Operand) (ho : o.op = .store ty x y) {g : Nat} {t : TypeId} {cs : List Value} (H : Hp w0 Fs (r0 :: r1 :: r2 :: r3 :: .blk g t cs :: L) w) (hx : a.eval x = .pointer (some ⟨g, 0, none⟩)) {cs' : List Value} (hv : a.eval y = .agg cs'.toArray) (hl : cs'.length = cs.length) (h1 : ∀ u ∈ cs', u.oneCell' = true)
    (hi : (P.info? ty).map (·.size) = some cs'.length)
    (h : ∀ w', Hp w0 Fs (r0 :: r1 :: r2 :: r3 :: .blk g t cs' :: L) w' → wpList P ops Q rest (a.put o.dst undef) w') : wpList P ops Q (o :: rest) a w :=
  wpList_store_all hgd ty x y ho g hx cs'.toArray hv t cs.toArray (H.blk (t := t) (cs := cs) (by simp)) (by simpa using hl.symm) (by simpa using hi) (by simpa using h1) (h _ (H.setAll4 cs' hl))

theorem wpList_ld5 {r0 r1 r2 r3 r4 : Res} (hgd : o.guard = none) (ty : TypeId) (x : Operand) (ho : o.op = .load ty x) {g k : Nat} {t : TypeId} {cs : List Value} (H : Hp w0 Fs (r0 :: r1 :: r2 :: r3 :: r4 :: .blk g t cs :: L) w) (hx : a.eval x = .pointer (some ⟨g, k, none⟩)) {v : Value} (hv : cs[k]? = some v)
    {d : TypeDesc} (hu : P.underlying ty = some d) (hd : d.isRow = false) (h : wpList P ops Q rest (a.put o.dst v) w) : wpList P ops Q (o :: rest) a w :=
  wpList_load1 hgd ty x ho _ hx v (H.cell (t := t) (cs := cs) (by simp) k v hv) d hu hd h
theorem wpList_ldR5 {r0 r1 r2 r3 r4 : Res} (hgd : o.guard = none) (ty : TypeId) (x : Operand) (ho : o.op = .load ty x) {g : Nat} {t : TypeId} {cs : List Value} (H : Hp w0 Fs (r0 :: r1 :: r2 :: r3 :: r4 :: .blk g t cs :: L) w) (hx : a.eval x = .pointer (some ⟨g, 0, none⟩))
    {d : TypeDesc} (hu : P.underlying ty = some d) (hd : d.isRow = true) (hi : (P.info? ty).map (·.size) = some cs.length) (h : wpList P ops Q rest (a.put o.dst (.agg cs.toArray)) w) : wpList P ops Q (o :: rest) a w :=
  wpList_load_at hgd ty x ho _ hx cs d (H.blkAt (t := t) (cs := cs) (by simp) 0) hu hd hi h
theorem Hp.set5 {r0 r1 r2 r3 r4 : Res} {g : Nat} {t : TypeId} {cs : List Value} (H : Hp w0 Fs (r0 :: r1 :: r2 :: r3 :: r4 :: .blk g t cs :: L) w) (k : Nat) (u : Value) : Hp w0 Fs (r0 :: r1 :: r2 :: r3 :: r4 :: .blk g t (cs.set k u) :: L) (w.setCell ⟨g, k, none⟩ u) := Hp.set (A := [r0, r1, r2, r3, r4]) H k u
theorem Hp.setAll5 {r0 r1 r2 r3 r4 : Res} {g : Nat} {t : TypeId} {cs : List Value} (H : Hp w0 Fs (r0 :: r1 :: r2 :: r3 :: r4 :: .blk g t cs :: L) w) (cs' : List Value) (hl : cs'.length = cs.length) : Hp w0 Fs (r0 :: r1 :: r2 :: r3 :: r4 :: .blk g t cs' :: L) (w.setRow g cs'.toArray) :=
  Hp.setAll (A := [r0, r1, r2, r3, r4]) H cs' hl
theorem wpList_st5 {r0 r1 r2 r3 r4 : Res} (hgd : o.guard = none) (ty : TypeId) (x y : Operand) (ho : o.op = .store ty x y) {g k : Nat} {t : TypeId} {cs : List Value} (H : Hp w0 Fs (r0 :: r1 :: r2 :: r3 :: r4 :: .blk g t cs :: L) w) (hx : a.eval x = .pointer (some ⟨g, k, none⟩)) {v : Value} (hv : a.eval y = v) (hk : k < cs.length) (h1 : v.oneCell' = true)
    {cs' : List Value} (hcs : cs.set k v = cs') (hi : (P.info? ty).map (·.size) = some 1)
    (h : ∀ w', Hp w0 Fs (r0 :: r1 :: r2 :: r3 :: r4 :: .blk g t cs' :: L) w' → wpList P ops Q rest (a.put o.dst undef) w') : wpList P ops Q (o :: rest) a w := by
  subst hcs
  exact wpList_store1 hgd ty x y ho hx v hv cs[k] (H.cell (t := t) (cs := cs) (by simp) k _ (List.getElem?_eq_getElem hk)) (H.free (t := t) (cs := cs) (by simp) k) h1 hi (h _ (H.set5 k v))
theorem wpList_stR5 {r0 r1 r2 r3 r4 : Res} (hgd : o.guard = none) (ty : TypeId) (x y : Operand) (ho : o.op = .store ty x y) {g : Nat} {t : TypeId} {cs : List Value} (H : Hp w0 Fs (r0 :: r1 :: r2 :: r3 :: r4 :: .blk g t cs :: L) w) (hx : a.eval x = .pointer (some ⟨g, 0, none⟩)) {cs' : List Value} (hv : a.eval y = .agg cs'.toArray) (hl : cs'.length = cs.length) (h1 : ∀ u ∈ cs', u.oneCell' = true)
    (hi : (P.info? ty).map (·.size) = some cs'.length)
    (h : ∀ w', Hp w0 Fs (r0 :: r1 :: r2 :: r3 :: r4 :: .blk g t cs' :: L) w' → wpList P ops Q rest (a.put o.dst undef) w') : wpList P ops Q (o :: rest) a w :=
  wpList_store_all hgd ty x y ho g hx cs'.toArray hv t cs.toArray (H.blk (t := t) (cs := cs) (by simp)) (by simpa using hl.symm) (by simpa using hi) (by simpa using h1) (h _ (H.setAll5 cs' hl))

theorem wpList_ld6 {r0 r1 r2 r3 r4 r5 : Res} (hgd : o.guard = none) (ty : TypeId) (x : Operand) (ho : o.op = .load ty x) {g k : Nat} {t : TypeId} {cs : List Value} (H : Hp w0 Fs (r0 :: r1 :: r2 :: r3 :: r4 :: r5 :: .blk g t cs :: L) w) (hx : a.eval x = .pointer (some ⟨g, k, none⟩)) {v : Value} (hv : cs[k]? = some v)
    {d : TypeDesc} (hu : P.underlying ty = some d) (hd : d.isRow = false) (h : wpList P ops Q rest (a.put o.dst v) w) : wpList P ops Q (o :: rest) a w :=
  wpList_load1 hgd ty x ho _ hx v (H.cell (t := t) (cs := cs) (by simp) k v hv) d hu hd h
theorem wpList_ldR6 {r0 r1 r2 r3 r4 r5 : Res} (hgd : o.guard = none) (ty : TypeId) (x : Operand) (ho : o.op = .load ty x) {g : Nat} {t : TypeId} {cs : List Value} (H : Hp w0 Fs (r0 :: r1 :: r2 :: r3 :: r4 :: r5 :: .blk g t cs :: L) w) (hx : a.eval x = .pointer (some ⟨g, 0, none⟩))
    {d : TypeDesc} (hu : P.underlying ty = some d) (hd : d.isRow = true) (hi : (P.info? ty).map (·.size) = some cs.length) (h : wpList P ops Q rest (a.put o.dst (.agg cs.toArray)) w) : wpList P ops Q (o :: rest) a w :=
  wpList_load_at hgd ty x ho _ hx cs d (H.blkAt (t := t) (cs := cs) (by simp) 0) hu hd hi h
theorem Hp.set6 {r0 r1 r2 r3 r4 r5 : Res} {g : Nat} {t : TypeId} {cs : List Value} (H : Hp w0 Fs (r0 :: r1 :: r2 :: r3 :: r4 :: r5 :: .blk g t cs :: L) w) (k : Nat) (u : Value) : Hp w0 Fs (r0 :: r1 :: r2 :: r3 :: r4 :: r5 :: .blk g t (cs.set k u) :: L) (w.setCell ⟨g, k, none⟩ u) := Hp.set (A := [r0, r1, r2, r3, r4, r5]) H k u
theorem Hp.setAll6 {r0 r1 r2 r3 r4 r5 : Res} {g : Nat} {t : TypeId} {cs : List Value} (H : Hp w0 Fs (r0 :: r1 :: r2 :: r3 :: r4 :: r5 :: .blk g t cs :: L) w) (cs' : List Value) (hl : cs'.length = cs.length) : Hp w0 Fs (r0 :: r1 :: r2 :: r3 :: r4 :: r5 :: .blk g t cs' :: L) (w.setRow g cs'.toArray) :=
  Hp.setAll (A := [r0, r1, r2, r3, r4, r5]) H cs' hl
theorem wpList_st6 {r0 r1 r2 r3 r4 r5 : Res} (hgd : o.guard = none) (ty : TypeId) (x y : Operand) (ho : o.op = .store ty x y) {g k : Nat} {t : TypeId} {cs : List Value} (H : Hp w0 Fs (r0 :: r1 :: r2 :: r3 :: r4 :: r5 :: .blk g t cs :: L) w) (hx : a.eval x = .pointer (some ⟨g, k, none⟩)) {v : Value} (hv : a.eval y = v) (hk : k < cs.length) (h1 : v.oneCell' = true)
    {cs' : List Value} (hcs : cs.set k v = cs') (hi : (P.info? ty).map (·.size) = some 1)
    (h : ∀ w', Hp w0 Fs (r0 :: r1 :: r2 :: r3 :: r4 :: r5 :: .blk g t cs' :: L) w' → wpList P ops Q rest (a.put o.dst undef) w') : wpList P ops Q (o :: rest) a w := by
  subst hcs
  exact wpList_store1 hgd ty x y ho hx v hv cs[k] (H.cell (t := t) (cs := cs) (by simp) k _ (List.getElem?_eq_getElem hk)) (H.free (t := t) (cs := cs) (by simp) k) h1 hi (h _ (H.set6 k v))
theorem wpList_stR6 {r0 r1 r2 r3 r4 r5 : Res} (hgd : o.guard = none) (ty : TypeId) (x y : Operand) (ho : o.op = .store ty x y) {g : Nat} {t : TypeId} {cs : List Value} (H : Hp w0 Fs (r0 :: r1 :: r2 :: r3 :: r4 :: r5 :: .blk g t cs :: L) w) (hx : a.eval x = .pointer (some ⟨g, 0, none⟩)) {cs' : List Value} (hv : a.eval y = .agg cs'.toArray) (hl : cs'.length = cs.length) (h1 : ∀ u ∈ cs', u.oneCell' = true)
    (hi : (P.info? ty).map (·.size) = some cs'.length)
    (h : ∀ w', Hp w0 Fs (r0 :: r1 :: r2 :: r3 :: r4 :: r5 :: .blk g t cs' :: L) w' → wpList P ops Q rest (a.put o.dst undef) w') : wpList P ops Q (o :: rest) a w :=
  wpList_store_all hgd ty x y ho g hx cs'.toArray hv t cs.toArray (H.blk (t := t) (cs := cs) (by simp)) (by simpa using hl.symm) (by simpa using hi) (by simpa using h1) (h _ (H.setAll6 cs' hl))

theorem wpList_ld7 {r0 r1 r2 r3 r4 r5 r6 : Res} (hgd : o.guard = none) (ty : TypeId) (x : Operand) (ho : o.op = .load ty x) {g k : Nat} {t : TypeId} {cs : List Value} (H : Hp w0 Fs (r0 :: r1 :: r2 :: r3 :: r4 :: r5 :: r6 :: .blk g t cs :: L) w) (hx : a.eval x = .pointer (some ⟨g, k, none⟩)) {v : Value} (hv : cs[k]? = some v)
    {d : TypeDesc} (hu : P.underlying ty = some d) (hd : d.isRow = false) (h : wpList P ops Q rest (a.put o.dst v) w) : wpList P ops Q (o :: rest) a w :=
  wpList_load1 hgd ty x ho _ hx v (H.cell (t := t) (cs := cs) (by simp) k v hv) d hu hd h
theorem wpList_ldR7 {r0 r1 r2 r3 r4 r5 r6 : Res} (hgd : o.guard = none) (ty : TypeId) (x : Operand) (ho : o.op = .load ty x) {g : Nat} {t : TypeId} {cs : List Value} (H : Hp w0 Fs (r0 :: r1 :: r2 :: r3 :: r4 :: r5 :: r6 :: .blk g t cs :: L) w) (hx : a.eval x = .pointer (some ⟨g, 0, none⟩))
    {d : TypeDesc} (hu : P.underlying ty = some d) (hd : d.isRow = true) (hi : (P.info? ty).map (·.size) = some cs.length) (h : wpList P ops Q rest (a.put o.dst (.agg cs.toArray)) w) : wpList P ops Q (o :: rest) a w :=
  wpList_load_at hgd ty x ho _ hx cs d (H.blkAt (t := t) (cs := cs) (by simp) 0) hu hd hi h
theorem Hp.set7 {r0 r1 r2 r3 r4 r5 r6 : Res} {g : Nat} {t : TypeId} {cs : List Value} (H : Hp w0 Fs (r0 :: r1 :: r2 :: r3 :: r4 :: r5 :: r6 :: .blk g t cs :: L) w) (k : Nat) (u : Value) : Hp w0 Fs (r0 :: r1 :: r2 :: r3 :: r4 :: r5 :: r6 :: .blk g t (cs.set k u) :: L) (w.setCell ⟨g, k, none⟩ u) := Hp.set (A := [r0, r1, r2, r3, r4, r5, r6]) H k u
theorem Hp.setAll7 {r0 r1 r2 r3 r4 r5 r6 : Res} {g : Nat} {t : TypeId} {cs : List Value} (H : Hp w0 Fs (r0 :: r1 :: r2 :: r3 :: r4 :: r5 :: r6 :: .blk g t cs :: L) w) (cs' : List Value) (hl : cs'.length = cs.length) : Hp w0 Fs (r0 :: r1 :: r2 :: r3 :: r4 :: r5 :: r6 :: .blk g t cs' :: L) (w.setRow g cs'.toArray) :=
  Hp.setAll (A := [r0, r1, r2, r3, r4, r5, r6]) H cs' hl
theorem wpList_st7 {r0 r1 r2 r3 r4 r5 r6 : Res} (hgd : o.guard = none) (ty : TypeId) (x y : Operand) (ho : o.op = .store ty x y) {g k : Nat} {t : TypeId} {cs : List Value} (H : Hp w0 Fs (r0 :: r1 :: r2 :: r3 :: r4 :: r5 :: r6 :: .blk g t cs :: L) w) (hx : a.eval x = .pointer (some ⟨g, k, none⟩)) {v : Value} (hv : a.eval y = v) (hk : k < cs.length) (h1 : v.oneCell' = true)
    {cs' : List Value} (hcs : cs.set k v = cs') (hi : (P.info? ty).map (·.size) = some 1)
    (h : ∀ w', Hp w0 Fs (r0 :: r1 :: r2 :: r3 :: r4 :: r5 :: r6 :: .blk g t cs' :: L) w' → wpList P ops Q rest (a.put o.dst undef) w') : wpList P ops Q (o :: rest) a w := by
  subst hcs
  exact wpList_store1 hgd ty x y ho hx v hv cs[k] (H.cell (t := t) (cs := cs) (by simp) k _ (List.getElem?_eq_getElem hk)) (H.free (t := t) (cs := cs) (by simp) k) h1 hi (h _ (H.set7 k v))
theorem wpList_stR7 {r0 r1 r2 r3 r4 r5 r6 : Res} (hgd : o.guard = none) (ty : TypeId) (x y : Operand) (ho : o.op = .store ty x y) {g : Nat} {t : TypeId} {cs : List Value} (H : Hp w0 Fs (r0 :: r1 :: r2 :: r3 :: r4 :: r5 :: r6 :: .blk g t cs :: L) w) (hx : a.eval x = .pointer (some ⟨g, 0, none⟩)) {cs' : List Value} (hv : a.eval y = .agg cs'.toArray) (hl : cs'.length = cs.length) (h1 : ∀ u ∈ cs', u.oneCell' = true)
    (hi : (P.info? ty).map (·.size) = some cs'.length)
    (h : ∀ w', Hp w0 Fs (r0 :: r1 :: r2 :: r3 :: r4 :: r5 :: r6 :: .blk g t cs' :: L) w' → wpList P ops Q rest (a.put o.dst undef) w') : wpList P ops Q (o :: rest) a w :=
  wpList_store_all hgd ty x y ho g hx cs'.toArray hv t cs.toArray (H.blk (t := t) (cs := cs) (by simp)) (by simpa using hl.symm) (by simpa using hi) (by simpa using h1) (h _ (H.setAll7 cs' hl))

theorem wpList_app0 (hgd : o.guard = none) (s x : Operand) (t : TypeId) (ho : o.op = .call { callee := .builtin .append, args := #[s, x], argTypes := #[t, t] })
    {e e' : TypeId} (i : TypeInfo) (z : Value) (ht : P.underlying t = some (.slice e)) (hi : P.info? e = some i) (hz : i.zero = some z) {gi n m c sz bytes : Nat} (hs' : i.size = sz) (hzs : z.cells.size = sz) (hsz : 0 < sz)
    {v : Value} {cs news : List Value} (hby : i.bytes = bytes) (k : Nat) (hk : n + m = k) (H : Hp w0 Fs (.blk gi e' news :: .row v e sz n cs :: L) w) (hs : a.eval s = v) (hx : a.eval x = .slice (some ⟨gi, 0, none⟩) m c) (hl : news.length = m * sz) (h1 : ∀ u ∈ news, u.oneCell' = true)
    (h63 : k ≤ maxLen) (hbytes : k * bytes ≤ 140737488355328)
    (h : ∀ A' c' w', Hp w0 Fs (.row (.slice A' k c') e sz k (cs ++ news) :: L) w' → wpList P ops Q rest (a.put o.dst (.slice A' k c')) w') : wpList P ops Q (o :: rest) a w :=
  wpList_append_hp (A := []) hgd s x t ho i z ht hi hz hs' hzs hsz hby k hk H hs hx hl h1 h63 hbytes h

theorem wpList_app1 {r0 : Res} (hgd : o.guard = none) (s x : Operand) (t : TypeId) (ho : o.op = .call { callee := .builtin .append, args := #[s, x], argTypes := #[t, t] })
    {e e' : TypeId} (i : TypeInfo) (z : Value) (ht : P.underlying t = some (.slice e)) (hi : P.info? e = some i) (hz : i.zero = some z) {gi n m c sz bytes : Nat} (hs' : i.size = sz) (hzs : z.cells.size = sz) (hsz : 0 < sz)
    {v : Value} {cs news : List Value} (hby : i.bytes = bytes) (k : Nat) (hk : n + m = k) (H : Hp w0 Fs (.blk gi e' news :: r0 :: .row v e sz n cs :: L) w) (hs : a.eval s = v) (hx : a.eval x = .slice (some ⟨gi, 0, none⟩) m c) (hl : news.length = m * sz) (h1 : ∀ u ∈ news, u.oneCell' = true)
    (h63 : k ≤ maxLen) (hbytes : k * bytes ≤ 140737488355328)
    (h : ∀ A' c' w', Hp w0 Fs (r0 :: .row (.slice A' k c') e sz k (cs ++ news) :: L) w' → wpList P ops Q rest (a.put o.dst (.slice A' k c')) w') : wpList P ops Q (o :: rest) a w :=
  wpList_append_hp (A := [r0]) hgd s x t ho i z ht hi hz hs' hzs hsz hby k hk H hs hx hl h1 h63 hbytes h

theorem wpList_app2 {r0 r1 : Res} (hgd : o.guard = none) (s x : Operand) (t : TypeId) (ho : o.op = .call { callee := .builtin .append, args := #[s, x], argTypes := #[t, t] })
    {e e' : TypeId} (i : TypeInfo) (z : Value) (ht : P.underlying t = some (.slice e)) (hi : P.info? e = some i) (hz : i.zero = some z) {gi n m c sz bytes : Nat} (hs' : i.size = sz) (hzs : z.cells.size = sz) (hsz : 0 < sz)
    {v : Value} {cs news : List Value} (hby : i.bytes = bytes) (k : Nat) (hk : n + m = k) (H : Hp w0 Fs (.blk gi e' news :: r0 :: r1 :: .row v e sz n cs :: L) w) (hs : a.eval s = v) (hx : a.eval x = .slice (some ⟨gi, 0, none⟩) m c) (hl : news.length = m * sz) (h1 : ∀ u ∈ news, u.oneCell' = true)
    (h63 : k ≤ maxLen) (hbytes : k * bytes ≤ 140737488355328)
    (h : ∀ A' c' w', Hp w0 Fs (r0 :: r1 :: .row (.slice A' k c') e sz k (cs ++ news) :: L) w' → wpList P ops Q rest (a.put o.dst (.slice A' k c')) w') : wpList P ops Q (o :: rest) a w :=
  wpList_append_hp (A := [r0, r1]) hgd s x t ho i z ht hi hz hs' hzs hsz hby k hk H hs hx hl h1 h63 hbytes h

theorem wpList_app3 {r0 r1 r2 : Res} (hgd : o.guard = none) (s x : Operand) (t : TypeId) (ho : o.op = .call { callee := .builtin .append, args := #[s, x], argTypes := #[t, t] })
    {e e' : TypeId} (i : TypeInfo) (z : Value) (ht : P.underlying t = some (.slice e)) (hi : P.info? e = some i) (hz : i.zero = some z) {gi n m c sz bytes : Nat} (hs' : i.size = sz) (hzs : z.cells.size = sz) (hsz : 0 < sz)
    {v : Value} {cs news : List Value} (hby : i.bytes = bytes) (k : Nat) (hk : n + m = k) (H : Hp w0 Fs (.blk gi e' news :: r0 :: r1 :: r2 :: .row v e sz n cs :: L) w) (hs : a.eval s = v) (hx : a.eval x = .slice (some ⟨gi, 0, none⟩) m c) (hl : news.length = m * sz) (h1 : ∀ u ∈ news, u.oneCell' = true)
    (h63 : k ≤ maxLen) (hbytes : k * bytes ≤ 140737488355328)
    (h : ∀ A' c' w', Hp w0 Fs (r0 :: r1 :: r2 :: .row (.slice A' k c') e sz k (cs ++ news) :: L) w' → wpList P ops Q rest (a.put o.dst (.slice A' k c')) w') : wpList P ops Q (o :: rest) a w :=
  wpList_append_hp (A := [r0, r1, r2]) hgd s x t ho i z ht hi hz hs' hzs hsz hby k hk H hs hx hl h1 h63 hbytes h

theorem wpList_app4 {r0 r1 r2 r3 : Res} (hgd : o.guard = none) (s x : Operand) (t : TypeId) (ho : o.op = .call { callee := .builtin .append, args := #[s, x], argTypes := #[t, t] })
    {e e' : TypeId} (i : TypeInfo) (z : Value) (ht : P.underlying t = some (.slice e)) (hi : P.info? e = some i) (hz : i.zero = some z) {gi n m c sz bytes : Nat} (hs' : i.size = sz) (hzs : z.cells.size = sz) (hsz : 0 < sz)
    {v : Value} {cs news : List Value} (hby : i.bytes = bytes) (k : Nat) (hk : n + m = k) (H : Hp w0 Fs (.blk gi e' news :: r0 :: r1 :: r2 :: r3 :: .row v e sz n cs :: L) w) (hs : a.eval s = v) (hx : a.eval x = .slice (some ⟨gi, 0, none⟩) m c) (hl : news.length = m * sz) (h1 : ∀ u ∈ news, u.oneCell' = true)
    (h63 : k ≤ maxLen) (hbytes : k * bytes ≤ 140737488355328)
    (h : ∀ A' c' w', Hp w0 Fs (r0 :: r1 :: r2 :: r3 :: .row (.slice A' k c') e sz k (cs ++ news) :: L) w' → wpList P ops Q rest (a.put o.dst (.slice A' k c')) w') : wpList P ops Q (o :: rest) a w :=
  wpList_append_hp (A := [r0, r1, r2, r3]) hgd s x t ho i z ht hi hz hs' hzs hsz hby k hk H hs hx hl h1 h63 hbytes h

theorem wpList_app5 {r0 r1 r2 r3 r4 : Res} (hgd : o.guard = none) (s x : Operand) (t : TypeId) (ho : o.op = .call { callee := .builtin .append, args := #[s, x], argTypes := #[t, t] })
    {e e' : TypeId} (i : TypeInfo) (z : Value) (ht : P.underlying t = some (.slice e)) (hi : P.info? e = some i) (hz : i.zero = some z) {gi n m c sz bytes : Nat} (hs' : i.size = sz) (hzs : z.cells.size = sz) (hsz : 0 < sz)
    {v : Value} {cs news : List Value} (hby : i.bytes = bytes) (k : Nat) (hk : n + m = k) (H : Hp w0 Fs (.blk gi e' news :: r0 :: r1 :: r2 :: r3 :: r4 :: .row v e sz n cs :: L) w) (hs : a.eval s = v) (hx : a.eval x = .slice (some ⟨gi, 0, none⟩) m c) (hl : news.length = m * sz) (h1 : ∀ u ∈ news, u.oneCell' = true)
    (h63 : k ≤ maxLen) (hbytes : k * bytes ≤ 140737488355328)
    (h : ∀ A' c' w', Hp w0 Fs (r0 :: r1 :: r2 :: r3 :: r4 :: .row (.slice A' k c') e sz k (cs ++ news) :: L) w' → wpList P ops Q rest (a.put o.dst (.slice A' k c')) w') : wpList P ops Q (o :: rest) a w :=
  wpList_append_hp (A := [r0, r1, r2, r3, r4]) hgd s x t ho i z ht hi hz hs' hzs hsz hby k hk H hs hx hl h1 h63 hbytes h

theorem wpList_app6 {r0 r1 r2 r3 r4 r5 : Res} (hgd : o.guard = none) (s x : Operand) (t : TypeId) (ho : o.op = .call { callee := .builtin .append, args := #[s, x], argTypes := #[t, t] })
    {e e' : TypeId} (i : TypeInfo) (z : Value) (ht : P.underlying t = some (.slice e)) (hi : P.info? e = some i) (hz : i.zero = some z) {gi n m c sz bytes : Nat} (hs' : i.size = sz) (hzs : z.cells.size = sz) (hsz : 0 < sz)
    {v : Value} {cs news : List Value} (hby : i.bytes = bytes) (k : Nat) (hk : n + m = k) (H : Hp w0 Fs (.blk gi e' news :: r0 :: r1 :: r2 :: r3 :: r4 :: r5 :: .row v e sz n cs :: L) w) (hs : a.eval s = v) (hx : a.eval x = .slice (some ⟨gi, 0, none⟩) m c) (hl : news.length = m * sz) (h1 : ∀ u ∈ news, u.oneCell' = true)
    (h63 : k ≤ maxLen) (hbytes : k * bytes ≤ 140737488355328)
    (h : ∀ A' c' w', Hp w0 Fs (r0 :: r1 :: r2 :: r3 :: r4 :: r5 :: .row (.slice A' k c') e sz k (cs ++ news) :: L) w' → wpList P ops Q rest (a.put o.dst (.slice A' k c')) w') : wpList P ops Q (o :: rest) a w :=
  wpList_append_hp (A := [r0, r1, r2, r3, r4, r5]) hgd s x t ho i z ht hi hz hs' hzs hsz hby k hk H hs hx hl h1 h63 hbytes h

theorem wpList_app7 {r0 r1 r2 r3 r4 r5 r6 : Res} (hgd : o.guard = none) (s x : Operand) (t : TypeId) (ho : o.op = .call { callee := .builtin .append, args := #[s, x], argTypes := #[t, t] })
    {e e' : TypeId} (i : TypeInfo) (z : Value) (ht : P.underlying t = some (.slice e)) (hi : P.info? e = some i) (hz : i.zero = some z) {gi n m c sz bytes : Nat} (hs' : i.size = sz) (hzs : z.cells.size = sz) (hsz : 0 < sz)
    {v : Value} {cs news : List Value} (hby : i.bytes = bytes) (k : Nat) (hk : n + m = k) (H : Hp w0 Fs (.blk gi e' news :: r0 :: r1 :: r2 :: r3 :: r4 :: r5 :: r6 :: .row v e sz n cs :: L) w) (hs : a.eval s = v) (hx : a.eval x = .slice (some ⟨gi, 0, none⟩) m c) (hl : news.length = m * sz) (h1 : ∀ u ∈ news, u.oneCell' = true)
    (h63 : k ≤ maxLen) (hbytes : k * bytes ≤ 140737488355328)
    (h : ∀ A' c' w', Hp w0 Fs (r0 :: r1 :: r2 :: r3 :: r4 :: r5 :: r6 :: .row (.slice A' k c') e sz k (cs ++ news) :: L) w' → wpList P ops Q rest (a.put o.dst (.slice A' k c')) w') : wpList P ops Q (o :: rest) a w :=
  wpList_append_hp (A := [r0, r1, r2, r3, r4, r5, r6]) hgd s x t ho i z ht hi hz hs' hzs hsz hby k hk H hs hx hl h1 h63 hbytes h

end
end Go.Proofs.YtpnapnmkjpolmaaDoor
