/- Bytes that a call makes. No program is named here. -/
import Derived.Test.YtpnapnmkjpolmaaDoorHpRow
set_option linter.unusedSimpArgs false
set_option linter.unusedVariables false
namespace Go.Proofs.YtpnapnmkjpolmaaDoor
open Go.RowKit
section
variable {P : Program} {ops : Array Oper} {rest : List Oper} {o : Oper} {a : Act} {w w0 : World} {Q : Exit → Act → World → Prop} {Fs : List Fro} {L : List Res}
theorem wpList_u8s_hp (hgd : o.guard = none) (t e : TypeId) (len : Nat) (parts : Array (Nat × Operand)) (ho : o.op = .buildSlice t len parts) (H : Hp w0 Fs L w) (hu : P.underlying t = some (.slice e)) (ns : List Int)
    (hp : (parts.toList.map fun x => (x.1, a.eval x.2)) = ns.zipIdx.map fun x => (x.2, .int .u8 x.1)) (hf : P.builtSlice e len (ns.zipIdx.map fun x => (x.2, .int .u8 x.1)) = some (ns.map (Value.int .u8)).toArray)
    (h : ∀ g w', Hp w0 Fs (.blk g e (ns.map (Value.int .u8)) :: L) w' → wpList P ops Q rest (a.put o.dst (.slice (some ⟨g, 0, none⟩) len len)) w') : wpList P ops Q (o :: rest) a w :=
  Great.wpList_buildSliceTo hgd t e len parts ho _ rfl o.dst rfl hu _ (by rw [← hf, ← hp]; simp [Array.toList_map]) (h _ _ (by simpa using H.alloc (ns.map (Value.int .u8)).toArray e))
end
section
variable {P : Program} {ops : Array Oper} {rest : List Oper} {o : Oper} {a : Act} {w : World} {Q : Exit → Act → World → Prop}
/-- append of what lies elsewhere. -/
theorem wpList_append_src {w0 : World} {Fs : List Fro} {A B : List Res} (hgd : o.guard = none) (s x : Operand) (t : TypeId) (ho : o.op = .call { callee := .builtin .append, args := #[s, x], argTypes := #[t, t] })
    {e : TypeId} (i : TypeInfo) (z : Value) (ht : P.underlying t = some (.slice e)) (hi : P.info? e = some i) (hz : i.zero = some z) {n m c sz bytes : Nat} (hs' : i.size = sz) (hzs : z.cells.size = sz) (hsz : 0 < sz)
    {v : Value} {cs news : List Value} {ad : Addr} (hby : i.bytes = bytes) (k : Nat) (hk : n + m = k) (H : Hp w0 Fs (A ++ .row v e sz n cs :: B) w) (hs : a.eval s = v) (hx : a.eval x = .slice (some ad) m c) (hl : news.length = m * sz) (h1 : ∀ u ∈ news, u.oneCell' = true)
    (hat : ∀ j u, news[j]? = some u → w.cell? (ad.add j) = some u) (h63 : k ≤ maxLen) (hbytes : k * bytes ≤ 140737488355328)
    (h : ∀ A' c' w', Hp w0 Fs (A ++ .row (.slice A' k c') e sz k (cs ++ news) :: B) w' → wpList P ops Q rest (a.put o.dst (.slice A' k c')) w') : wpList P ops Q (o :: rest) a w := by
  subst hs' hby hk
  have hown := H.row (v := v) (e := e) (sz := i.size) (n := n) (cs := cs) (by simp)
  obtain ⟨v', w', hr, h2, h3, _⟩ := run_append_own (P := P) (w := w) 0 t o.type e i z i.size i.bytes ht hi hz rfl rfl hzs hsz v n cs hown ad m c news hl hat h1 h63 hbytes (Nat.zero_le _)
  have hblk := append_block ht hi hz hzs hsz hown hl hat h1 h63 hbytes hr
  have H2 := H.grownRow h3 h2 (fun b hb => by
    rcases hblk b hb with hb' | hb'
    · exact .inl hb'
    · exact .inr ⟨hb', (h2.lt b hb).2⟩)
  have hv' : ∃ A' c', v' = .slice A' (n + m) c' := by
    rcases h2.2 with ⟨rfl, h0⟩ | ⟨g, cap, cur, rfl, _⟩
    · exact ⟨none, 0, by rw [h0]⟩
    · exact ⟨_, _, rfl⟩
  obtain ⟨A', c', rfl⟩ := hv'
  refine wpList_plain hgd fun K hK => ?_
  unfold Oper.wp execOp
  simp only [ho, resolve, invoke, builtin, Sem.run_bind, Sem.run_pure, Result.andThen_ok, List.map_toArray, List.map_cons, List.map_nil, hs, hx, hr]
  exact hK _ _ (h _ _ _ H2)
/-- append where no room is left: a new block. -/
theorem wpList_append_full (hgd : o.guard = none) (s x : Operand) (t : TypeId) (ho : o.op = .call { callee := .builtin .append, args := #[s, x], argTypes := #[t, t] })
    {e : TypeId} (i : TypeInfo) (z : Value) (ht : P.underlying t = some (.slice e)) (hi : P.info? e = some i) (hz : i.zero = some z) (h1 : i.size = 1) {ad : Addr} {gi n m c bytes : Nat} (hy : i.bytes = bytes) (olds news : List Value)
    (hs : a.eval s = .slice (some ad) n n) (hx : a.eval x = .slice (some ⟨gi, 0, none⟩) m c) (hlo : olds.length = n) (holds : ∀ j u, olds[j]? = some u → w.cell? (ad.add j) = some u)
    (hl : news.length = m) (hnews : ∀ j u, news[j]? = some u → w.cell? ((⟨gi, 0, none⟩ : Addr).add j) = some u) (hm : 0 < m) (h63 : n + m ≤ maxLen) (hbytes : (n + m) * bytes ≤ 140737488355328)
    (h : ∀ g c' w', Below w.heap.size w w' → n + m ≤ c' → c' ≤ maxLen → g = w.heap.size → g < w'.heap.size → (∀ j u, (olds ++ news)[j]? = some u → w'.cell? ⟨g, j, none⟩ = some u) → wpList P ops Q rest (a.put o.dst (.slice (some ⟨g, 0, none⟩) (n + m) c')) w') : wpList P ops Q (o :: rest) a w := by
  subst hy
  have hsmall : ((n + m : Nat) : Int) ≤ 9223372036854775807 := by unfold maxLen at h63; omega
  have hr := run_append_grow (P := P) w t o.type e i z ht hi hz ad n n olds (by rw [h1, hlo, Nat.mul_one]) holds ⟨gi, 0, none⟩ m c news (by rw [h1, hl, Nat.mul_one]) hnews (by omega) hsmall (growslice_fits (by omega) hbytes)
  refine wpList_plain hgd fun K hK => ?_
  unfold Oper.wp execOp
  simp only [ho, resolve, invoke, builtin, Sem.run_bind, Sem.run_pure, Result.andThen_ok, List.map_toArray, List.map_cons, List.map_nil, hs, hx, hr]
  refine hK _ _ (h _ _ _ ?_ (grownCap_ge w (n + m) n e) (grownCap_le_maxLen w (n + m) n e h63) rfl ?_ ?_)
  · exact (Below.refl _ _).drew.alloc (Nat.le_refl _) _
  · show w.heap.size < (w.drew.alloc _).heap.size
    rw [World.size_alloc]
    exact Nat.lt_succ_self _
  · intro j u hu
    refine (World.cell?_alloc_new w.drew (olds.toArray ++ news.toArray ++ Builtin.zeroCells z.cells (grownCap w (n + m) n e - (n + m))) e j).trans ?_
    have hj := (List.getElem?_eq_some_iff.1 hu).1
    rw [Array.getElem?_append_left (by simpa using hj)]
    simpa using hu
end
/-- Bytes of a number in two's complement, the highest one first. -/
def eightL (n : Int) : List Int := [n / 72057594037927936 % 256, n / 281474976710656 % 256, n / 1099511627776 % 256, n / 4294967296 % 256, n / 16777216 % 256, n / 65536 % 256, n / 256 % 256, n % 256]
theorem eightL_len (n : Int) : (eightL n).length = 8 := rfl
/-- A slice of bytes that stand as numbers. -/
def RepB (w : World) (S : Nat → Prop) (bs : List Int) (v : Value) : Prop :=
  ∃ (A : Option Addr) (c : Nat), v = .slice A bs.length c ∧ bs.length ≤ c ∧ c ≤ maxLen ∧ ∀ (k : Nat) (x : Int), bs[k]? = some x → ∃ a, A = some a ∧ S a.block ∧ w.cell? (a.add k) = some (.int .u8 x)
theorem RepB.keep {w w' : World} {S : Nat → Prop} {bs : List Int} {v : Value} (h : RepB w S bs v) (ha : Alike S w w') : RepB w' S bs v := by
  obtain ⟨A, c, e, h1, h2, h3⟩ := h
  refine ⟨A, c, e, h1, h2, fun k x hx => ?_⟩
  obtain ⟨a, e1, e2, e3⟩ := h3 k x hx
  exact ⟨a, e1, e2, (ha (a.add k) (by rw [block_of_add]; exact e2)).trans e3⟩
theorem RepB.more {w : World} {S S' : Nat → Prop} {bs : List Int} {v : Value} (h : RepB w S bs v) (hs : ∀ b, S b → S' b) : RepB w S' bs v := by
  obtain ⟨A, c, e, h1, h2, h3⟩ := h
  refine ⟨A, c, e, h1, h2, fun k x hx => ?_⟩
  obtain ⟨a, e1, e2, e3⟩ := h3 k x hx
  exact ⟨a, e1, hs _ e2, e3⟩
theorem Hp.repB {F : Fro} {w0 w : World} {Fs : List Fro} {L : List Res} {bs : List Int} {v : Value} (h : Hp w0 Fs L w) (hF : F ∈ Fs) (hr : RepB F.w F.S bs v) : RepB w (Lt w.heap.size) bs v :=
  (hr.keep (h.alike hF)).more fun b hb => (h.fro F hF b hb).1
theorem Hp.rowB {w0 w : World} {Fs : List Fro} {L : List Res} {v : Value} {e : TypeId} {n : Nat} {cs : List Value} {bs : List Int} (h : Hp w0 Fs L w) (hm : Res.row v e 1 n cs ∈ L) (hx : cs = bs.map (Value.int .u8)) : RepB w (fun b => w0.heap.size ≤ b ∧ b < w.heap.size) bs v := by
  subst hx
  have ho := h.row hm
  have hf := (h.own _ hm).2
  have hl : bs.length = n := by have := ho.1; simpa using this
  rcases ho.2 with ⟨rfl, hn⟩ | ⟨g, cap, cur, rfl, hb, hg, hle, hmx, hs, ht⟩
  · subst hn
    have : bs = [] := by cases bs; rfl; simp at hl
    subst this
    exact ⟨none, 0, rfl, Nat.le_refl _, by unfold maxLen; omega, fun k x h => by simp at h⟩
  · subst hl
    refine ⟨_, _, rfl, hle, hmx, fun k x hx => ⟨_, rfl, ⟨(hf g rfl).1, (hf g rfl).2.1⟩, ?_⟩⟩
    have := ho.cells (g := g) rfl k (.int .u8 x) (by simp [hx])
    rwa [Addr.add_lit, Nat.zero_add] at this ⊢
theorem Hp.blkB {w0 w : World} {Fs : List Fro} {L : List Res} {g n : Nat} {t : TypeId} {cs : List Value} {bs : List Int} (h : Hp w0 Fs L w) (hm : Res.blk g t cs ∈ L) (hx : cs = bs.map (Value.int .u8)) (hn : n = bs.length) (hl : n ≤ maxLen) : RepB w (fun b => w0.heap.size ≤ b ∧ b < w.heap.size) bs (.slice (some ⟨g, 0, none⟩) n n) := by
  subst hx hn
  refine ⟨_, _, rfl, Nat.le_refl _, hl, fun k x hx => ⟨_, rfl, ⟨((h.own _ hm).2 g rfl).1, ((h.own _ hm).2 g rfl).2.1⟩, ?_⟩⟩
  rw [Addr.add_lit, Nat.zero_add]
  exact h.cell hm k _ (by simp [hx])
end Go.Proofs.YtpnapnmkjpolmaaDoor
