/- Rows that are made one by one and stay. No program is named here. Blocks in memory: structs with two rows each, that grow. -/
import Derived.Test.YtnabeibnaoahmaaDoorLoopLaw
import Derived.Test.YtnabeibnaoahmaaDoorMgBlkLawDomLaw2
import Derived.Test.YtnabeibnaoahmaaDoorMgPrNestNestBFind4
import Derived.Test.YtnabeibnaoahmaaDoorMgReadsOfState2
set_option linter.unusedSimpArgs false
set_option linter.unusedVariables false
namespace Go.Proofs.YtnabeibnaoahmaaDoor
open Go.RowKit Plain64
section
variable {w0 w : World} {Fs : List Fro} {L : List Res}
/-- Rows that stay, in memory that is the call's own. -/
def RowsIn (w0 : World) (G : Fro) (xss : List (List Int)) (vs : List Value) : Prop := RowsAt G xss vs ∧ ∀ b, G.S b → w0.heap.size ≤ b
theorem Hp.rowsStart (h : Hp w0 Fs L w) : ∃ G : Fro, Hp w0 (G :: Fs) L w ∧ RowsIn w0 G [] [] := ⟨_, h.froNone', RowsAt.nil _, fun _ hb => hb.elim⟩
theorem Hp.freezeRow {F : Fro} {v : Value} {e : TypeId} {n : Nat} {xs : List Int} {xss : List (List Int)} {vs : List Value} (H : Hp w0 (F :: Fs) (.row v e 1 n (xs.map (Value.int .i64)) :: L) w) (ha : RowsIn w0 F xss vs) :
    ∃ G : Fro, Hp w0 (G :: Fs) L w ∧ RowsIn w0 G (xss ++ [xs]) (vs ++ [v]) :=
  ⟨_, Hp.freeze (A := []) H, RowsAt.snocRow (A := []) ha.1 H, fun b hb => by
    rcases hb with hb | hb
    · exact ha.2 b hb
    · exact ((H.own _ (.head _)).2 b hb).1⟩
theorem Hp.joinRow {F G : Fro} {u : Value} {xs : List Int} {xss : List (List Int)} {vs : List Value} (H : Hp w0 (F :: G :: Fs) L w) (hr : Lay.rep F.w F.S xs [u]) (hF : ∀ b, F.S b → w0.heap.size ≤ b) (ha : RowsIn w0 G xss vs) :
    ∃ G' : Fro, Hp w0 (G' :: Fs) L w ∧ RowsIn w0 G' (xss ++ [xs]) (vs ++ [u]) :=
  ⟨_, H.froJoin, ha.1.snoc H hr, fun b hb => by
    rcases hb with hb | hb
    · exact hF b hb
    · exact ha.2 b hb⟩
end
end Go.Proofs.YtnabeibnaoahmaaDoor
namespace Go.Proofs.YtnabeibnaoahmaaDoor
open Go.RowKit
/-- A block on the way: its cells, and what its two slices hold. -/
structure BV where
  frm : Int
  upto : Int
  vn : Value
  ns : List Int
  vp : Value
  ps : List Int
def bvCells (b : BV) : List Value := [.int .i64 b.frm, .int .i64 b.upto, b.vn, b.vp]
def bvN (t : TypeId) (b : BV) : Res := .row b.vn t 1 b.ns.length (b.ns.map (Value.int .i64))
def bvP (t : TypeId) (b : BV) : Res := .row b.vp t 1 b.ps.length (b.ps.map (Value.int .i64))
def bvRows (t : TypeId) (bs : List BV) : List Res := bs.flatMap fun b => [bvN t b, bvP t b]
abbrev bsCells (bs : List BV) : List Value := bs.flatMap bvCells
def bvOf (b : BV) : Bk := ⟨b.frm, b.upto, b.ns, b.ps⟩
def zeroBV : BV := ⟨0, 0, .slice none 0 0, [], .slice none 0 0, []⟩
theorem bs_len (bs : List BV) : (bsCells bs).length = bs.length * 4 := flat_len bvCells 4 (fun _ => rfl) bs
theorem bs_at {bs : List BV} {i k : Nat} {b : BV} (h : bs[i]? = some b) (j : Nat) {v : Value} (hv : (bvCells b)[j]? = some v) (hk : k = i * 4 + j) : (bsCells bs)[k]? = some v := by
  subst hk; exact flat_at bvCells 4 (fun _ => rfl) bs i b h j v hv
theorem flat_set {α : Type} (enc : α → List Value) (sz : Nat) (henc : ∀ x, (enc x).length = sz) : ∀ (xs : List α) (k : Nat) (x x' : α), xs[k]? = some x → ∀ (j : Nat) (v : Value), j < sz → (enc x).set j v = enc x' → (xs.flatMap enc).set (k * sz + j) v = (xs.set k x').flatMap enc
  | [], k, x, x', h, _, _, _, _ => by simp at h
  | y :: ys, 0, x, x', h, j, v, hj, he => by
    simp only [List.getElem?_cons_zero, Option.some.injEq] at h
    subst h
    rw [List.flatMap_cons, List.set_cons_zero, List.flatMap_cons, Nat.zero_mul, Nat.zero_add, List.set_append_left _ _ (by rw [henc]; exact hj), he]
  | y :: ys, k + 1, x, x', h, j, v, hj, he => by
    simp only [List.getElem?_cons_succ] at h
    rw [List.flatMap_cons, List.set_cons_succ, List.flatMap_cons, List.set_append_right _ _ (by rw [henc, Nat.succ_mul]; omega), henc, ← flat_set enc sz henc ys k x x' h j v hj he]
    congr 2; rw [Nat.succ_mul]; omega
theorem bs_setF {bs : List BV} {i k : Nat} {b : BV} (h : bs[i]? = some b) (n : Int) (hk : k = i * 4) : (bsCells bs).set k (.int .i64 n) = bsCells (bs.set i { b with frm := n }) := by
  subst hk; exact flat_set bvCells 4 (fun _ => rfl) bs i b _ h 0 _ (by omega) rfl
theorem bs_setT {bs : List BV} {i k : Nat} {b : BV} (h : bs[i]? = some b) (n : Int) (hk : k = i * 4 + 1) : (bsCells bs).set k (.int .i64 n) = bsCells (bs.set i { b with upto := n }) := by
  subst hk; exact flat_set bvCells 4 (fun _ => rfl) bs i b _ h 1 _ (by omega) rfl
theorem bs_setN {bs : List BV} {i k : Nat} {b : BV} (h : bs[i]? = some b) (v : Value) (l : List Int) (hk : k = i * 4 + 2) : (bsCells bs).set k v = bsCells (bs.set i { b with vn := v, ns := l }) := by
  subst hk; exact flat_set bvCells 4 (fun _ => rfl) bs i b _ h 2 _ (by omega) rfl
theorem bs_setP {bs : List BV} {i k : Nat} {b : BV} (h : bs[i]? = some b) (v : Value) (l : List Int) (hk : k = i * 4 + 3) : (bsCells bs).set k v = bsCells (bs.set i { b with vp := v, ps := l }) := by
  subst hk; exact flat_set bvCells 4 (fun _ => rfl) bs i b _ h 3 _ (by omega) rfl
theorem bs_lt {bs : List BV} {i k j : Nat} {b : BV} (h : bs[i]? = some b) (hk : k = i * 4 + j) (hj : j < 4) : k < (bsCells bs).length := by
  rw [bs_len]; have := (List.getElem?_eq_some_iff.1 h).1; omega
theorem bvRows_append (t : TypeId) (xa bs : List BV) : bvRows t (xa ++ bs) = bvRows t xa ++ bvRows t bs := by unfold bvRows; rw [List.flatMap_append]
theorem bvRows_split {t : TypeId} : ∀ {bs : List BV} {i : Nat} {b : BV}, bs[i]? = some b → ∃ xa cs, bs = xa ++ b :: cs ∧ ∀ b', bs.set i b' = xa ++ b' :: cs
  | [], i, b, h => by simp at h
  | y :: ys, 0, b, h => by
    simp only [List.getElem?_cons_zero, Option.some.injEq] at h
    subst h
    exact ⟨[], ys, rfl, fun _ => rfl⟩
  | y :: ys, i + 1, b, h => by
    simp only [List.getElem?_cons_succ] at h
    obtain ⟨xa, cs, e1, e2⟩ := bvRows_split (t := t) h
    exact ⟨y :: xa, cs, by rw [e1]; rfl, fun b' => by rw [List.set_cons_succ, e2]; rfl⟩
theorem bvRows_cons (t : TypeId) (b : BV) (cs : List BV) : bvRows t (b :: cs) = bvN t b :: bvP t b :: bvRows t cs := rfl
section
variable {w0 w : World} {Fs : List Fro} {L : List Res} {t : TypeId}
/-- The i-th block's first slice comes to the front; and goes back. -/
theorem Hp.takeN {bs : List BV} {i : Nat} {b : BV} (h : Hp w0 Fs (L ++ bvRows t bs) w) (hi : bs[i]? = some b) :
    ∃ R, Hp w0 Fs (bvN t b :: (L ++ R)) w ∧ ∀ (w' : World) (Fs' : List Fro) (L' : List Res) (b' : BV), bvP t b' = bvP t b → Hp w0 Fs' (bvN t b' :: (L' ++ R)) w' → Hp w0 Fs' (L' ++ bvRows t (bs.set i b')) w' := by
  obtain ⟨xa, cs, e1, e2⟩ := bvRows_split (t := t) hi
  refine ⟨bvRows t xa ++ bvP t b :: bvRows t cs, ?_, fun w' Fs' L' b' hb H => ?_⟩
  · rw [e1, bvRows_append, bvRows_cons] at h
    refine h.perm ?_
    rw [← List.append_assoc, ← List.append_assoc]
    exact List.perm_middle
  · rw [e2, bvRows_append, bvRows_cons, hb]
    refine H.perm ?_
    rw [← List.append_assoc, ← List.append_assoc]
    exact List.perm_middle.symm
/-- .. its second one. -/
theorem Hp.takeP {bs : List BV} {i : Nat} {b : BV} (h : Hp w0 Fs (L ++ bvRows t bs) w) (hi : bs[i]? = some b) :
    ∃ R, Hp w0 Fs (bvP t b :: (L ++ R)) w ∧ ∀ (w' : World) (Fs' : List Fro) (L' : List Res) (b' : BV), bvN t b' = bvN t b → Hp w0 Fs' (bvP t b' :: (L' ++ R)) w' → Hp w0 Fs' (L' ++ bvRows t (bs.set i b')) w' := by
  obtain ⟨xa, cs, e1, e2⟩ := bvRows_split (t := t) hi
  refine ⟨bvRows t xa ++ bvN t b :: bvRows t cs, ?_, fun w' Fs' L' b' hb H => ?_⟩
  · rw [e1, bvRows_append, bvRows_cons] at h
    refine h.perm ?_
    have e : L ++ (bvRows t xa ++ bvN t b :: bvP t b :: bvRows t cs) = (L ++ bvRows t xa ++ [bvN t b]) ++ bvP t b :: bvRows t cs := by simp
    rw [e]
    refine List.perm_middle.trans ?_
    simp
  · rw [e2, bvRows_append, bvRows_cons, hb]
    refine H.perm ?_
    have e : L' ++ (bvRows t xa ++ bvN t b :: bvP t b' :: bvRows t cs) = (L' ++ bvRows t xa ++ [bvN t b]) ++ bvP t b' :: bvRows t cs := by simp
    rw [e]
    refine List.Perm.trans ?_ List.perm_middle.symm
    simp
/-- Numbers alone are set. -/
theorem bvRows_set {bs : List BV} {i : Nat} {b b' : BV} (hi : bs[i]? = some b) (h1 : bvN t b' = bvN t b) (h2 : bvP t b' = bvP t b) : bvRows t (bs.set i b') = bvRows t bs := by
  obtain ⟨xa, cs, e1, e2⟩ := bvRows_split (t := t) hi
  rw [e2, bvRows_append, bvRows_cons, h1, h2, ← bvRows_cons, ← bvRows_append, ← e1]
/-- Blocks with nothing in them. -/
theorem Hp.bvNil (h : Hp w0 Fs L w) : ∀ n, Hp w0 Fs (L ++ bvRows t (List.replicate n zeroBV)) w
  | 0 => by simpa [bvRows] using h
  | n + 1 => by
    have h1 := Hp.nil (Hp.nil (Hp.bvNil h n) t 1) t 1
    refine h1.perm ?_
    rw [List.replicate_succ, bvRows_cons]
    show List.Perm ([_, _] ++ (L ++ bvRows t (List.replicate n zeroBV))) _
    refine (List.perm_append_comm_assoc [_, _] L _).trans ?_
    exact List.Perm.refl _
theorem Hp.bvSnoc {bs : List BV} (h : Hp w0 Fs (L ++ bvRows t bs) w) (n m : Int) : Hp w0 Fs (L ++ bvRows t (bs ++ [⟨n, m, .slice none 0 0, [], .slice none 0 0, []⟩])) w := by
  have h1 := Hp.nil (Hp.nil h t 1) t 1
  refine h1.perm ?_
  rw [bvRows_append, ← List.append_assoc]
  exact (List.perm_append_comm (l₁ := [_, _]))
theorem made4 {z : Value} {a b c d : Value} (hz : z.cells = #[a, b, c, d]) (n : Nat) : (madeCells z.cells (n * 4)).toList = (List.replicate n [a, b, c, d]).flatten := by
  rw [hz]
  apply List.ext_getElem?
  intro i
  by_cases hi : i < n * 4
  · have h1 : (List.replicate n [a, b, c, d]).flatten[i]? = [a, b, c, d][i % 4]? := by
      have h2 := flat_at (fun l : List Value => if l.length = 4 then l else [a, b, c, d]) 4 (fun x => by split; assumption; rfl) (List.replicate n [a, b, c, d]) (i / 4) [a, b, c, d] (by rw [List.getElem?_replicate, if_pos (by omega)]) (i % 4)
      have h3 : i % 4 < 4 := Nat.mod_lt _ (by omega)
      obtain ⟨v, hv⟩ : ∃ v, [a, b, c, d][i % 4]? = some v := ⟨[a, b, c, d][i % 4], List.getElem?_eq_getElem h3⟩
      have h4 := h2 v (by simpa using hv)
      rw [show i / 4 * 4 + i % 4 = i by omega] at h4
      rw [hv, ← h4]
      congr 1
      rw [List.flatten_eq_flatMap]
      clear h2 h4 hv h3 hi
      induction n with
      | zero => rfl
      | succ n ih => rw [List.replicate_succ, List.flatMap_cons, List.flatMap_cons, ih]; rfl
    rw [h1]
    unfold madeCells
    rw [Array.getElem?_toList, Array.getElem?_map, Array.getElem?_range, if_pos hi]
    have h3 : i % 4 < 4 := Nat.mod_lt _ (by omega)
    have : i % 4 = 0 ∨ i % 4 = 1 ∨ i % 4 = 2 ∨ i % 4 = 3 := by omega
    rcases this with h | h | h | h <;> simp [h]
  · rw [List.getElem?_eq_none (by simp [madeCells]; omega), List.getElem?_eq_none (by simp; omega)]
end
instance layBk : Lay Bk where
  size := 4
  bytes := 64
  rep w B x cs := ∃ u v, cs = [.int .i64 x.frm, .int .i64 x.upto, u, v] ∧ Lay.rep w B x.nxt [u] ∧ Lay.rep w B x.prv [v]
  len h := by obtain ⟨u, v, rfl, _⟩ := h; rfl
  keep k h := by obtain ⟨u, v, rfl, h1, h2⟩ := h; exact ⟨u, v, rfl, Lay.keep k h1, Lay.keep k h2⟩
  more k h := by obtain ⟨u, v, rfl, h1, h2⟩ := h; exact ⟨u, v, rfl, Lay.more k h1, Lay.more k h2⟩
  ok _ := True
  dat _ _ := True
/-- An element of a slice of blocks. -/
theorem rep_bks_at {w : World} {B : Nat → Prop} {xs : List Bk} {v : Value} (h : Lay.rep w B xs [v]) : ∃ (A : Option Addr) (c : Nat), v = .slice A xs.length c ∧ xs.length ≤ c ∧ c ≤ maxLen ∧
    ∀ (k : Nat) (hk : k < xs.length), ∃ (a : Addr) (u z : Value), A = some a ∧ B a.block ∧ At w (a.add (k * 4)) [.int .i64 xs[k].frm, .int .i64 xs[k].upto, u, z] ∧ Lay.rep w B xs[k].nxt [u] ∧ Lay.rep w B xs[k].prv [z] := by
  obtain ⟨A, c, e, h1, h2, h3⟩ := rep_list h
  injection e with e
  refine ⟨A, c, e, h1, h2, fun k hk => ?_⟩
  obtain ⟨a, ds, ha, hb, hat, hr⟩ := h3 k hk
  obtain ⟨u, z, rfl, h4, h5⟩ := hr
  exact ⟨a, u, z, ha, hb, hat, h4, h5⟩
theorem rep_bks_nil {w : World} {S : Nat → Prop} : Lay.rep w S ([] : List Bk) [.slice none 0 0] := ⟨none, 0, rfl, Nat.le_refl _, by unfold maxLen; omega, fun k x h => by simp at h⟩
/-- Owned blocks, xa data. -/
theorem Hp.bkRep {w0 w : World} {Fs : List Fro} {L : List Res} {t e : TypeId} {v : Value} {n : Nat} {bs : List BV} (h : Hp w0 Fs L w) (hm : Res.row v e 4 n (bsCells bs) ∈ L) (hin : ∀ r ∈ bvRows t bs, r ∈ L) : Lay.rep w (Fresh w0 w) (bs.map bvOf) [v] := by
  have ho := h.row hm
  have hf := (h.own _ hm).2
  have hn : bs.length = n := by have := ho.1; rw [bs_len] at this; omega
  subst hn
  rcases ho.2 with ⟨rfl, hn⟩ | ⟨g, cap, cur, rfl, hb, hg, hle, hx, hs, ht⟩
  · have : bs = [] := List.length_eq_zero_iff.1 hn
    subst this
    exact rep_bks_nil
  · refine ⟨some ⟨g, 0, none⟩, cap, by rw [List.length_map], by rw [List.length_map]; exact hle, hx, fun k x hk => ?_⟩
    rw [List.getElem?_map] at hk
    obtain ⟨b, hbk, rfl⟩ := Option.map_eq_some_iff.1 hk
    refine ⟨_, bvCells b, rfl, ⟨(hf g rfl).1, (hf g rfl).2.1⟩, fun j u hu => ?_, b.vn, b.vp, rfl, ?_, ?_⟩
    · have := ho.cells (g := g) rfl (k * 4 + j) _ (bs_at hbk j hu rfl)
      rw [add_of_add]
      exact this
    · exact h.rowInts (v := b.vn) (e := t) (n := b.ns.length) (xs := b.ns) (hin (bvN t b) (List.mem_flatMap.2 ⟨b, List.mem_of_getElem? hbk, .head _⟩)) rfl
    · exact h.rowInts (v := b.vp) (e := t) (n := b.ps.length) (xs := b.ps) (hin (bvP t b) (List.mem_flatMap.2 ⟨b, List.mem_of_getElem? hbk, .tail _ (.head _)⟩)) rfl
end Go.Proofs.YtnabeibnaoahmaaDoor
