/- P7.1, P7.2: the blocks of a function. No program is named here. ref.oneBit, ref.hasBit; bits of small numbers. proof.reads. -/
import Derived.Test.YtnabeibnaoahmaaDoorLiveLaw
import Derived.Test.YtnabeibnaoahmaaDoorHpOps
import Derived.Test.YtnabeibnaoahmaaDoorRows
import Derived.Test.YtnabeibnaoahmaaDoorPlain64
import Derived.Test.YtnabeibnaoahmaaDoorMgPrNest2
import Derived.Test.YtnabeibnaoahmaaDoorValid
import Derived.BigQuiet
set_option linter.unusedSimpArgs false
set_option linter.unusedVariables false
namespace Go.Proofs.YtnabeibnaoahmaaDoor
open Go.RowKit Plain64
/-- Does a block begin at a place? -/
def HeadP (f : Fun) (pc : Nat) : Prop := pc = 0 ∨ ∃ (i : Nat) (x : Ins), f.code[i]? = some x ∧ SureAt f i ∧ 15 ≤ x.op ∧ (pc : Int) ∈ nextZ x i
open Classical in
noncomputable def headB (f : Fun) (pc : Nat) : Bool := decide (HeadP f pc)
theorem headB_iff {f : Fun} {pc : Nat} : headB f pc = true ↔ HeadP f pc := by unfold headB; simp
/-- The beginnings of blocks, rising. -/
noncomputable def headsL (f : Fun) : List Nat := (List.range f.code.length).filter (headB f)
theorem sure_zero {f : Fun} : SureAt f 0 := (sure_iff (Nat.zero_le _)).2 (.start (by omega))
theorem mem_headsL {f : Fun} {pc : Nat} : pc ∈ headsL f ↔ pc < f.code.length ∧ HeadP f pc := by
  unfold headsL; rw [List.mem_filter, List.mem_range, headB_iff]
theorem HeadP.sure {f : Fun} {funcs : Nat} (ok : OkF f funcs) (he : endsAt f = false) {pc : Nat} (h : HeadP f pc) : SureAt f pc ∧ pc < f.code.length := by
  rcases h with rfl | ⟨i, x, hx, hs, _, hn⟩
  · exact ⟨sure_zero, ok.len.1⟩
  · obtain ⟨h1, h2, h3⟩ := hs.nextLt ok he hx hn
    rw [Int.toNat_natCast] at h1
    exact ⟨h1, by omega⟩
def opAt (f : Fun) (pc : Nat) : Int := ((f.code[pc]?).map Ins.op).getD 0
theorem opAt_eq {f : Fun} {pc : Nat} {x : Ins} (h : f.code[pc]? = some x) : opAt f pc = x.op := by unfold opAt; rw [h]; rfl
/-- A block that begins at pc ends ahead of t. -/
structure IsTo (f : Fun) (pc t : Nat) : Prop where
  gt : pc < t
  le : t ≤ f.code.length
  stop : 15 ≤ opAt f (t - 1) ∨ HeadP f t
  run : ∀ s, pc < s → s < t → ¬ 15 ≤ opAt f (s - 1) ∧ ¬ HeadP f s
theorem IsTo.unique {f : Fun} {pc t u : Nat} (h : IsTo f pc t) (k : IsTo f pc u) : t = u := by
  rcases Nat.lt_trichotomy t u with h1 | h1 | h1
  · obtain ⟨a, b⟩ := k.run t h.gt h1
    rcases h.stop with c | c
    · exact absurd c a
    · exact absurd c b
  · exact h1
  · obtain ⟨a, b⟩ := h.run u k.gt h1
    rcases k.stop with c | c
    · exact absurd c a
    · exact absurd c b
open Classical in
noncomputable def toOf (f : Fun) (pc : Nat) : Nat := if h : ∃ t, IsTo f pc t then h.choose else 0
theorem IsTo.eq {f : Fun} {pc t : Nat} (h : IsTo f pc t) : toOf f pc = t := by
  have e : ∃ t, IsTo f pc t := ⟨t, h⟩
  unfold toOf; rw [dif_pos e]
  exact e.choose_spec.unique h
/-- A place on the way to a block's end. -/
structure OnTo (f : Fun) (pc t : Nat) : Prop where
  gt : pc < t
  le : t ≤ f.code.length
  sure : SureAt f (t - 1)
  run : ∀ s, pc < s → s < t → ¬ 15 ≤ opAt f (s - 1) ∧ ¬ HeadP f s
theorem OnTo.start {f : Fun} {pc : Nat} (h : SureAt f pc) (hl : pc < f.code.length) : OnTo f pc (pc + 1) := ⟨by omega, by omega, by rw [Nat.add_sub_cancel]; exact h, fun s h1 h2 => by omega⟩
theorem OnTo.done {f : Fun} {pc t : Nat} (h : OnTo f pc t) (hs : 15 ≤ opAt f (t - 1) ∨ HeadP f t) : IsTo f pc t := ⟨h.gt, h.le, hs, h.run⟩
theorem nextZ_plain {x : Ins} {pc : Nat} (h : ¬ 15 ≤ x.op) : nextZ x pc = [(pc : Int) + 1] := by
  unfold nextZ; rw [if_neg (by omega), if_neg (by omega), if_neg (by omega)]
theorem OnTo.lt {f : Fun} {funcs : Nat} (ok : OkF f funcs) (he : endsAt f = false) {pc t : Nat} (h : OnTo f pc t) (h1 : ¬ 15 ≤ opAt f (t - 1)) : t < f.code.length ∧ SureAt f t := by
  have hl : t - 1 < f.code.length := by have := h.gt; have := h.le; omega
  have hx := List.getElem?_eq_getElem hl
  rw [opAt_eq hx] at h1
  have hn : (((t - 1 : Nat) : Int) + 1) ∈ nextZ f.code[t - 1] (t - 1) := by rw [nextZ_plain h1]; simp
  obtain ⟨a, b, c⟩ := h.sure.nextLt ok he hx hn
  have e : (((t - 1 : Nat) : Int) + 1).toNat = t := by have := h.gt; omega
  rw [e] at a
  have := h.gt
  exact ⟨by omega, a⟩
theorem OnTo.next {f : Fun} {funcs : Nat} (ok : OkF f funcs) (he : endsAt f = false) {pc t : Nat} (h : OnTo f pc t) (h1 : ¬ 15 ≤ opAt f (t - 1)) (h2 : ¬ HeadP f t) : OnTo f pc (t + 1) := by
  obtain ⟨a, b⟩ := h.lt ok he h1
  refine ⟨by have := h.gt; omega, by omega, by rw [Nat.add_sub_cancel]; exact b, fun s g1 g2 => ?_⟩
  by_cases e : s = t
  · subst e; exact ⟨h1, h2⟩
  · exact h.run s g1 (by omega)
/-- What a block leads to are blocks' beginnings. -/
theorem IsTo.heads {f : Fun} {funcs : Nat} (ok : OkF f funcs) (he : endsAt f = false) {pc t : Nat} (h : OnTo f pc t) (hs : 15 ≤ opAt f (t - 1) ∨ HeadP f t) {x : Ins} (hx : f.code[t - 1]? = some x) {n : Int} (hn : n ∈ nextZ x (t - 1)) : n.toNat ∈ headsL f ∧ 0 ≤ n := by
  obtain ⟨a, b, c⟩ := h.sure.nextLt ok he hx hn
  refine ⟨mem_headsL.2 ⟨by omega, ?_⟩, b⟩
  by_cases h1 : 15 ≤ opAt f (t - 1)
  · rw [opAt_eq hx] at h1
    exact .inr ⟨t - 1, x, hx, h.sure, h1, by rw [show ((n.toNat : Nat) : Int) = n by omega]; exact hn⟩
  · rw [opAt_eq hx] at h1
    rw [nextZ_plain h1, List.mem_singleton] at hn
    have e : n.toNat = t := by have := h.gt; omega
    rw [e]
    rcases hs with c | c
    · rw [opAt_eq hx] at c; exact absurd c h1
    · exact c
structure Bk where
  frm : Int
  upto : Int
  nxt : List Int
  prv : List Int
def insB (f : Fun) (i : Nat) : Ins := (f.code[i]?).getD default
/-- Where the i-th block begins; its last place. -/
noncomputable def begB (f : Fun) (i : Nat) : Nat := (headsL f).getD i 0
noncomputable def lastB (f : Fun) (i : Nat) : Nat := toOf f (begB f i) - 1
/-- Does block i lead to block k? -/
noncomputable def edgeB (f : Fun) (i k : Nat) : Bool := decide ((begB f k : Int) ∈ nextZ (insB f (lastB f i)) (lastB f i))
noncomputable def nxtB (f : Fun) (i n : Nat) : List Int := ((List.range n).filter (fun k => edgeB f i k)).map fun k : Nat => (k : Int)
noncomputable def prvB (f : Fun) (k n : Nat) : List Int := ((List.range n).filter (fun i => edgeB f i k)).map fun i : Nat => (i : Int)
def preB (k : Nat) : List Int := if k = 0 then [-1] else []
noncomputable def blkOf (f : Fun) (i : Nat) : Bk := ⟨begB f i, toOf f (begB f i), nxtB f i (headsL f).length, preB i ++ prvB f i (headsL f).length⟩
noncomputable def blksL (f : Fun) : List Bk := (List.range (headsL f).length).map (blkOf f)
noncomputable def blocksAns (p : Prg) (fn : Int) : List Bk × Int :=
  if proven p ≠ 0 then ([], proven p) else if fn < 0 then ([], 2) else match p.funcs[fn.toNat]? with | none => ([], 2) | some f => (blksL f, 0)
theorem nxtB_succ (f : Fun) (i n : Nat) : nxtB f i (n + 1) = nxtB f i n ++ if edgeB f i n then [(n : Int)] else [] := by
  unfold nxtB
  rw [List.range_succ, List.filter_append, List.map_append]
  congr 1
  by_cases h : edgeB f i n = true
  · simp [h]
  · simp [h]
theorem prvB_succ (f : Fun) (k n : Nat) : prvB f k (n + 1) = prvB f k n ++ if edgeB f n k then [(n : Int)] else [] := by
  unfold prvB
  rw [List.range_succ, List.filter_append, List.map_append]
  congr 1
  by_cases h : edgeB f n k = true
  · simp [h]
  · simp [h]
theorem headsL_len (f : Fun) : (headsL f).length ≤ f.code.length := by
  unfold headsL; have := List.length_filter_le (headB f) (List.range f.code.length); rwa [List.length_range] at this
theorem headsL_pos {f : Fun} {funcs : Nat} (ok : OkF f funcs) : 0 < (headsL f).length := List.length_pos_of_mem (mem_headsL.2 ⟨ok.len.1, .inl rfl⟩)
theorem headsL_lt (f : Fun) : (headsL f).Pairwise (· < ·) := by
  unfold headsL; exact List.Pairwise.filter _ List.pairwise_lt_range
theorem begB_mem {f : Fun} {i : Nat} (h : i < (headsL f).length) : begB f i ∈ headsL f := by
  unfold begB; rw [List.getD_eq_getElem?_getD, List.getElem?_eq_getElem h]; exact List.getElem_mem h
theorem begB_get {f : Fun} {i : Nat} (h : i < (headsL f).length) : (headsL f)[i]? = some (begB f i) := by
  unfold begB; rw [List.getD_eq_getElem?_getD, List.getElem?_eq_getElem h]; rfl
theorem begB_inj {f : Fun} {i k : Nat} (hi : i < (headsL f).length) (hk : k < (headsL f).length) (h : begB f i = begB f k) : i = k := by
  have h1 := begB_get hi
  have h2 := begB_get hk
  rw [h] at h1
  obtain ⟨a, e1⟩ := List.getElem?_eq_some_iff.1 h1
  obtain ⟨b, e2⟩ := List.getElem?_eq_some_iff.1 h2
  have hp := List.pairwise_iff_getElem.1 (headsL_lt f)
  rcases Nat.lt_trichotomy i k with g | g | g
  · have := hp i k a b g; omega
  · exact g
  · have := hp k i b a g; omega
theorem head_at {f : Fun} {n : Nat} (h : n ∈ headsL f) : ∃ k, k < (headsL f).length ∧ begB f k = n := by
  obtain ⟨k, hk, e⟩ := List.mem_iff_getElem.1 h
  refine ⟨k, hk, ?_⟩
  have := begB_get hk
  rw [List.getElem?_eq_getElem hk, e] at this
  exact (Option.some.inj this).symm
end Go.Proofs.YtnabeibnaoahmaaDoor
namespace Go.Proofs.YtnabeibnaoahmaaDoor
open Go.RowKit Plain64
attribute [local irreducible] wpList Code.wp Oper.wp

theorem pow_pos' (k : Nat) : (1 : Int) ≤ 2 ^ k := by
  have : (0 : Int) < 2 ^ k := Int.pow_pos (by decide)
  omega
theorem pow_le' {j k : Nat} (h : j ≤ k) : (2 : Int) ^ j ≤ 2 ^ k := by
  have := Nat.pow_le_pow_right (n := 2) (by decide) h
  have e : ∀ n : Nat, ((2 ^ n : Nat) : Int) = 2 ^ n := fun n => by simp
  rw [← e, ← e]; omega
set_option maxHeartbeats 400000 in
theorem hasBit_any (n : Int) (k : Nat) (hk : k ≤ 60) (hn : 0 ≤ n ∧ n ≤ 9223372036854775807) (w : World) :
    Calls Tryd.prog 47 #[.int .i64 n, .int .i64 k] w fun e w' => e = .returned (.bool (bitZ n k)) ∧ w = w' := by
  go_enter Tryd.func47, Tryd.ntmps47
  go_wp2
  go_loop [0, 5] (fun n' i => ∃ (j : Nat) (m : Int), j ≤ k ∧ i = .int .i64 j ∧ n' = .int .i64 m ∧ Hid (m = n / 2 ^ j) ∧ 0 ≤ m ∧ m ≤ 9223372036854775807) (fun _ i => k - (intOf i).toNat)
  case atStart => exact ⟨0, n, by omega, rfl, rfl, Lib.hid (by simp), hn.1, hn.2⟩
  case round =>
    obtain ⟨j, m, hj, rfl, rfl, hm, h1, h2⟩ := hrel
    by_cases hlt : j < k
    · go_wp2
      go_round
      case rel => exact ⟨j + 1, m / 2, by omega, by go_num, by go_num, Lib.hid (by rw [hm.out, half_step]), by omega, by omega⟩
      case measure => simp [intOf]; omega
    · obtain rfl : j = k := by omega
      go_wp2
      go_ret
      refine ⟨ret_bool ?_, rfl⟩
      rw [bitZ, ← hm.out, Bool.eq_iff_iff]
      simp
end Go.Proofs.YtnabeibnaoahmaaDoor
namespace Go.Proofs.YtnabeibnaoahmaaDoor
open Go.RowKit Plain64
attribute [local irreducible] wpList Code.wp Oper.wp
theorem rep_prg_at {p : Prg} {u : Value} {w : World} {S : Nat → Prop} (h : Lay.rep w S p [u]) : ∃ (A : Option Addr) (c : Nat), u = .slice A p.funcs.length c ∧ p.funcs.length ≤ c ∧ c ≤ maxLen ∧
    ∀ (k : Nat) (hk : k < p.funcs.length), ∃ (a : Addr) (v : Value), A = some a ∧ S a.block ∧ At w (a.add (k * 3)) [.int .i64 p.funcs[k].params, .int .i64 p.funcs[k].regs, v] ∧ Lay.rep w S p.funcs[k].code [v] := rep_funs_at (rep_prg.1 h)
theorem index0 (a b c : Int) (w : World) : (Instr.index 105 (.agg #[.int .i64 a, .int .i64 b, .int .i64 c]) (.int .i64 0)).run Tryd.prog w = .ok (.int .i64 a) w := by kernel_rfl
theorem index1 (a b c : Int) (w : World) : (Instr.index 105 (.agg #[.int .i64 a, .int .i64 b, .int .i64 c]) (.int .i64 1)).run Tryd.prog w = .ok (.int .i64 b) w := by kernel_rfl
theorem index2 (a b c : Int) (w : World) : (Instr.index 105 (.agg #[.int .i64 a, .int .i64 b, .int .i64 c]) (.int .i64 2)).run Tryd.prog w = .ok (.int .i64 c) w := by kernel_rfl
set_option maxRecDepth 10000 in
set_option maxHeartbeats 1000000 in
theorem reads_any (p : Prg) (u : Value) (x : Ins) (len : Nat) (w : World) (hp : Lay.rep w (Lt w.heap.size) p [u]) (ok : OkP p) (okx : OkI x len p.funcs.length) :
    Calls Tryd.prog 59 #[.agg #[u], .agg #[.int .i64 x.op, .int .i64 x.dst, .int .i64 x.a, .int .i64 x.b, .int .i64 x.imm]] w fun e w' => e = .returned (.int .i64 (bitsL (readsL p x))) ∧ Below w.heap.size w w' := by
  obtain ⟨A, c, rfl, hc, hm, hx⟩ := rep_prg_at hp
  unfold maxLen at hm
  have HX := Lib.hid hx
  have HO := Lib.hid okx
  have HK := Lib.hid ok
  obtain ⟨a1, a2⟩ := okx.a
  obtain ⟨b1, b2⟩ := okx.b
  obtain ⟨n1, n2⟩ := ok.len
  clear hx hp ok okx
  have HP := Lib.hid (Hp.start w)
  go_enter Tryd.func59, Tryd.ntmps59
  go_upto_region 1 with (first | (refine wpList_box_hp (o := ⟨some 2, _, _, _, _, _⟩) rfl _ _ rfl HP.out [_] rfl ?_; clear HP; intro g2 w2 HP; replace HP := Lib.hid HP) | (refine wpList_box_hp (o := ⟨some 3, _, _, _, _, _⟩) rfl _ _ rfl HP.out [_, _, _, _, _] rfl ?_; clear HP; intro g3 w3 HP; replace HP := Lib.hid HP))
  have ha := HP.out.cell (.head _) 2 _ rfl
  have hb := HP.out.cell (.head _) 3 _ rfl
  have hop := HP.out.cell (.head _) 0 _ rfl
  have himm := HP.out.cell (.head _) 4 _ rfl
  have hfs := HP.out.cell (.tail _ (.head _)) 0 _ rfl
  have ea : wrap64 (2 ^ x.a.toNat) = 2 ^ x.a.toNat := by have := pow_small x.a ⟨a1, a2⟩; unfold wrap64; omega
  have eb : wrap64 (2 ^ x.b.toNat) = 2 ^ x.b.toNat := by have := pow_small x.b ⟨b1, b2⟩; unfold wrap64; omega
  by_cases h17 : x.op = 17
  · obtain ⟨i1, i2⟩ := HO.out.cal h17
    obtain ⟨k, hk⟩ := Int.eq_ofNat_of_zero_le i1
    have hkl : k < p.funcs.length := by omega
    have hki : (k : Int) < (p.funcs.length : Int) := by omega
    obtain ⟨ad, v, rfl, hab, hat, _⟩ := HX.out k hkl
    have hpar : parZ p x.imm = p.funcs[k].params := by unfold parZ; rw [hk]; simp [hkl]
    have hq := (HK.out.fns _ (List.getElem_mem hkl)).params
    have hcp := (HP.out.at_ (F := ⟨w, Lt w.heap.size⟩) (by simp) hat (by rw [block_of_add]; exact hab)).cell 0 rfl
    have e0 : (ad.add (k * 3)).add 0 = ad.add (k * 3) := by simp [Addr.add]
    rw [e0] at hcp
    have HO17 := Lib.hid h17
    have HPAR := Lib.hid hpar
    rw [hk] at himm
    rw [h17] at hop
    have HKK := Lib.hid hk
    obtain ⟨r, hr⟩ : ∃ r, p.funcs[k].params = r := ⟨_, rfl⟩
    rw [hr] at hcp hq HPAR
    clear h17 hk hpar hat hr e0 i1 i2
    have hr3 : r = 0 ∨ r = 1 ∨ r = 2 := by omega
    clear hq
    rcases hr3 with rfl | rfl | rfl
    all_goals
      go_quiet (fail)
      have i0 := index0
      have i1 := index1
      have i2 := index2
      go_wp2
      go_ret
      refine ⟨ret_int ?_, (HP.out.drewN nq).below⟩
      unfold readsL
      rw [HPAR.out, HO17.out]
      first | rfl | exact or_bits _ _ ⟨a1, a2⟩ ⟨b1, b2⟩
  · have h17b : (x.op == 17) = false := by simpa using h17
    have HN := Lib.hid h17
    clear h17
    go_quiet (fail)
    go_wp2
    all_goals
      go_ret
      refine ⟨ret_int ?_, (HP.out.drewN nq).below⟩
      have h17 := HN.out
      simp only [beq_iff_eq, beq_eq_false_iff_ne, ne_eq] at *
      have h1 := HO.out.op
      unfold readsL
      (try rw [ea]); (try rw [eb])
      first
        | (rw [show readsAZ x.op = false by unfold readsAZ; simp; omega, show readsBZ x.op = false by unfold readsBZ; simp; omega]; rfl)
        | (rw [show readsAZ x.op = true by unfold readsAZ; simp; omega, show readsBZ x.op = false by unfold readsBZ; simp; omega, decide_eq_true h17]; rfl)
        | (rw [show readsAZ x.op = true by unfold readsAZ; simp; omega, show readsBZ x.op = true by unfold readsBZ; simp; omega, decide_eq_true h17]; exact or_bits _ _ ⟨a1, a2⟩ ⟨b1, b2⟩)
end Go.Proofs.YtnabeibnaoahmaaDoor
