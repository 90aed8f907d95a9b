/- P6.1: how often each place of a run is done. No program is named here. Blocks in memory: structs with two rows each, that grow. P3.4: what proof.Reads answers. Numbers of read registers as bits. P14.1: a state whose registers that are not live are 0. No program is named here but for the layout of its data. -/
import Derived.Test.YtceilfmfidmfpaaDoorMgReadsOfStateNextLawBegLawNextAnsRunLawRunLawBBegRun8
import Derived.Test.YtceilfmfidmfpaaDoorMgReadsWaySureLawSureRunProvenLawStateLawLiveLawBlkLawDomLawDo11
import Derived.Test.YtceilfmfidmfpaaDoorMgPrNestNestBFind4
set_option linter.unusedSimpArgs false
set_option linter.unusedVariables false
namespace Go.Proofs.YtceilfmfidmfpaaDoor
open Go.RowKit Plain64
def linkL (p : Prg) (fs : List Frm) : Prop := ∀ (i : Nat) f g, fs[i]? = some f → fs[i + 1]? = some g → linkF p f g
theorem linkL_pop {p : Prg} {fs : List Frm} {f : Frm} (h : linkL p (fs ++ [f])) : linkL p fs := fun i a b ha hb => by
  have h1 := (List.getElem?_eq_some_iff.1 ha).1
  have h2 := (List.getElem?_eq_some_iff.1 hb).1
  exact h i a b (by rw [List.getElem?_append_left h1]; exact ha) (by rw [List.getElem?_append_left h2]; exact hb)
theorem linkL_upd {p : Prg} {fs : List Frm} {f f' : Frm} (h : linkL p (fs ++ [f])) (hf : f'.fn = f.fn) : linkL p (fs ++ [f']) := fun i a b ha hb => by
  have h2 := (List.getElem?_eq_some_iff.1 hb).1
  rw [List.length_append] at h2
  have h2 : i + 1 < fs.length + 1 := h2
  have hia : a = a := rfl
  rw [List.getElem?_append_left (by omega)] at ha
  by_cases h3 : i + 1 < fs.length
  · rw [List.getElem?_append_left h3] at hb
    exact h i a b (by rw [List.getElem?_append_left (by omega)]; exact ha) (by rw [List.getElem?_append_left h3]; exact hb)
  · have h4 : i + 1 = fs.length := by omega
    rw [List.getElem?_append_right (by omega), h4, Nat.sub_self] at hb
    obtain rfl : f' = b := by simpa using hb
    have h5 := h i a f (by rw [List.getElem?_append_left (by omega)]; exact ha) (by rw [List.getElem?_append_right (by omega), h4, Nat.sub_self]; rfl)
    exact ⟨h5.1, h5.2.trans hf.symm⟩
theorem linkL_push {p : Prg} {fs : List Frm} {f g : Frm} (h : linkL p (fs ++ [f])) (hl : linkF p f g) : linkL p (fs ++ [f] ++ [g]) := fun i a b ha hb => by
  have h2 := (List.getElem?_eq_some_iff.1 hb).1
  have h2 : i + 1 < (fs ++ [f]).length + 1 := by rw [List.length_append] at h2; exact h2
  rw [List.getElem?_append_left (by omega)] at ha
  by_cases h3 : i + 1 < (fs ++ [f]).length
  · rw [List.getElem?_append_left h3] at hb
    exact h i a b ha hb
  · have h4 : i + 1 = (fs ++ [f]).length := by omega
    rw [List.getElem?_append_right (by omega), h4, Nat.sub_self] at hb
    obtain rfl : g = b := by simpa using hb
    have h5 : i = fs.length := by rw [List.length_append] at h4; have h4 : i + 1 = fs.length + 1 := h4; omega
    subst h5
    rw [List.getElem?_append_right (by omega), Nat.sub_self] at ha
    obtain rfl : f = a := by simpa using ha
    exact hl
theorem link_next {p : Prg} {s : Sta} {fs : List Frm} {f : Frm} (hv : s.value = 0) (h : linkL p (fs ++ [f])) : (nextOf p s fs f).status = 0 → (nextOf p s fs f).value = 0 ∧ linkL p (nextOf p s fs f).frames := by
  apply nextOf_ind (P := fun t => t.status = 0 → t.value = 0 ∧ linkL p t.frames)
  · intro _ e; cases e
  · intro _ _ _; exact ⟨hv, linkL_upd h rfl⟩
  · intro _ _ _ e; cases e
  · intro _ _ _ _ e; cases e
  · intro _ _ _; exact ⟨hv, linkL_upd h rfl⟩
  · intro _ _ _; exact ⟨hv, linkL_upd h rfl⟩
  · intro _ _ _; exact ⟨hv, linkL_upd h rfl⟩
  · intro _ _ _; exact ⟨hv, linkL_upd h rfl⟩
  · intro _ _ _ e; cases e
  · intro _ h7 _ _; exact ⟨hv, linkL_push h ⟨h7, rfl⟩⟩
  · intro _ _ _; exact ⟨hv, linkL_upd h rfl⟩
  · intro _ _ _ _ e; cases e
  · intro _ _ _ g hg _
    have hfs : fs = fs.dropLast ++ [g] := by
      rcases List.eq_nil_or_concat fs with rfl | ⟨l, y, rfl⟩
      · simp at hg
      · simp at hg; subst hg; simp
    have h2 := linkL_pop h
    rw [hfs] at h2
    exact ⟨hv, linkL_upd h2 rfl⟩
structure RunX (p : Prg) (s : Sta) : Prop where
  run : RunOk p s
  val : s.status = 0 → s.value = 0 ∧ linkL p s.frames
theorem RunX.fault {p : Prg} (hp : proven p = 0) {s : Sta} (h : RunX p s) (hs : s.status = 0) : stateFault p s = 0 := by
  refine sf_ok hp ⟨by rw [hs]; exact ⟨by decide, by decide⟩, h.run.fuel, h.run.len, h.run.ans, fun _ => (h.val hs).1, ⟨fun e => absurd (List.length_eq_zero_iff.1 e) (h.run.top hs), fun e => by rw [hs] at e; cases e⟩⟩ ⟨fun f hf => rch_own (h.run.rch f hf), (h.val hs).2⟩
theorem RunX.next {p : Prg} (hp : proven p = 0) (hi : ∀ f ∈ p.funcs, ∀ x ∈ f.code, I64 x.imm) {s : Sta} {fs : List Frm} {f : Frm} (h : RunX p s) (hs : s.status = 0) (hfr : s.frames = fs ++ [f]) : RunX p (nextOf p s fs f) :=
  ⟨h.run.nextOf hp hi hfr, link_next (h.val hs).1 (by rw [← hfr]; exact (h.val hs).2)⟩
theorem beg_runX {p : Prg} {xs ys : List Int} {fuel : Int} (hp : proven p = 0) (hx : ∀ x ∈ xs, I64 x) (hy : ∀ y ∈ ys, I64 y) (hl : ys.length ≤ 100) (hf : 0 ≤ fuel ∧ fuel ≤ 10000) : RunX p (begS xs ys fuel) :=
  ⟨beg_run hp hx hy hl hf, fun _ => ⟨rfl, fun i f g _ hg => absurd hg (by simp [begS])⟩⟩
theorem next_fuel_or {p : Prg} {s : Sta} {fs : List Frm} {f : Frm} : (nextOf p s fs f).fuel = s.fuel ∨ (nextOf p s fs f).fuel = s.fuel - 1 := by
  apply nextOf_ind (P := fun t => t.fuel = s.fuel ∨ t.fuel = s.fuel - 1)
  all_goals intros; first | exact .inl rfl | exact .inr rfl
theorem nextAns_run {p : Prg} {s : Sta} {fs : List Frm} {f : Frm} (h : stateFault p s = 0) (hs : s.status = 0) (hfr : s.frames = fs ++ [f]) : nextAns p s = (nextOf p s fs f, 0) := by
  unfold nextAns; rw [if_neg (by simpa using h), if_neg (by simpa using hs), nextS_eq hfr]
/-- The place of a frame. -/
def plc (f : Frm) : Nat × Nat := (f.fn.toNat, f.pc.toNat)
def stepT (p : Prg) (s : Sta) (fs : List Frm) (f : Frm) : List (Nat × Nat) := if (nextOf p s fs f).fuel < s.fuel then [plc f] else []
noncomputable def trTo (p : Prg) : Nat → Sta → List (Nat × Nat)
  | 0, _ => []
  | n + 1, s => if s.status = 0 then (match s.frames.getLast? with | none => [] | some f => stepT p s s.frames.dropLast f) ++ trTo p n (nextS p s) else []
/-- The places of a run, in order. -/
noncomputable def trS (p : Prg) (s : Sta) : List (Nat × Nat) := trTo p (s.fuel.toNat + 1) s
theorem trTo_done (p : Prg) {s : Sta} (h : s.status ≠ 0) : ∀ n, trTo p n s = []
  | 0 => rfl
  | n + 1 => by rw [trTo, if_neg h]
theorem trS_done (p : Prg) {s : Sta} (h : s.status ≠ 0) : trS p s = [] := trTo_done p h _
theorem trS_next {p : Prg} {s : Sta} {fs : List Frm} {f : Frm} (hfr : s.frames = fs ++ [f]) (hs : s.status = 0) (hf : 0 ≤ s.fuel) : trS p s = stepT p s fs f ++ trS p (nextOf p s fs f) := by
  unfold trS
  rw [trTo, if_pos hs, nextS_eq hfr]
  have e1 : s.frames.getLast? = some f := by rw [hfr]; simp
  have e2 : s.frames.dropLast = fs := by rw [hfr]; simp
  rw [e1]
  simp only [e2]
  congr 1
  by_cases h : (nextOf p s fs f).status = 0
  · obtain ⟨h1, h2⟩ := next_fuel h
    rw [h2]; congr 1; omega
  · rw [trTo_done p h, trTo_done p h]
theorem trTo_len (p : Prg) : ∀ (n : Nat) (s : Sta), (trTo p n s).length ≤ n
  | 0, _ => Nat.le_refl _
  | n + 1, s => by
    rw [trTo]
    split
    · rw [List.length_append]
      have h1 := trTo_len p n (nextS p s)
      have h2 : (match s.frames.getLast? with | none => ([] : List (Nat × Nat)) | some f => stepT p s s.frames.dropLast f).length ≤ 1 := by
        split
        · simp
        · unfold stepT; split <;> simp
      omega
    · simp
theorem trS_len (p : Prg) (s : Sta) : (trS p s).length ≤ s.fuel.toNat + 1 := trTo_len p _ _
def cntR (T : List (Nat × Nat)) (i n : Nat) : List Int := (List.range n).map fun j => (T.count (i, j) : Int)
def codeN (p : Prg) (i : Nat) : Nat := ((p.funcs[i]?).map fun f => f.code.length).getD 0
theorem codeN_eq {p : Prg} {i : Nat} {f : Fun} (h : p.funcs[i]? = some f) : codeN p i = f.code.length := by unfold codeN; rw [h]; rfl
/-- How often each place was done. -/
def cntL (p : Prg) (T : List (Nat × Nat)) : List (List Int) := (List.range p.funcs.length).map fun i => cntR T i (codeN p i)
theorem cntR_len (T : List (Nat × Nat)) (i n : Nat) : (cntR T i n).length = n := by simp [cntR]
theorem cntL_len (p : Prg) (T : List (Nat × Nat)) : (cntL p T).length = p.funcs.length := by simp [cntL]
theorem cntR_get (T : List (Nat × Nat)) {i n j : Nat} (h : j < n) : (cntR T i n)[j]? = some (T.count (i, j) : Int) := by
  unfold cntR; rw [List.getElem?_map, List.getElem?_range h]; rfl
theorem cntL_get (p : Prg) (T : List (Nat × Nat)) {i : Nat} (h : i < p.funcs.length) : (cntL p T)[i]? = some (cntR T i (codeN p i)) := by
  unfold cntL; rw [List.getElem?_map, List.getElem?_range h]; rfl
theorem cntR_nil (i n : Nat) : cntR [] i n = List.replicate n 0 := by
  unfold cntR
  apply List.ext_getElem
  · simp
  · intro k h1 h2; simp
/-- The first rows, with nothing done. -/
def zerL (p : Prg) (q : Nat) : List (List Int) := (List.range q).map fun i => List.replicate (codeN p i) 0
theorem zerL_len (p : Prg) (q : Nat) : (zerL p q).length = q := by simp [zerL]
theorem zerL_succ (p : Prg) (q : Nat) : zerL p (q + 1) = zerL p q ++ [List.replicate (codeN p q) 0] := by unfold zerL; rw [List.range_succ, List.map_append]; rfl
theorem zerL_all (p : Prg) : zerL p p.funcs.length = cntL p [] := by
  unfold zerL cntL
  apply List.map_congr_left
  intro i _
  rw [cntR_nil]
theorem count_snoc (T : List (Nat × Nat)) (x y : Nat × Nat) : (T ++ [x]).count y = T.count y + if x = y then 1 else 0 := by
  rw [List.count_append, List.count_singleton]
  congr 1
  by_cases h : x = y
  · subst h; simp
  · simp [h]
theorem cntR_snoc (T : List (Nat × Nat)) (i j n : Nat) : cntR (T ++ [(i, j)]) i n = (cntR T i n).set j ((T.count (i, j) : Int) + 1) := by
  apply List.ext_getElem?
  intro k
  rw [List.getElem?_set, cntR_len]
  by_cases hk : k < n
  · rw [cntR_get _ hk, cntR_get _ hk, count_snoc]
    by_cases h : j = k
    · subst h; rw [if_pos rfl, if_pos rfl, if_pos hk]; rfl
    · rw [if_neg (by simpa using h), if_neg h]; rfl
  · have e1 : (cntR (T ++ [(i, j)]) i n)[k]? = none := List.getElem?_eq_none (by rw [cntR_len]; omega)
    have e2 : (cntR T i n)[k]? = none := List.getElem?_eq_none (by rw [cntR_len]; omega)
    rw [e1, e2]
    by_cases h : j = k
    · subst h; rw [if_pos rfl, if_neg hk]
    · rw [if_neg h]
theorem cntR_snoc_ne (T : List (Nat × Nat)) {i k j n : Nat} (h : k ≠ i) : cntR (T ++ [(k, j)]) i n = cntR T i n := by
  unfold cntR
  apply List.map_congr_left
  intro x _
  rw [count_snoc, if_neg (by simp [h])]; rfl
theorem cntL_snoc (p : Prg) (T : List (Nat × Nat)) (k j : Nat) : cntL p (T ++ [(k, j)]) = (cntL p T).set k ((cntR T k (codeN p k)).set j ((T.count (k, j) : Int) + 1)) := by
  apply List.ext_getElem?
  intro i
  rw [List.getElem?_set, cntL_len]
  by_cases hi : i < p.funcs.length
  · rw [cntL_get _ _ hi, cntL_get _ _ hi]
    by_cases h : k = i
    · subst h; rw [if_pos rfl, if_pos hi, cntR_snoc]
    · rw [if_neg h, cntR_snoc_ne _ h]
  · have e1 : (cntL p (T ++ [(k, j)]))[i]? = none := List.getElem?_eq_none (by rw [cntL_len]; omega)
    have e2 : (cntL p T)[i]? = none := List.getElem?_eq_none (by rw [cntL_len]; omega)
    rw [e1, e2]
    by_cases h : k = i
    · subst h; rw [if_pos rfl, if_neg hi]
    · rw [if_neg h]
/-- What a step adds. -/
theorem cntL_step (p : Prg) (T : List (Nat × Nat)) {s : Sta} {fs : List Frm} {f : Frm} {k j : Nat} (hk : f.fn = k) (hj : f.pc = j) (hkl : k < p.funcs.length) (hjl : j < codeN p k) :
    cntL p (T ++ stepT p s fs f) = (cntL p T).set k ((cntR T k (codeN p k)).set j ((T.count (k, j) : Int) + (s.fuel - (nextOf p s fs f).fuel))) := by
  have hp : plc f = (k, j) := by unfold plc; rw [hk, hj]; simp
  unfold stepT
  rcases next_fuel_or (p := p) (s := s) (fs := fs) (f := f) with h | h
  · rw [h, if_neg (by omega), List.append_nil, Int.sub_self, Int.add_zero]
    have e1 : (cntR T k (codeN p k)).set j (T.count (k, j) : Int) = cntR T k (codeN p k) := by
      apply List.ext_getElem?
      intro i
      rw [List.getElem?_set, cntR_len]
      by_cases hi : j = i
      · subst hi; rw [if_pos rfl, if_pos hjl, cntR_get _ hjl]
      · rw [if_neg hi]
    rw [e1]
    apply List.ext_getElem?
    intro i
    rw [List.getElem?_set, cntL_len]
    by_cases hi : k = i
    · subst hi; rw [if_pos rfl, if_pos hkl, cntL_get _ _ hkl]
    · rw [if_neg hi]
  · rw [h, if_pos (by omega), hp, cntL_snoc, show s.fuel - (s.fuel - 1) = 1 by omega]
theorem count_cons_pair (T : List (Nat × Nat)) (x y : Nat × Nat) : (x :: T).count y = T.count y + if x = y then 1 else 0 := by
  rw [List.count_cons]
  congr 1
  by_cases h : x = y
  · subst h; simp
  · simp [h]
theorem cntR_cons (T : List (Nat × Nat)) (i j n : Nat) : cntR ((i, j) :: T) i n = (cntR T i n).set j ((T.count (i, j) : Int) + 1) := by
  rw [← cntR_snoc]
  unfold cntR
  apply List.map_congr_left
  intro x _
  rw [count_snoc, count_cons_pair]
theorem cntR_cons_ne (T : List (Nat × Nat)) {i k j n : Nat} (h : k ≠ i) : cntR ((k, j) :: T) i n = cntR T i n := by
  unfold cntR
  apply List.map_congr_left
  intro x _
  rw [count_cons_pair, if_neg (by simp [h])]; rfl
theorem count_le (T : List (Nat × Nat)) (x : Nat × Nat) : T.count x ≤ T.length := List.count_le_length
noncomputable def countsAns (p : Prg) (xs ys : List Int) (fuel : Int) : List (List Int) × Int := if (begunAns p xs ys fuel).2 ≠ 0 then ([], (begunAns p xs ys fuel).2) else (cntL p (trS p (begunAns p xs ys fuel).1), 0)
/-- The places of a run are places of its program. -/
def InP (p : Prg) (T : List (Nat × Nat)) : Prop := ∀ x ∈ T, x.1 < p.funcs.length ∧ x.2 < codeN p x.1
theorem rch_plc {p : Prg} {f : Frm} (h : Rch p f) : ∃ k j : Nat, f.fn = k ∧ f.pc = j ∧ plc f = (k, j) ∧ k < p.funcs.length ∧ j < codeN p k := by
  obtain ⟨k, j, fn, h1, h2, h3, h4, h5⟩ := h
  exact ⟨k, j, h1, h3, by unfold plc; rw [h1, h3]; simp, (List.getElem?_eq_some_iff.1 h2).1, by rw [codeN_eq h2]; exact h4⟩
theorem InP.step {p : Prg} {T : List (Nat × Nat)} (h : InP p T) {s : Sta} {fs : List Frm} {f : Frm} (hf : Rch p f) : InP p (T ++ stepT p s fs f) := fun x hx => by
  rcases List.mem_append.1 hx with hx | hx
  · exact h x hx
  · unfold stepT at hx
    split at hx
    · obtain ⟨k, j, -, -, h3, h4, h5⟩ := rch_plc hf
      rw [List.mem_singleton.1 hx, h3]; exact ⟨h4, h5⟩
    · cases hx
theorem stepT_mu {p : Prg} {s : Sta} {fs : List Frm} {f : Frm} (h0 : 0 ≤ s.fuel) (h1 : 0 ≤ (nextOf p s fs f).fuel) : 2 * (nextOf p s fs f).fuel.toNat + (if (nextOf p s fs f).status = 0 then 1 else 0) < 2 * s.fuel.toNat + 1 := by
  by_cases h : (nextOf p s fs f).status = 0
  · rw [if_pos h]
    have := next_fuel h
    omega
  · rw [if_neg h]
    rcases next_fuel_or (p := p) (s := s) (fs := fs) (f := f) with e | e <;> rw [e] <;> omega
end Go.Proofs.YtceilfmfidmfpaaDoor
namespace Go.Proofs.YtceilfmfidmfpaaDoor
open Go.RowKit
/-- A block on the way: its cells, and what its two slices hold. -/
structure BV where
  frm : Int
  upto : Int
  vn : Value
  ns : List Int
  vp : Value
  ps : List Int
def bvCells (b : BV) : List Value := [.int .i64 b.frm, .int .i64 b.upto, b.vn, b.vp]
def bvN (t : TypeId) (b : BV) : Res := .row b.vn t 1 b.ns.length (b.ns.map (Value.int .i64))
def bvP (t : TypeId) (b : BV) : Res := .row b.vp t 1 b.ps.length (b.ps.map (Value.int .i64))
def bvRows (t : TypeId) (bs : List BV) : List Res := bs.flatMap fun b => [bvN t b, bvP t b]
abbrev bsCells (bs : List BV) : List Value := bs.flatMap bvCells
def bvOf (b : BV) : Bk := ⟨b.frm, b.upto, b.ns, b.ps⟩
def zeroBV : BV := ⟨0, 0, .slice none 0 0, [], .slice none 0 0, []⟩
theorem bs_len (bs : List BV) : (bsCells bs).length = bs.length * 4 := flat_len bvCells 4 (fun _ => rfl) bs
theorem bs_at {bs : List BV} {i k : Nat} {b : BV} (h : bs[i]? = some b) (j : Nat) {v : Value} (hv : (bvCells b)[j]? = some v) (hk : k = i * 4 + j) : (bsCells bs)[k]? = some v := by
  subst hk; exact flat_at bvCells 4 (fun _ => rfl) bs i b h j v hv
theorem flat_set {α : Type} (enc : α → List Value) (sz : Nat) (henc : ∀ x, (enc x).length = sz) : ∀ (xs : List α) (k : Nat) (x x' : α), xs[k]? = some x → ∀ (j : Nat) (v : Value), j < sz → (enc x).set j v = enc x' → (xs.flatMap enc).set (k * sz + j) v = (xs.set k x').flatMap enc
  | [], k, x, x', h, _, _, _, _ => by simp at h
  | y :: ys, 0, x, x', h, j, v, hj, he => by
    simp only [List.getElem?_cons_zero, Option.some.injEq] at h
    subst h
    rw [List.flatMap_cons, List.set_cons_zero, List.flatMap_cons, Nat.zero_mul, Nat.zero_add, List.set_append_left _ _ (by rw [henc]; exact hj), he]
  | y :: ys, k + 1, x, x', h, j, v, hj, he => by
    simp only [List.getElem?_cons_succ] at h
    rw [List.flatMap_cons, List.set_cons_succ, List.flatMap_cons, List.set_append_right _ _ (by rw [henc, Nat.succ_mul]; omega), henc, ← flat_set enc sz henc ys k x x' h j v hj he]
    congr 2; rw [Nat.succ_mul]; omega
theorem bs_setF {bs : List BV} {i k : Nat} {b : BV} (h : bs[i]? = some b) (n : Int) (hk : k = i * 4) : (bsCells bs).set k (.int .i64 n) = bsCells (bs.set i { b with frm := n }) := by
  subst hk; exact flat_set bvCells 4 (fun _ => rfl) bs i b _ h 0 _ (by omega) rfl
theorem bs_setT {bs : List BV} {i k : Nat} {b : BV} (h : bs[i]? = some b) (n : Int) (hk : k = i * 4 + 1) : (bsCells bs).set k (.int .i64 n) = bsCells (bs.set i { b with upto := n }) := by
  subst hk; exact flat_set bvCells 4 (fun _ => rfl) bs i b _ h 1 _ (by omega) rfl
theorem bs_setN {bs : List BV} {i k : Nat} {b : BV} (h : bs[i]? = some b) (v : Value) (l : List Int) (hk : k = i * 4 + 2) : (bsCells bs).set k v = bsCells (bs.set i { b with vn := v, ns := l }) := by
  subst hk; exact flat_set bvCells 4 (fun _ => rfl) bs i b _ h 2 _ (by omega) rfl
theorem bs_setP {bs : List BV} {i k : Nat} {b : BV} (h : bs[i]? = some b) (v : Value) (l : List Int) (hk : k = i * 4 + 3) : (bsCells bs).set k v = bsCells (bs.set i { b with vp := v, ps := l }) := by
  subst hk; exact flat_set bvCells 4 (fun _ => rfl) bs i b _ h 3 _ (by omega) rfl
theorem bs_lt {bs : List BV} {i k j : Nat} {b : BV} (h : bs[i]? = some b) (hk : k = i * 4 + j) (hj : j < 4) : k < (bsCells bs).length := by
  rw [bs_len]; have := (List.getElem?_eq_some_iff.1 h).1; omega
theorem bvRows_append (t : TypeId) (xa bs : List BV) : bvRows t (xa ++ bs) = bvRows t xa ++ bvRows t bs := by unfold bvRows; rw [List.flatMap_append]
theorem bvRows_split {t : TypeId} : ∀ {bs : List BV} {i : Nat} {b : BV}, bs[i]? = some b → ∃ xa cs, bs = xa ++ b :: cs ∧ ∀ b', bs.set i b' = xa ++ b' :: cs
  | [], i, b, h => by simp at h
  | y :: ys, 0, b, h => by
    simp only [List.getElem?_cons_zero, Option.some.injEq] at h
    subst h
    exact ⟨[], ys, rfl, fun _ => rfl⟩
  | y :: ys, i + 1, b, h => by
    simp only [List.getElem?_cons_succ] at h
    obtain ⟨xa, cs, e1, e2⟩ := bvRows_split (t := t) h
    exact ⟨y :: xa, cs, by rw [e1]; rfl, fun b' => by rw [List.set_cons_succ, e2]; rfl⟩
theorem bvRows_cons (t : TypeId) (b : BV) (cs : List BV) : bvRows t (b :: cs) = bvN t b :: bvP t b :: bvRows t cs := rfl
section
variable {w0 w : World} {Fs : List Fro} {L : List Res} {t : TypeId}
/-- The i-th block's first slice comes to the front; and goes back. -/
theorem Hp.takeN {bs : List BV} {i : Nat} {b : BV} (h : Hp w0 Fs (L ++ bvRows t bs) w) (hi : bs[i]? = some b) :
    ∃ R, Hp w0 Fs (bvN t b :: (L ++ R)) w ∧ ∀ (w' : World) (Fs' : List Fro) (L' : List Res) (b' : BV), bvP t b' = bvP t b → Hp w0 Fs' (bvN t b' :: (L' ++ R)) w' → Hp w0 Fs' (L' ++ bvRows t (bs.set i b')) w' := by
  obtain ⟨xa, cs, e1, e2⟩ := bvRows_split (t := t) hi
  refine ⟨bvRows t xa ++ bvP t b :: bvRows t cs, ?_, fun w' Fs' L' b' hb H => ?_⟩
  · rw [e1, bvRows_append, bvRows_cons] at h
    refine h.perm ?_
    rw [← List.append_assoc, ← List.append_assoc]
    exact List.perm_middle
  · rw [e2, bvRows_append, bvRows_cons, hb]
    refine H.perm ?_
    rw [← List.append_assoc, ← List.append_assoc]
    exact List.perm_middle.symm
/-- .. its second one. -/
theorem Hp.takeP {bs : List BV} {i : Nat} {b : BV} (h : Hp w0 Fs (L ++ bvRows t bs) w) (hi : bs[i]? = some b) :
    ∃ R, Hp w0 Fs (bvP t b :: (L ++ R)) w ∧ ∀ (w' : World) (Fs' : List Fro) (L' : List Res) (b' : BV), bvN t b' = bvN t b → Hp w0 Fs' (bvP t b' :: (L' ++ R)) w' → Hp w0 Fs' (L' ++ bvRows t (bs.set i b')) w' := by
  obtain ⟨xa, cs, e1, e2⟩ := bvRows_split (t := t) hi
  refine ⟨bvRows t xa ++ bvN t b :: bvRows t cs, ?_, fun w' Fs' L' b' hb H => ?_⟩
  · rw [e1, bvRows_append, bvRows_cons] at h
    refine h.perm ?_
    have e : L ++ (bvRows t xa ++ bvN t b :: bvP t b :: bvRows t cs) = (L ++ bvRows t xa ++ [bvN t b]) ++ bvP t b :: bvRows t cs := by simp
    rw [e]
    refine List.perm_middle.trans ?_
    simp
  · rw [e2, bvRows_append, bvRows_cons, hb]
    refine H.perm ?_
    have e : L' ++ (bvRows t xa ++ bvN t b :: bvP t b' :: bvRows t cs) = (L' ++ bvRows t xa ++ [bvN t b]) ++ bvP t b' :: bvRows t cs := by simp
    rw [e]
    refine List.Perm.trans ?_ List.perm_middle.symm
    simp
/-- Numbers alone are set. -/
theorem bvRows_set {bs : List BV} {i : Nat} {b b' : BV} (hi : bs[i]? = some b) (h1 : bvN t b' = bvN t b) (h2 : bvP t b' = bvP t b) : bvRows t (bs.set i b') = bvRows t bs := by
  obtain ⟨xa, cs, e1, e2⟩ := bvRows_split (t := t) hi
  rw [e2, bvRows_append, bvRows_cons, h1, h2, ← bvRows_cons, ← bvRows_append, ← e1]
/-- Blocks with nothing in them. -/
theorem Hp.bvNil (h : Hp w0 Fs L w) : ∀ n, Hp w0 Fs (L ++ bvRows t (List.replicate n zeroBV)) w
  | 0 => by simpa [bvRows] using h
  | n + 1 => by
    have h1 := Hp.nil (Hp.nil (Hp.bvNil h n) t 1) t 1
    refine h1.perm ?_
    rw [List.replicate_succ, bvRows_cons]
    show List.Perm ([_, _] ++ (L ++ bvRows t (List.replicate n zeroBV))) _
    refine (List.perm_append_comm_assoc [_, _] L _).trans ?_
    exact List.Perm.refl _
theorem Hp.bvSnoc {bs : List BV} (h : Hp w0 Fs (L ++ bvRows t bs) w) (n m : Int) : Hp w0 Fs (L ++ bvRows t (bs ++ [⟨n, m, .slice none 0 0, [], .slice none 0 0, []⟩])) w := by
  have h1 := Hp.nil (Hp.nil h t 1) t 1
  refine h1.perm ?_
  rw [bvRows_append, ← List.append_assoc]
  exact (List.perm_append_comm (l₁ := [_, _]))
theorem made4 {z : Value} {a b c d : Value} (hz : z.cells = #[a, b, c, d]) (n : Nat) : (madeCells z.cells (n * 4)).toList = (List.replicate n [a, b, c, d]).flatten := by
  rw [hz]
  apply List.ext_getElem?
  intro i
  by_cases hi : i < n * 4
  · have h1 : (List.replicate n [a, b, c, d]).flatten[i]? = [a, b, c, d][i % 4]? := by
      have h2 := flat_at (fun l : List Value => if l.length = 4 then l else [a, b, c, d]) 4 (fun x => by split; assumption; rfl) (List.replicate n [a, b, c, d]) (i / 4) [a, b, c, d] (by rw [List.getElem?_replicate, if_pos (by omega)]) (i % 4)
      have h3 : i % 4 < 4 := Nat.mod_lt _ (by omega)
      obtain ⟨v, hv⟩ : ∃ v, [a, b, c, d][i % 4]? = some v := ⟨[a, b, c, d][i % 4], List.getElem?_eq_getElem h3⟩
      have h4 := h2 v (by simpa using hv)
      rw [show i / 4 * 4 + i % 4 = i by omega] at h4
      rw [hv, ← h4]
      congr 1
      rw [List.flatten_eq_flatMap]
      clear h2 h4 hv h3 hi
      induction n with
      | zero => rfl
      | succ n ih => rw [List.replicate_succ, List.flatMap_cons, List.flatMap_cons, ih]; rfl
    rw [h1]
    unfold madeCells
    rw [Array.getElem?_toList, Array.getElem?_map, Array.getElem?_range, if_pos hi]
    have h3 : i % 4 < 4 := Nat.mod_lt _ (by omega)
    have : i % 4 = 0 ∨ i % 4 = 1 ∨ i % 4 = 2 ∨ i % 4 = 3 := by omega
    rcases this with h | h | h | h <;> simp [h]
  · rw [List.getElem?_eq_none (by simp [madeCells]; omega), List.getElem?_eq_none (by simp; omega)]
end
instance layBk : Lay Bk where
  size := 4
  bytes := 64
  rep w B x cs := ∃ u v, cs = [.int .i64 x.frm, .int .i64 x.upto, u, v] ∧ Lay.rep w B x.nxt [u] ∧ Lay.rep w B x.prv [v]
  len h := by obtain ⟨u, v, rfl, _⟩ := h; rfl
  keep k h := by obtain ⟨u, v, rfl, h1, h2⟩ := h; exact ⟨u, v, rfl, Lay.keep k h1, Lay.keep k h2⟩
  more k h := by obtain ⟨u, v, rfl, h1, h2⟩ := h; exact ⟨u, v, rfl, Lay.more k h1, Lay.more k h2⟩
  ok _ := True
  dat _ _ := True
/-- An element of a slice of blocks. -/
theorem rep_bks_at {w : World} {B : Nat → Prop} {xs : List Bk} {v : Value} (h : Lay.rep w B xs [v]) : ∃ (A : Option Addr) (c : Nat), v = .slice A xs.length c ∧ xs.length ≤ c ∧ c ≤ maxLen ∧
    ∀ (k : Nat) (hk : k < xs.length), ∃ (a : Addr) (u z : Value), A = some a ∧ B a.block ∧ At w (a.add (k * 4)) [.int .i64 xs[k].frm, .int .i64 xs[k].upto, u, z] ∧ Lay.rep w B xs[k].nxt [u] ∧ Lay.rep w B xs[k].prv [z] := by
  obtain ⟨A, c, e, h1, h2, h3⟩ := rep_list h
  injection e with e
  refine ⟨A, c, e, h1, h2, fun k hk => ?_⟩
  obtain ⟨a, ds, ha, hb, hat, hr⟩ := h3 k hk
  obtain ⟨u, z, rfl, h4, h5⟩ := hr
  exact ⟨a, u, z, ha, hb, hat, h4, h5⟩
theorem rep_bks_nil {w : World} {S : Nat → Prop} : Lay.rep w S ([] : List Bk) [.slice none 0 0] := ⟨none, 0, rfl, Nat.le_refl _, by unfold maxLen; omega, fun k x h => by simp at h⟩
/-- Owned blocks, xa data. -/
theorem Hp.bkRep {w0 w : World} {Fs : List Fro} {L : List Res} {t e : TypeId} {v : Value} {n : Nat} {bs : List BV} (h : Hp w0 Fs L w) (hm : Res.row v e 4 n (bsCells bs) ∈ L) (hin : ∀ r ∈ bvRows t bs, r ∈ L) : Lay.rep w (Fresh w0 w) (bs.map bvOf) [v] := by
  have ho := h.row hm
  have hf := (h.own _ hm).2
  have hn : bs.length = n := by have := ho.1; rw [bs_len] at this; omega
  subst hn
  rcases ho.2 with ⟨rfl, hn⟩ | ⟨g, cap, cur, rfl, hb, hg, hle, hx, hs, ht⟩
  · have : bs = [] := List.length_eq_zero_iff.1 hn
    subst this
    exact rep_bks_nil
  · refine ⟨some ⟨g, 0, none⟩, cap, by rw [List.length_map], by rw [List.length_map]; exact hle, hx, fun k x hk => ?_⟩
    rw [List.getElem?_map] at hk
    obtain ⟨b, hbk, rfl⟩ := Option.map_eq_some_iff.1 hk
    refine ⟨_, bvCells b, rfl, ⟨(hf g rfl).1, (hf g rfl).2.1⟩, fun j u hu => ?_, b.vn, b.vp, rfl, ?_, ?_⟩
    · have := ho.cells (g := g) rfl (k * 4 + j) _ (bs_at hbk j hu rfl)
      rw [add_of_add]
      exact this
    · exact h.rowInts (v := b.vn) (e := t) (n := b.ns.length) (xs := b.ns) (hin (bvN t b) (List.mem_flatMap.2 ⟨b, List.mem_of_getElem? hbk, .head _⟩)) rfl
    · exact h.rowInts (v := b.vp) (e := t) (n := b.ps.length) (xs := b.ps) (hin (bvP t b) (List.mem_flatMap.2 ⟨b, List.mem_of_getElem? hbk, .tail _ (.head _)⟩)) rfl
end Go.Proofs.YtceilfmfidmfpaaDoor
namespace Go.Proofs.YtceilfmfidmfpaaDoor
open Go.RowKit Plain64
attribute [local irreducible] wpList Code.wp Oper.wp
/-- P3.4. -/
def readsAns (p : Prg) (fn pc : Int) : Int × Int × Int :=
  if prgFault p ≠ 0 then (0, 0, prgFault p) else
  match p.funcs[fn.toNat]? with
  | none => (0, 0, 2)
  | some f => match f.code[pc.toNat]? with
    | none => (0, 0, 2)
    | some x => if fn < 0 ∨ pc < 0 then (0, 0, 2) else (bitsL (readsL p x), if setsZ x.op then 2 ^ x.dst.toNat else 0, 0)
theorem sets_ok (op : Int) (h : 1 ≤ op) : (decide (op ≤ 13) || decide (op = 17) || decide (op = 18)) = setsZ op := by
  unfold setsZ; rw [Bool.eq_iff_iff]; simp; omega
theorem and_all_nat : ∀ d : Fin 12, bits .and .i64 (2 ^ d.1) 4095 = 2 ^ d.1 := by decide +kernel
theorem and_all (d : Int) (h : 0 ≤ d ∧ d ≤ 11) : bits .and .i64 (2 ^ d.toNat) 4095 = 2 ^ d.toNat := and_all_nat ⟨d.toNat, by omega⟩
theorem and_all0 : bits .and .i64 0 4095 = 0 := by decide +kernel
theorem rep_code {f : List Ins} {u : Value} {w : World} {S : Nat → Prop} (h : Lay.rep w S f [u]) : ∃ (A : Option Addr) (c : Nat), u = .slice A f.length c ∧ f.length ≤ c ∧ c ≤ maxLen ∧
    ∀ (k : Nat) (hk : k < f.length), ∃ (a : Addr), A = some a ∧ S a.block ∧ At w (a.add (k * 5)) [.int .i64 f[k].op, .int .i64 f[k].dst, .int .i64 f[k].a, .int .i64 f[k].b, .int .i64 f[k].imm] := rep_code_at h
end Go.Proofs.YtceilfmfidmfpaaDoor
namespace Go.Proofs.YtceilfmfidmfpaaDoor
open Go.RowKit Plain64
attribute [local irreducible] wpList Code.wp Oper.wp
theorem bit_pow_nat : ∀ a b : Fin 12, bitZ (2 ^ a.1) b.1 = decide ((a.1 : Int) = b.1) := by decide +kernel
theorem readsL_len (p : Prg) (x : Ins) : (readsL p x).length ≤ 2 := by
  unfold readsL; split <;> split <;> simp
theorem readsL_in (p : Prg) (x : Ins) {len funcs : Nat} (h : OkI x len funcs) : ∀ a ∈ readsL p x, 0 ≤ a ∧ a ≤ 11 := by
  unfold readsL
  intro a ha
  rcases List.mem_append.1 ha with ha | ha
  · split at ha
    · rw [List.mem_singleton.1 ha]; exact h.a
    · cases ha
  · split at ha
    · rw [List.mem_singleton.1 ha]; exact h.b
    · cases ha
theorem bits_step (l : List Int) (hl : l.length ≤ 2) (hb : ∀ a ∈ l, 0 ≤ a ∧ a ≤ 11) (k : Nat) (hk : k < l.length) :
    bitsL (l.take (k + 1)) = (if bitZ (bitsL (l.take k)) l[k].toNat then bitsL (l.take k) else bitsL (l.take k) + 2 ^ l[k].toNat) ∧ 0 ≤ bitsL (l.take k) ∧ bitsL (l.take k) ≤ 4095 ∧ 0 ≤ bitsL (l.take (k + 1)) ∧ bitsL (l.take (k + 1)) ≤ 4095 := by
  match l, hl, hk with
  | [a], _, hk =>
    obtain rfl : k = 0 := by simpa using hk
    have := pow_small a (hb a (by simp))
    simp [bitsL, bitZ]; omega
  | [a, b], _, hk =>
    have h1 := pow_small a (hb a (by simp))
    have h2 := pow_small b (hb b (by simp))
    have h3 : 0 ≤ bitsL [a, b] ∧ bitsL [a, b] ≤ 4095 := by
      show 0 ≤ (if a = b then _ else _) ∧ (if a = b then _ else _) ≤ _
      by_cases e : a = b
      · rw [if_pos e]; omega
      · rw [if_neg e]
        have : (2 : Int) ^ a.toNat + 2 ^ b.toNat ≤ 4095 := by
          have hn : ∀ a b : Fin 12, a ≠ b → (2 : Int) ^ a.1 + 2 ^ b.1 ≤ 4095 := by decide +kernel
          have ha := hb a (by simp)
          have hb' := hb b (by simp)
          exact hn ⟨a.toNat, by omega⟩ ⟨b.toNat, by omega⟩ (fun h => e (by have := congrArg Fin.val h; simp at this; omega))
        omega
    have hk2 : k = 0 ∨ k = 1 := by simp at hk; omega
    rcases hk2 with rfl | rfl
    · refine ⟨by simp [bitsL, bitZ], by simp [bitsL], by simp [bitsL], by simp [bitsL]; omega, by simp [bitsL]; omega⟩
    · have ha := hb a (by simp)
      have hb' := hb b (by simp)
      have := bit_pow_nat ⟨a.toNat, by omega⟩ ⟨b.toNat, by omega⟩
      simp only at this
      refine ⟨?_, by simp [bitsL]; omega, by simp [bitsL]; omega, h3⟩
      show (if a = b then _ else _) = if bitZ (2 ^ a.toNat) b.toNat then _ else _
      rw [this]
      by_cases e : a = b
      · rw [if_pos e, if_pos (by simp; omega)]; rfl
      · rw [if_neg e, if_neg (by simp; omega)]; rfl
end Go.Proofs.YtceilfmfidmfpaaDoor
namespace Go.Proofs.YtceilfmfidmfpaaDoor
open Go.RowKit Plain64
/-- Is a register kept? -/
def keepB (z : Int) (r : Nat) : Bool := decide (0 ≤ z) && bitZ z r
/-- The first k registers are tidied. -/
def keepK (z : Int) (f : Frm) : Nat → Frm
  | 0 => f
  | k + 1 => if keepB z k then keepK z f k else ⟨(keepK z f k).fn, (keepK z f k).pc, (keepK z f k).regs.setIfInBounds k 0⟩
theorem keepK_rest (z : Int) (f : Frm) (k : Nat) : (keepK z f k).fn = f.fn ∧ (keepK z f k).pc = f.pc := by
  induction k with
  | zero => exact ⟨rfl, rfl⟩
  | succ k ih => rw [keepK]; split <;> exact ih
theorem keepK_yes {z : Int} {f : Frm} {k : Nat} (h : keepB z k = true) : keepK z f (k + 1) = keepK z f k := by rw [keepK, if_pos h]
theorem keepK_no {z : Int} {f : Frm} {k : Nat} (h : keepB z k = false) : keepK z f (k + 1) = ⟨(keepK z f k).fn, (keepK z f k).pc, (keepK z f k).regs.setIfInBounds k 0⟩ := by rw [keepK, if_neg (by simp [h])]
noncomputable def liveZ (p : Prg) (f : Frm) : Int := (liveAns p f.fn).1.getD f.pc.toNat 0
noncomputable def tidyF (p : Prg) (f : Frm) : Frm := keepK (liveZ p f) f 12
noncomputable def tidyS (p : Prg) (s : Sta) : Sta := { s with frames := s.frames.map (tidyF p) }
noncomputable def tidyAns (p : Prg) (s : Sta) : Sta × Int := if stateFault p s ≠ 0 then (zeroS, stateFault p s) else (tidyS p s, 0)
theorem tidy_bad {p : Prg} {s : Sta} (h : stateFault p s ≠ 0) : tidyAns p s = (zeroS, stateFault p s) := by unfold tidyAns; rw [if_pos h]
theorem tidy_ok {p : Prg} {s : Sta} (h : stateFault p s = 0) : tidyAns p s = (tidyS p s, 0) := by unfold tidyAns; rw [if_neg (by simpa using h)]
theorem own_live {p : Prg} (hp : proven p = 0) {f : Frm} (h : ownF p f) : ∃ j : Nat, f.pc = j ∧ j < (liveAns p f.fn).1.length ∧ -1 ≤ (liveAns p f.fn).1.getD j 0 ∧ (liveAns p f.fn).1.getD j 0 ≤ 4095 := by
  obtain ⟨h1, h2, h3, h4⟩ := h
  obtain ⟨k, hk⟩ := Int.eq_ofNat_of_zero_le h1
  obtain ⟨j, hj⟩ := Int.eq_ofNat_of_zero_le h3
  have hkl : k < p.funcs.length := by omega
  have hf := List.getElem?_eq_getElem hkl
  rw [hk] at h4 ⊢
  rw [codeOf_eq hf, hj] at h4
  have e : (liveAns p (k : Int)).1 = liveL p p.funcs[k] := by
    unfold liveAns
    rw [if_neg (by simpa using hp), if_neg (by omega), Int.toNat_natCast, hf]
  have hjl : j < p.funcs[k].code.length := by omega
  refine ⟨j, hj, by rw [e, liveL_len]; exact hjl, ?_⟩
  rw [e]
  unfold liveL
  rw [List.getD_eq_getElem?_getD, List.getElem?_map, List.getElem?_range hjl]
  show -1 ≤ liveUpto p p.funcs[k] 12 j ∧ liveUpto p p.funcs[k] 12 j ≤ 4095
  unfold liveUpto
  split
  · have := mskZ_range (fun r => liveB p p.funcs[k] r j) 12; omega
  · omega
/-- A register of a frame among others. -/
theorem mid_set {fs : List Frm} {f : Frm} {R : List Value} {q d k : Nat} (hq : fs.length = q) (hd : d < 12) (hk : k = q * 14 + (2 + d)) (v : Int) : (fs.flatMap frmCells ++ (frmCells f ++ R)).set k (iV v) = fs.flatMap frmCells ++ (frmCells ⟨f.fn, f.pc, f.regs.setIfInBounds d v⟩ ++ R) := by
  subst hk hq
  rw [frms_set, List.set_append_left _ _ (by show _ < 14; omega), frm_set _ _ hd]
theorem mid_lt {fs : List Frm} {f : Frm} {R : List Value} {q k : Nat} (hq : fs.length = q) (hk : k < q * 14 + 14) : k < (fs.flatMap frmCells ++ (frmCells f ++ R)).length := by
  rw [List.length_append, frms_len, hq, List.length_append, show (frmCells f).length = 14 from rfl]; omega
theorem mid_at {fs : List Frm} {f : Frm} {R : List Value} {q j k : Nat} (hq : fs.length = q) (hj : j < 14) (hk : k = q * 14 + j) : (fs.flatMap frmCells ++ (frmCells f ++ R))[k]? = (frmCells f)[j]? := by
  subst hk hq; rw [frms_at, List.getElem?_append_left (by show _ < 14; omega)]
/-- The frames of a state on the way: the first ones are tidied. -/
theorem frms_step {p : Prg} {l : List Frm} {i : Nat} (h : i < l.length) : ((l.take i).map (tidyF p) ++ l.drop i) = (l.take i).map (tidyF p) ++ l[i] :: l.drop (i + 1) := by rw [List.drop_eq_getElem_cons h]
theorem frms_next {p : Prg} {l : List Frm} {i : Nat} (h : i < l.length) : (l.take (i + 1)).map (tidyF p) ++ l.drop (i + 1) = (l.take i).map (tidyF p) ++ tidyF p l[i] :: l.drop (i + 1) := by
  rw [List.take_add_one, List.getElem?_eq_getElem h, List.map_append, List.append_assoc]; rfl
end Go.Proofs.YtceilfmfidmfpaaDoor
