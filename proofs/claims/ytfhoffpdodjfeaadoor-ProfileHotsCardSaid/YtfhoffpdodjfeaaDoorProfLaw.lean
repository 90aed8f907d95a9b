/- P6.1: how often each place of a run is done. No program is named here. -/
import Derived.Test.YtfhoffpdodjfeaaDoorMgBegLawNextAnsRunLawRunLawBBegRun5
set_option linter.unusedSimpArgs false
set_option linter.unusedVariables false
namespace Go.Proofs.YtfhoffpdodjfeaaDoor
open Go.RowKit Plain64
def linkL (p : Prg) (fs : List Frm) : Prop := ∀ (i : Nat) f g, fs[i]? = some f → fs[i + 1]? = some g → linkF p f g
theorem linkL_pop {p : Prg} {fs : List Frm} {f : Frm} (h : linkL p (fs ++ [f])) : linkL p fs := fun i a b ha hb => by
  have h1 := (List.getElem?_eq_some_iff.1 ha).1
  have h2 := (List.getElem?_eq_some_iff.1 hb).1
  exact h i a b (by rw [List.getElem?_append_left h1]; exact ha) (by rw [List.getElem?_append_left h2]; exact hb)
theorem linkL_upd {p : Prg} {fs : List Frm} {f f' : Frm} (h : linkL p (fs ++ [f])) (hf : f'.fn = f.fn) : linkL p (fs ++ [f']) := fun i a b ha hb => by
  have h2 := (List.getElem?_eq_some_iff.1 hb).1
  rw [List.length_append] at h2
  have h2 : i + 1 < fs.length + 1 := h2
  have hia : a = a := rfl
  rw [List.getElem?_append_left (by omega)] at ha
  by_cases h3 : i + 1 < fs.length
  · rw [List.getElem?_append_left h3] at hb
    exact h i a b (by rw [List.getElem?_append_left (by omega)]; exact ha) (by rw [List.getElem?_append_left h3]; exact hb)
  · have h4 : i + 1 = fs.length := by omega
    rw [List.getElem?_append_right (by omega), h4, Nat.sub_self] at hb
    obtain rfl : f' = b := by simpa using hb
    have h5 := h i a f (by rw [List.getElem?_append_left (by omega)]; exact ha) (by rw [List.getElem?_append_right (by omega), h4, Nat.sub_self]; rfl)
    exact ⟨h5.1, h5.2.trans hf.symm⟩
theorem linkL_push {p : Prg} {fs : List Frm} {f g : Frm} (h : linkL p (fs ++ [f])) (hl : linkF p f g) : linkL p (fs ++ [f] ++ [g]) := fun i a b ha hb => by
  have h2 := (List.getElem?_eq_some_iff.1 hb).1
  have h2 : i + 1 < (fs ++ [f]).length + 1 := by rw [List.length_append] at h2; exact h2
  rw [List.getElem?_append_left (by omega)] at ha
  by_cases h3 : i + 1 < (fs ++ [f]).length
  · rw [List.getElem?_append_left h3] at hb
    exact h i a b ha hb
  · have h4 : i + 1 = (fs ++ [f]).length := by omega
    rw [List.getElem?_append_right (by omega), h4, Nat.sub_self] at hb
    obtain rfl : g = b := by simpa using hb
    have h5 : i = fs.length := by rw [List.length_append] at h4; have h4 : i + 1 = fs.length + 1 := h4; omega
    subst h5
    rw [List.getElem?_append_right (by omega), Nat.sub_self] at ha
    obtain rfl : f = a := by simpa using ha
    exact hl
theorem link_next {p : Prg} {s : Sta} {fs : List Frm} {f : Frm} (hv : s.value = 0) (h : linkL p (fs ++ [f])) : (nextOf p s fs f).status = 0 → (nextOf p s fs f).value = 0 ∧ linkL p (nextOf p s fs f).frames := by
  apply nextOf_ind (P := fun t => t.status = 0 → t.value = 0 ∧ linkL p t.frames)
  · intro _ e; cases e
  · intro _ _ _; exact ⟨hv, linkL_upd h rfl⟩
  · intro _ _ _ e; cases e
  · intro _ _ _ _ e; cases e
  · intro _ _ _; exact ⟨hv, linkL_upd h rfl⟩
  · intro _ _ _; exact ⟨hv, linkL_upd h rfl⟩
  · intro _ _ _; exact ⟨hv, linkL_upd h rfl⟩
  · intro _ _ _; exact ⟨hv, linkL_upd h rfl⟩
  · intro _ _ _ e; cases e
  · intro _ h7 _ _; exact ⟨hv, linkL_push h ⟨h7, rfl⟩⟩
  · intro _ _ _; exact ⟨hv, linkL_upd h rfl⟩
  · intro _ _ _ _ e; cases e
  · intro _ _ _ g hg _
    have hfs : fs = fs.dropLast ++ [g] := by
      rcases List.eq_nil_or_concat fs with rfl | ⟨l, y, rfl⟩
      · simp at hg
      · simp at hg; subst hg; simp
    have h2 := linkL_pop h
    rw [hfs] at h2
    exact ⟨hv, linkL_upd h2 rfl⟩
structure RunX (p : Prg) (s : Sta) : Prop where
  run : RunOk p s
  val : s.status = 0 → s.value = 0 ∧ linkL p s.frames
theorem RunX.fault {p : Prg} (hp : proven p = 0) {s : Sta} (h : RunX p s) (hs : s.status = 0) : stateFault p s = 0 := by
  refine sf_ok hp ⟨by rw [hs]; exact ⟨by decide, by decide⟩, h.run.fuel, h.run.len, h.run.ans, fun _ => (h.val hs).1, ⟨fun e => absurd (List.length_eq_zero_iff.1 e) (h.run.top hs), fun e => by rw [hs] at e; cases e⟩⟩ ⟨fun f hf => rch_own (h.run.rch f hf), (h.val hs).2⟩
theorem RunX.next {p : Prg} (hp : proven p = 0) (hi : ∀ f ∈ p.funcs, ∀ x ∈ f.code, I64 x.imm) {s : Sta} {fs : List Frm} {f : Frm} (h : RunX p s) (hs : s.status = 0) (hfr : s.frames = fs ++ [f]) : RunX p (nextOf p s fs f) :=
  ⟨h.run.nextOf hp hi hfr, link_next (h.val hs).1 (by rw [← hfr]; exact (h.val hs).2)⟩
theorem beg_runX {p : Prg} {xs ys : List Int} {fuel : Int} (hp : proven p = 0) (hx : ∀ x ∈ xs, I64 x) (hy : ∀ y ∈ ys, I64 y) (hl : ys.length ≤ 100) (hf : 0 ≤ fuel ∧ fuel ≤ 10000) : RunX p (begS xs ys fuel) :=
  ⟨beg_run hp hx hy hl hf, fun _ => ⟨rfl, fun i f g _ hg => absurd hg (by simp [begS])⟩⟩
theorem next_fuel_or {p : Prg} {s : Sta} {fs : List Frm} {f : Frm} : (nextOf p s fs f).fuel = s.fuel ∨ (nextOf p s fs f).fuel = s.fuel - 1 := by
  apply nextOf_ind (P := fun t => t.fuel = s.fuel ∨ t.fuel = s.fuel - 1)
  all_goals intros; first | exact .inl rfl | exact .inr rfl
theorem nextAns_run {p : Prg} {s : Sta} {fs : List Frm} {f : Frm} (h : stateFault p s = 0) (hs : s.status = 0) (hfr : s.frames = fs ++ [f]) : nextAns p s = (nextOf p s fs f, 0) := by
  unfold nextAns; rw [if_neg (by simpa using h), if_neg (by simpa using hs), nextS_eq hfr]
/-- The place of a frame. -/
def plc (f : Frm) : Nat × Nat := (f.fn.toNat, f.pc.toNat)
def stepT (p : Prg) (s : Sta) (fs : List Frm) (f : Frm) : List (Nat × Nat) := if (nextOf p s fs f).fuel < s.fuel then [plc f] else []
noncomputable def trTo (p : Prg) : Nat → Sta → List (Nat × Nat)
  | 0, _ => []
  | n + 1, s => if s.status = 0 then (match s.frames.getLast? with | none => [] | some f => stepT p s s.frames.dropLast f) ++ trTo p n (nextS p s) else []
/-- The places of a run, in order. -/
noncomputable def trS (p : Prg) (s : Sta) : List (Nat × Nat) := trTo p (s.fuel.toNat + 1) s
theorem trTo_done (p : Prg) {s : Sta} (h : s.status ≠ 0) : ∀ n, trTo p n s = []
  | 0 => rfl
  | n + 1 => by rw [trTo, if_neg h]
theorem trS_done (p : Prg) {s : Sta} (h : s.status ≠ 0) : trS p s = [] := trTo_done p h _
theorem trS_next {p : Prg} {s : Sta} {fs : List Frm} {f : Frm} (hfr : s.frames = fs ++ [f]) (hs : s.status = 0) (hf : 0 ≤ s.fuel) : trS p s = stepT p s fs f ++ trS p (nextOf p s fs f) := by
  unfold trS
  rw [trTo, if_pos hs, nextS_eq hfr]
  have e1 : s.frames.getLast? = some f := by rw [hfr]; simp
  have e2 : s.frames.dropLast = fs := by rw [hfr]; simp
  rw [e1]
  simp only [e2]
  congr 1
  by_cases h : (nextOf p s fs f).status = 0
  · obtain ⟨h1, h2⟩ := next_fuel h
    rw [h2]; congr 1; omega
  · rw [trTo_done p h, trTo_done p h]
theorem trTo_len (p : Prg) : ∀ (n : Nat) (s : Sta), (trTo p n s).length ≤ n
  | 0, _ => Nat.le_refl _
  | n + 1, s => by
    rw [trTo]
    split
    · rw [List.length_append]
      have h1 := trTo_len p n (nextS p s)
      have h2 : (match s.frames.getLast? with | none => ([] : List (Nat × Nat)) | some f => stepT p s s.frames.dropLast f).length ≤ 1 := by
        split
        · simp
        · unfold stepT; split <;> simp
      omega
    · simp
theorem trS_len (p : Prg) (s : Sta) : (trS p s).length ≤ s.fuel.toNat + 1 := trTo_len p _ _
def cntR (T : List (Nat × Nat)) (i n : Nat) : List Int := (List.range n).map fun j => (T.count (i, j) : Int)
def codeN (p : Prg) (i : Nat) : Nat := ((p.funcs[i]?).map fun f => f.code.length).getD 0
theorem codeN_eq {p : Prg} {i : Nat} {f : Fun} (h : p.funcs[i]? = some f) : codeN p i = f.code.length := by unfold codeN; rw [h]; rfl
/-- How often each place was done. -/
def cntL (p : Prg) (T : List (Nat × Nat)) : List (List Int) := (List.range p.funcs.length).map fun i => cntR T i (codeN p i)
theorem cntR_len (T : List (Nat × Nat)) (i n : Nat) : (cntR T i n).length = n := by simp [cntR]
theorem cntL_len (p : Prg) (T : List (Nat × Nat)) : (cntL p T).length = p.funcs.length := by simp [cntL]
theorem cntR_get (T : List (Nat × Nat)) {i n j : Nat} (h : j < n) : (cntR T i n)[j]? = some (T.count (i, j) : Int) := by
  unfold cntR; rw [List.getElem?_map, List.getElem?_range h]; rfl
theorem cntL_get (p : Prg) (T : List (Nat × Nat)) {i : Nat} (h : i < p.funcs.length) : (cntL p T)[i]? = some (cntR T i (codeN p i)) := by
  unfold cntL; rw [List.getElem?_map, List.getElem?_range h]; rfl
theorem cntR_nil (i n : Nat) : cntR [] i n = List.replicate n 0 := by
  unfold cntR
  apply List.ext_getElem
  · simp
  · intro k h1 h2; simp
/-- The first rows, with nothing done. -/
def zerL (p : Prg) (q : Nat) : List (List Int) := (List.range q).map fun i => List.replicate (codeN p i) 0
theorem zerL_len (p : Prg) (q : Nat) : (zerL p q).length = q := by simp [zerL]
theorem zerL_succ (p : Prg) (q : Nat) : zerL p (q + 1) = zerL p q ++ [List.replicate (codeN p q) 0] := by unfold zerL; rw [List.range_succ, List.map_append]; rfl
theorem zerL_all (p : Prg) : zerL p p.funcs.length = cntL p [] := by
  unfold zerL cntL
  apply List.map_congr_left
  intro i _
  rw [cntR_nil]
theorem count_snoc (T : List (Nat × Nat)) (x y : Nat × Nat) : (T ++ [x]).count y = T.count y + if x = y then 1 else 0 := by
  rw [List.count_append, List.count_singleton]
  congr 1
  by_cases h : x = y
  · subst h; simp
  · simp [h]
theorem cntR_snoc (T : List (Nat × Nat)) (i j n : Nat) : cntR (T ++ [(i, j)]) i n = (cntR T i n).set j ((T.count (i, j) : Int) + 1) := by
  apply List.ext_getElem?
  intro k
  rw [List.getElem?_set, cntR_len]
  by_cases hk : k < n
  · rw [cntR_get _ hk, cntR_get _ hk, count_snoc]
    by_cases h : j = k
    · subst h; rw [if_pos rfl, if_pos rfl, if_pos hk]; rfl
    · rw [if_neg (by simpa using h), if_neg h]; rfl
  · have e1 : (cntR (T ++ [(i, j)]) i n)[k]? = none := List.getElem?_eq_none (by rw [cntR_len]; omega)
    have e2 : (cntR T i n)[k]? = none := List.getElem?_eq_none (by rw [cntR_len]; omega)
    rw [e1, e2]
    by_cases h : j = k
    · subst h; rw [if_pos rfl, if_neg hk]
    · rw [if_neg h]
theorem cntR_snoc_ne (T : List (Nat × Nat)) {i k j n : Nat} (h : k ≠ i) : cntR (T ++ [(k, j)]) i n = cntR T i n := by
  unfold cntR
  apply List.map_congr_left
  intro x _
  rw [count_snoc, if_neg (by simp [h])]; rfl
theorem cntL_snoc (p : Prg) (T : List (Nat × Nat)) (k j : Nat) : cntL p (T ++ [(k, j)]) = (cntL p T).set k ((cntR T k (codeN p k)).set j ((T.count (k, j) : Int) + 1)) := by
  apply List.ext_getElem?
  intro i
  rw [List.getElem?_set, cntL_len]
  by_cases hi : i < p.funcs.length
  · rw [cntL_get _ _ hi, cntL_get _ _ hi]
    by_cases h : k = i
    · subst h; rw [if_pos rfl, if_pos hi, cntR_snoc]
    · rw [if_neg h, cntR_snoc_ne _ h]
  · have e1 : (cntL p (T ++ [(k, j)]))[i]? = none := List.getElem?_eq_none (by rw [cntL_len]; omega)
    have e2 : (cntL p T)[i]? = none := List.getElem?_eq_none (by rw [cntL_len]; omega)
    rw [e1, e2]
    by_cases h : k = i
    · subst h; rw [if_pos rfl, if_neg hi]
    · rw [if_neg h]
/-- What a step adds. -/
theorem cntL_step (p : Prg) (T : List (Nat × Nat)) {s : Sta} {fs : List Frm} {f : Frm} {k j : Nat} (hk : f.fn = k) (hj : f.pc = j) (hkl : k < p.funcs.length) (hjl : j < codeN p k) :
    cntL p (T ++ stepT p s fs f) = (cntL p T).set k ((cntR T k (codeN p k)).set j ((T.count (k, j) : Int) + (s.fuel - (nextOf p s fs f).fuel))) := by
  have hp : plc f = (k, j) := by unfold plc; rw [hk, hj]; simp
  unfold stepT
  rcases next_fuel_or (p := p) (s := s) (fs := fs) (f := f) with h | h
  · rw [h, if_neg (by omega), List.append_nil, Int.sub_self, Int.add_zero]
    have e1 : (cntR T k (codeN p k)).set j (T.count (k, j) : Int) = cntR T k (codeN p k) := by
      apply List.ext_getElem?
      intro i
      rw [List.getElem?_set, cntR_len]
      by_cases hi : j = i
      · subst hi; rw [if_pos rfl, if_pos hjl, cntR_get _ hjl]
      · rw [if_neg hi]
    rw [e1]
    apply List.ext_getElem?
    intro i
    rw [List.getElem?_set, cntL_len]
    by_cases hi : k = i
    · subst hi; rw [if_pos rfl, if_pos hkl, cntL_get _ _ hkl]
    · rw [if_neg hi]
  · rw [h, if_pos (by omega), hp, cntL_snoc, show s.fuel - (s.fuel - 1) = 1 by omega]
theorem count_cons_pair (T : List (Nat × Nat)) (x y : Nat × Nat) : (x :: T).count y = T.count y + if x = y then 1 else 0 := by
  rw [List.count_cons]
  congr 1
  by_cases h : x = y
  · subst h; simp
  · simp [h]
theorem cntR_cons (T : List (Nat × Nat)) (i j n : Nat) : cntR ((i, j) :: T) i n = (cntR T i n).set j ((T.count (i, j) : Int) + 1) := by
  rw [← cntR_snoc]
  unfold cntR
  apply List.map_congr_left
  intro x _
  rw [count_snoc, count_cons_pair]
theorem cntR_cons_ne (T : List (Nat × Nat)) {i k j n : Nat} (h : k ≠ i) : cntR ((k, j) :: T) i n = cntR T i n := by
  unfold cntR
  apply List.map_congr_left
  intro x _
  rw [count_cons_pair, if_neg (by simp [h])]; rfl
theorem count_le (T : List (Nat × Nat)) (x : Nat × Nat) : T.count x ≤ T.length := List.count_le_length
noncomputable def countsAns (p : Prg) (xs ys : List Int) (fuel : Int) : List (List Int) × Int := if (begunAns p xs ys fuel).2 ≠ 0 then ([], (begunAns p xs ys fuel).2) else (cntL p (trS p (begunAns p xs ys fuel).1), 0)
/-- The places of a run are places of its program. -/
def InP (p : Prg) (T : List (Nat × Nat)) : Prop := ∀ x ∈ T, x.1 < p.funcs.length ∧ x.2 < codeN p x.1
theorem rch_plc {p : Prg} {f : Frm} (h : Rch p f) : ∃ k j : Nat, f.fn = k ∧ f.pc = j ∧ plc f = (k, j) ∧ k < p.funcs.length ∧ j < codeN p k := by
  obtain ⟨k, j, fn, h1, h2, h3, h4, h5⟩ := h
  exact ⟨k, j, h1, h3, by unfold plc; rw [h1, h3]; simp, (List.getElem?_eq_some_iff.1 h2).1, by rw [codeN_eq h2]; exact h4⟩
theorem InP.step {p : Prg} {T : List (Nat × Nat)} (h : InP p T) {s : Sta} {fs : List Frm} {f : Frm} (hf : Rch p f) : InP p (T ++ stepT p s fs f) := fun x hx => by
  rcases List.mem_append.1 hx with hx | hx
  · exact h x hx
  · unfold stepT at hx
    split at hx
    · obtain ⟨k, j, -, -, h3, h4, h5⟩ := rch_plc hf
      rw [List.mem_singleton.1 hx, h3]; exact ⟨h4, h5⟩
    · cases hx
theorem stepT_mu {p : Prg} {s : Sta} {fs : List Frm} {f : Frm} (h0 : 0 ≤ s.fuel) (h1 : 0 ≤ (nextOf p s fs f).fuel) : 2 * (nextOf p s fs f).fuel.toNat + (if (nextOf p s fs f).status = 0 then 1 else 0) < 2 * s.fuel.toNat + 1 := by
  by_cases h : (nextOf p s fs f).status = 0
  · rw [if_pos h]
    have := next_fuel h
    omega
  · rw [if_neg h]
    rcases next_fuel_or (p := p) (s := s) (fs := fs) (f := f) with e | e <;> rw [e] <;> omega
end Go.Proofs.YtfhoffpdodjfeaaDoor
