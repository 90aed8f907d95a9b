/- P13.3: how far machine code goes. No program is named here. Which block begins at a place. -/
import Derived.Test.YtceilfmfidmfpaaDoorMgProfLawBlkMemReadsHReadsKTidyLaw5
import Derived.Test.YtceilfmfidmfpaaDoorMgFlowNextBlkGoBlkRef3
import Derived.Test.YtceilfmfidmfpaaDoorMgCpuEntLaw2
import Derived.Test.YtceilfmfidmfpaaDoorMgReadsWaySureLawSureRunProvenLawStateLawLiveLawBlkLawDomLawDo11
import Derived.Test.YtceilfmfidmfpaaDoorMgHpOpsHpRowHpB3
import Derived.Test.YtceilfmfidmfpaaDoorMgPrNestNestBFind4
set_option linter.unusedSimpArgs false
set_option linter.unusedVariables false
namespace Go.Proofs.YtceilfmfidmfpaaDoor
open Go.RowKit Plain64
/-- The block that begins at a place; -1: none does. -/
def atZ (l : List Bk) (pc : Int) : Int := match l.findIdx? (fun b => b.frm == pc) with | none => -1 | some i => (i : Int)
theorem atZ_none {l : List Bk} {pc : Int} (h : ∀ (i : Nat) b, l[i]? = some b → b.frm ≠ pc) : atZ l pc = -1 := by
  unfold atZ
  rw [List.findIdx?_eq_none_iff.2 (fun b hb => by
    obtain ⟨i, hi⟩ := List.mem_iff_getElem?.1 hb
    simpa using h i b hi)]
theorem atZ_some {l : List Bk} {pc : Int} {k : Nat} {b : Bk} (hk : l[k]? = some b) (hb : b.frm = pc) (h : ∀ (i : Nat) c, i < k → l[i]? = some c → c.frm ≠ pc) : atZ l pc = k := by
  have hl := (List.getElem?_eq_some_iff.1 hk).1
  have : l.findIdx? (fun b => b.frm == pc) = some k := by
    rw [List.findIdx?_eq_some_iff_getElem]
    refine ⟨hl, ?_, fun j hj => ?_⟩
    · rw [(List.getElem?_eq_some_iff.1 hk).2]; simpa using hb
    · have := h j l[j] hj (List.getElem?_eq_getElem (by omega))
      simpa using this
  unfold atZ; rw [this]
theorem atZ_cases (l : List Bk) (pc : Int) : (atZ l pc = -1) ∨ ∃ (k : Nat) (b : Bk), atZ l pc = k ∧ l[k]? = some b ∧ b.frm = pc := by
  unfold atZ
  cases h : l.findIdx? (fun b => b.frm == pc) with
  | none => exact .inl rfl
  | some k =>
    obtain ⟨hl, h1, _⟩ := List.findIdx?_eq_some_iff_getElem.1 h
    exact .inr ⟨k, l[k], rfl, List.getElem?_eq_getElem hl, by simpa using h1⟩
/-- How many steps of a block are machine code's; is its last one not? -/
def callB (f : Fun) (b : Bk) : Prop := 17 ≤ opAt f (b.upto.toNat - 1)
open Classical in
noncomputable def costB (f : Fun) (b : Bk) : Nat := (b.upto - b.frm).toNat - (if callB f b then 1 else 0)
/-- So many steps; did all of them go on? -/
def inN (p : Prg) : Nat → Sta → Nat → Sta × Nat × Bool
  | 0, s, n => (s, n, true)
  | c + 1, s, n => if (nextS p s).status ≠ 0 then (s, n, false) else inN p c (nextS p s) (n + 1)
open Classical in
noncomputable def farK (p : Prg) (f : Fun) : Nat → Sta → Nat → Sta × Nat
  | 0, s, n => (s, n)
  | k + 1, s, n =>
    if atZ (blksL f) (lastF s).pc < 0 then (s, n) else
    if s.fuel < costB f ((blksL f).getD (atZ (blksL f) (lastF s).pc).toNat ⟨0, 0, [], []⟩) then (s, n) else
    if (inN p (costB f ((blksL f).getD (atZ (blksL f) (lastF s).pc).toNat ⟨0, 0, [], []⟩)) s n).2.2 = true ∧ ¬ callB f ((blksL f).getD (atZ (blksL f) (lastF s).pc).toNat ⟨0, 0, [], []⟩) then
      farK p f k (inN p (costB f ((blksL f).getD (atZ (blksL f) (lastF s).pc).toNat ⟨0, 0, [], []⟩)) s n).1 (inN p (costB f ((blksL f).getD (atZ (blksL f) (lastF s).pc).toNat ⟨0, 0, [], []⟩)) s n).2.1
    else ((inN p (costB f ((blksL f).getD (atZ (blksL f) (lastF s).pc).toNat ⟨0, 0, [], []⟩)) s n).1, (inN p (costB f ((blksL f).getD (atZ (blksL f) (lastF s).pc).toNat ⟨0, 0, [], []⟩)) s n).2.1)
noncomputable def farAns (p : Prg) (s : Sta) : (Sta × Nat) × Int :=
  if runFault p s ≠ 0 then ((zeroS, 0), runFault p s) else match p.funcs[(lastF s).fn.toNat]? with
  | none => ((s, 0), 0)
  | some f => (farK p f (s.fuel.toNat + 1) s 0, 0)
section
variable {p : Prg} {f : Fun} {s : Sta} {n k : Nat}
theorem farK_none (h : atZ (blksL f) (lastF s).pc < 0) : farK p f (k + 1) s n = (s, n) := by rw [farK, if_pos h]
theorem farK_poor {i : Nat} {b : Bk} (h : atZ (blksL f) (lastF s).pc = i) (hb : (blksL f)[i]? = some b) (hf : s.fuel < costB f b) : farK p f (k + 1) s n = (s, n) := by
  have e : (blksL f).getD (atZ (blksL f) (lastF s).pc).toNat ⟨0, 0, [], []⟩ = b := by rw [h, Int.toNat_natCast, List.getD_eq_getElem?_getD, hb]; rfl
  rw [farK, if_neg (by omega), e, if_pos hf]
theorem farK_stop {i : Nat} {b : Bk} (h : atZ (blksL f) (lastF s).pc = i) (hb : (blksL f)[i]? = some b) (hf : ¬ s.fuel < costB f b) {t : Sta} {m : Nat} {c : Bool} (hi : inN p (costB f b) s n = (t, m, c)) (hc : c = false ∨ callB f b) : farK p f (k + 1) s n = (t, m) := by
  have e : (blksL f).getD (atZ (blksL f) (lastF s).pc).toNat ⟨0, 0, [], []⟩ = b := by rw [h, Int.toNat_natCast, List.getD_eq_getElem?_getD, hb]; rfl
  rw [farK, if_neg (by omega), e, if_neg hf, hi, if_neg (by rintro ⟨h1, h2⟩; rcases hc with rfl | hc; cases h1; exact h2 hc)]
theorem farK_on {i : Nat} {b : Bk} (h : atZ (blksL f) (lastF s).pc = i) (hb : (blksL f)[i]? = some b) (hf : ¬ s.fuel < costB f b) {t : Sta} {m : Nat} (hi : inN p (costB f b) s n = (t, m, true)) (hc : ¬ callB f b) : farK p f (k + 1) s n = farK p f k t m := by
  have e : (blksL f).getD (atZ (blksL f) (lastF s).pc).toNat ⟨0, 0, [], []⟩ = b := by rw [h, Int.toNat_natCast, List.getD_eq_getElem?_getD, hb]; rfl
  rw [farK, if_neg (by omega), e, if_neg hf, hi, if_pos ⟨rfl, hc⟩]
theorem inN_stop {c : Nat} (h : (nextS p s).status ≠ 0) : inN p (c + 1) s n = (s, n, false) := by rw [inN, if_pos h]
theorem inN_on {c : Nat} (h : (nextS p s).status = 0) : inN p (c + 1) s n = inN p c (nextS p s) (n + 1) := by rw [inN, if_neg (by simpa using h)]
end
theorem far_bad {p : Prg} {s : Sta} (h : runFault p s ≠ 0) : farAns p s = ((zeroS, 0), runFault p s) := by unfold farAns; rw [if_pos h]
theorem far_ok {p : Prg} {s : Sta} (h : runFault p s = 0) {fs : List Frm} {g : Frm} (hf : s.frames = fs ++ [g]) {i : Nat} {f : Fun} (hg : g.fn = i) (hi : p.funcs[i]? = some f) : farAns p s = (farK p f (s.fuel.toNat + 1) s 0, 0) := by
  unfold farAns; rw [if_neg (by simpa using h), lastF_eq hf, hg, Int.toNat_natCast, hi]
/-- A state that runs, in the function of its last frame. -/
structure FarOk (p : Prg) (s : Sta) (fs : List Frm) (f : Frm) : Prop where
  fr : s.frames = fs ++ [f]
  sf : stateFault p s = 0
  st : s.status = 0
  rg : ∀ i, I64 (f.rg i)
  mm : ∀ i, I64 (s.mm i)
  ev : s.events.length ≤ 17592186043999
theorem FarOk.nextS {p : Prg} {s : Sta} {fs : List Frm} {f : Frm} (h : FarOk p s fs f) : Go.Proofs.YtceilfmfidmfpaaDoor.nextS p s = nextOf p s fs f := nextS_eq h.fr
theorem FarOk.next {p : Prg} (hi : ∀ f ∈ p.funcs, ∀ x ∈ f.code, I64 x.imm) {s : Sta} {fs : List Frm} {f : Frm} (h : FarOk p s fs f) (hr : Rch p f) (h17 : (insAt p f).op < 17) (hs : (nextOf p s fs f).status = 0) :
    ∃ f', FarOk p (nextOf p s fs f) fs f' ∧ Rch p f' ∧ f'.fn = f.fn ∧ f'.pc ∈ nextZ (insAt p f) f.pc.toNat ∧ (nextOf p s fs f).fuel = s.fuel - 1 := by
  obtain ⟨hp, hh, hfo⟩ := sf_zero h.sf
  have him := rch_imm hi hr
  obtain ⟨k, j, fn, x, q1, q2, q3, q4, q5, q6⟩ := rch_ins hr
  have hxo : 1 ≤ (insAt p f).op := by
    rw [q5]; exact (((okP_of (proven_prg hp)).fns fn (List.mem_of_getElem? q2)).ins x (List.mem_of_getElem? q4)).op.1
  have hpc : ((f.pc.toNat : Nat) : Int) = f.pc := by omega
  have hput : ∀ (i : Nat) {n : Int}, I64 n → ∀ k, I64 (Frm.rg ⟨f.fn, f.pc + 1, f.regs.setIfInBounds i n⟩ k) := fun i n hn k => rg_range h.rg i hn k
  have hon : (insAt p f).op ≠ 19 → (insAt p f).op ≠ 15 → f.pc + 1 ∈ nextZ (insAt p f) f.pc.toNat := fun a b => by have := nextZ_on (pc := f.pc.toNat) a b; rwa [hpc] at this
  have key : (nextOf p s fs f).status = 0 → ∃ f', (nextOf p s fs f).frames = fs ++ [f'] ∧ f'.fn = f.fn ∧ f'.pc ∈ nextZ (insAt p f) f.pc.toNat ∧ (∀ i, I64 (f'.rg i)) ∧ (∀ i, I64 ((nextOf p s fs f).mm i)) ∧ (nextOf p s fs f).events = s.events ∧ (nextOf p s fs f).answers = s.answers ∧ (nextOf p s fs f).value = s.value ∧ (nextOf p s fs f).fuel = s.fuel - 1 ∧ s.fuel ≠ 0 := by
    apply nextOf_ind (P := fun t : Sta => t.status = 0 → ∃ f' : Frm, t.frames = fs ++ [f'] ∧ f'.fn = f.fn ∧ f'.pc ∈ nextZ (insAt p f) f.pc.toNat ∧ (∀ i, I64 (f'.rg i)) ∧ (∀ i, I64 (t.mm i)) ∧ t.events = s.events ∧ t.answers = s.answers ∧ t.value = s.value ∧ t.fuel = s.fuel - 1 ∧ s.fuel ≠ 0)
    · intro _ e; cases e
    · intro h0 hpb _
      have hop : (insAt p f).op ≤ 12 := by
        unfold pureB at hpb
        simp only [Bool.and_eq_true, decide_eq_true_eq] at hpb
        exact hpb.1.2
      exact ⟨_, rfl, rfl, hon (by omega) (by omega), hput _ (i64_pure (h.rg _) him), h.mm, rfl, rfl, rfl, rfl, h0⟩
    · intro _ _ _ e; cases e
    · intro _ _ _ _ e; cases e
    · intro h0 hop _
      exact ⟨_, rfl, rfl, hon (by omega) (by omega), hput _ (h.mm _), h.mm, rfl, rfl, rfl, rfl, h0⟩
    · intro h0 hop _
      exact ⟨_, rfl, rfl, hon (by omega) (by omega), fun k => h.rg k, fun i => (show I64 (Sta.mm { s with memory := s.memory.setIfInBounds (f.rg (insAt p f).a.toNat).toNat (f.rg (insAt p f).b.toNat) } i) by rw [mm_set]; exact i64_ite (h.rg _) (h.mm i)), rfl, rfl, rfl, rfl, h0⟩
    · intro h0 hop _
      refine ⟨goF f (insAt p f).imm, rfl, rfl, ?_, fun k => h.rg k, h.mm, rfl, rfl, rfl, rfl, h0⟩
      show (insAt p f).imm ∈ _
      unfold nextZ
      rw [if_neg (by omega), if_pos hop]; simp
    · intro h0 hop _
      refine ⟨goF f (if f.rg (insAt p f).a.toNat = 0 then f.pc + 1 else (insAt p f).imm), rfl, rfl, ?_, fun k => h.rg k, h.mm, rfl, rfl, rfl, rfl, h0⟩
      show (if f.rg (insAt p f).a.toNat = 0 then f.pc + 1 else (insAt p f).imm) ∈ _
      split
      · exact hon (by omega) (by omega)
      · unfold nextZ
        rw [if_neg (by omega), if_neg (by omega), if_pos hop]; simp
    · intro _ _ _ e; cases e
    · intro _ hop; omega
    · intro _ hop; omega
    · intro _ _ _ _ e; cases e
    · intro _ hpb ho _ _ _
      exfalso
      unfold pureB at hpb
      simp only [ne_eq, Bool.and_eq_true, decide_eq_true_eq] at hpb
      apply hpb
      refine ⟨⟨by omega, by omega⟩, ?_⟩
      simp
      omega
  obtain ⟨f', g1, g2, g3, g4, g5, g6, g7, g8, g9, g10⟩ := key hs
  have hr' : Rch p f' := by
    have := rch_step hp hr (n := f'.pc) (v := f'.regs) g3
    rw [← g2] at this
    exact this
  have hf0 := hh.fuel
  have hfl : (nextOf p s fs f).frames.length = s.frames.length := by rw [g1, h.fr]; simp
  have hne : s.frames.length ≠ 0 := by rw [h.fr]; simp
  refine ⟨f', ⟨g1, sf_ok hp ⟨by rw [hs]; exact ⟨by decide, by decide⟩, by rw [g9]; omega, by rw [hfl]; exact hh.frames, by rw [g7]; exact hh.answers, fun _ => by rw [g8]; exact hh.value (by rw [h.st]; decide), ⟨fun e => absurd (hfl ▸ e) hne, fun e => by rw [hs] at e; cases e⟩⟩ ⟨fun g hg => ?_, ?_⟩, hs, g4, g5, by rw [g6]; exact h.ev⟩, hr', g2, g3, g9⟩
  · rw [g1] at hg
    rcases List.mem_append.1 hg with hg | hg
    · exact hfo.own g (by rw [h.fr]; exact List.mem_append_left _ hg)
    · rw [List.mem_singleton.1 hg]; exact rch_own hr'
  · rw [g1]
    have hl : linkL p (fs ++ [f]) := by rw [← h.fr]; exact hfo.link
    exact linkL_upd hl g2
theorem blksL_get {f : Fun} {k : Nat} {b : Bk} (h : (blksL f)[k]? = some b) : k < (headsL f).length ∧ b = blkOf f k := by
  unfold blksL at h
  rw [List.getElem?_map] at h
  obtain ⟨i, hi, e⟩ := Option.map_eq_some_iff.1 h
  obtain ⟨h1, h2⟩ := List.getElem?_eq_some_iff.1 hi
  rw [List.getElem_range] at h2
  subst h2
  rw [List.length_range] at h1
  exact ⟨h1, e.symm⟩
/-- A block: where it begins and ends, and what is in it. -/
theorem blk_facts {f : Fun} {funcs : Nat} (ok : OkF f funcs) (he : endsAt f = false) {k : Nat} {b : Bk} (h : (blksL f)[k]? = some b) :
    ∃ c0 c1 : Nat, b.frm = c0 ∧ b.upto = c1 ∧ c0 < c1 ∧ c1 ≤ f.code.length ∧ SureAt f c0 ∧ ∀ q, c0 ≤ q → q + 1 < c1 → opAt f q < 15 := by
  obtain ⟨h1, rfl⟩ := blksL_get h
  obtain ⟨t, h2, h3, h4⟩ := blk_to ok he h1
  refine ⟨begB f k, t, rfl, by show ((toOf f (begB f k) : Nat) : Int) = _; rw [h4], h2.gt, h2.le, ((mem_headsL.1 (begB_mem h1)).2.sure ok he).1, fun q g1 g2 => ?_⟩
  have h5 := (h2.run (q + 1) (by omega) g2).1
  rw [Nat.add_sub_cancel] at h5
  omega
theorem costB_eq {f : Fun} {b : Bk} {c0 c1 : Nat} (h0 : b.frm = c0) (h1 : b.upto = c1) : (callB f b ↔ 17 ≤ opAt f (c1 - 1)) ∧ (17 ≤ opAt f (c1 - 1) → costB f b = c1 - c0 - 1) ∧ (¬ 17 ≤ opAt f (c1 - 1) → costB f b = c1 - c0) := by
  have e : callB f b ↔ 17 ≤ opAt f (c1 - 1) := by unfold callB; rw [h1, Int.toNat_natCast]
  have hd : (b.upto - b.frm).toNat = c1 - c0 := by rw [h0, h1]; omega
  refine ⟨e, fun h => ?_, fun h => ?_⟩
  · unfold costB; rw [if_pos (e.2 h), hd]
  · unfold costB; rw [if_neg (fun x => h (e.1 x)), hd]; rfl
theorem insAt_op {p : Prg} {g : Frm} {i j : Nat} {f : Fun} (hi : g.fn = i) (hj : g.pc = j) (hf : p.funcs[i]? = some f) (hl : j < f.code.length) : (insAt p g).op = opAt f j := by
  rw [insAt_eq hi hj hf (List.getElem?_eq_getElem hl), opAt_eq (List.getElem?_eq_getElem hl)]
theorem sure_rch {p : Prg} {g : Frm} {i j : Nat} {f : Fun} (hi : g.fn = i) (hj : g.pc = j) (hf : p.funcs[i]? = some f) (hl : j < f.code.length) (hs : SureAt f j) : Rch p g :=
  ⟨i, j, f, hi, hf, hj, hl, (sure_iff (by omega)).1 hs⟩
/-- Within a block: where the j-th step of it begins. -/
structure InB (p : Prg) (f : Fun) (i c0 c1 j : Nat) (s : Sta) (fs : List Frm) (h : Frm) : Prop where
  ok : FarOk p s fs h
  fn : h.fn = i
  rch : Rch p h
  pc : c0 + j < c1 → h.pc = ((c0 + j : Nat) : Int)
theorem InB.start {p : Prg} {f : Fun} {i c0 c1 : Nat} {s : Sta} {fs : List Frm} {h : Frm} (ho : FarOk p s fs h) (hfn : h.fn = i) (hf : p.funcs[i]? = some f) (hl : c1 ≤ f.code.length) (h01 : c0 < c1) (hs : SureAt f c0) (hpc : h.pc = c0) : InB p f i c0 c1 0 s fs h :=
  ⟨ho, hfn, sure_rch hfn hpc hf (by omega) hs, fun _ => hpc⟩
/-- The step is one that machine code may do. -/
theorem InB.op {p : Prg} {f : Fun} {i c0 c1 j : Nat} {s : Sta} {fs : List Frm} {h : Frm} (hb : InB p f i c0 c1 j s fs h) (hf : p.funcs[i]? = some f) (hl : c1 ≤ f.code.length) (hop : ∀ q, c0 ≤ q → q + 1 < c1 → opAt f q < 15) (hj : c0 + j < c1) (hc : 17 ≤ opAt f (c1 - 1) → j < c1 - c0 - 1) : (insAt p h).op < 17 := by
  rw [insAt_op hb.fn (hb.pc hj) hf (by omega)]
  by_cases e : c0 + j + 1 < c1
  · have := hop (c0 + j) (by omega) e; omega
  · have e2 : c0 + j = c1 - 1 := by omega
    rw [e2]
    by_cases e3 : 17 ≤ opAt f (c1 - 1)
    · have := hc e3; omega
    · omega
theorem InB.next {p : Prg} (hi : ∀ f ∈ p.funcs, ∀ x ∈ f.code, I64 x.imm) {f : Fun} {i c0 c1 j : Nat} {s : Sta} {fs : List Frm} {h : Frm} (hb : InB p f i c0 c1 j s fs h) (hf : p.funcs[i]? = some f) (hl : c1 ≤ f.code.length) (hop : ∀ q, c0 ≤ q → q + 1 < c1 → opAt f q < 15) (hj : c0 + j < c1) (hc : 17 ≤ opAt f (c1 - 1) → j < c1 - c0 - 1) (hs : (nextOf p s fs h).status = 0) :
    ∃ h', InB p f i c0 c1 (j + 1) (nextOf p s fs h) fs h' ∧ (nextOf p s fs h).fuel = s.fuel - 1 := by
  obtain ⟨h', g1, g2, g3, g4, g5⟩ := hb.ok.next hi hb.rch (hb.op hf hl hop hj hc) hs
  refine ⟨h', ⟨g1, g3.trans hb.fn, g2, fun e => ?_⟩, g5⟩
  have hx := insAt_op hb.fn (hb.pc hj) hf (show c0 + j < f.code.length by omega)
  have ho := hop (c0 + j) (by omega) (by omega)
  rw [nextZ_plain (by omega), List.mem_singleton, hb.pc hj, Int.toNat_natCast] at g4
  rw [g4]; omega
end Go.Proofs.YtceilfmfidmfpaaDoor
namespace Go.Proofs.YtceilfmfidmfpaaDoor
open Go.RowKit
attribute [local irreducible] wpList Code.wp Oper.wp
set_option maxRecDepth 10000 in
set_option maxHeartbeats 1000000 in
theorem atTest_any (n m pc : Int) (u v : Value) (g : Nat) (w : World) (hg : w.cell? ⟨g, 0, none⟩ = some (.int .i64 pc)) (hl : g < w.heap.size) :
    Calls Tryd.prog 14 #[.agg #[.int .i64 n, .int .i64 m, u, v], .pointer (some ⟨g, 0, none⟩)] w fun e w' => e = .returned (.bool (n == pc)) ∧ Below w.heap.size w w' := by
  have HP := Lib.hid (Hp.start w)
  have HC := Lib.hid hg
  clear hg
  go_enter Tryd.func14, Tryd.ntmps14
  go_upto_region 1 with (first | (refine wpList_box_hp (o := ⟨some 2, _, _, _, _, _⟩) rfl _ _ rfl HP.out [_, _, _, _] rfl ?_; clear HP; intro g2 w2 HP; replace HP := Lib.hid HP))
  have hc : w2.cell? ⟨g, 0, none⟩ = some (.int .i64 pc) := (HP.out.alike (F := ⟨w, Lt w.heap.size⟩) (by simp) ⟨g, 0, none⟩ hl).trans HC.out
  go_wp2_with (first | (refine wpList_ld0 rfl 3 _ rfl HP.out rfl rfl Tryd.underlying3 rfl ?_))
  go_ret
  exact ⟨rfl, HP.out.below⟩
set_option maxRecDepth 10000 in
set_option maxHeartbeats 1000000 in
theorem IndexFunc_any (l : List Bk) (v : Value) (pc : Int) (g : Nat) (w : World) (hv : Lay.rep w (Lt w.heap.size) l [v]) (hg : w.cell? ⟨g, 0, none⟩ = some (.int .i64 pc)) (hl : g < w.heap.size) :
    Calls Tryd.prog 13 #[v, .func (.func 14) #[] #[.pointer (some ⟨g, 0, none⟩)]] w fun e w' => e = .returned (.int .i64 (atZ l pc)) ∧ Below w.heap.size w w' := by
  obtain ⟨A, c, rfl, hc, hm, hx⟩ := rep_bks_at hv
  unfold maxLen at hm
  have HX := Lib.hid hx
  have HG := Lib.hid hg
  have HP := Lib.hid (Hp.start w)
  clear hx hv hg
  go_enter Tryd.func13, Tryd.ntmps13
  go_wp2
  go_loopw [8] (fun i wr => ∃ (k : Nat), k ≤ l.length ∧ i = .int .i64 k ∧ Hid (∀ (j : Nat) b, j < k → l[j]? = some b → b.frm ≠ pc) ∧ Hid (Hp w [⟨w, Lt w.heap.size⟩] [] wr)) (fun i _ => l.length - (intOf i).toNat)
  case atStart => exact ⟨0, by omega, rfl, Lib.hid (fun j b h => absurd h (by omega)), HP⟩
  case round =>
    clear HP
    obtain ⟨k, hk, rfl, HN, HP⟩ := hrel
    obtain ⟨wo, rfl⟩ : ∃ wo : World, wo = wr := ⟨_, rfl⟩
    by_cases hlt : k < l.length
    · have hlt2 : (k : Int) < (l.length : Int) := by omega
      obtain ⟨ad, u, z, rfl, hab, hat, -, -⟩ := HX.out k hlt
      obtain ⟨b, hb⟩ : ∃ b, l[k] = b := ⟨_, rfl⟩
      rw [hb] at hat
      have HB := Lib.hid (show l[k]? = some b by rw [← hb]; exact List.getElem?_eq_getElem hlt)
      have HAT := Lib.hid hat
      clear hb hat
      by_cases hn : b.frm = pc
      · have HE := Lib.hid (atZ_some HB.out hn (fun i c h1 h2 => HN.out i c h1 h2))
        have hq : (b.frm == pc) = true := by simpa using hn
        clear hn
        go_wp2_with (first | (refine wpList_load_at rfl 50 _ rfl _ rfl _ _ (HP.out.at_ (F := ⟨w, Lt w.heap.size⟩) (by simp) HAT.out (by rw [block_of_add]; exact hab)) Tryd.underlying50 rfl (by kernel_rfl) ?_) | (go_at_call 14; refine (atTest_any _ _ pc _ _ g _ ((HP.out.alike (F := ⟨w, Lt w.heap.size⟩) (by simp) ⟨g, 0, none⟩ hl).trans HG.out) (by have := HP.out.size; omega)).mono ?_; rintro e w5 ⟨rfl, hb5⟩; replace HP := Lib.hid (HP.out.call0 hb5); clear hb5))
        (try simp only [Exit.inBlock, Exit.then])
        refine bodyPost_ret (results_tmp (by rfl) _ _ _) (by rfl) ?_
        exact ⟨by rw [HE.out]; rfl, HP.out.below⟩
      · have HN2 := Lib.hid (show ∀ (j : Nat) c, j < k + 1 → l[j]? = some c → c.frm ≠ pc from fun j c h1 h2 => by
          by_cases hjk : j = k
          · subst hjk; rw [HB.out] at h2; cases h2; exact hn
          · exact HN.out j c (by omega) h2)
        have hq : (b.frm == pc) = false := by simpa using hn
        clear hn HN
        go_wp2_with (first | (refine wpList_load_at rfl 50 _ rfl _ rfl _ _ (HP.out.at_ (F := ⟨w, Lt w.heap.size⟩) (by simp) HAT.out (by rw [block_of_add]; exact hab)) Tryd.underlying50 rfl (by kernel_rfl) ?_) | (go_at_call 14; refine (atTest_any _ _ pc _ _ g _ ((HP.out.alike (F := ⟨w, Lt w.heap.size⟩) (by simp) ⟨g, 0, none⟩ hl).trans HG.out) (by have := HP.out.size; omega)).mono ?_; rintro e w5 ⟨rfl, hb5⟩; replace HP := Lib.hid (HP.out.call0 hb5); clear hb5))
        go_roundw
        case rel => exact ⟨k + 1, by omega, by go_num, HN2, HP⟩
        case measure => simp [intOf]; omega
    · obtain rfl : k = l.length := by omega
      have HE := Lib.hid (show atZ l pc = -1 from atZ_none (fun i b h => HN.out i b (List.getElem?_eq_some_iff.1 h).1 h))
      go_wp2
      (try simp only [Exit.inBlock, Exit.then])
      refine bodyPost_ret (results_tmp (by rfl) _ _ _) (by rfl) ?_
      exact ⟨by rw [HE.out]; rfl, HP.out.below⟩
set_option maxRecDepth 10000 in
set_option maxHeartbeats 1000000 in
theorem at_any (l : List Bk) (v : Value) (pc : Int) (g : Nat) (w : World) (hv : Lay.rep w (Lt w.heap.size) l [v]) (hg : w.cell? ⟨g, 0, none⟩ = some v) (hl : g < w.heap.size) :
    Calls Tryd.prog 12 #[.int .i64 pc, .pointer (some ⟨g, 0, none⟩)] w fun e w' => e = .returned (.int .i64 (atZ l pc)) ∧ Below w.heap.size w w' := by
  have hmf : ∀ (fn : Fn) (first cap : Array Value) (w : World), (Instr.makeFunc fn first cap).run Tryd.prog w = .ok (.func fn first cap) w := fun _ _ _ _ => rfl
  obtain ⟨A, c, rfl, -, -, -⟩ := rep_bks_at hv
  have HP := Lib.hid (Hp.start w)
  have HC := Lib.hid hg
  have HV := Lib.hid hv
  clear hg hv
  go_enter Tryd.func12, Tryd.ntmps12
  go_upto_region 1 with (first | (refine wpList_box_hp (o := ⟨some 2, _, _, _, _, _⟩) rfl _ _ rfl HP.out [_] rfl ?_; clear HP; intro g2 w2 HP; replace HP := Lib.hid HP))
  have hc : w2.cell? ⟨g, 0, none⟩ = some (.slice A l.length c) := (HP.out.alike (F := ⟨w, Lt w.heap.size⟩) (by simp) ⟨g, 0, none⟩ hl).trans HC.out
  go_wp2_with (first | (go_at_call 13; refine (IndexFunc_any l _ pc _ _ (HP.out.rep (F := ⟨w, Lt w.heap.size⟩) (by simp) HV.out) (HP.out.cell (.head _) 0 _ rfl) (Blk.lt (HP.out.blk (.head _)))).mono ?_; rintro e w5 ⟨rfl, hb5⟩; replace HP := Lib.hid (HP.out.call0 hb5); clear hb5))
  go_ret
  exact ⟨rfl, HP.out.below⟩
set_option maxRecDepth 10000 in
set_option maxHeartbeats 1000000 in
theorem blockAt_any (l : List Bk) (v : Value) (pc : Int) (w : World) (hv : Lay.rep w (Lt w.heap.size) l [v]) :
    Calls Tryd.prog 19 #[v, .int .i64 pc] w fun e w' => e = .returned (.int .i64 (atZ l pc)) ∧ w = w' := by
  obtain ⟨A, c, rfl, hc, hm, hx⟩ := rep_bks_at hv
  unfold maxLen at hm
  have HX := Lib.hid hx
  clear hx hv
  go_enter Tryd.func19, Tryd.ntmps19
  go_wp2
  go_loop [5] (fun i => ∃ (k : Nat), k ≤ l.length ∧ i = .int .i64 k ∧ Hid (∀ (j : Nat) b, j < k → l[j]? = some b → b.frm ≠ pc)) (fun i => l.length - (intOf i).toNat)
  case atStart => exact ⟨0, by omega, rfl, Lib.hid (fun j b h => absurd h (by omega))⟩
  case round =>
    obtain ⟨k, hk, rfl, HN⟩ := hrel
    by_cases hlt : k < l.length
    · have hlt2 : (k : Int) < (l.length : Int) := by omega
      obtain ⟨ad, u, z, rfl, hab, hat, -, -⟩ := HX.out k hlt
      obtain ⟨b, hb⟩ : ∃ b, l[k] = b := ⟨_, rfl⟩
      rw [hb] at hat
      have HB := Lib.hid (show l[k]? = some b by rw [← hb]; exact List.getElem?_eq_getElem hlt)
      have hca : w.cell? (ad.add (k * 4)) = some (.int .i64 b.frm) := hat.fld0 rfl
      clear hb hat
      by_cases hn : b.frm = pc
      · have HE := Lib.hid (atZ_some HB.out hn (fun i c h1 h2 => HN.out i c h1 h2))
        have hq : (b.frm == pc) = true := by simpa using hn
        clear hn
        go_wp2
        (try simp only [Exit.inBlock, Exit.then])
        refine bodyPost_ret (results_tmp (by rfl) _ _ _) (by rfl) ?_
        exact ⟨by rw [HE.out]; rfl, rfl⟩
      · have HN2 := Lib.hid (show ∀ (j : Nat) c, j < k + 1 → l[j]? = some c → c.frm ≠ pc from fun j c h1 h2 => by
          by_cases hjk : j = k
          · subst hjk; rw [HB.out] at h2; cases h2; exact hn
          · exact HN.out j c (by omega) h2)
        have hq : (b.frm == pc) = false := by simpa using hn
        clear hn HN
        go_wp2
        go_round
        case rel => exact ⟨k + 1, by omega, by go_num, HN2⟩
        case measure => simp [intOf]; omega
    · obtain rfl : k = l.length := by omega
      have HE := Lib.hid (show atZ l pc = -1 from atZ_none (fun i b h => HN.out i b (List.getElem?_eq_some_iff.1 h).1 h))
      go_wp2
      (try simp only [Exit.inBlock, Exit.then])
      refine bodyPost_ret (results_tmp (by rfl) _ _ _) (by rfl) ?_
      exact ⟨by rw [HE.out]; rfl, rfl⟩
end Go.Proofs.YtceilfmfidmfpaaDoor
