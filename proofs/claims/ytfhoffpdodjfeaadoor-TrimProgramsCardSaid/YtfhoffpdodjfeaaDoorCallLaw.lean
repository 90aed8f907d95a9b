/- P5.2: which functions are called. No program is named here. -/
import Derived.Test.YtfhoffpdodjfeaaDoorTrimLaw
import Derived.Test.YtfhoffpdodjfeaaDoorValid
set_option linter.unusedSimpArgs false
set_option linter.unusedVariables false
namespace Go.Proofs.YtfhoffpdodjfeaaDoor
open Go.RowKit
/-- Is a function called, from the first one on? -/
inductive CalledP (p : Prg) : Nat → Prop
  | main : CalledP p 0
  | call {fn pc : Nat} {f : Fun} {x : Ins} (h : CalledP p fn) (hf : p.funcs[fn]? = some f) (hx : f.code[pc]? = some x) (hw : wayB f pc = true) (ho : x.op = 17) : CalledP p x.imm.toNat
open Classical in
noncomputable def calledL (p : Prg) : List Bool := (List.range p.funcs.length).map fun k => decide (CalledP p k)
theorem calledL_len (p : Prg) : (calledL p).length = p.funcs.length := by simp [calledL]
theorem calledL_at (p : Prg) (k : Nat) (h : k < p.funcs.length) : (calledL p)[k]? = some true ↔ CalledP p k := by
  unfold calledL
  rw [List.getElem?_map, List.getElem?_range h]
  simp
def SoundC (p : Prg) (bs : List Bool) : Prop := ∀ k : Nat, bs[k]? = some true → CalledP p k
/-- What the first q places of a function call is known. -/
def UptoC (f : Fun) (bs : List Bool) (q : Nat) : Prop := ∀ (pc : Nat) x, pc < q → f.code[pc]? = some x → wayB f pc = true → x.op = 17 → bs[x.imm.toNat]? = some true
def ClosedC (p : Prg) (bs : List Bool) (fn : Nat) : Prop := bs[fn]? = some true → ∀ f, p.funcs[fn]? = some f → UptoC f bs f.code.length
theorem called_closed {p : Prg} {bs : List Bool} (hl : bs.length = p.funcs.length) (h0 : bs[0]? = some true) (hs : SoundC p bs) (hc : ∀ fn, fn < p.funcs.length → ClosedC p bs fn) : bs = calledL p := by
  have hw : ∀ k, CalledP p k → bs[k]? = some true := fun k h => by
    induction h with
    | main => exact h0
    | call h hf hx hw ho ih => exact hc _ (List.getElem?_eq_some_iff.1 hf).1 ih _ hf _ _ (List.getElem?_eq_some_iff.1 hx).1 hx hw ho
  apply List.ext_getElem?
  intro k
  by_cases hk : k < p.funcs.length
  · obtain ⟨b, hb⟩ : ∃ b, bs[k]? = some b := ⟨_, List.getElem?_eq_getElem (by omega)⟩
    have hx : (calledL p)[k]? = some ((calledL p)[k]'(by rw [calledL_len]; omega)) := List.getElem?_eq_getElem _
    rw [hb]
    cases b
    · generalize (calledL p)[k]'(by rw [calledL_len]; omega) = c at hx
      cases c
      · exact hx.symm
      · have := hw k ((calledL_at p k hk).1 hx)
        rw [hb] at this; cases this
    · exact ((calledL_at p k hk).2 (hs k hb)).symm
  · rw [List.getElem?_eq_none (by omega), List.getElem?_eq_none (by rw [calledL_len]; omega)]
theorem set_keep {bs : List Bool} {n k : Nat} (hn : n < bs.length) (h : bs[k]? = some true) : (bs.set n true)[k]? = some true := by
  by_cases e : n = k
  · subst e; rw [List.getElem?_set_self hn]
  · rw [List.getElem?_set_ne e]; exact h
theorem UptoC.set {f : Fun} {bs : List Bool} {q n : Nat} (h : UptoC f bs q) (hn : n < bs.length) : UptoC f (bs.set n true) q := fun pc x hp hx hw ho => set_keep hn (h pc x hp hx hw ho)
theorem UptoC.zero (f : Fun) (bs : List Bool) : UptoC f bs 0 := fun pc x hp => by omega
/-- A place that calls nothing new. -/
theorem UptoC.step {f : Fun} {bs : List Bool} {q : Nat} {y : Ins} (h : UptoC f bs q) (hy : f.code[q]? = some y) (hk : wayB f q = true → y.op = 17 → bs[y.imm.toNat]? = some true) : UptoC f bs (q + 1) := fun pc x hp hx hw ho => by
  by_cases e : pc = q
  · subst e; rw [hy] at hx; cases hx; exact hk hw ho
  · exact h pc x (by omega) hx hw ho
/-! ### By a list of functions still to do -/
structure InvC (p : Prg) (bs : List Bool) (ts : List Nat) : Prop where
  len : bs.length = p.funcs.length
  sound : SoundC p bs
  first : bs[0]? = some true
  todo : ∀ t ∈ ts, t < p.funcs.length ∧ bs[t]? = some true
  clo : ∀ fn, fn ∉ ts → ClosedC p bs fn
/-- .. while function g is looked at: its first q places are done. -/
structure InvD (p : Prg) (bs : List Bool) (ts : List Nat) (g : Nat) (f : Fun) (q : Nat) : Prop where
  len : bs.length = p.funcs.length
  sound : SoundC p bs
  first : bs[0]? = some true
  todo : ∀ t ∈ ts, t < p.funcs.length ∧ bs[t]? = some true
  clo : ∀ fn, fn ∉ ts → fn ≠ g → ClosedC p bs fn
  own : bs[g]? = some true
  part : UptoC f bs q
theorem InvC.start {p : Prg} (h : 1 ≤ p.funcs.length) : InvC p ((List.replicate p.funcs.length false).set 0 true) [0] := by
  have hat : ∀ k : Nat, ((List.replicate p.funcs.length false).set 0 true)[k]? = some true → k = 0 := fun k hk => by
    by_cases e : 0 = k
    · exact e.symm
    · rw [List.getElem?_set_ne e] at hk
      have := List.getElem?_eq_some_iff.1 hk
      obtain ⟨h1, h2⟩ := this
      simp at h2
  refine ⟨by simp, fun k hk => ?_, List.getElem?_set_self (by simp; omega), fun t ht => ?_, fun fn hn hb => ?_⟩
  · rw [hat k hk]; exact .main
  · obtain rfl := List.mem_singleton.1 ht
    exact ⟨by omega, List.getElem?_set_self (by simp; omega)⟩
  · exact absurd (List.mem_singleton.2 (hat fn hb)) hn
theorem InvC.pop {p : Prg} {bs : List Bool} {ts : List Nat} {g : Nat} {f : Fun} (h : InvC p bs (ts ++ [g])) : InvD p bs ts g f 0 :=
  ⟨h.len, h.sound, h.first, fun t ht => h.todo t (by simp [ht]), fun fn hn hg => h.clo fn (by simp [hn, hg]), (h.todo g (by simp)).2, UptoC.zero _ _⟩
theorem InvD.step {p : Prg} {bs : List Bool} {ts : List Nat} {g : Nat} {f : Fun} {q : Nat} {y : Ins} (h : InvD p bs ts g f q) (hy : f.code[q]? = some y) (hk : wayB f q = true → y.op = 17 → bs[y.imm.toNat]? = some true) : InvD p bs ts g f (q + 1) :=
  ⟨h.len, h.sound, h.first, h.todo, h.clo, h.own, h.part.step hy hk⟩
theorem InvD.push {p : Prg} {bs : List Bool} {ts : List Nat} {g : Nat} {f : Fun} {q : Nat} {y : Ins} (h : InvD p bs ts g f q) (hf : p.funcs[g]? = some f) (hy : f.code[q]? = some y) (hw : wayB f q = true) (ho : y.op = 17) {n : Nat} (hn : y.imm = n) (hl : n < p.funcs.length) : InvD p (bs.set n true) (ts ++ [n]) g f (q + 1) := by
  have hnl : n < bs.length := by rw [h.len]; exact hl
  have hc : CalledP p n := by
    have := CalledP.call (h.sound g h.own) hf hy hw ho
    rwa [hn, Int.toNat_natCast] at this
  refine ⟨by simp [h.len], fun k hk => ?_, set_keep hnl h.first, fun t ht => ?_, fun fn hn1 hg hb => ?_, set_keep hnl h.own, ?_⟩
  · by_cases e : n = k
    · subst e; exact hc
    · rw [List.getElem?_set_ne e] at hk; exact h.sound k hk
  · rcases List.mem_append.1 ht with ht | ht
    · exact ⟨(h.todo t ht).1, set_keep hnl (h.todo t ht).2⟩
    · obtain rfl := List.mem_singleton.1 ht
      exact ⟨hl, List.getElem?_set_self hnl⟩
  · have hne : n ≠ fn := fun e => hn1 (by simp [e])
    rw [List.getElem?_set_ne hne] at hb
    exact fun f' hf' => (h.clo fn (fun h' => hn1 (by simp [h'])) hg hb f' hf').set hnl
  · refine (h.part.set hnl).step hy (fun _ _ => ?_)
    rw [hn, Int.toNat_natCast]
    exact List.getElem?_set_self hnl
theorem InvD.ends {p : Prg} {bs : List Bool} {ts : List Nat} {g : Nat} {f : Fun} (h : InvD p bs ts g f f.code.length) (hf : p.funcs[g]? = some f) : InvC p bs ts := by
  refine ⟨h.len, h.sound, h.first, h.todo, fun fn hn => ?_⟩
  by_cases e : fn = g
  · subst e
    intro _ f' hf'
    rw [hf] at hf'; cases hf'
    exact h.part
  · exact h.clo fn hn e
theorem InvC.done {p : Prg} {bs : List Bool} (h : InvC p bs []) : bs = calledL p := called_closed h.len h.first h.sound fun fn _ => h.clo fn (by simp)
/-! ### Round by round -/
structure RndC (p : Prg) (bs0 bs : List Bool) (again : Bool) : Prop where
  len : bs.length = p.funcs.length
  sound : SoundC p bs
  first : bs[0]? = some true
  no : again = false → bs = bs0
  yes : again = true → bs.count false < bs0.count false
theorem RndC.set {p : Prg} {bs0 bs : List Bool} {again : Bool} (h : RndC p bs0 bs again) {n : Nat} (hn : bs[n]? = some false) (hc : CalledP p n) : RndC p bs0 (bs.set n true) true := by
  refine ⟨by simpa using h.len, fun k hk => ?_, set_keep (List.getElem?_eq_some_iff.1 hn).1 h.first, fun e => (by cases e), fun _ => ?_⟩
  · by_cases e : n = k
    · subst e; exact hc
    · rw [List.getElem?_set_ne e] at hk; exact h.sound k hk
  · have := count_set hn
    cases again
    · have e := h.no rfl
      rw [← e]; omega
    · have := h.yes rfl; omega
theorem where_way {f : Fun} {pc : Nat} : 0 ≤ whereZ f pc ↔ wayB f pc = true := by
  unfold whereZ
  cases wayB f pc <;> simp
end Go.Proofs.YtfhoffpdodjfeaaDoor
