/- P4.2: a state of a program. No program is named here. One more, wrapped. -/
import Derived.Test.YtfhoffpdodjfeaaDoorProvenLaw
set_option linter.unusedSimpArgs false
set_option linter.unusedVariables false
namespace Go.Proofs.YtfhoffpdodjfeaaDoor
open Go.RowKit Plain64
def codeOf (p : Prg) (fn : Int) : List Ins := ((p.funcs[fn.toNat]?).map Fun.code).getD []
def ownF (p : Prg) (f : Frm) : Prop := 0 ≤ f.fn ∧ f.fn < p.funcs.length ∧ 0 ≤ f.pc ∧ f.pc < (codeOf p f.fn).length
def insAt (p : Prg) (f : Frm) : Ins := ((codeOf p f.fn)[f.pc.toNat]?).getD default
def linkF (p : Prg) (f g : Frm) : Prop := (insAt p f).op = 17 ∧ (insAt p f).imm = g.fn
structure FramesOk (p : Prg) (fs : List Frm) : Prop where
  own : ∀ f ∈ fs, ownF p f
  link : ∀ (i : Nat) f g, fs[i]? = some f → fs[i + 1]? = some g → linkF p f g
structure HeadOk (s : Sta) : Prop where
  status : 0 ≤ s.status ∧ s.status ≤ 5
  fuel : 0 ≤ s.fuel ∧ s.fuel ≤ 10000
  frames : s.frames.length ≤ 8
  answers : s.answers.length ≤ 100
  value : s.status ≠ 1 → s.value = 0
  done : s.frames.length = 0 ↔ s.status = 1
open Classical in
/-- P4.2, at every argument. -/
noncomputable def stateFault (p : Prg) (s : Sta) : Int := if proven p ≠ 0 then proven p else if HeadOk s ∧ FramesOk p s.frames then 0 else 8
theorem sf_bad {p : Prg} {s : Sta} (h : proven p ≠ 0) : stateFault p s = proven p := by unfold stateFault; rw [if_pos h]
theorem sf_head {p : Prg} {s : Sta} (h : proven p = 0) (hh : ¬ HeadOk s) : stateFault p s = 8 := by
  unfold stateFault; rw [if_neg (by simpa using h), if_neg (fun x => hh x.1)]
theorem sf_frames {p : Prg} {s : Sta} (h : proven p = 0) (hh : ¬ FramesOk p s.frames) : stateFault p s = 8 := by
  unfold stateFault; rw [if_neg (by simpa using h), if_neg (fun x => hh x.2)]
theorem sf_ok {p : Prg} {s : Sta} (h : proven p = 0) (hh : HeadOk s) (hf : FramesOk p s.frames) : stateFault p s = 0 := by
  unfold stateFault; rw [if_neg (by simpa using h), if_pos ⟨hh, hf⟩]
theorem codeOf_eq {p : Prg} {k : Nat} {f : Fun} (h : p.funcs[k]? = some f) : codeOf p (k : Int) = f.code := by unfold codeOf; rw [Int.toNat_natCast, h]; rfl
theorem insAt_eq {p : Prg} {g : Frm} {k j : Nat} {f : Fun} {x : Ins} (hk : g.fn = k) (hj : g.pc = j) (h : p.funcs[k]? = some f) (hx : f.code[j]? = some x) : insAt p g = x := by
  unfold insAt; rw [hk, hj, codeOf_eq h, Int.toNat_natCast, hx]; rfl
theorem proven_prg {p : Prg} (h : proven p = 0) : prgFault p = 0 := by
  by_cases hz : prgFault p = 0
  · exact hz
  · unfold proven at h; rw [if_pos hz] at h; exact h
/-- What of a head may be wrong, the first first: as the program asks. -/
theorem head_cases (s : Sta) : (HeadOk s ∧ 0 ≤ s.status ∧ s.status ≤ 5 ∧ 0 ≤ s.fuel ∧ s.fuel ≤ 10000 ∧ (s.frames.length : Int) ≤ 8 ∧ (s.answers.length : Int) ≤ 100 ∧ ((s.status == 1) = true ∧ ((s.frames.length : Int) == 0) = true ∨ (s.status == 1) = false ∧ (s.value == 0) = true ∧ ((s.frames.length : Int) == 0) = false)) ∨
    s.status < 0 ∨ (0 ≤ s.status ∧ 5 < s.status) ∨ (0 ≤ s.status ∧ s.status ≤ 5 ∧ s.fuel < 0) ∨ (0 ≤ s.status ∧ s.status ≤ 5 ∧ 0 ≤ s.fuel ∧ 10000 < s.fuel) ∨ (0 ≤ s.status ∧ s.status ≤ 5 ∧ 0 ≤ s.fuel ∧ s.fuel ≤ 10000 ∧ 8 < (s.frames.length : Int)) ∨ (0 ≤ s.status ∧ s.status ≤ 5 ∧ 0 ≤ s.fuel ∧ s.fuel ≤ 10000 ∧ (s.frames.length : Int) ≤ 8 ∧ 100 < (s.answers.length : Int)) ∨
    (0 ≤ s.status ∧ s.status ≤ 5 ∧ 0 ≤ s.fuel ∧ s.fuel ≤ 10000 ∧ (s.frames.length : Int) ≤ 8 ∧ (s.answers.length : Int) ≤ 100 ∧ (s.status == 1) = false ∧ (s.value == 0) = false) ∨ (0 ≤ s.status ∧ s.status ≤ 5 ∧ 0 ≤ s.fuel ∧ s.fuel ≤ 10000 ∧ (s.frames.length : Int) ≤ 8 ∧ (s.answers.length : Int) ≤ 100 ∧ (s.status == 1) = false ∧ (s.value == 0) = true ∧ ((s.frames.length : Int) == 0) = true) ∨ (0 ≤ s.status ∧ s.status ≤ 5 ∧ 0 ≤ s.fuel ∧ s.fuel ≤ 10000 ∧ (s.frames.length : Int) ≤ 8 ∧ (s.answers.length : Int) ≤ 100 ∧ (s.status == 1) = true ∧ ((s.frames.length : Int) == 0) = false) := by
  by_cases h1 : s.status < 0
  · exact .inr (.inl h1)
  by_cases h2 : 5 < s.status
  · exact .inr (.inr (.inl ⟨by omega, h2⟩))
  by_cases h3 : s.fuel < 0
  · exact .inr (.inr (.inr (.inl ⟨by omega, by omega, h3⟩)))
  by_cases h4 : 10000 < s.fuel
  · exact .inr (.inr (.inr (.inr (.inl ⟨by omega, by omega, by omega, h4⟩))))
  by_cases h5 : 8 < s.frames.length
  · exact .inr (.inr (.inr (.inr (.inr (.inl ⟨by omega, by omega, by omega, by omega, by omega⟩)))))
  by_cases h6 : 100 < s.answers.length
  · exact .inr (.inr (.inr (.inr (.inr (.inr (.inl ⟨by omega, by omega, by omega, by omega, by omega, by omega⟩))))))
  by_cases hs : s.status = 1
  · by_cases hl : s.frames.length = 0
    · exact .inl ⟨⟨by omega, by omega, by omega, by omega, fun h => absurd hs h, ⟨fun _ => hs, fun _ => hl⟩⟩, by omega, by omega, by omega, by omega, by omega, by omega, .inl ⟨by simpa using hs, by rw [beq_iff_eq]; omega⟩⟩
    · exact .inr (.inr (.inr (.inr (.inr (.inr (.inr (.inr (.inr ⟨by omega, by omega, by omega, by omega, by omega, by omega, by simpa using hs, by rw [beq_eq_false_iff_ne]; omega⟩))))))))
  · by_cases hv : s.value = 0
    · by_cases hl : s.frames.length = 0
      · exact .inr (.inr (.inr (.inr (.inr (.inr (.inr (.inr (.inl ⟨by omega, by omega, by omega, by omega, by omega, by omega, by simpa using hs, by simpa using hv, by rw [beq_iff_eq]; omega⟩))))))))
      · exact .inl ⟨⟨by omega, by omega, by omega, by omega, fun _ => hv, ⟨fun h => absurd h hl, fun h => absurd h hs⟩⟩, by omega, by omega, by omega, by omega, by omega, by omega, .inr ⟨by simpa using hs, by simpa using hv, by rw [beq_eq_false_iff_ne]; omega⟩⟩
    · exact .inr (.inr (.inr (.inr (.inr (.inr (.inr (.inl ⟨by omega, by omega, by omega, by omega, by omega, by omega, by simpa using hs, by simpa using hv⟩)))))))
theorem head_not {s : Sta} (h : s.status < 0 ∨ (0 ≤ s.status ∧ 5 < s.status) ∨ s.fuel < 0 ∨ 10000 < s.fuel ∨ 8 < (s.frames.length : Int) ∨ 100 < (s.answers.length : Int) ∨ ((s.status == 1) = false ∧ (s.value == 0) = false) ∨ ((s.status == 1) = false ∧ ((s.frames.length : Int) == 0) = true) ∨ ((s.status == 1) = true ∧ ((s.frames.length : Int) == 0) = false)) : ¬ HeadOk s := by
  intro hk
  have h1 := hk.status
  have h2 := hk.fuel
  have h3 := hk.frames
  have h4 := hk.answers
  simp only [beq_iff_eq, beq_eq_false_iff_ne, ne_eq] at h
  rcases h with h | h | h | h | h | h | h | h | h
  · omega
  · omega
  · omega
  · omega
  · omega
  · omega
  · exact h.2 (hk.value h.1)
  · exact h.1 (hk.done.1 (by omega))
  · exact h.2 (by have := hk.done.2 h.1; omega)
end Go.Proofs.YtfhoffpdodjfeaaDoor
namespace Go.Proofs.YtfhoffpdodjfeaaDoor
open Go.RowKit
theorem wrap64_succ (k k1 : Nat) (h : k + 1 = k1) (hk : k ≤ 1000) : wrap64 ((k : Int) + 1) = (k1 : Int) := by
  subst h
  exact IntWalk.wrap64_in _ ⟨by omega, by omega⟩
theorem wrapI_succ (k k1 : Nat) (h : k + 1 = k1) (hk : k ≤ 1000) : IntKind.i64.wrap ((k : Int) + 1) = (k1 : Int) := by
  rw [IntWalk.i64_left]
  exact wrap64_succ k k1 h hk
end Go.Proofs.YtfhoffpdodjfeaaDoor
