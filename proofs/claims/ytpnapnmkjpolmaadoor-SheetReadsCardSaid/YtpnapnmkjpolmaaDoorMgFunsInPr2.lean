/- Functions whose code lies in memory that stays. No program is named here. proof.next, proof.sets. -/
import Derived.Test.YtpnapnmkjpolmaaDoorHpRow
import Derived.Test.YtpnapnmkjpolmaaDoorData
import Derived.Test.YtpnapnmkjpolmaaDoorCodeA
import Derived.Test.YtpnapnmkjpolmaaDoorHpOps
import Derived.Test.YtpnapnmkjpolmaaDoorRows
set_option linter.unusedSimpArgs false
set_option linter.unusedVariables false
namespace Go.Proofs.YtpnapnmkjpolmaaDoor
open Go.RowKit
/-- Memory that a call has made. -/
def FreshD (w w' : World) (b : Nat) : Prop := w.heap.size ≤ b ∧ b < w'.heap.size
theorem flat_at2 {α : Type} (enc : α → List Value) (sz : Nat) (henc : ∀ x, (enc x).length = sz) (xs : List α) (k : Nat) (x : α) (hx : xs[k]? = some x) (j : Nat) (v : Value) (hv : (enc x)[j]? = some v) : (xs.flatMap enc)[k * sz + j]? = some v := by
  induction xs generalizing k with
  | nil => simp at hx
  | cons y ys ih =>
    rw [List.flatMap_cons]
    cases k with
    | zero =>
      simp at hx; subst hx
      rw [Nat.zero_mul, Nat.zero_add, List.getElem?_append_left (List.getElem?_eq_some_iff.1 hv).1]; exact hv
    | succ k =>
      have := ih k (by simpa using hx)
      rw [List.getElem?_append_right (by rw [henc, Nat.succ_mul]; omega), henc, show (k + 1) * sz + j - sz = k * sz + j by rw [Nat.succ_mul]; omega]
      exact this
theorem flat_len2 {α : Type} (enc : α → List Value) (sz : Nat) (henc : ∀ x, (enc x).length = sz) (xs : List α) : (xs.flatMap enc).length = xs.length * sz := by
  induction xs with
  | nil => simp
  | cons y ys ih => rw [List.flatMap_cons, List.length_append, henc, ih, List.length_cons, Nat.succ_mul]; omega
section
variable {w0 w : World} {Fs : List Fro} {L : List Res}
theorem Hp.froNone2 (h : Hp w0 Fs L w) : Hp w0 (⟨w, fun _ => False⟩ :: Fs) L w :=
  ⟨h.below, fun F hF b hb => by
    rcases List.mem_cons.1 hF with rfl | hF
    · exact hb.elim
    · exact h.fro F hF b hb, fun r hr => ⟨(h.own r hr).1, fun b hb => ⟨((h.own r hr).2 b hb).1, ((h.own r hr).2 b hb).2.1, fun F hF hS => by
      rcases List.mem_cons.1 hF with rfl | hF
      · exact hS
      · exact ((h.own r hr).2 b hb).2.2 F hF hS⟩⟩, h.apart⟩
/-- A row of flat elements reads as these, in its own block. -/
theorem Hp.rowOwn2 {α : Type} [Lay α] (enc : α → List Value) (sz : Nat) (hsz : Lay.size α = sz) (hpos : 0 < sz) (henc : ∀ x, (enc x).length = sz) (hrep : ∀ (w : World) (S : Nat → Prop) (x : α), Lay.rep w S x (enc x))
    {v : Value} {e : TypeId} {n : Nat} {cs : List Value} {xs : List α} (h : Hp w0 Fs L w) (hm : Res.row v e sz n cs ∈ L) (hx : cs = xs.flatMap enc) : Lay.rep w (fun b => (Res.row v e sz n cs).foot = some b) xs [v] := by
  subst hx
  have ho := h.row hm
  have hl : xs.length = n := by
    have := ho.1
    rw [flat_len2 enc sz henc] at this
    exact Nat.eq_of_mul_eq_mul_right hpos this
  rcases ho.2 with ⟨rfl, hn⟩ | ⟨g, cap, cur, rfl, hb, hg, hle, hmx, hs, ht⟩
  · subst hn
    have : xs = [] := by cases xs; rfl; simp at hl
    subst this
    exact ⟨none, 0, rfl, Nat.le_refl _, by unfold maxLen; omega, fun k x h => by simp at h⟩
  · subst hl
    refine ⟨_, _, rfl, hle, hmx, fun k x hx => ⟨_, enc x, rfl, rfl, fun j u hu => ?_, hrep _ _ x⟩⟩
    have := ho.cells (g := g) rfl (k * sz + j) u (flat_at2 enc sz henc xs k x hx j u hu)
    rw [add_of_add, hsz]
    exact this
def funEnc2 (x : Fun × Value) : List Value := [.int .i64 x.1.params, .int .i64 x.1.regs, x.2]
/-- Functions whose code lies in memory that stays. -/
structure FunsIn (F : Fro) (fs : List Fun) (vs : List Value) : Prop where
  len : vs.length = fs.length
  rep : ∀ (i : Nat) f u, fs[i]? = some f → vs[i]? = some u → Lay.rep F.w F.S f.code [u]
theorem FunsIn.nil (F : Fro) : FunsIn F [] [] := ⟨rfl, fun i f u h => by simp at h⟩
/-- One more: its row stays from now on. -/
theorem FunsIn.snoc {F : Fro} {fs : List Fun} {vs : List Value} (h : FunsIn F fs vs) {A B : List Res} {r : Res} (H : Hp w0 (F :: Fs) (A ++ r :: B) w) {f : Fun} {u : Value} (hr : Lay.rep w (fun b => r.foot = some b) f.code [u]) :
    FunsIn ⟨w, fun b => F.S b ∨ r.foot = some b⟩ (fs ++ [f]) (vs ++ [u]) := by
  refine ⟨by simp [h.len], fun i f' u' hf hu => ?_⟩
  by_cases hi : i < fs.length
  · rw [List.getElem?_append_left hi] at hf
    rw [List.getElem?_append_left (by rw [h.len]; exact hi)] at hu
    exact H.repMore (.head _) (h.rep i f' u' hf hu) (fun b hb => .inl hb)
  · rw [List.getElem?_append_right (by omega)] at hf
    rw [List.getElem?_append_right (by rw [h.len]; omega), h.len] at hu
    obtain ⟨h1, h2⟩ := List.getElem?_eq_some_iff.1 hf
    have hi0 : i - fs.length = 0 := by simp at h1; omega
    rw [hi0] at hf hu
    simp at hf hu
    subst hf hu
    exact Lay.more (fun b hb => .inr hb) hr
theorem Hp.rowFuns2 {F : Fro} {v : Value} {e : TypeId} {n : Nat} {cs : List Value} {fs : List Fun} {vs : List Value} (h : Hp w0 (F :: Fs) L w) (hm : Res.row v e 3 n cs ∈ L) (hx : cs = (fs.zip vs).flatMap funEnc2) (ha : FunsIn F fs vs) (hS : ∀ b, F.S b → w0.heap.size ≤ b) : Lay.rep w (FreshD w0 w) fs [v] := by
  subst hx
  have ho := h.row hm
  have hf := (h.own _ hm).2
  have hz : (fs.zip vs).length = fs.length := by rw [List.length_zip, ha.len]; exact Nat.min_self _
  have hl : fs.length = n := by
    have := ho.1
    rw [flat_len2 funEnc2 3 (fun _ => rfl), hz] at this
    omega
  rcases ho.2 with ⟨rfl, hn⟩ | ⟨g, cap, cur, rfl, hb, hg, hle, hmx, hs, ht⟩
  · subst hn
    have : fs = [] := by cases fs; rfl; simp at hl
    subst this
    exact ⟨none, 0, rfl, Nat.le_refl _, by unfold maxLen; omega, fun k x h => by simp at h⟩
  · subst hl
    refine ⟨_, _, rfl, hle, hmx, fun k x hx => ?_⟩
    have hk := (List.getElem?_eq_some_iff.1 hx).1
    obtain ⟨u, hu⟩ : ∃ u, vs[k]? = some u := ⟨_, List.getElem?_eq_getElem (by rw [ha.len]; exact hk)⟩
    have hzk : (fs.zip vs)[k]? = some (x, u) := by rw [List.getElem?_zip_eq_some]; exact ⟨hx, hu⟩
    refine ⟨_, funEnc2 (x, u), rfl, ⟨(hf g rfl).1, (hf g rfl).2.1⟩, fun j y hy => ?_, ?_⟩
    · have := ho.cells (g := g) rfl (k * 3 + j) y (flat_at2 funEnc2 3 (fun _ => rfl) _ k _ hzk j y hy)
      rw [add_of_add]
      exact this
    · refine rep_fun.2 ⟨u, rfl, ?_⟩
      exact h.repMore (.head _) (ha.rep k x u hx hu) (fun b hb => ⟨hS b hb, (h.fro F (.head _) b hb).1⟩)
end
end Go.Proofs.YtpnapnmkjpolmaaDoor
namespace Go.Proofs.YtpnapnmkjpolmaaDoor
open Go.RowKit
attribute [local irreducible] wpList Code.wp Oper.wp
def nextZ (x : Ins) (pc : Nat) : List Int := if x.op = 19 then [] else if x.op = 15 then [x.imm] else if x.op = 16 then [(pc : Int) + 1, x.imm] else [(pc : Int) + 1]
/-- What a call has made. -/
abbrev Fresh (w w' : World) : Nat → Prop := fun b => w.heap.size ≤ b ∧ b < w'.heap.size
theorem rep_ints_nil {w : World} {S : Nat → Prop} : Lay.rep w S ([] : List Int) [.slice none 0 0] := ⟨none, 0, rfl, Nat.le_refl _, by unfold maxLen; omega, fun k x h => by simp at h⟩
theorem Hp.ints {w0 w : World} {Fs : List Fro} {L : List Res} {g : Nat} {t : TypeId} {cs : List Value} {n : Nat} {xs : List Int} (h : Hp w0 Fs L w) (hm : Res.blk g t cs ∈ L) (hx : cs = xs.map (Value.int .i64)) (hn : n = xs.length) (hl : n ≤ maxLen) :
    Lay.rep w (Fresh w0 w) xs [.slice (some ⟨g, 0, none⟩) n n] := by
  subst hx hn
  exact rep_of_block (h.blk hm) ⟨((h.own _ hm).2 g rfl).1, ((h.own _ hm).2 g rfl).2.1⟩ (Nat.le_refl _) hl
end Go.Proofs.YtpnapnmkjpolmaaDoor
