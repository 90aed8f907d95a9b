/- proof.next, proof.sets. -/
import Derived.Test.YtohindaklpdeeaaDoorHpOps
import Derived.Test.YtohindaklpdeeaaDoorRows
import Derived.Test.YtohindaklpdeeaaDoorData
set_option linter.unusedSimpArgs false
set_option linter.unusedVariables false
namespace Go.Proofs.YtohindaklpdeeaaDoor
open Go.RowKit
attribute [local irreducible] wpList Code.wp Oper.wp
def nextZ (x : Ins) (pc : Nat) : List Int := if x.op = 19 then [] else if x.op = 15 then [x.imm] else if x.op = 16 then [(pc : Int) + 1, x.imm] else [(pc : Int) + 1]
/-- What a call has made. -/
abbrev Fresh (w w' : World) : Nat → Prop := fun b => w.heap.size ≤ b ∧ b < w'.heap.size
theorem rep_ints_nil {w : World} {S : Nat → Prop} : Lay.rep w S ([] : List Int) [.slice none 0 0] := ⟨none, 0, rfl, Nat.le_refl _, by unfold maxLen; omega, fun k x h => by simp at h⟩
theorem Hp.ints {w0 w : World} {Fs : List Fro} {L : List Res} {g : Nat} {t : TypeId} {cs : List Value} {n : Nat} {xs : List Int} (h : Hp w0 Fs L w) (hm : Res.blk g t cs ∈ L) (hx : cs = xs.map (Value.int .i64)) (hn : n = xs.length) (hl : n ≤ maxLen) :
    Lay.rep w (Fresh w0 w) xs [.slice (some ⟨g, 0, none⟩) n n] := by
  subst hx hn
  exact rep_of_block (h.blk hm) ⟨((h.own _ hm).2 g rfl).1, ((h.own _ hm).2 g rfl).2.1⟩ (Nat.le_refl _) hl
end Go.Proofs.YtohindaklpdeeaaDoor
