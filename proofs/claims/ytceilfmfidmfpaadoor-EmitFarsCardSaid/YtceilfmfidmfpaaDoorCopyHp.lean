/- copy into an owned block. No program is named here. -/
import Derived.Test.YtceilfmfidmfpaaDoorMgHpOpsHpRowHpB3
import Derived.Laws.CopyOwn
set_option linter.unusedSimpArgs false
set_option linter.unusedVariables false
namespace Go.Proofs.YtceilfmfidmfpaaDoor
open Go.RowKit
attribute [local irreducible] wpList Code.wp Oper.wp
theorem wpList_copy_hp {P : Program} {w w0 : World} {ops : Array Oper} {rest : List Oper} {o : Oper} {a : Act} {Q : Exit → Act → World → Prop} {Fs : List Fro} {L : List Res} (hgd : o.guard = none) (d s : Operand) (dT sT : TypeId)
    (ho : o.op = .call { callee := .builtin .copy, args := #[d, s], argTypes := #[dT, sT] }) (elem : TypeId) (hu : P.underlying dT = some (.slice elem)) (hsz : (P.info? elem).map (·.size) = some 1)
    {g off dLen dCap sLen sCap : Nat} {sp : Option Addr} {t : TypeId} {cur : List Value} (H : Hp w0 Fs (.blk g t cur :: L) w) (hd : a.eval d = .slice (some ⟨g, off, none⟩) dLen dCap) (hs : a.eval s = .slice sp sLen sCap)
    (cs : List Value) (hn : cs.length = Nat.min sLen dLen) (hsrc : 0 < cs.length → ∃ ad, sp = some ad ∧ ∀ j v, cs[j]? = some v → w.cell? (ad.add j) = some v)
    (hfit : off + cs.length ≤ cur.length) (h1 : ∀ v ∈ cs, v.oneCell' = true) {cur' : List Value} (hcur : cur.take off ++ (cs ++ cur.drop (off + cs.length)) = cur')
    (h : ∀ w', Hp w0 Fs (.blk g t cur' :: L) w' → wpList P ops Q rest (a.put o.dst (goInt cs.length)) w') : wpList P ops Q (o :: rest) a w := by
  subst hcur
  by_cases h0 : cs.length = 0
  · obtain rfl : cs = [] := List.eq_nil_of_length_eq_zero h0
    refine wpList_copy_nothing hgd d s dT sT ho elem hu hsz _ _ dLen dCap sLen sCap hd hs (by simpa using hn.symm) ?_
    exact h w (by simpa using H)
  · obtain ⟨ad, rfl, hsrc'⟩ := hsrc (by omega)
    refine wpList_copy_own hgd d s dT sT ho elem hu hsz g off dLen dCap ad sLen sCap hd hs cur.toArray t (H.blk (.head _)) cs hn hsrc' (by simpa using hfit) h1 ?_
    exact h _ (by
      have := Hp.setAll0 H (cur.take off ++ (cs ++ cur.drop (off + cs.length))) (by simp; omega)
      simpa using this)
end Go.Proofs.YtceilfmfidmfpaaDoor
