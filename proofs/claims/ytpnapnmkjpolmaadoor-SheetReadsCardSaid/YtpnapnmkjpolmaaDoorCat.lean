/- Strings are joined. -/
import Derived.Test.YtpnapnmkjpolmaaDoorStrLaw
import Derived.Test.YtpnapnmkjpolmaaDoorHpOps
import Derived.Test.YtpnapnmkjpolmaaDoorMgHeldHeldB2
import Derived.Lib.ConvBytes
import Derived.Laws.IdiomStrings
set_option linter.unusedSimpArgs false
set_option linter.unusedVariables false
namespace Go.Proofs.YtpnapnmkjpolmaaDoor
open Go.RowKit
attribute [local irreducible] wpList Code.wp Oper.wp
section
variable {ops : Array Oper} {rest : List Oper} {o oi : Oper} {a : Act} {Q : Exit → Act → World → Prop} {w : World} {md : Region.Mode} {S : World → Prop}
theorem exec_cat (x y : Operand) (ho : o.op = .binOp .add 9 x y 9) (la lb : List UInt8) (hx : a.eval x = .string (bstr la)) (hy : a.eval y = .string (bstr lb)) (hl : la.length + lb.length ≤ 9223372036854775807) (w : World) :
    (execOp a.eval o).run Tryd.prog w = .ok (.value (.string (bstr (la ++ lb)))) w := by
  have h1 := bstr_size la
  have h2 := bstr_size lb
  have h3 : ¬ (9223372036854775807 < (bstr la).size + (bstr lb).size) := by omega
  unfold execOp
  simp only [ho, hx, hy]
  go_simp
  rw [bstr_app, if_neg (by omega)]
theorem wpList_cat (hgd : o.guard = none) (x y : Operand) (ho : o.op = .binOp .add 9 x y 9) (la lb : List UInt8) (hx : a.eval x = .string (bstr la)) (hy : a.eval y = .string (bstr lb)) (hl : la.length + lb.length ≤ 9223372036854775807)
    (h : wpList Tryd.prog ops Q rest (a.put o.dst (.string (bstr (la ++ lb)))) w) : wpList Tryd.prog ops Q (o :: rest) a w := by
  refine wpList_plain hgd fun K hK => ?_
  unfold Oper.wp
  rw [exec_cat x y ho la lb hx hy hl]
  exact hK _ _ h
theorem wpAnyH_cat {i : Nat} {fuel : Nat} {listed : Array Bool} (hi : ops[i]? = some oi)
    (hs : Region.noSelect ops = true) (hf : Region.free md ops listed i = true) (hr : (Region.ready md ops listed).contains i = true)
    (hQ' : ∀ v c a w, Q (.panic c) (a.put oi.dst v) w → Q (.panic c) a w)
    (hgd : oi.guard = none) (x y : Operand) (ho : oi.op = .binOp .add 9 x y 9) (la lb : List UInt8) (hx : a.eval x = .string (bstr la)) (hy : a.eval y = .string (bstr lb)) (hl : la.length + lb.length ≤ 9223372036854775807) (hS : S w)
    (h : wpAnyH Tryd.prog md ops Q S fuel (listed.setIfInBounds i true) (a.put oi.dst (.string (bstr (la ++ lb)))) w) : wpAnyH Tryd.prog md ops Q S (fuel + 1) listed a w :=
  wpAnyH_take hi hs hf hr (hQ' _) (.inl ⟨by simp [Region.wanted, hgd], fun w _ => exec_cat x y ho la lb hx hy hl w⟩) hS h
/-- Bytes as a string. -/
theorem wpList_back (hgd : o.guard = none) (x : Operand) (ho : o.op = .convert 39 9 x) (ad : Addr) (n cap : Nat) (l : List UInt8) (hn : l.length = n) (hx : a.eval x = .slice (some ad) n cap) (hc : ∀ j (hj : j < l.length), w.cell? (ad.add j) = some (.int .u8 (l[j].toNat : Int)))
    (h : wpList Tryd.prog ops Q rest (a.put o.dst (.string (bstr l))) w) : wpList Tryd.prog ops Q (o :: rest) a w := by
  subst hn
  refine wpList_plain hgd fun K hK => ?_
  unfold Oper.wp execOp
  have hr := run_convert_bytes_back (P := Tryd.prog) w 39 9 5 ad cap l Tryd.underlying39 Tryd.underlying5 Tryd.underlying9 hc
  simp only [ho, hx, Sem.run_bind, hr, Result.andThen_ok]
  exact hK _ _ h
/-- A string's bytes in memory of their own, which nobody writes any more. -/
theorem wpList_conv {w0 : World} {Fs : List Fro} {L : List Res} (hgd : o.guard = none) (x : Operand) (ho : o.op = .convert 9 39 x) (l : List UInt8) (hx : a.eval x = .string (bstr l)) (HP : Hp w0 Fs L w)
    (h : ∀ g c w', Hp w0 (⟨w', fun b => w.heap.size ≤ b ∧ b < w'.heap.size⟩ :: Fs) L w' → (w.heap.size ≤ g ∧ g < w'.heap.size) → (∀ (j : Nat) (x : UInt8), l[j]? = some x → w'.cell? ⟨g, j, none⟩ = some (.int .u8 x.toNat)) → wpList Tryd.prog ops Q rest (a.put o.dst (.slice (some ⟨g, 0, none⟩) l.length c)) w') : wpList Tryd.prog ops Q (o :: rest) a w := by
  refine wpList_plain hgd fun K hK => ?_
  unfold Oper.wp execOp
  have hr := Lib.run_convert_string_bytes (P := Tryd.prog) w 9 39 5 (bstr l) Tryd.underlying9 Tryd.underlying39 Tryd.underlying5
  rw [bstr_size] at hr
  simp only [ho, hx, Sem.run_bind, hr, Result.andThen_ok]
  have hs := Lib.bytesWorld_size w 5 (bstr l)
  have hbel : Below w.heap.size w (Lib.bytesWorld w 5 (bstr l)) := ⟨rfl, rfl, rfl, by rw [hs]; omega, fun k hk => Lib.bytesWorld_at_old w 5 (bstr l) k hk⟩
  refine hK _ _ (h _ _ _ (HP.call hbel) ⟨Nat.le_refl _, by rw [hs]; omega⟩ fun j x hj => ?_)
  have hjl := (List.getElem?_eq_some_iff.1 hj).1
  rw [Lib.bytesWorld_cell w 5 (bstr l) j (by rw [bstr_size]; exact hjl), bstr_data, List.getD_eq_getElem?_getD, hj]
  rfl
end
end Go.Proofs.YtpnapnmkjpolmaaDoor
