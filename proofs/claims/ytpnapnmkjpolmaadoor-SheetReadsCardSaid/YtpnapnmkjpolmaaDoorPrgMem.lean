/- A program under construction: functions in a row, all but the last with code that stays; the last one's code grows. No program is named here. -/
import Derived.Test.YtpnapnmkjpolmaaDoorMgFunsInPr2
import Derived.Test.YtpnapnmkjpolmaaDoorReadLaw
set_option linter.unusedSimpArgs false
set_option linter.unusedVariables false
namespace Go.Proofs.YtpnapnmkjpolmaaDoor
open Go.RowKit
def insR (x : Ins) : List Value := [.int .i64 x.op, .int .i64 x.dst, .int .i64 x.a, .int .i64 x.b, .int .i64 x.imm]
theorem addIns_snoc (fs0 : List Fun) (f : Fun) (x : Ins) : addIns (fs0 ++ [f]) x = fs0 ++ [{ f with code := f.code ++ [x] }] := by
  unfold addIns
  simp
/-- G: the memory of the functions that are finished; us0: their code; cv: the code of the last one. -/
structure PrgM (base : Nat) (G : Fro) (fs fs0 : List Fun) (us0 cells : List Value) (cv : Value) (code : List Ins) : Prop where
  fin : FunsIn G fs0 us0
  new : ∀ b, G.S b → base ≤ b
  cur : (fs = [] ∧ fs0 = [] ∧ us0 = [] ∧ cells = [] ∧ code = []) ∨ ∃ a b, fs = fs0 ++ [⟨a, b, code⟩] ∧ cells = (fs0.zip us0).flatMap funEnc2 ++ [.int .i64 a, .int .i64 b, cv]
section
variable {w0 w : World} {Fs : List Fro} {R : List Res} {G : Fro} {fs fs0 : List Fun} {us0 cells : List Value} {cv fv fv' : Value} {code : List Ins} {tI tF : TypeId} {base : Nat}
theorem PrgM.start (w : World) (base : Nat) : PrgM base ⟨w, fun _ => False⟩ [] [] [] [] (.slice none 0 0) [] := ⟨FunsIn.nil _, fun _ h => h.elim, .inl ⟨rfl, rfl, rfl, rfl, rfl⟩⟩
theorem PrgM.zipLen (h : PrgM base G fs fs0 us0 cells cv code) : (fs0.zip us0).length = fs0.length := by rw [List.length_zip, h.fin.len]; exact Nat.min_self _
theorem PrgM.cellsLen (h : PrgM base G fs fs0 us0 cells cv code) : cells.length = fs.length * 3 := by
  have hz := h.zipLen
  rcases h.cur with ⟨rfl, rfl, rfl, rfl, rfl⟩ | ⟨a, b, rfl, rfl⟩
  · rfl
  · rw [List.length_append, flat_len2 funEnc2 3 (fun _ => rfl), hz]
    simp
    omega
/-- The code of the last function lies where it is told. -/
theorem PrgM.cell (h : PrgM base G fs fs0 us0 cells cv code) (hne : fs ≠ []) : cells[(fs.length - 1) * 3 + 2]? = some cv := by
  have hz := h.zipLen
  rcases h.cur with ⟨rfl, _⟩ | ⟨a, b, rfl, rfl⟩
  · exact absurd rfl hne
  · have hl : (List.flatMap funEnc2 (fs0.zip us0)).length = fs0.length * 3 := by rw [flat_len2 funEnc2 3 (fun _ => rfl), hz]
    rw [List.getElem?_append_right (by rw [hl]; simp), hl]
    simp
theorem PrgM.last (h : PrgM base G fs fs0 us0 cells cv code) (hne : fs ≠ []) : fs.getLast? = some ⟨(fs.getLast hne).params, (fs.getLast hne).regs, code⟩ := by
  rcases h.cur with ⟨rfl, _⟩ | ⟨a, b, rfl, rfl⟩
  · exact absurd rfl hne
  · simp
/-- One more instruction. -/
theorem PrgM.add (h : PrgM base G fs fs0 us0 cells cv code) (hne : fs ≠ []) (x : Ins) (cv' : Value) : PrgM base G (addIns fs x) fs0 us0 (cells.set ((fs.length - 1) * 3 + 2) cv') cv' (code ++ [x]) := by
  have hz := h.zipLen
  refine ⟨h.fin, h.new, ?_⟩
  rcases h.cur with ⟨rfl, _⟩ | ⟨a, b, rfl, rfl⟩
  · exact absurd rfl hne
  · refine .inr ⟨a, b, addIns_snoc _ _ _, ?_⟩
    have hl : (List.flatMap funEnc2 (fs0.zip us0)).length = fs0.length * 3 := by rw [flat_len2 funEnc2 3 (fun _ => rfl), hz]
    rw [List.set_append_right _ _ (by rw [hl]; simp), hl]
    simp
theorem addIns_len (hne : fs ≠ []) (x : Ins) : (addIns fs x).length = fs.length := by
  obtain ⟨f0, f, rfl⟩ := List.eq_nil_or_concat fs |>.resolve_left hne
  rw [List.concat_eq_append, addIns_snoc]
  simp
theorem addIns_ne (hne : fs ≠ []) (x : Ins) : addIns fs x ≠ [] := fun e => by
  have := addIns_len hne x
  rw [e] at this
  exact hne (List.length_eq_zero_iff.1 this.symm)
/-- The last function's code stays from now on. -/
theorem PrgM.close (h : PrgM base G fs fs0 us0 cells cv code) (hb : base = w0.heap.size) (H : Hp w0 (G :: Fs) (.row cv tI 5 code.length (code.flatMap insR) :: R) w) :
    ∃ G' us, FunsIn G' fs us ∧ (∀ b, G'.S b → base ≤ b) ∧ cells = (fs.zip us).flatMap funEnc2 ∧ Hp w0 (G' :: Fs) R w := by
  have hr : Lay.rep w (fun b => (Res.row cv tI 5 code.length (code.flatMap insR)).foot = some b) code [cv] := H.rowOwn2 insR 5 rfl (by omega) (fun _ => rfl) (fun w S x => ⟨_, _, rfl, rfl, _, _, rfl, rfl, _, _, rfl, rfl, _, _, rfl, rfl, rfl⟩) (.head _) rfl
  have hS : ∀ b, (G.S b ∨ (Res.row cv tI 5 code.length (code.flatMap insR)).foot = some b) → base ≤ b := fun b hb' => by
    rcases hb' with hb' | hb'
    · exact h.new b hb'
    · rw [hb]; exact ((H.own _ (.head _)).2 b hb').1
  have hF := Hp.freeze (A := []) H
  rcases h.cur with ⟨rfl, rfl, rfl, rfl, rfl⟩ | ⟨a, b, rfl, rfl⟩
  · exact ⟨_, [], FunsIn.nil _, hS, rfl, hF⟩
  · refine ⟨_, us0 ++ [cv], FunsIn.snoc h.fin (A := []) H (f := ⟨a, b, code⟩) hr, hS, ?_, hF⟩
    rw [List.zip_append h.fin.len.symm, List.flatMap_append]
    rfl
/-- One more function. -/
theorem PrgM.next (h : PrgM base G fs fs0 us0 cells cv code) (hb : base = w0.heap.size) (a b : Int) (H : Hp w0 (G :: Fs) (.row cv tI 5 code.length (code.flatMap insR) :: R) w) :
    ∃ G' us, PrgM base G' (fs ++ [⟨a, b, []⟩]) fs us (cells ++ [.int .i64 a, .int .i64 b, .slice none 0 0]) (.slice none 0 0) [] ∧ Hp w0 (G' :: Fs) (.row (.slice none 0 0) tI 5 0 [] :: R) w := by
  obtain ⟨G', us, h1, h2, h3, h4⟩ := h.close hb H
  exact ⟨G', us, ⟨h1, h2, .inr ⟨a, b, rfl, by rw [h3]⟩⟩, h4.nil tI 5⟩
/-- The whole. -/
theorem PrgM.whole (h : PrgM base G fs fs0 us0 cells cv code) (hb : base = w0.heap.size) (H : Hp w0 (G :: Fs) (.row cv tI 5 code.length (code.flatMap insR) :: R) w) (hm : Res.row fv tF 3 fs.length cells ∈ R) :
    Lay.rep w (FreshD w0 w) fs [fv] := by
  obtain ⟨G', us, h1, h2, h3, h4⟩ := h.close hb H
  exact h4.rowFuns2 hm h3 h1 (fun b hb' => by rw [← hb]; exact h2 b hb')
end
end Go.Proofs.YtpnapnmkjpolmaaDoor
