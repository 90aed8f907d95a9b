/- What sheet.Read keeps from line to line. -/
import Derived.Test.YtpnapnmkjpolmaaDoorPrgMem
import Derived.Test.YtpnapnmkjpolmaaDoorObj
import Derived.Test.YtpnapnmkjpolmaaDoorStrLaw
import Derived.Test.YtpnapnmkjpolmaaDoorCodeF
import Derived.RangeFuncLeaves
set_option linter.unusedSimpArgs false
set_option linter.unusedVariables false
namespace Go.Proofs.YtpnapnmkjpolmaaDoor
open Go.RowKit
def RdR2 (w : World) (a : Prg × Int × Int) (e : Ending) (w' : World) : Prop := ∃ v, e = .returned (.tuple #[.agg #[v], .int .i64 a.2.1, .int .i64 a.2.2]) ∧ Lay.rep w' (FreshD w w') a.1 [v] ∧ Below w.heap.size w w'
theorem rep_prg_nil4 {w : World} {S : Nat → Prop} : Lay.rep w S (⟨[]⟩ : Prg) [.slice none 0 0] := rep_prg.2 ⟨none, 0, rfl, Nat.le_refl _, by unfold maxLen; omega, fun k x h => by simp at h⟩
/-- Where the reading stands: r is what is still to be read. -/
structure RdQ (l : List UInt8) (k : Nat) (r : List UInt8) (fs : List Fun) (code : List Ins) : Prop where
  rest : readFrom [] 0 l = readFrom fs k r
  kr : k + r.length ≤ l.length
  fk : fs.length ≤ k
  ck : code.length ≤ k
section
variable {l r : List UInt8} {k : Nat} {fs fs' : List Fun} {code code' : List Ins}
theorem RdQ.go (h : RdQ l k r fs code) (hr : r ≠ []) (hs : stepLn fs (cutLn r).1 = some fs') (hf : fs'.length ≤ k + 1) (hc : code'.length ≤ k + 1) : RdQ l (k + 1) (cutLn r).2 fs' code' := by
  have h1 := cutLn_lt hr
  have h2 := h.kr
  refine ⟨?_, by omega, hf, hc⟩
  rw [h.rest, readFrom_go hr hs, Int.natCast_add]
  rfl
theorem RdQ.bad (h : RdQ l k r fs code) (hr : r ≠ []) (hs : stepLn fs (cutLn r).1 = none) : readFrom [] 0 l = (⟨[]⟩, (k : Int), 5) := by rw [h.rest, readFrom_bad hr hs]
theorem RdQ.done (h : RdQ l k [] fs code) : readFrom [] 0 l = readEnd fs := by rw [h.rest, readFrom_nil]
end
/-- The pieces. -/
abbrev rdT (B lp bd : Nat) (rec : Loop) (r : List UInt8) : List Res := [.blk B 9 [.string (bstr r)], .obj lp (.loop rec), .obj bd (.deferred (some []))]
abbrev rdG (g2 g3 g4 : Nat) (v : Value) (k e : Int) : List Res := [.blk g2 24 [v], .blk g3 3 [.int .i64 k], .blk g4 26 [.int .i64 e]]
abbrev rdP (g5 g6 : Nat) (cv pv : Value) (code : List Ins) (fs : List Fun) (cells : List Value) (k : Nat) : List Res := [.row cv 48 5 code.length (code.flatMap insR), .row pv 36 3 fs.length cells, .blk g5 24 [pv], .blk g6 3 [.int .i64 k]]
/-- Between two lines. -/
def RdI (w : World) (l : List UInt8) (lp bd B g2 g3 g4 g5 g6 : Nat) (rec : Loop) (r : List UInt8) (W : World) : Prop :=
  ∃ (k : Nat) (G : Fro) (fs fs0 : List Fun) (us0 cells : List Value) (cv pv : Value) (code : List Ins), RdQ l k r fs code ∧ PrgM w.heap.size G fs fs0 us0 cells cv code ∧
    Hp w [G, ⟨w, Lt w.heap.size⟩] (rdP g5 g6 cv pv code fs cells k ++ rdG g2 g3 g4 (.slice none 0 0) 0 0 ++ rdT B lp bd rec r) W
/-- Where a line was none. -/
def RdX (w : World) (l : List UInt8) (lp bd g2 g3 g4 : Nat) (rec : Loop) (W : World) : Prop :=
  ∃ k : Nat, readFrom [] 0 l = (⟨[]⟩, (k : Int), 5) ∧ Hp w [⟨w, Lt w.heap.size⟩] (rdG g2 g3 g4 (.slice none 0 0) k 5 ++ [.obj lp (.loop rec), .obj bd (.deferred (some []))]) W
theorem results_cells3 {fn : Func} {p u v : Tmp} {ty tz tq : TypeId} (h : fn.results = #[.cell p ty, .cell u tz, .cell v tq]) (tmps : Array Value) (P : Program) (w : World) :
    (results fn tmps).run P w =
      ((asAddr (tmps.getD p undef)).run P w).andThen fun a w₁ => ((loadVar ty a).run P w₁).andThen fun x w₂ => ((asAddr (tmps.getD u undef)).run P w₂).andThen fun b w₃ => ((loadVar tz b).run P w₃).andThen fun y w₄ =>
        ((asAddr (tmps.getD v undef)).run P w₄).andThen fun c w₅ => ((loadVar tq c).run P w₅).andThen fun z w₆ => .ok (.tuple #[x, y, z]) w₆ := by
  simp only [results, h]
  simp [Sem.run_bind, Result.andThen]
theorem results_read {w0 w : World} {Fs : List Fro} {L : List Res} {g2 g3 g4 : Nat} {v : Value} {k e : Int} (tmps : Array Value) (h2 : tmps.getD 2 undef = .pointer (some ⟨g2, 0, none⟩)) (h3 : tmps.getD 3 undef = .pointer (some ⟨g3, 0, none⟩)) (h4 : tmps.getD 4 undef = .pointer (some ⟨g4, 0, none⟩))
    (H : Hp w0 Fs L w) (m2 : Res.blk g2 24 [v] ∈ L) (m3 : Res.blk g3 3 [.int .i64 k] ∈ L) (m4 : Res.blk g4 26 [.int .i64 e] ∈ L) {fn : Func} (hf : fn.results = #[.cell 2 24, .cell 3 3, .cell 4 26]) :
    (results fn tmps).run Tryd.prog w = .ok (.tuple #[.agg #[v], .int .i64 k, .int .i64 e]) w := by
  rw [results_cells3 hf, h2, h3, h4]
  simp only [asAddr, Sem.run_pure, Result.andThen_ok, run_loadVar_row w g2 24 24 #[v] (0, 0) _ (H.blk m2) Tryd.underlying24 rfl (by kernel_rfl),
    run_loadVar1 (P := Tryd.prog) w 3 ⟨g3, 0, none⟩ (.int .i64 k) (H.cell m3 0 _ rfl) _ Tryd.underlying3 rfl, run_loadVar1 (P := Tryd.prog) w 26 ⟨g4, 0, none⟩ (.int .i64 e) (H.cell m4 0 _ rfl) _ Tryd.underlying26 rfl]
/-- A function's end: no deferred call, or the mark of a loop whose rounds deferred none. -/
theorem leave_none {F : Fence} {n : Nat} {P : Program} {fn : Func} {tmps : Array Value} {R : Ending → World → Prop} {w : World} {v : Value} (hr : (results fn tmps).run P w = .ok v w) (h : R (.returned v) w) : LeavesInM F n P fn tmps R [] .returning w := ⟨v, hr, h⟩
theorem leave_mark {F : Fence} {n : Nat} {P : Program} {fn : Func} {tmps : Array Value} {R : Ending → World → Prop} {w : World} {v : Value} {bd : Nat} {args : Array Value} (hb : w.heap[bd]? = some (.deferred (some []))) (hr : (results fn tmps).run P (w.putObj bd (.deferred none)) = .ok v (w.putObj bd (.deferred none))) (h : R (.returned v) (w.putObj bd (.deferred none))) :
    LeavesInM F n P fn tmps R [{ target := .collected bd, args := args }] .returning w :=
  ⟨by simp, .inl ⟨bd, _, rfl, run_takeDeferred hb, leave_none hr h⟩⟩
end Go.Proofs.YtpnapnmkjpolmaaDoor
