/- The ways out of code.Decode. -/
import Derived.Test.YtohindaklpdeeaaDoorCatch
import Derived.Test.YtohindaklpdeeaaDoorDecLaw
import Derived.Test.YtohindaklpdeeaaDoorFunsIn
set_option linter.unusedSimpArgs false
set_option linter.unusedVariables false
namespace Go.Proofs.YtohindaklpdeeaaDoor
open Go.RowKit Plain64
attribute [local irreducible] wpList Code.wp Oper.wp
def DecR (w : World) (p : Prg) (n : Int) (e : Ending) (w' : World) : Prop := ∃ v, e = .returned (.tuple #[.agg #[v], .int .i64 n]) ∧ Lay.rep w' (FreshD w w') p [v] ∧ Below w.heap.size w w'
theorem results_cells {fn : Func} {p u : Tmp} {ty tz : TypeId} (h : fn.results = #[.cell p ty, .cell u tz]) (tmps : Array Value) (P : Program) (w : World) :
    (results fn tmps).run P w =
      ((asAddr (tmps.getD p undef)).run P w).andThen fun a w₁ => ((loadVar ty a).run P w₁).andThen fun v w₂ => ((asAddr (tmps.getD u undef)).run P w₂).andThen fun b w₃ => ((loadVar tz b).run P w₃).andThen fun x w₄ => .ok (.tuple #[v, x]) w₄ := by
  simp only [results, h]
  simp [Sem.run_bind, Result.andThen]
variable {w0 w : World} {Fs : List Fro} {L : List Res}
/-- Functions that stay, in memory that is the call's own. -/
def FunsOwn (w0 : World) (G : Fro) (fs : List Fun) (vs : List Value) : Prop := FunsIn G fs vs ∧ ∀ b, G.S b → w0.heap.size ≤ b
theorem Hp.funsStart (h : Hp w0 Fs L w) : ∃ G : Fro, Hp w0 (G :: Fs) L w ∧ FunsOwn w0 G [] [] := ⟨_, h.froNone2, FunsIn.nil _, fun _ hb => hb.elim⟩
def insEnc2 (x : Ins) : List Value := [.int .i64 x.op, .int .i64 x.dst, .int .i64 x.a, .int .i64 x.b, .int .i64 x.imm]
/-- A function's code is not written any more. -/
theorem Hp.freezeFun {F : Fro} {cv : Value} {e : TypeId} {n : Nat} {f : Fun} {fs : List Fun} {vs : List Value} (H : Hp w0 (F :: Fs) (.row cv e 5 n (f.code.flatMap insEnc2) :: L) w) (ha : FunsOwn w0 F fs vs) : ∃ G : Fro, Hp w0 (G :: Fs) L w ∧ FunsOwn w0 G (fs ++ [f]) (vs ++ [cv]) :=
  ⟨_, Hp.freeze (A := []) H, FunsIn.snoc (A := []) ha.1 H (Hp.rowOwn2 insEnc2 5 rfl (by decide) (fun _ => rfl) (fun _ _ _ => rep_ins.2 rfl) H (.head _) rfl), fun b hb => by
    rcases hb with hb | hb
    · exact ha.2 b hb
    · exact ((H.own _ (.head _)).2 b hb).1⟩
theorem Hp.rowShape2 {v : Value} {e : TypeId} {sz n : Nat} {cs : List Value} (h : Hp w0 Fs L w) (hm : Res.row v e sz n cs ∈ L) : ∃ A c, v = .slice A n c := by
  rcases (h.row hm).2 with ⟨rfl, hn⟩ | ⟨g, cap, cur, rfl, _⟩
  · subst hn; exact ⟨none, 0, rfl⟩
  · exact ⟨_, cap, rfl⟩
theorem funs_zip {fs : List Fun} {vs : List Value} (h : vs.length = fs.length) (f : Fun) (v : Value) : ((fs ++ [f]).zip (vs ++ [v])).flatMap funEnc2 = (fs.zip vs).flatMap funEnc2 ++ [.int .i64 f.params, .int .i64 f.regs, v] := by
  rw [List.zip_append h.symm, List.flatMap_append]; rfl
/-- The results, read. -/
theorem dec_results {g2 g3 : Nat} {V : Value} {n : Int} {T : Array Value} (h2 : T.getD 2 undef = .pointer (some ⟨g2, 0, none⟩)) (h3 : T.getD 3 undef = .pointer (some ⟨g3, 0, none⟩))
    (HP : Hp w0 Fs (.blk g2 26 [V] :: .blk g3 27 [.int .i64 n] :: L) w) :
    (results Tryd.f6 T).run Tryd.prog w = .ok (.tuple #[.agg #[V], .int .i64 n]) w := by
  rw [results_cells (p := 2) (u := 3) rfl, h2, h3]
  have e1 : (loadVar 26 ⟨g2, 0, none⟩).run Tryd.prog w = .ok (.agg #[V]) w := run_loadVar_at w ⟨g2, 0, none⟩ 26 [V] _ (HP.blkAt (.head _) 0) Tryd.underlying26 rfl (by kernel_rfl)
  have e2 : (loadVar 27 ⟨g3, 0, none⟩).run Tryd.prog w = .ok (.int .i64 n) w := run_loadVar1 w 27 ⟨g3, 0, none⟩ _ (HP.cell (.tail _ (.head _)) 0 _ rfl) _ Tryd.underlying27 rfl
  simp [asAddr, Result.andThen, e1, e2]
abbrev decD (g2 g3 : Nat) : Deferred := { target := .fn (.func 12) #[.pointer (some ⟨g2, 0, none⟩), .pointer (some ⟨g3, 0, none⟩)], args := #[] }
/-- A panic with an error's number goes through the door. -/
theorem dec_panic {g2 g3 : Nat} {V E : Value} {n : Int} {T : Array Value} (h2 : T.getD 2 undef = .pointer (some ⟨g2, 0, none⟩)) (h3 : T.getD 3 undef = .pointer (some ⟨g3, 0, none⟩))
    (HP : Hp w0 Fs (.blk g2 26 [V] :: .blk g3 27 [E] :: L) w) :
    bodyPostD Tryd.prog Tryd.f6 (fun e w' => DecR w0 ⟨[]⟩ n e w') (.panic [{ v := .iface 27 (.int .i64 n), recovered := false }]) { tmps := T, defers := [decD g2 g3] } w := by
  show Leaves _ _ _ _ _ _ _
  refine leaves_cons (f := 12) (args := #[.pointer (some ⟨g2, 0, none⟩), .pointer (some ⟨g3, 0, none⟩)]) (by simp) (by simp [go_sem]) ?_
  refine (catch_err g2 g3 n V E [] w HP).mono ?_
  rintro e u' w'' ⟨rfl, rfl, H⟩
  show Leaves _ _ _ _ [] .returning _
  exact ⟨_, dec_results h2 h3 H, _, rfl, ⟨none, 0, rfl, Nat.le_refl _, by unfold maxLen; omega, fun k x h => by simp at h⟩, H.below⟩
/-- The end without a panic. -/
theorem dec_returns {g2 g3 : Nat} {V : Value} {n : Int} {p : Prg} {T : Array Value} (h2 : T.getD 2 undef = .pointer (some ⟨g2, 0, none⟩)) (h3 : T.getD 3 undef = .pointer (some ⟨g3, 0, none⟩))
    (HP : Hp w0 Fs (.blk g2 26 [V] :: .blk g3 27 [.int .i64 n] :: L) w) (hr : Lay.rep w (FreshD w0 w) p [V]) :
    bodyPostD Tryd.prog Tryd.f6 (fun e w' => DecR w0 p n e w') .ret { tmps := T, defers := [decD g2 g3] } w := by
  show Leaves _ _ _ _ _ _ _
  refine leaves_cons (f := 12) (args := #[.pointer (some ⟨g2, 0, none⟩), .pointer (some ⟨g3, 0, none⟩)]) (by simp) (by simp [go_sem]) ?_
  refine (catch_idle ⟨g2, 0, none⟩ ⟨g3, 0, none⟩ w).mono ?_
  rintro e u' w'' ⟨rfl, rfl, rfl⟩
  show Leaves _ _ _ _ [] .returning _
  exact ⟨_, dec_results h2 h3 HP, _, rfl, hr, HP.below⟩
/-- The end ahead of the defer. -/
theorem dec_early {g2 g3 : Nat} {V : Value} {n : Int} {p : Prg} {T : Array Value} (h2 : T.getD 2 undef = .pointer (some ⟨g2, 0, none⟩)) (h3 : T.getD 3 undef = .pointer (some ⟨g3, 0, none⟩))
    (HP : Hp w0 Fs (.blk g2 26 [V] :: .blk g3 27 [.int .i64 n] :: L) w) (hr : Lay.rep w (FreshD w0 w) p [V]) :
    bodyPostD Tryd.prog Tryd.f6 (fun e w' => DecR w0 p n e w') .ret { tmps := T, defers := [] } w := by
  show Leaves _ _ _ _ [] .returning _
  exact ⟨_, dec_results h2 h3 HP, _, rfl, hr, HP.below⟩
/-- The deferred calls of a frame look at its results alone. -/
theorem leaves_congr {P : Program} {fn : Func} {T T' : Array Value} {R : Ending → World → Prop} (h : ∀ w, (results fn T).run P w = (results fn T').run P w) : ∀ (ds : List Deferred) (u : FrameMode) (w : World), Leaves P fn T R ds u w → Leaves P fn T' R ds u w
  | [], .returning, w, ⟨v, hv, hr⟩ => ⟨v, h w ▸ hv, hr⟩
  | [], .panicking _, _, H => H
  | [], .run, _, H => H
  | d :: ds, u, w, ⟨h1, fv, cap, f, args, h2, h3, h4⟩ => ⟨h1, fv, cap, f, args, h2, h3, h4.mono fun e u' w' H => by
    cases e with
    | returned v => exact leaves_congr h ds (settle u') w' H
    | panicked c => exact leaves_congr h ds (raised u' c) w' H
    | outgrown => exact H⟩
theorem getD_put {T : Array Value} {d k : Nat} {v x : Value} (h : d ≠ k) : (T.setIfInBounds d v).getD k x = T.getD k x := by
  simp [Array.getD_eq_getD_getElem?, Array.getElem?_setIfInBounds, h]
/-- A temporary that is no result does not matter where a panic goes. -/
theorem dec_put {R : Ending → World → Prop} {c : List PanicEntry} {a : Act} {d : Nat} {v : Value} {w : World} (h2 : d ≠ 2) (h3 : d ≠ 3) (H : bodyPostD Tryd.prog Tryd.f6 R (.panic c) (a.put (some d) v) w) : bodyPostD Tryd.prog Tryd.f6 R (.panic c) a w := by
  refine leaves_congr (T := (a.put (some d) v).tmps) (fun w => ?_) _ _ _ H
  rw [results_cells (p := 2) (u := 3) rfl, results_cells (p := 2) (u := 3) rfl]
  show _ = _
  rw [show (a.put (some d) v).tmps = a.tmps.setIfInBounds d v from rfl, getD_put h2, getD_put h3]
end Go.Proofs.YtohindaklpdeeaaDoor
