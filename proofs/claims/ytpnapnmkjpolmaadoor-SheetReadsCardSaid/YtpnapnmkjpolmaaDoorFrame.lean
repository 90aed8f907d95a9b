/- The frame of a law's row: what stands in memory behind the call reads as it did. -/
import Derived.Test.YtpnapnmkjpolmaaDoorTypes
import Derived.Below
import Derived.ChangeSame
import Derived.Deep.DeepHandedRow
import Derived.Lib.LaidTab
import Derived.Test.YtpnapnmkjpolmaaDoorCards
import Derived.Test.YtpnapnmkjpolmaaDoorTie
set_option linter.unusedSimpArgs false
set_option linter.unusedVariables false
namespace Go.Proofs.YtpnapnmkjpolmaaDoor
open Go.RowKit Go.WideShapes Go.ChangeShapes

theorem own : ownKnob Tryd.prog.godebug = none := by kernel_rfl
theorem laidOut : laidOutB Tryd.prog = true := by kernel_rfl

section
variable {H : Type} {enc : TypeId × Value → H} {P : Program}
theorem trodAll_stays (hl : laidOutB P = true) {W W' : World} (hb : Below W.heap.size W W') {sp : Nat → Bool} : ∀ {ts : List TypeId} {vs : List Value} {ds : List (DataW H)} {ps : List MemPlace},
    (∀ t, t ∈ ts → P.readableRec t = true ∧ t < P.types.size) → (∀ p, p ∈ ps → p.block < W.heap.size) → (∀ p, p ∈ ps → sp p.block = true) →
    DataW.TrodAll enc P W 0 (fun _ => true) true ts vs ds ps → DataW.TrodAll enc P W' 0 sp true ts vs ds ps
  | [], vs, ds, ps, _, _, _, h => by
    obtain ⟨rfl, rfl, rfl⟩ := trodAll_nil h
    exact trodAll_mk0
  | t :: ts, vs, ds, ps, hr, hlt, hsp, h => by
    obtain ⟨v, vs', d, ds', p, q, rfl, rfl, rfl, h0, h1⟩ := trodAll_cons h
    exact trodAll_cons_mk (WideElems.Trod_stays hl (hr t (by simp)).1 (hr t (by simp)).2 h0 (fun x hx => hb.same (hlt x (by simp [hx]))) (fun x hx => hsp x (by simp [hx])))
      (trodAll_stays hl hb (fun t ht => hr t (by simp [ht])) (fun x hx => hlt x (by simp [hx])) (fun x hx => hsp x (by simp [hx])) h1)

/-- The call returned true, and below the old heap's size nothing has turned: the row's last step. -/
theorem law_post {f : Func} {s : ChangeSpec} {W W' : World} {args : Array Value} {ds gs : List (DataW H)} {before : List MemPlace} {tb : TypeId} (hl : laidOutB P = true)
    (hW : DataW.Whole enc P f.params.toList s.vars false W args.toList ds gs before) (hb : Below W.heap.size W W') (hvars : s.vars = [])
    (hs : s.fn H (ds ++ gs) = { results := [.lit (.bool true)], args := ds }) (hrt : f.resultTypes = #[tb]) (hbool : P.underlying tb = some .bool)
    (hr : ∀ t, t ∈ f.params.toList → P.readableRec t = true ∧ t < P.types.size) : s.post enc P f false true false false W args (.bool true) W' := by
  have hlt : ∀ p ∈ before, p.block < W.heap.size := fun p hp => hW.lt p hp
  have hW' := hW
  obtain ⟨p, q, hA, hV, rfl, hfz, hnd⟩ := hW
  have hq : q = [] ∧ gs = [] := by
    rw [hvars] at hV
    obtain ⟨h1, h2⟩ := trodVars_none hV
    exact ⟨by first | exact h1 | exact h2, by first | exact h1 | exact h2⟩
  obtain ⟨rfl, rfl⟩ := hq
  simp only [List.append_nil] at *
  refine ⟨ds, [], p, [], p, [], by simpa using hW', ?_, ?_, ?_, ?_, fun h => by cases h⟩
  · simp only [List.append_nil, hs, hrt]
    exact trodAll_mk1 (shut_bool hbool _)
  · simp only [List.append_nil, hs]
    exact trodAll_stays hl hb hr hlt (fun x hx => by simpa using hlt x hx) hA
  · rw [hvars]
    simp [DataW.TrodVars, hs]
  · exact World.keptBut_mono (fun x hx => ⟨hx, Or.inr (by simpa using hx)⟩) (hb.frame (· ∈ p))

/-- A listed variable's cells. -/
theorem laid_at {α : Type} [Lay α] {W : World} {name : String} {D : DataW Unit} {rest : List (String × DataW Unit)} {g : Nat} {t : TypeId} {laid : List (String × DataW Unit)} (hl : laid = (name, D) :: rest)
    (hg : P.globalNamed name = some g) (hty : (P.globals[g]?).map (·.type) = some t) (ho : Opens P t α) (hw : D.weights P t = []) (h : laidMet P laid W) :
    ∃ (a : α) (cs : List Value), Lay.rep W (Lt W.heap.size) a cs ∧ Lay.dat a D ∧ At W ⟨g, 0, none⟩ cs := by
  subst hl
  obtain ⟨ps, ⟨g', t', cs, fuel, p, q, hg', ht', hvar, hd, _, _⟩, _⟩ := h
  obtain rfl := Option.some.inj (hg.symm.trans hg')
  obtain rfl := Option.some.inj (hty.symm.trans ht')
  obtain ⟨a, h1, h2, h3⟩ := ho.out _ _ _ _ _ _ _ hd (fun m hm => by rw [hw] at hm; cases hm)
  exact ⟨a, cs.toList, h1, h3, fun j v hv => by rw [Addr.add_lit, Nat.zero_add, World.var?_cell hg hvar]; simpa using hv⟩
theorem laid_tail {W : World} {name : String} {D : DataW Unit} {rest : List (String × DataW Unit)} {laid : List (String × DataW Unit)} (hl : laid = (name, D) :: rest) (h : laidMet P laid W) : ∃ ps, DataW.LaidVars P W rest ps := by
  subst hl
  obtain ⟨ps, ⟨_, _, _, _, _, q, _, _, _, _, hr, _⟩, _⟩ := h
  exact ⟨q, hr⟩
theorem laidVars_at {α : Type} [Lay α] {W : World} {name : String} {D : DataW Unit} {rest : List (String × DataW Unit)} {g : Nat} {t : TypeId} {ps : List MemPlace}
    (hg : P.globalNamed name = some g) (hty : (P.globals[g]?).map (·.type) = some t) (ho : Opens P t α) (hw : D.weights P t = []) (h : DataW.LaidVars P W ((name, D) :: rest) ps) :
    (∃ (a : α) (cs : List Value), Lay.rep W (Lt W.heap.size) a cs ∧ Lay.dat a D ∧ At W ⟨g, 0, none⟩ cs) ∧ ∃ qs, DataW.LaidVars P W rest qs := by
  obtain ⟨g', t', cs, fuel, p, q, hg', ht', hvar, hd, hr, _⟩ := h
  obtain rfl := Option.some.inj (hg.symm.trans hg')
  obtain rfl := Option.some.inj (hty.symm.trans ht')
  obtain ⟨a, h1, h2, h3⟩ := ho.out _ _ _ _ _ _ _ hd (fun m hm => by rw [hw] at hm; cases hm)
  exact ⟨⟨a, cs.toList, h1, h3, fun j v hv => by rw [Addr.add_lit, Nat.zero_add, World.var?_cell hg hvar]; simpa using hv⟩, q, hr⟩
/-- An array of numbers that is laid. -/
theorem dat_ints {n : Nat} {v : Vector Int n} {l : List Int} (h : Lay.dat v (DataW.agg (H := Unit) (l.map fun n => .lit (.int .i64 n)))) : v.toList = l := by
  obtain ⟨es, he, hl, hd⟩ := h
  injection he with he
  subst he
  apply List.ext_getElem
  · simpa using hl.symm
  · intro i hi hi'
    have hin : i < n := by simpa using hi
    have := hd i hin _ (List.getElem?_eq_getElem (by simpa using hi'))
    simp only [List.getElem_map] at this
    injection this with this
    injection this with _ this
    simp [this]
/-- An argument stands for data. -/
theorem open_arg {α : Type} [Lay α] {W : World} {t : TypeId} {v : Value} {d : DataW H} {p : List MemPlace} (ho : Opens P t α) (h : DataW.Trod enc P W 0 (fun _ => true) true t v d p) (hw : ∀ m, m ∈ d.weights P t → m ≤ reachBytes) :
    ∃ a : α, Lay.rep W (Lt W.heap.size) a v.cells.toList ∧ Lay.ok a := by
  obtain ⟨n, hn⟩ := h
  obtain ⟨a, h1, h2, _⟩ := ho.out _ _ _ _ _ _ _ hn hw
  exact ⟨a, h1, h2⟩
theorem weights_of {ts : List TypeId} {ds : List (DataW H)} (h : (DataW.weightsEach P ts ds).all (· ≤ reachBytes) = true) {j : Nat} {t : TypeId} {d : DataW H} (ht : ts[j]? = some t) (hd : ds[j]? = some d) : ∀ m, m ∈ d.weights P t → m ≤ reachBytes := by
  intro m hm
  have := List.all_eq_true.1 h _ (DataW.weights_mem_each ht hd m hm)
  simpa using this
end

section
variable {H : Type} {enc : TypeId × Value → H} {P : Program}
theorem open_prg0 {t : TypeId} {f : Field} (hu : P.underlying t = some (.struct #[f])) (hC : P.cellsOf t = Lay.size (List Fun)) (ho : f.offset = 0) (hc : P.cellsOf f.type = Lay.size (List Fun)) (hf : Opens P f.type (List Fun))
    {W : World} {v : Value} {d : DataW H} {p : List MemPlace} {r : Reach} {b : Nat} (hv : Value.okWide P W r b t v) (h : DataW.Trod enc P W 0 (fun _ => true) true t v d p) (hw : ∀ m, m ∈ d.weights P t → m ≤ reachBytes) :
    ∃ (a : Prg) (u : Value), v = .agg #[u] ∧ Lay.rep W (Lt W.heap.size) a [u] ∧ Lay.ok a := by
  obtain ⟨cs, rfl, hsz⟩ := okWide_struct hu hv
  obtain ⟨n, hn⟩ := h
  obtain ⟨a, h1, h2⟩ := opens_struct1 (α := List Fun) hu hC ho hc hf _ _ _ _ _ _ _ hn hw
  obtain ⟨A, c, hcs, hr⟩ := h1
  obtain ⟨l⟩ := cs
  simp only [Value.cells] at hcs
  subst hcs
  exact ⟨⟨a⟩, _, rfl, ⟨A, c, rfl, hr⟩, h2⟩
theorem open_rvi0 {t : TypeId} {fs : Array Field} (hu : P.underlying t = some (.struct fs)) (hf : Opens P t Rvi)
    {W : World} {v : Value} {d : DataW H} {p : List MemPlace} {r : Reach} {b : Nat} (hv : Value.okWide P W r b t v) (h : DataW.Trod enc P W 0 (fun _ => true) true t v d p) (hw : ∀ m, m ∈ d.weights P t → m ≤ reachBytes) :
    ∃ (a : Rvi), v = .agg #[.int .i64 a.op, .int .i64 a.rd, .int .i64 a.rs1, .int .i64 a.rs2, .int .i64 a.imm] ∧ Lay.ok a := by
  obtain ⟨cs, rfl, hsz⟩ := okWide_struct hu hv
  obtain ⟨a, h1, h2⟩ := open_arg hf h hw
  rw [rep_rvi] at h1
  obtain ⟨l⟩ := cs
  simp only [Value.cells] at h1
  subst h1
  exact ⟨a, rfl, h2⟩
end
end Go.Proofs.YtpnapnmkjpolmaaDoor
