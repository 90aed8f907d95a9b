/- What a reader takes an argument for is data that lie in memory. No program is named here. -/
import Derived.Test.YtpnapnmkjpolmaaDoorData
import Derived.ProofKit
import Derived.OpenShut
import Derived.SizedLaws
set_option linter.unusedSimpArgs false
set_option linter.unusedVariables false
namespace Go.Proofs.YtpnapnmkjpolmaaDoor
open Go.RowKit Go.WideShapes Go.ChangeShapes Go.Deep

/-- Whatever is read at the type t stands for data. -/
structure Opens (P : Program) (t : TypeId) (α : Type) [Lay α] : Prop where
  out : ∀ {H : Type} (enc : TypeId × Value → H) (w : World) (spare : Nat → Bool) (held : Bool) (n : Nat) (cs : List Value) (x : DataW H × List MemPlace),
    DataW.trod enc P w 0 spare held n t cs = some x → (∀ m, m ∈ x.1.weights P t → m ≤ reachBytes) → ∃ a : α, Lay.rep w (Lt w.heap.size) a cs ∧ Lay.ok a ∧ Lay.dat a x.1

section
variable {P : Program} {t e : TypeId}
theorem opens_int (hu : P.underlying t = some (.int .i64)) : Opens P t Int := by
  constructor
  intro H enc w spare held n cs x h _
  obtain ⟨m, rfl, rfl, hw⟩ := DataW.trod_int hu h
  exact ⟨m, rfl, bounds_i64 hw, rfl⟩
theorem opens_bool (hu : P.underlying t = some .bool) : Opens P t Bool := by
  constructor
  intro H enc w spare held n cs x h _
  obtain ⟨b, rfl, rfl⟩ := DataW.trod_bool hu h
  exact ⟨b, rfl, trivial, rfl⟩
theorem opens_byte (hu : P.underlying t = some (.int .u8)) : Opens P t UInt8 := by
  constructor
  intro H enc w spare held n cs x h _
  obtain ⟨m, rfl, rfl, hw⟩ := DataW.trod_int hu h
  have := bounds_u8 hw
  obtain ⟨k, rfl⟩ := Int.eq_ofNat_of_zero_le this.1
  have e : ((UInt8.ofNat k).toNat : Int) = k := by simp; omega
  exact ⟨UInt8.ofNat k, by show [_] = [_]; rw [e], trivial, by show _ = DataW.lit _; rw [e]⟩
theorem weights_of_all {H : Type} {P : Program} {e : TypeId} : ∀ {l : List (DataW H)} {d : DataW H}, d ∈ l → ∀ n, n ∈ d.weights P e → n ∈ DataW.weightsAll P e l
  | x :: l, d, h, n, hn => by
    rw [DataW.weightsAll, List.mem_append]
    rcases List.mem_cons.1 h with rfl | h
    · exact .inl hn
    · exact .inr (weights_of_all h n hn)
theorem opens_slice {α : Type} [Lay α] (hu : P.underlying t = some (.slice e)) (hC : P.cellsOf e = Lay.size α) (hb : P.bytesOf e = Lay.bytes α) (hp : 0 < Lay.size α) (he : Opens P e α) : Opens P t (List α) := by
  constructor
  intro H enc w spare held n cs x h hw
  rcases open_slice hu h with ⟨rfl, rfl⟩ | ⟨a, len, cap, m, n', D, Pl, rfl, _, hl, hm, hmm, rfl, hi⟩
  · exact ⟨[], ⟨none, 0, rfl, Nat.le_refl _, by unfold maxLen; omega, fun k x hx => by simp at hx⟩, ⟨by simp, by simp⟩, .inl ⟨rfl, rfl⟩⟩
  · have hlm : len ≤ m := by rw [hmm]; split <;> omega
    have hel : ∀ i, i < len → ∃ y : α, (∃ ds, At w (a.add (i * Lay.size α)) ds ∧ Lay.rep w (Lt w.heap.size) y ds ∧ (0 < Lay.size α → a.block < w.heap.size)) ∧ Lay.ok y ∧ Lay.dat y (D i) := by
      intro i him
      obtain ⟨cs', hc, ht'⟩ := hi i (by omega)
      have hwi : ∀ k, k ∈ (D i).weights P e → k ≤ reachBytes := fun k hk => hw k (by
        rw [DataW.weights, hu]
        simp only [List.mem_cons, List.mem_append]
        exact .inr (.inl (weights_of_all (List.mem_map.2 ⟨i, by simpa using him, rfl⟩) k hk)))
      obtain ⟨y, hy, hok, hd⟩ := he.out enc w spare held n' cs' _ ht' hwi
      obtain ⟨_, hcl, hat⟩ := World.cells?_some hc
      refine ⟨y, ⟨cs', fun j v hv => ?_, hy, fun hpos => ?_⟩, hok, hd⟩
      · have hj : j < P.cellsOf e := by rw [← hcl]; exact (List.getElem?_eq_some_iff.1 hv).1
        rw [← hC]
        have := hat j hj
        rw [this]; exact hv
      · have h0 := hat 0 (by omega)
        have hl0 := Lay.len hy
        rw [List.getElem?_eq_getElem (by omega)] at h0
        have := block_lt_of_cell h0
        rwa [block_of_add, block_of_add] at this
    have hex : ∃ ys : List α, ys.length = len ∧ ∀ i y, ys[i]? = some y → (∃ ds, At w (a.add (i * Lay.size α)) ds ∧ Lay.rep w (Lt w.heap.size) y ds ∧ (0 < Lay.size α → a.block < w.heap.size)) ∧ Lay.ok y ∧ Lay.dat y (D i) := by
      clear hi hw h hmm hl hlm
      induction len with
      | zero => exact ⟨[], rfl, fun i y h => by simp at h⟩
      | succ len ih =>
        obtain ⟨ys, hys, hyy⟩ := ih fun i hi => hel i (by omega)
        obtain ⟨y, hy⟩ := hel len (by omega)
        refine ⟨ys ++ [y], by simp [hys], fun i z hz => ?_⟩
        by_cases hil : i < len
        · rw [List.getElem?_append_left (by omega)] at hz
          exact hyy i z hz
        · have : i = len := by
            have := (List.getElem?_eq_some_iff.1 hz).1
            simp [hys] at this; omega
          subst this
          rw [List.getElem?_append_right (by omega), hys] at hz
          simp at hz
          subst hz
          exact hy
    obtain ⟨ys, hys, hyy⟩ := hex
    have hwl : (len + (m - len)) * P.bytesOf e ≤ reachBytes := by
      have := hw ((((List.range len).map D).length + ((List.range (m - len)).map fun j => D (len + j)).length) * P.bytesOf e) (by rw [DataW.weights, hu]; simp)
      simpa using this
    refine ⟨ys, ⟨some a, cap, by rw [hys], by omega, hm, fun k x hx => ?_⟩, ⟨?_, fun x hx => ?_⟩, .inr ⟨_, _, rfl, by simp [hys], fun i x d hx hd => ?_⟩⟩
    · obtain ⟨⟨ds, h1, h2, h3⟩, _⟩ := hyy k x hx
      exact ⟨a, ds, rfl, h3 hp, h1, h2⟩
    · have : len * P.bytesOf e ≤ reachBytes := Nat.le_trans (Nat.mul_le_mul_right _ (by omega)) hwl
      rw [hys, ← hb]
      unfold reachBytes at this
      omega
    · obtain ⟨i, hi, rfl⟩ := List.getElem_of_mem hx
      exact (hyy i _ (List.getElem?_eq_getElem hi)).2.1
    · have hil : i < len := by have := (List.getElem?_eq_some_iff.1 hx).1; omega
      simp [hil] at hd
      subst hd
      exact (hyy i x hx).2.2

/-- The fields from one on, at an offset. -/
structure FieldsOpen (P : Program) (fs : List Field) (o : Nat) (α : Type) [Lay α] : Prop where
  out : ∀ {H : Type} (enc : TypeId × Value → H) (w : World) (spare : Nat → Bool) (held : Bool) (m : Nat) (cs : List Value) (xs : List (DataW H × List MemPlace)),
    cs.length = o + Lay.size α → xs.length = fs.length → (∀ (i : Nat) (f : Field), fs[i]? = some f → DataW.trod enc P w 0 spare held m f.type ((cs.drop f.offset).take (P.cellsOf f.type)) = xs[i]?) →
    (∀ k, k ∈ DataW.weightsEach P (fs.map (·.type)) (xs.map (·.1)) → k ≤ reachBytes) → ∃ a : α, Lay.rep w (Lt w.heap.size) a (cs.drop o) ∧ Lay.ok a ∧ (Lay.dat a (.agg (xs.map (·.1))) ∨ ∃ c, xs.map (·.1) = [c] ∧ Lay.dat a c)
theorem fields_one {α : Type} [Lay α] {f : Field} {o : Nat} (ho : f.offset = o) (hc : P.cellsOf f.type = Lay.size α) (hf : Opens P f.type α) : FieldsOpen P [f] o α := by
  constructor
  intro H enc w spare held m cs xs hl hx h hw
  match xs, hx with
  | [x], _ =>
    have h0 := h 0 f rfl
    rw [ho, List.take_of_length_le (by rw [List.length_drop, hc]; omega)] at h0
    obtain ⟨a, h1, h2, h3⟩ := hf.out enc w spare held m _ x h0 (fun k hk => hw k (by simp [DataW.weightsEach, hk]))
    exact ⟨a, h1, h2, .inr ⟨_, rfl, h3⟩⟩
theorem fields_cons {α β : Type} [Lay α] [Lay β] {f : Field} {fs : List Field} {o : Nat} (ho : f.offset = o) (hc : P.cellsOf f.type = Lay.size α) (hf : Opens P f.type α) (hfs : FieldsOpen P fs (o + Lay.size α) β) : FieldsOpen P (f :: fs) o (α × β) := by
  constructor
  intro H enc w spare held m cs xs hl hx h hw
  match xs, hx with
  | x :: xs, hx =>
    have hl' : cs.length = o + (Lay.size α + Lay.size β) := hl
    have h0 := h 0 f rfl
    rw [ho, hc] at h0
    obtain ⟨a, h1, h2, h3⟩ := hf.out enc w spare held m _ x h0 (fun k hk => hw k (by simp only [List.map_cons, DataW.weightsEach, List.mem_append]; exact .inl hk))
    obtain ⟨b, g1, g2, g3⟩ := hfs.out enc w spare held m cs xs (by omega) (by simpa using hx) (fun i f' hi => h (i + 1) f' hi) (fun k hk => hw k (by simp only [List.map_cons, DataW.weightsEach, List.mem_append]; exact .inr hk))
    refine ⟨(a, b), ⟨_, _, ?_, h1, g1⟩, ⟨h2, g2⟩, .inl ⟨x.1, xs.map (·.1), rfl, h3, g3⟩⟩
    rw [← List.drop_drop, List.take_append_drop]
theorem opens_struct {α : Type} [Lay α] {fs : Array Field} (hu : P.underlying t = some (.struct fs)) (hC : P.cellsOf t = Lay.size α) (h2 : 2 ≤ fs.size) (hf : FieldsOpen P fs.toList 0 α) : Opens P t α := by
  constructor
  intro H enc w spare held n cs x h hw
  obtain ⟨xs, m, _, rfl, hl, hlen, hg⟩ := DataW.trod_struct hu h
  obtain ⟨a, h1, h2', h3⟩ := hf.out enc w spare held m cs xs (by omega) (by simpa using hlen) (fun i f hi => hg i f (by simpa using hi)) (fun k hk => hw k (by simp only [DataW.weights, hu]; exact hk))
  refine ⟨a, by simpa using h1, h2', ?_⟩
  rcases h3 with h3 | ⟨c, hc, _⟩
  · exact h3
  · have : xs.length = 1 := by have := congrArg List.length hc; simpa using this
    omega
/-- A struct of one field. -/
theorem opens_struct1 {α : Type} [Lay α] {f : Field} (hu : P.underlying t = some (.struct #[f])) (hC : P.cellsOf t = Lay.size α) (ho : f.offset = 0) (hc : P.cellsOf f.type = Lay.size α) (hf : Opens P f.type α) :
    ∀ {H : Type} (enc : TypeId × Value → H) (w : World) (spare : Nat → Bool) (held : Bool) (n : Nat) (cs : List Value) (x : DataW H × List MemPlace),
    DataW.trod enc P w 0 spare held n t cs = some x → (∀ m, m ∈ x.1.weights P t → m ≤ reachBytes) → ∃ a : α, Lay.rep w (Lt w.heap.size) a cs ∧ Lay.ok a := by
  intro H enc w spare held n cs x h hw
  obtain ⟨xs, m, _, rfl, hl, hlen, hg⟩ := DataW.trod_struct hu h
  obtain ⟨a, h1, h2, _⟩ := (fields_one ho hc hf).out enc w spare held m cs xs (by omega) (by simpa using hlen) (fun i g hi => hg i g (by simpa using hi)) (fun k hk => hw k (by simp only [DataW.weights, hu]; exact hk))
  exact ⟨a, by simpa using h1, h2⟩
theorem opens_via {α β : Type} [Lay β] (f : α → β) (g : β → α) (hg : ∀ b, f (g b) = b) (h : Opens P t β) : @Opens P t α (Lay.via f) := by
  refine @Opens.mk P t α (Lay.via f) ?_
  intro H enc w spare held n cs x hx hw
  obtain ⟨b, h1, h2, h3⟩ := h.out enc w spare held n cs x hx hw
  exact ⟨g b, by show Lay.rep _ _ (f (g b)) _; rw [hg]; exact h1, by show Lay.ok (f (g b)); rw [hg]; exact h2, by show Lay.dat (f (g b)) _; rw [hg]; exact h3⟩
theorem opens_vec {α : Type} [Lay α] {n : Nat} (hu : P.underlying t = some (.array n e)) (hC : P.cellsOf t = n * Lay.size α) (hc : P.cellsOf e = Lay.size α) (he : Opens P e α) : Opens P t (Vector α n) := by
  constructor
  intro H enc w spare held k cs x h hw
  obtain ⟨xs, m, _, rfl, hl, hlen, hg⟩ := DataW.trod_array hu h
  have hel : ∀ i : Fin n, ∃ y : α, Lay.rep w (Lt w.heap.size) y ((cs.drop (i.1 * Lay.size α)).take (Lay.size α)) ∧ Lay.ok y ∧ ∀ d, (xs.map (·.1))[i.1]? = some d → Lay.dat y d := by
    intro ⟨i, hi⟩
    have h0 := hg i hi
    have hx : xs[i]? = some xs[i] := List.getElem?_eq_getElem (by omega)
    rw [hx, hc] at h0
    obtain ⟨y, h1, h2, h3⟩ := he.out enc w spare held m _ _ h0 (fun q hq => hw q (by
      simp only [DataW.weights, hu]
      exact weights_of_all (List.mem_map.2 ⟨xs[i], List.getElem_mem _, rfl⟩) q hq))
    exact ⟨y, h1, h2, fun d hd => by simp [hx] at hd; subst hd; exact h3⟩
  refine ⟨Vector.ofFn fun i => Classical.choose (hel i), ⟨by omega, fun i hi => ?_⟩, fun i hi => ?_, ⟨xs.map (·.1), rfl, by simpa using hlen, fun i hi d hd => ?_⟩⟩
  all_goals
    have hs := Classical.choose_spec (hel ⟨i, hi⟩)
    rw [Vector.getElem_ofFn]
  · exact hs.1
  · exact hs.2.1
  · exact hs.2.2 d hd
end
end Go.Proofs.YtpnapnmkjpolmaaDoor
