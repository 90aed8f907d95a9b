/- P7.2: what ref.BlocksOf's rounds do. No program is named here. -/
import Derived.Test.YtnabeibnaoahmaaDoorBlkGo
set_option linter.unusedSimpArgs false
set_option linter.unusedVariables false
namespace Go.Proofs.YtnabeibnaoahmaaDoor
open Go.RowKit
noncomputable def mkB (f : Fun) (k : Nat) : BV := ⟨k, toOf f k, .slice none 0 0, [], .slice none 0 0, []⟩
noncomputable def hd1 (f : Fun) (q : Nat) : List Nat := (List.range q).filter (headB f)
noncomputable def bs1 (f : Fun) (q : Nat) : List BV := (hd1 f q).map (mkB f)
theorem bs1_succ (f : Fun) (q : Nat) : bs1 f (q + 1) = bs1 f q ++ if headB f q then [mkB f q] else [] := by
  unfold bs1 hd1
  rw [List.range_succ, List.filter_append, List.map_append]
  congr 1
  by_cases h : headB f q = true
  · simp [h]
  · simp [h]
theorem bs1_len (f : Fun) (q : Nat) : (bs1 f q).length ≤ q := by
  unfold bs1 hd1; rw [List.length_map]; have := List.length_filter_le (headB f) (List.range q); rwa [List.length_range] at this
theorem bs1_all (f : Fun) : bs1 f f.code.length = (headsL f).map (mkB f) := rfl
structure RAt (f : Fun) (m i k : Nat) (b : BV) : Prop where
  frm : b.frm = begB f k
  upto : b.upto = toOf f (begB f k)
  ns : b.ns = if k < i then nxtB f k m else []
  ps : b.ps = if k < i then prvB f k m else []
  nil : b.ps = [] → b.vp = .slice none 0 0
structure RIn (f : Fun) (m i jn jp k : Nat) (b : BV) : Prop where
  frm : b.frm = begB f k
  upto : b.upto = toOf f (begB f k)
  ns : b.ns = if k < i then nxtB f k m else if k = i then nxtB f i jn else []
  ps : b.ps = if k < i then prvB f k m else if k = i then prvB f i jp else []
  nil : b.ps = [] → b.vp = .slice none 0 0
theorem RAt.start (f : Fun) (m : Nat) : AllB (RAt f m 0) (bs1 f f.code.length) := fun k b hk => by
  rw [bs1_all, List.getElem?_map] at hk
  obtain ⟨n, hn, rfl⟩ := Option.map_eq_some_iff.1 hk
  have hkl := (List.getElem?_eq_some_iff.1 hn).1
  have := begB_get hkl
  rw [hn] at this
  have e : n = begB f k := Option.some.inj this
  exact ⟨by rw [← e]; rfl, by rw [← e]; rfl, by rw [if_neg (by omega)]; rfl, by rw [if_neg (by omega)]; rfl, fun _ => rfl⟩
theorem nxtB_zero (f : Fun) (i : Nat) : nxtB f i 0 = [] := rfl
theorem prvB_zero (f : Fun) (i : Nat) : prvB f i 0 = [] := rfl
theorem RIn.start {f : Fun} {m i : Nat} {bs : List BV} (h : AllB (RAt f m i) bs) : AllB (RIn f m i 0 0) bs := h.mono fun k b _ hP => by
  refine ⟨hP.frm, hP.upto, ?_, ?_, hP.nil⟩
  · rw [hP.ns, nxtB_zero]; split
    · rfl
    · split <;> rfl
  · rw [hP.ps, prvB_zero]; split
    · rfl
    · split <;> rfl
theorem RIn.done {f : Fun} {m i : Nat} {bs : List BV} (h : AllB (RIn f m i m m) bs) : AllB (RAt f m (i + 1)) bs := h.mono fun k b _ hP => by
  refine ⟨hP.frm, hP.upto, ?_, ?_, hP.nil⟩
  · rw [hP.ns]
    by_cases h1 : k < i
    · rw [if_pos h1, if_pos (by omega)]
    · rw [if_neg h1]
      by_cases h2 : k = i
      · subst h2; rw [if_pos rfl, if_pos (by omega)]
      · rw [if_neg h2, if_neg (by omega)]
  · rw [hP.ps]
    by_cases h1 : k < i
    · rw [if_pos h1, if_pos (by omega)]
    · rw [if_neg h1]
      by_cases h2 : k = i
      · subst h2; rw [if_pos rfl, if_pos (by omega)]
      · rw [if_neg h2, if_neg (by omega)]
theorem RIn.noN {f : Fun} {m i j jp : Nat} {bs : List BV} (h : AllB (RIn f m i j jp) bs) (he : edgeB f i j = false) : AllB (RIn f m i (j + 1) jp) bs := h.mono fun k b _ hP => by
  refine ⟨hP.frm, hP.upto, ?_, hP.ps, hP.nil⟩
  rw [hP.ns, nxtB_succ, he]; simp
theorem RIn.noP {f : Fun} {m i jn j : Nat} {bs : List BV} (h : AllB (RIn f m i jn j) bs) (he : edgeB f j i = false) : AllB (RIn f m i jn (j + 1)) bs := h.mono fun k b _ hP => by
  refine ⟨hP.frm, hP.upto, hP.ns, ?_, hP.nil⟩
  rw [hP.ps, prvB_succ, he]; simp
theorem RIn.stepN {f : Fun} {m i j jp : Nat} {bs : List BV} (h : AllB (RIn f m i j jp) bs) {b : BV} (hb : bs[i]? = some b) (he : edgeB f i j = true) (v : Value) : AllB (RIn f m i (j + 1) jp) (bs.set i { b with vn := v, ns := b.ns ++ [(j : Int)] }) := by
  refine h.set (fun b' hb' => ?_) (fun k b' hk2 hP => ?_)
  · have hP := h i b hb
    refine ⟨hP.frm, hP.upto, ?_, hP.ps, hP.nil⟩
    show b.ns ++ [(j : Int)] = _
    rw [hP.ns, if_neg (by omega), if_pos rfl, if_neg (by omega), if_pos rfl, nxtB_succ, he]; rfl
  · refine ⟨hP.frm, hP.upto, ?_, hP.ps, hP.nil⟩
    rw [hP.ns, if_neg (c := k = i) hk2, if_neg (c := k = i) hk2]
theorem RIn.stepP {f : Fun} {m i jn j : Nat} {bs : List BV} (h : AllB (RIn f m i jn j) bs) {b : BV} (hb : bs[i]? = some b) (he : edgeB f j i = true) (v : Value) : AllB (RIn f m i jn (j + 1)) (bs.set i { b with vp := v, ps := b.ps ++ [(j : Int)] }) := by
  refine h.set (fun b' hb' => ?_) (fun k b' hk2 hP => ?_)
  · have hP := h i b hb
    refine ⟨hP.frm, hP.upto, hP.ns, ?_, fun e => by simp at e⟩
    show b.ps ++ [(j : Int)] = _
    rw [hP.ps, if_neg (by omega), if_pos rfl, if_neg (by omega), if_pos rfl, prvB_succ, he]; rfl
  · refine ⟨hP.frm, hP.upto, hP.ns, ?_, hP.nil⟩
    rw [hP.ps, if_neg (c := k = i) hk2, if_neg (c := k = i) hk2]
theorem RIn.lenN {f : Fun} {m i jn jp k : Nat} {b : BV} (h : RIn f m i jn jp k b) (hk : k = i) : b.ns.length ≤ jn := by
  subst hk
  rw [h.ns, if_neg (by omega), if_pos rfl]
  unfold nxtB; rw [List.length_map]; have := List.length_filter_le (fun x => edgeB f k x) (List.range jn); rwa [List.length_range] at this
theorem RIn.lenP {f : Fun} {m i jn jp k : Nat} {b : BV} (h : RIn f m i jn jp k b) (hk : k = i) : b.ps.length ≤ jp := by
  subst hk
  rw [h.ps, if_neg (by omega), if_pos rfl]
  exact prvB_len f k jp
theorem RAt.done {f : Fun} {bs : List BV} (hl : bs.length = (headsL f).length) (h : AllB (RAt f (headsL f).length (headsL f).length) bs) {b : BV} (hb : bs[0]? = some b) (v : Value) : (bs.set 0 { b with vp := v, ps := [-1] ++ b.ps }).map bvOf = blksL f := by
  apply List.ext_getElem?
  intro k
  unfold blksL
  rw [List.getElem?_map, List.getElem?_map, List.getElem?_set]
  by_cases hk : k < bs.length
  · rw [List.getElem?_range (by omega)]
    by_cases h0 : 0 = k
    · subst h0
      rw [if_pos rfl, if_pos hk]
      have hP := h 0 b hb
      have h3 := hP.ns
      have h4 := hP.ps
      rw [if_pos (by omega)] at h3 h4
      show some (bvOf { b with vp := v, ps := [-1] ++ b.ps }) = some (blkOf f 0)
      unfold bvOf blkOf preB
      simp only [hP.frm, hP.upto, h3, h4, if_true]
    · rw [if_neg h0, List.getElem?_eq_getElem hk]
      have hP := h k _ (List.getElem?_eq_getElem hk)
      have h3 := hP.ns
      have h4 := hP.ps
      rw [if_pos (by omega)] at h3 h4
      show some (bvOf bs[k]) = some (blkOf f k)
      unfold bvOf blkOf preB
      rw [hP.frm, hP.upto, h3, h4, if_neg (fun e => h0 e.symm), List.nil_append]
  · have h1 : ((List.range (headsL f).length)[k]?) = none := List.getElem?_eq_none (by simp; omega)
    have h2 : bs[k]? = none := List.getElem?_eq_none (by omega)
    rw [h1, h2, if_neg (by have := (List.getElem?_eq_some_iff.1 hb).1; omega)]; rfl
end Go.Proofs.YtnabeibnaoahmaaDoor
