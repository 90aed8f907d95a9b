/- programs: a copy of a program. -/
import Derived.Test.YtpnapnmkjpolmaaDoorCodeE
import Derived.Test.YtpnapnmkjpolmaaDoorGrow
import Derived.OneCell
set_option linter.unusedSimpArgs false
set_option linter.unusedVariables false
namespace Go.Proofs.YtpnapnmkjpolmaaDoor
open Go.RowKit

theorem info_ins : (Tryd.prog.info? 48).map (fun i => (i.zero, i.size, i.bytes)) = some (some (.agg #[.int .i64 0, .int .i64 0, .int .i64 0, .int .i64 0, .int .i64 0]), 5, 40) := by kernel_rfl
theorem info_fun : (Tryd.prog.info? 36).map (fun i => (i.zero, i.size, i.bytes)) = some (some (.agg #[.int .i64 0, .int .i64 0, .slice none 0 0]), 3, 40) := by kernel_rfl
set_option maxRecDepth 10000 in
set_option maxHeartbeats 2000000 in
theorem programs_any (p : Prg) (u : Value) (w : World) (hp : Lay.rep w (Lt w.heap.size) p [u]) (hok : Lay.ok p) :
    Calls Tryd.prog 5 #[.agg #[u]] w fun e w' => ∃ v, e = .returned (.agg #[v]) ∧ Lay.rep w' (fun b => w.heap.size ≤ b ∧ b < w'.heap.size) p [v] ∧ Below w.heap.size w w' := by
  obtain ⟨A, c, rfl, hc, hm, hx⟩ := rep_funs_at hp
  unfold maxLen at hm
  have HX := Lib.hid hx
  clear hx hp
  go_enter Tryd.func5, Tryd.ntmps5
  go_wp2
  go_loopw [4] (fun i wr => ∃ (k : Nat) (v : Value), k ≤ p.funcs.length ∧ i = .int .i64 k ∧ Hid (Grow wr (w.heap.size + 3) 36 v (p.funcs.take k)) ∧
     Hid (wr.heap[w.heap.size + 2]? = some (.cells #[v] 24 (0, 0))) ∧ Hid (wr.heap[w.heap.size + 1]? = some (.cells #[.slice none 0 0] 24 (0, 0))) ∧
     Hid (wr.heap[w.heap.size]? = some (.cells #[.slice A p.funcs.length c] 24 (0, 0))) ∧ Below w.heap.size w wr ∧ w.heap.size + 3 ≤ wr.heap.size) (fun i _ => p.funcs.length - (intOf i).toNat)
  case atStart => 
    refine ⟨0, .slice none 0 0, by omega, rfl, Lib.hid ?_, Lib.hid ?_, Lib.hid ?_, Lib.hid ?_, ?_, ?_⟩
    · exact Grow.nil
    · have := heap_alloc_new ((w.alloc (.cells #[.slice A p.funcs.length c] 24)).alloc (.cells #[.slice none 0 0] 24)) (.cells #[.slice none 0 0] 24)
      simpa only [World.size_alloc] using this
    · have := heap_alloc_new (w.alloc (.cells #[.slice A p.funcs.length c] 24)) (.cells #[.slice none 0 0] 24)
      rw [Below.heap_alloc _ _ _ (by simp)]
      simpa only [World.size_alloc] using this
    · rw [Below.heap_alloc _ _ _ (by simp; omega), Below.heap_alloc _ _ _ (by simp)]
      exact heap_alloc_new w _
    · exact (((Below.refl _ _).alloc (Nat.le_refl _) _).alloc (by simp) _).alloc (by simp; omega) _
    · simp
  case round =>
    obtain ⟨k, v, hk, rfl, hgr, hb2, hb1, hb0, hbl, hsz⟩ := hrel
    obtain ⟨w1, rfl⟩ : ∃ w1, w1 = wr := ⟨_, rfl⟩
    have hcp : w1.cell? ⟨w.heap.size, 0, none⟩ = some (.slice A p.funcs.length c) := (cell_of_row w1 _ 0 _ _ (0, 0) hb0.out).trans rfl
    by_cases hlt : k < p.funcs.length
    · obtain ⟨a, v0, rfl, hab, hat, hcode⟩ := HX.out k hlt
      have hal : Alike (Lt w.heap.size) w w1 := Alike.of_below hbl
      have HAT := Lib.hid (hat.keep (S := Lt w.heap.size) (by rw [block_of_add]; exact hab) hal)
      have HC := Lib.hid (Lay.keep hal hcode)
      clear hat hcode
      obtain ⟨f, hf⟩ : ∃ f, p.funcs[k] = f := ⟨_, rfl⟩
      rw [hf] at HAT HC
      have HFK := Lib.hid hf
      clear hf
      obtain ⟨A2, c2, rfl, hc2, hm2, hx2⟩ := rep_code_at HC.out
      unfold maxLen at hm2
      have HX2 := Lib.hid hx2
      clear hx2
      go_upto_region 6 with (first | (refine wpList_load_at rfl 36 _ rfl _ rfl _ _ HAT.out Tryd.underlying36 rfl (by kernel_rfl) ?_))
      obtain ⟨i1, hi1, hz1, hs1, hy1⟩ := info_parts info_ins
      obtain ⟨i2, hi2, hz2, hs2', hy2⟩ := info_parts info_fun
      have hcf : (w1.alloc (.cells #[.int .i64 f.params, .int .i64 f.regs, .slice A2 f.code.length c2] 36)).cell? ⟨w1.heap.size, 2, none⟩ = some (.slice A2 f.code.length c2) := (World.cell?_alloc_new w1 _ _ _).trans rfl
      have hyc : Hid (∀ (j : Nat) (y : Ins), f.code[j]? = some y → ∃ ad ds, A2 = some ad ∧ At (w1.alloc (.cells #[.int .i64 f.params, .int .i64 f.regs, .slice A2 f.code.length c2] 36)) (ad.add (j * Lay.size Ins)) ds ∧ Lay.rep (w1.alloc (.cells #[.int .i64 f.params, .int .i64 f.regs, .slice A2 f.code.length c2] 36)) (Oth (w1.alloc (.cells #[.int .i64 f.params, .int .i64 f.regs, .slice A2 f.code.length c2] 36)) (w1.heap.size + 1) 48) y ds ∧ ∀ u ∈ ds, u.oneCell' = true) := Lib.hid (fun j y hjy => by
        obtain ⟨hjl, rfl⟩ := List.getElem?_eq_some_iff.1 hjy
        obtain ⟨a2, ha2, hb2, hat2⟩ := HX2.out j hjl
        exact ⟨a2, _, ha2, hat2.keep (S := Lt w1.heap.size) (by rw [block_of_add]; exact Nat.lt_of_lt_of_le hb2 (by omega)) (Alike.alloc _ (fun _ h => h)), rep_ins.2 rfl, by simp [Value.oneCell']⟩)
      have hfok : f.code.length * 40 ≤ 140737488351232 := (((ok_list.1 (ok_prg.1 hok)).2 f (HFK.out ▸ List.getElem_mem hlt)).2.2).1
      have hb63 : ([] : List Ins).length + f.code.length ≤ maxLen := by simp [maxLen]; omega
      have hb47 : (([] : List Ins).length + f.code.length) * 40 ≤ 140737488355328 := by simp; omega
      have HB63 := Lib.hid hb63
      have HB47 := Lib.hid hb47
      clear hb63 hb47
      go_upto_region 7 with (first | (at_builtin; refine wpList_append_lay (α := Ins) rfl (.const (.slice none 0 0)) (.tmp 19) _ rfl (w1.heap.size + 1) 48 i1 _ 40 Tryd.underlying34 hi1 hz1 hs1 hy1 rfl (by decide) (.slice none 0 0) rfl Grow.nil A2 c2 f.code rfl hyc.out HB63.out HB47.out (by simp) ?_))
      intro v' w2 hgc hgrow
      obtain ⟨A3, c3, rfl⟩ := hgc.slice
      have HGC := Lib.hid hgc
      have HGW := Lib.hid hgrow
      clear hgc hgrow
      have hbf : w2.heap[w1.heap.size]? = some (.cells #[.int .i64 f.params, .int .i64 f.regs, .slice A2 f.code.length c2] 36 (0, 0)) := (HGW.out.block _ (by simp) (by simp [Value.ownBlock])).trans (heap_alloc_new w1 _)
      have hff : w2.frozen? ⟨w1.heap.size, 2, none⟩ = false := frozen_of_row _ _ _ _ _ hbf
      have hcf2 : w2.cell? ⟨w1.heap.size, 2, none⟩ = some (.slice A2 f.code.length c2) := (cell_of_row _ _ _ _ _ _ hbf).trans rfl
      have HBF := Lib.hid hbf
      clear hbf hcf
      go_upto_region 7 with fail
      obtain ⟨w3, hw3⟩ : ∃ w3, w2.setCell ⟨w1.heap.size, 2, none⟩ (.slice A3 f.code.length c3) = w3 := ⟨_, rfl⟩
      have hs2 : w1.heap.size + 1 ≤ w2.heap.size := by have := HGW.out.size; simpa using this
      have hs3 : w2.heap.size = w3.heap.size := by rw [← hw3]; simp
      have hfb : w3.heap[w1.heap.size]? = some (.cells #[.int .i64 f.params, .int .i64 f.regs, .slice A3 f.code.length c3] 36 (0, 0)) := by
        rw [← hw3]; exact (heap_setCell_same _ _ _ _ _ _ HBF.out).trans rfl
      have hold : ∀ b, b < w1.heap.size → w3.heap[b]? = w1.heap[b]? := fun b hb => by
        rw [← hw3, heap_setCell_other _ _ _ _ (by show b ≠ w1.heap.size; omega)]
        exact (HGW.out.block b (by simp; omega) (by simp [Value.ownBlock])).trans (Below.heap_alloc w1 _ b hb)
      have hnew : ∀ b, w1.heap.size + 1 ≤ b → w3.heap[b]? = w2.heap[b]? := fun b hb => by
        rw [← hw3, heap_setCell_other _ _ _ _ (by show b ≠ w1.heap.size; omega)]
      have HG3 := Lib.hid (hgr.out.moved (w' := w3) (fun b hb => hold b hb.lt) (fun g hg => hold g (by obtain ⟨cs, h1, _⟩ := hgr.out; exact (h1.lt g hg).2)))
      have HC3 := Lib.hid (HGC.out.moved (w' := w3) (fun b hb => hnew b hb.1) (fun g hg => hnew g (by obtain ⟨cs, h1, _⟩ := HGC.out; exact (h1.lt g hg).1)))
      have hb2' : w3.heap[w.heap.size + 2]? = some (.cells #[v] 24 (0, 0)) := (hold _ (by omega)).trans hb2.out
      have hco : w3.cell? ⟨w.heap.size + 1 + 1, 0, none⟩ = some v := cell_of_one hb2'
      have HHOLD := Lib.hid hold
      have HB2' := Lib.hid hb2'
      have HFB := Lib.hid hfb
      have HATF : Hid (At w3 ⟨w1.heap.size, 0, none⟩ [.int .i64 f.params, .int .i64 f.regs, .slice A3 f.code.length c3]) := Lib.hid (Blk.at_ (t := 36) (cs := #[.int .i64 f.params, .int .i64 f.regs, .slice A3 f.code.length c3]) hfb 0)
      have hbw3 : Below w.heap.size w w3 := by
        rw [← hw3]
        exact ((hbl.alloc (by omega) _).grown HGW.out (by simp; omega) (fun k hk => by simp [Value.ownBlock] at hk)).setCell (by show w.heap.size ≤ w1.heap.size; omega) _
      rw [hw3]
      clear hw3 hold hnew hb2' hfb hcf2 hff
      have HYF : Hid (∀ (j : Nat) (y : Fun), [f][j]? = some y → ∃ ad ds, (some ⟨w3.heap.size, 0, none⟩ : Option Addr) = some ad ∧ At (w3.alloc (.cells #[.int .i64 f.params, .int .i64 f.regs, .slice A3 f.code.length c3] 36)) (ad.add (j * Lay.size Fun)) ds ∧ Lay.rep (w3.alloc (.cells #[.int .i64 f.params, .int .i64 f.regs, .slice A3 f.code.length c3] 36)) (Oth (w3.alloc (.cells #[.int .i64 f.params, .int .i64 f.regs, .slice A3 f.code.length c3] 36)) (w.heap.size + 3) 36) y ds ∧ ∀ u ∈ ds, u.oneCell' = true) := Lib.hid (fun j y hjy => by
        have hj0 : j = 0 := by have := (List.getElem?_eq_some_iff.1 hjy).1; simpa using this
        subst hj0
        cases hjy
        refine ⟨_, [.int .i64 f.params, .int .i64 f.regs, .slice A3 f.code.length c3], rfl, ?_, ?_, by simp [Value.oneCell']⟩
        · have := (Blk.new w3 36 #[.int .i64 f.params, .int .i64 f.regs, .slice A3 f.code.length c3]).at_ 0
          simpa [Addr.add] using this
        · refine rep_fun.2 ⟨_, rfl, (HC3.out.alloc _).repS _ (fun g cur hb hg => ⟨by omega, cur, _, (0, 0), hg, by decide⟩) (fun x cs h => rep_ins.2 (rep_ins.1 h))⟩)
      have hb1 : (p.funcs.take k).length + [f].length ≤ maxLen := by simp [maxLen]; omega
      have hb2 : ((p.funcs.take k).length + [f].length) * 40 ≤ 140737488355328 := by
        have := (ok_list.1 (ok_prg.1 hok)).1
        have e : Lay.bytes Fun = 40 := rfl
        rw [e] at this
        simp; omega
      have HB1' := Lib.hid hb1
      have HB2'' := Lib.hid hb2
      clear hb1 hb2
      go_wp2_with (first | (refine wpList_load_at rfl 36 _ rfl _ rfl _ _ HATF.out Tryd.underlying36 rfl (by kernel_rfl) ?_) | (at_builtin; refine wpList_append_lay (α := Fun) rfl (.tmp 23) (.tmp 25) _ rfl (w.heap.size + 3) 36 i2 _ 40 Tryd.underlying22 hi2 hz2 hs2' hy2 rfl (by decide) v rfl (HG3.out.alloc _) _ _ [f] rfl HYF.out HB1'.out HB2''.out (by simp; omega) ?_))
      intro v2 w4 hg4 hgr4
      have hown4 : ∀ g, v.ownBlock = some g → w.heap.size + 3 ≤ g := fun g hg => by obtain ⟨cs, h1, _⟩ := HG3.out; exact (h1.lt g hg).1
      have hs4 : w3.heap.size + 1 ≤ w4.heap.size := by have := hgr4.size; simpa using this
      have hk4 : ∀ b, b < w3.heap.size → b < w.heap.size + 3 → w4.heap[b]? = w3.heap[b]? := fun b hb hb' =>
        (hgr4.block b (by simp; omega) (fun e => by have := hown4 b e.symm; omega)).trans (Below.heap_alloc w3 _ b hb)
      have hb4 : w4.heap[w.heap.size + 2]? = some (.cells #[v] 24 (0, 0)) := (hk4 _ (by omega) (by omega)).trans HB2'.out
      have hc4 : w4.cell? ⟨w.heap.size + 1 + 1, 0, none⟩ = some v := cell_of_one hb4
      have hf4 : w4.frozen? ⟨w.heap.size + 1 + 1, 0, none⟩ = false := free_of_one hb4
      obtain ⟨A4, c4, hv4⟩ := hg4.slice
      rw [show (p.funcs.take k ++ [f]).length = k + 1 by simp; omega] at hv4
      subst hv4
      have HG4 := Lib.hid hg4
      have HK4 := Lib.hid hk4
      have HB4 := Lib.hid hb4
      have HGR4 := Lib.hid hgr4
      have HOWN4 := Lib.hid hown4
      clear hg4 hk4 hb4 hgr4 hown4
      go_wp2
      go_roundw
      case rel =>
        refine ⟨k + 1, .slice A4 (k + 1) c4, by omega, by go_num, Lib.hid ?_, Lib.hid (one_setCell HB4.out), Lib.hid ?_, Lib.hid ?_, ?_, by simp; omega⟩
        · rw [List.take_succ_eq_append_getElem hlt, HFK.out]
          exact HG4.out.moved (fun b hb => heap_setCell_other _ _ _ _ (by have := hb.1; show b ≠ w.heap.size + 1 + 1; omega)) (fun g hg => heap_setCell_other _ _ _ _ (by obtain ⟨cs, h1, _⟩ := HG4.out; have := (h1.lt g hg).1; show g ≠ w.heap.size + 1 + 1; omega))
        · rw [heap_setCell_other _ _ _ _ (by show w.heap.size + 1 ≠ w.heap.size + 1 + 1; omega), HK4.out _ (by omega) (by omega), HHOLD.out _ (by omega)]
          exact hb1.out
        · rw [heap_setCell_other _ _ _ _ (by show w.heap.size ≠ w.heap.size + 1 + 1; omega), HK4.out _ (by omega) (by omega), HHOLD.out _ (by omega)]
          exact hb0.out
        · have hb4 : Below w.heap.size w w4 := (hbw3.alloc (by omega) _).grown HGR4.out (by simp; omega) (fun k hk => by have := HOWN4.out k hk; omega)
          exact hb4.setCell (by show w.heap.size ≤ w.heap.size + 1 + 1; omega) _
      case measure => simp [intOf]; omega
    · obtain rfl : k = p.funcs.length := by omega
      have hg5 : Grow w1 (w.heap.size + 3) 36 v p.funcs := by have := hgr.out; rwa [List.take_of_length_le (Nat.le_refl _)] at this
      obtain ⟨A5, c5, rfl⟩ := hg5.slice
      have HG5 := Lib.hid hg5
      clear hg5
      have hco : w1.cell? ⟨w.heap.size + 1 + 1, 0, none⟩ = some (.slice A5 p.funcs.length c5) := cell_of_one hb2.out
      have hcr : w1.cell? ⟨w.heap.size + 1, 0, none⟩ = some (.slice none 0 0) := cell_of_one hb1.out
      have hfr : w1.frozen? ⟨w.heap.size + 1, 0, none⟩ = false := free_of_one hb1.out
      go_wp2
      refine bodyPost_ret (results_cell_row rfl _ _ (w.heap.size + 1) 24 #[.slice A5 p.funcs.length c5] (0, 0) _ rfl (one_setCell hb1.out) Tryd.underlying24 rfl (by kernel_rfl)) rfl ⟨_, rfl, ?_, hbl.setCell (by show w.heap.size ≤ w.heap.size + 1; omega) _⟩
      have hg6 := HG5.out.moved (w' := w1.setCell ⟨w.heap.size + 1, 0, none⟩ (.slice A5 p.funcs.length c5)) (fun b hb => heap_setCell_other _ _ _ _ (by have := hb.1; show b ≠ w.heap.size + 1; omega)) (fun g hg => heap_setCell_other _ _ _ _ (by obtain ⟨cs, h1, _⟩ := HG5.out; have := (h1.lt g hg).1; show g ≠ w.heap.size + 1; omega))
      exact rep_prg.2 (Lay.more (fun b hb => ⟨by omega, hb.2⟩) hg6.rep)
end Go.Proofs.YtpnapnmkjpolmaaDoor
