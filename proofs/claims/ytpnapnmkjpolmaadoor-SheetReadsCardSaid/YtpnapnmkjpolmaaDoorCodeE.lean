/- sameProgram. -/
import Derived.Test.YtpnapnmkjpolmaaDoorCodeD
set_option linter.unusedSimpArgs false
set_option linter.unusedVariables false
namespace Go.Proofs.YtpnapnmkjpolmaaDoor
open Go.RowKit

theorem insNe (x y : Ins) (w : World) : ∃ bb : Bool, (if x.op = y.op then
      if x.dst = y.dst then
        if x.a = y.a then
          if x.b = y.b then
            if x.imm = y.imm then Result.ok (Next.value (Value.bool false)) w
            else Result.ok (Next.value (Value.bool true)) w
          else Result.ok (Next.value (Value.bool true)) w
        else Result.ok (Next.value (Value.bool true)) w
      else Result.ok (Next.value (Value.bool true)) w
    else Result.ok (Next.value (Value.bool true)) w) = Result.ok (Next.value (Value.bool bb)) w ∧ (bb = false → x = y) ∧ (bb = true → x ≠ y) := by
  obtain ⟨a1, a2, a3, a4, a5⟩ := x
  obtain ⟨b1, b2, b3, b4, b5⟩ := y
  by_cases h : a1 = b1 ∧ a2 = b2 ∧ a3 = b3 ∧ a4 = b4 ∧ a5 = b5
  · obtain ⟨rfl, rfl, rfl, rfl, rfl⟩ := h
    exact ⟨false, by simp, by simp, by simp⟩
  · refine ⟨true, ?_, by simp, fun _ e => h (by simpa using e)⟩
    repeat (split; skip)
    all_goals first | rfl | (exfalso; exact h ⟨by assumption, by assumption, by assumption, by assumption, by assumption⟩)

set_option maxRecDepth 10000 in
set_option maxHeartbeats 2000000 in
theorem sameProgram_any (p q : Prg) (u v : Value) (w : World) (hp : Lay.rep w (Lt w.heap.size) p [u]) (hq : Lay.rep w (Lt w.heap.size) q [v]) :
    Calls Tryd.prog 8 #[.agg #[u], .agg #[v]] w fun e w' => e = .returned (.bool (decide (p = q))) ∧ Below w.heap.size w w' := by
  obtain ⟨A, c, rfl, hc, hm, hx⟩ := rep_funs_at hp
  obtain ⟨B, d, rfl, hd, hmd, hy⟩ := rep_funs_at hq
  unfold maxLen at hm hmd
  have HX := Lib.hid hx
  have HY := Lib.hid hy
  clear hx hp hy hq
  by_cases hn : p.funcs.length = q.funcs.length
  · go_enter Tryd.func8, Tryd.ntmps8
    have hni : ((p.funcs.length : Int) != (q.funcs.length : Int)) = false := by simp; omega
    have HN := Lib.hid hn
    clear hn
    go_wp2
    go_loopw [5] (fun i wr => ∃ k : Nat, k ≤ p.funcs.length ∧ i = .int .i64 k ∧ Hid (p.funcs.take k = q.funcs.take k) ∧ Below (w.heap.size + 2) ((w.alloc (.cells #[.slice A p.funcs.length c] 24)).alloc (.cells #[.slice B q.funcs.length d] 24)) wr) (fun i _ => p.funcs.length - (intOf i).toNat)
    case atStart => exact ⟨0, by omega, rfl, Lib.hid (by simp), Below.refl _ _⟩
    case round =>
      obtain ⟨k, hk, rfl, hz, hb⟩ := hrel
      obtain ⟨w1, rfl⟩ : ∃ w1, w1 = wr := ⟨_, rfl⟩
      have hsz := hb.size
      simp only [World.size_alloc] at hsz
      have hal : Alike (Lt w.heap.size) w w1 := ((Alike.alloc _ (fun _ h => h)).trans (Alike.alloc _ (fun b hb => by show b < (w.alloc _).heap.size; rw [World.size_alloc]; exact Nat.lt_succ_of_lt hb))).trans (Alike.below hb (fun b hb => Nat.lt_of_lt_of_le hb (by omega)))
      have hcp : w1.cell? ⟨w.heap.size, 0, none⟩ = some (.slice A p.funcs.length c) := by
        rw [hb.cell (by show w.heap.size < _; omega), World.cell?_alloc_lt _ _ _ (by show w.heap.size < _; simp)]; exact (World.cell?_alloc_new w _ _ _).trans rfl
      have hcq : w1.cell? ⟨w.heap.size + 1, 0, none⟩ = some (.slice B q.funcs.length d) := by
        rw [hb.cell (by show w.heap.size + 1 < _; omega)]; exact ((Blk.new (w.alloc (.cells #[.slice A p.funcs.length c] 24)) 24 #[.slice B q.funcs.length d]).cell' (World.size_alloc _ _) 0).trans rfl
      by_cases hlt : k < p.funcs.length
      · have hlq : k < q.funcs.length := by have := HN.out; omega
        obtain ⟨a, v, rfl, hab, hat, hcode⟩ := HX.out k hlt
        obtain ⟨b, v2, rfl, hbb, hbt, hbcode⟩ := HY.out k hlq
        have HAT := Lib.hid (hat.keep (S := Lt w.heap.size) (by rw [block_of_add]; exact hab) hal)
        have HBT := Lib.hid ((hbt.keep (S := Lt w.heap.size) (by rw [block_of_add]; exact hbb) hal).keep (S := Lt w1.heap.size) (by rw [block_of_add]; exact Nat.lt_trans hbb (by omega)) (Alike.alloc (.cells #[.int .i64 p.funcs[k].params, .int .i64 p.funcs[k].regs, v] 36) (fun _ h => h)))
        have HCa := Lib.hid (Lay.keep hal hcode)
        have HCb := Lib.hid (Lay.keep hal hbcode)
        clear hat hbt hcode hbcode
        obtain ⟨f, hf⟩ : ∃ f, p.funcs[k] = f := ⟨_, rfl⟩
        obtain ⟨g, hg⟩ : ∃ g, q.funcs[k] = g := ⟨_, rfl⟩
        rw [hf] at HAT HCa HBT
        rw [hg] at HBT HCb
        have HFK := Lib.hid hf
        have HGK := Lib.hid hg
        clear hf hg
        obtain ⟨A2, c2, rfl, hc2, hm2, hx2⟩ := rep_code_at HCa.out
        obtain ⟨B2, d2, rfl, hd2, hmd2, hy2⟩ := rep_code_at HCb.out
        unfold maxLen at hm2 hmd2
        have HX2 := Lib.hid hx2
        have HY2 := Lib.hid hy2
        clear hx2 HCa hy2 HCb
        have hcq2 : (w1.alloc (.cells #[.int .i64 f.params, .int .i64 f.regs, .slice A2 f.code.length c2] 36)).cell? ⟨w.heap.size + 1, 0, none⟩ = some (.slice (some b) q.funcs.length d) := by
          rw [World.cell?_alloc_lt _ _ _ (by show w.heap.size + 1 < _; omega)]; exact hcq
        go_upto_region 8 with (first | (refine wpList_load_at rfl 36 _ rfl _ rfl _ _ HAT.out Tryd.underlying36 rfl (by kernel_rfl) ?_) | (refine wpList_load_at rfl 36 _ rfl _ rfl _ _ HBT.out Tryd.underlying36 rfl (by kernel_rfl) ?_))
        by_cases hsame : f.params = g.params ∧ f.regs = g.regs ∧ f.code.length = g.code.length
        · obtain ⟨hs1, hs2, hs3⟩ := hsame
          have hs1b : (f.params != g.params) = false := by simpa using hs1
          have hs2b : (f.regs != g.regs) = false := by simpa using hs2
          have hs3b : ((f.code.length : Int) != g.code.length) = false := by simp; omega
          have HS := Lib.hid (And.intro hs1 (And.intro hs2 hs3))
          clear hs1 hs2 hs3
          go_wp2
          go_hide hQ
          go_loopw [8] (fun i wr => ∃ j : Nat, j ≤ f.code.length ∧ i = .int .i64 j ∧ Hid (f.code.take j = g.code.take j) ∧ Below (w1.heap.size + 2) ((w1.alloc (.cells #[.int .i64 f.params, .int .i64 f.regs, .slice A2 f.code.length c2] 36)).alloc (.cells #[.int .i64 g.params, .int .i64 g.regs, .slice B2 g.code.length d2] 36)) wr) (fun i _ => f.code.length - (intOf i).toNat)
          case atStart => exact ⟨0, by omega, rfl, Lib.hid (by simp), Below.refl _ _⟩
          case round =>
            obtain ⟨j, hj, rfl, hzj, hbj⟩ := hrel
            obtain ⟨w2, rfl⟩ : ∃ w2, w2 = wr := ⟨_, rfl⟩
            have hsj := hbj.size
            simp only [World.size_alloc] at hsj
            have hal2 : Alike (Lt w1.heap.size) w1 w2 := ((Alike.alloc _ (fun _ h => h)).trans (Alike.alloc _ (fun b hb => by show b < (w1.alloc _).heap.size; rw [World.size_alloc]; exact Nat.lt_succ_of_lt hb))).trans (Alike.below hbj (fun b hb => Nat.lt_of_lt_of_le hb (by omega)))
            have hcf : w2.cell? ⟨w1.heap.size, 2, none⟩ = some (.slice A2 f.code.length c2) := by
              rw [hbj.cell (by show w1.heap.size < _; omega), World.cell?_alloc_lt _ _ _ (by show w1.heap.size < _; simp)]; exact (World.cell?_alloc_new w1 _ _ _).trans rfl
            have hcg : w2.cell? ⟨w1.heap.size + 1, 2, none⟩ = some (.slice B2 g.code.length d2) := by
              rw [hbj.cell (by show w1.heap.size + 1 < _; omega)]; exact ((Blk.new (w1.alloc (.cells #[.int .i64 f.params, .int .i64 f.regs, .slice A2 f.code.length c2] 36)) 36 #[.int .i64 g.params, .int .i64 g.regs, .slice B2 g.code.length d2]).cell' (World.size_alloc _ _) 2).trans rfl
            by_cases hjl : j < f.code.length
            · have hjg : j < g.code.length := by have := HS.out; omega
              obtain ⟨a2, rfl, hab2, hat2⟩ := HX2.out j hjl
              obtain ⟨b2, rfl, hbb2, hbt2⟩ := HY2.out j hjg
              have HAT2 := Lib.hid (hat2.keep (S := Lt w1.heap.size) (by rw [block_of_add]; exact Nat.lt_trans hab2 (by omega)) hal2)
              have HBT2 := Lib.hid (hbt2.keep (S := Lt w1.heap.size) (by rw [block_of_add]; exact Nat.lt_trans hbb2 (by omega)) hal2)
              clear hat2 hbt2
              obtain ⟨x, hxx⟩ : ∃ x, f.code[j] = x := ⟨_, rfl⟩
              obtain ⟨y, hyy⟩ : ∃ y, g.code[j] = y := ⟨_, rfl⟩
              rw [hxx] at HAT2
              rw [hyy] at HBT2
              have HXX := Lib.hid hxx
              have HYY := Lib.hid hyy
              clear hxx hyy
              have hcf3 : ({ w2 with drawn := w2.drawn + 1 } : World).cell? ⟨w1.heap.size, 2, none⟩ = some (.slice (some a2) f.code.length c2) := hcf
              have hcg3 : ({ w2 with drawn := w2.drawn + 1 } : World).cell? ⟨w1.heap.size + 1, 2, none⟩ = some (.slice (some b2) g.code.length d2) := hcg
              go_upto_region 13 with fail
              refine wp_region_still_lit (by kernel_rfl) (by kernel_rfl) ?_
              repeat (first | (refine wpStill_load_at rfl 48 _ rfl _ rfl _ _ (At.drew HAT2.out) Tryd.underlying48 rfl (by kernel_rfl) ?_) | (refine wpStill_load_at rfl 48 _ rfl _ rfl _ _ (At.drew HBT2.out) Tryd.underlying48 rfl (by kernel_rfl) ?_) | still_step)
              refine wpStill_step (fun K hK => ?_)
              go_simp
              obtain ⟨bb, hbbq, hbf, hbt⟩ := insNe x y w2.drew
              rw [hbbq]
              have HBF := Lib.hid hbf
              have HBT' := Lib.hid hbt
              clear hbbq hbf hbt
              refine ⟨rfl, hK _ ?_⟩
              clear hK K
              refine wpStill_nil ?_
              cases bb
              · go_wp2
                go_roundw
                case rel =>
                  refine ⟨j + 1, by omega, by go_num, Lib.hid ?_, below_drewN hbj 1⟩
                  rw [List.take_succ_eq_append_getElem hjl, List.take_succ_eq_append_getElem hjg, hzj.out, HXX.out, HYY.out, HBF.out rfl]
                case measure => simp [intOf]; omega
              · have hne : decide (p = q) = false := by
                  rw [decide_eq_false_iff_not]
                  intro e
                  subst e
                  have h1 := HFK.out.symm.trans HGK.out
                  subst h1
                  exact HBT'.out rfl (HXX.out.symm.trans HYY.out)
                have HF := Lib.hid hne
                clear hne
                go_wp2
                subst hQ
                go_wp2
                go_ret
                exact ⟨ret_bool HF.out.symm, ((((Below.refl _ _).alloc (Nat.le_refl _) _).alloc (by simp) _).trans (hb.mono (by omega))).trans ((below_drewN ((((Below.refl _ _).alloc (Nat.le_refl _) _).alloc (by simp) _).trans (hbj.mono (by omega))) 1).mono (by omega))⟩
            · have hje : j = f.code.length := by omega
              subst hje
              have hfg : f = g := by
                obtain ⟨e1, e2, e3⟩ := HS.out
                have := hzj.out
                rw [List.take_of_length_le (Nat.le_refl _), e3, List.take_of_length_le (Nat.le_refl _)] at this
                cases f; cases g; simp_all
              have HFG := Lib.hid hfg
              clear hfg
              go_wp2
              subst hQ
              go_wp2
              go_roundw
              case rel =>
                refine ⟨k + 1, by omega, by go_num, Lib.hid ?_, ?_⟩
                · rw [List.take_succ_eq_append_getElem hlt, List.take_succ_eq_append_getElem hlq, hz.out, HFK.out, HGK.out, HFG.out]
                · exact ((hb.alloc hsz _).alloc (by simp; omega) _).trans (hbj.mono (by omega))
              case measure => simp [intOf]; omega
        · have hne : decide (p = q) = false := by
            rw [decide_eq_false_iff_not]
            intro e
            subst e
            have h1 := HFK.out.symm.trans HGK.out
            subst h1
            exact hsame ⟨rfl, rfl, rfl⟩
          have HF := Lib.hid hne
          clear hne
          by_cases e1 : f.params = g.params
          · have e1b : (f.params != g.params) = false := by simpa using e1
            have E1 := Lib.hid e1
            clear e1
            by_cases e2 : f.regs = g.regs
            · have e2b : (f.regs != g.regs) = false := by simpa using e2
              have e3b : ((f.code.length : Int) != g.code.length) = true := by
                have := E1.out
                simp only [bne_iff_ne, ne_eq, Int.ofNat_inj]
                exact fun e3 => hsame ⟨this, e2, e3⟩
              have E2 := Lib.hid e2
              clear e2 hsame
              go_wp2
              go_ret
              exact ⟨ret_bool HF.out.symm, ((((Below.refl _ _).alloc (Nat.le_refl _) _).alloc (by simp) _).trans (hb.mono (by omega))).trans ((((Below.refl _ _).alloc (Nat.le_refl _) _).alloc (by simp) _).mono (by omega))⟩
            · have e2b : (f.regs != g.regs) = true := by simpa using e2
              clear e2 hsame
              go_wp2
              go_ret
              exact ⟨ret_bool HF.out.symm, ((((Below.refl _ _).alloc (Nat.le_refl _) _).alloc (by simp) _).trans (hb.mono (by omega))).trans ((((Below.refl _ _).alloc (Nat.le_refl _) _).alloc (by simp) _).mono (by omega))⟩
          · have e1b : (f.params != g.params) = true := by simpa using e1
            clear e1 hsame
            go_wp2
            go_ret
            exact ⟨ret_bool HF.out.symm, ((((Below.refl _ _).alloc (Nat.le_refl _) _).alloc (by simp) _).trans (hb.mono (by omega))).trans ((((Below.refl _ _).alloc (Nat.le_refl _) _).alloc (by simp) _).mono (by omega))⟩
      · obtain rfl : k = p.funcs.length := by omega
        have hne : decide (p = q) = true := by
          rw [decide_eq_true_iff]
          have := hz.out
          rw [List.take_of_length_le (Nat.le_refl _), HN.out, List.take_of_length_le (Nat.le_refl _)] at this
          cases p; cases q; simp_all
        have HF := Lib.hid hne
        clear hne
        go_wp2
        go_ret
        exact ⟨ret_bool HF.out.symm, (((Below.refl _ _).alloc (Nat.le_refl _) _).alloc (by simp) _).trans (hb.mono (by omega))⟩
  · have hne : decide (p = q) = false := by
      rw [decide_eq_false_iff_not]
      intro e
      subst e
      exact hn rfl
    have HF := Lib.hid hne
    have hni : ((p.funcs.length : Int) != (q.funcs.length : Int)) = true := by simp; omega
    clear hne hn
    go_enter Tryd.func8, Tryd.ntmps8
    go_wp2
    go_ret
    exact ⟨ret_bool HF.out.symm, (((Below.refl _ _).alloc (Nat.le_refl _) _).alloc (by simp) _)⟩
end Go.Proofs.YtpnapnmkjpolmaaDoor
