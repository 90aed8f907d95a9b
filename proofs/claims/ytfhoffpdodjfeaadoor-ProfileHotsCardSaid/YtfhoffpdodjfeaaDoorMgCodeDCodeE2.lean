/- ref.ProgramFault: what it answers of a program that lies in memory. sameProgram. -/
import Derived.Test.YtfhoffpdodjfeaaDoorCodeC
import Derived.Test.YtfhoffpdodjfeaaDoorStill
set_option linter.unusedSimpArgs false
set_option linter.unusedVariables false
namespace Go.Proofs.YtfhoffpdodjfeaaDoor
open Go.RowKit

set_option maxRecDepth 10000 in
set_option maxHeartbeats 2000000 in
theorem progFault_any (p : Prg) (u : Value) (w : World) (hp : Lay.rep w (Lt w.heap.size) p [u]) :
    Calls Tryd.prog 67 #[.agg #[u]] w fun e w' => e = .returned (.int .i64 (prgFault p)) ∧ Below w.heap.size w w' := by
  obtain ⟨A, c, rfl, hc, hm, hx⟩ := rep_funs_at hp
  unfold maxLen at hm
  have HX := Lib.hid hx
  clear hx hp
  by_cases hn : 1 ≤ p.funcs.length ∧ p.funcs.length ≤ 4
  · obtain ⟨hn1, hn2⟩ := hn
    have hi1 : (1 : Int) ≤ (p.funcs.length : Int) := by omega
    have hi2 : (p.funcs.length : Int) ≤ 4 := by omega
    go_enter Tryd.func67, Tryd.ntmps67
    go_wp2_with (first | (go_at_call 47; refine (In_any _ _ _ _).mono ?_; rintro e w' ⟨rfl, rfl⟩))
    go_loopw [3] (fun i wr => ∃ k : Nat, k ≤ p.funcs.length ∧ i = .int .i64 k ∧ Hid (∀ f, f ∈ p.funcs.take k → funFault f p.funcs.length = 0) ∧ Below (w.heap.size + 1) (w.alloc (.cells #[.slice A p.funcs.length c] 24)) wr) (fun i _ => p.funcs.length - (intOf i).toNat)
    case atStart => exact ⟨0, by omega, rfl, Lib.hid (by simp), Below.refl _ _⟩
    case round =>
      obtain ⟨k, hk, rfl, hz, hb⟩ := hrel
      obtain ⟨w1, rfl⟩ : ∃ w1, w1 = wr := ⟨_, rfl⟩
      by_cases hlt : k < p.funcs.length
      · obtain ⟨a, v, rfl, hab, hat, hcode⟩ := HX.out k hlt
        have hal := alike_box hb (by omega)
        have HAT := Lib.hid (hat.keep (S := Lt w.heap.size) (by rw [block_of_add]; exact hab) hal)
        have HC := Lib.hid (Lay.keep hal hcode)
        have hcp : w1.cell? ⟨w.heap.size, 0, none⟩ = some (.slice (some a) p.funcs.length c) := by
          rw [hb.cell (by simp)]; exact (World.cell?_alloc_new w _ _ _).trans rfl
        clear hat hcode
        obtain ⟨f, hf⟩ : ∃ f, p.funcs[k] = f := ⟨_, rfl⟩
        rw [hf] at HAT HC
        have HFK := Lib.hid hf
        clear hf
        obtain ⟨A2, c2, rfl, hc2, hm2, hx2⟩ := rep_code_at HC.out
        unfold maxLen at hm2
        have HX2 := Lib.hid hx2
        clear hx2 HC
        have hsz := hb.size
        simp only [World.size_alloc] at hsz
        go_upto_region 7 with (first | (refine wpList_load_at rfl 72 _ rfl _ rfl _ _ HAT.out Tryd.underlying72 rfl (by kernel_rfl) ?_))
        have hbw : Below w.heap.size w (w1.alloc (.cells #[.int .i64 f.params, .int .i64 f.regs, .slice A2 f.code.length c2] 72)) :=
          (((Below.refl _ _).alloc (Nat.le_refl _) _).trans (hb.mono (by omega))).alloc (by omega) _
        have hbad : Hid (funFault f p.funcs.length ≠ 0 → prgFault p = funFault f p.funcs.length) := Lib.hid (by
          have := prgFault_at p k hlt ⟨hn1, hn2⟩ hz.out
          rwa [HFK.out] at this)
        by_cases hr : 1 ≤ f.regs ∧ f.regs ≤ 12
        · have hd1 : (decide (1 ≤ f.regs) && decide (f.regs ≤ 12)) = true := by simpa using hr
          obtain ⟨hr1, hr2⟩ := hr
          by_cases hpa : 0 ≤ f.params ∧ f.params ≤ 2 ∧ f.params ≤ f.regs
          · obtain ⟨hp1, hp2, hp3⟩ := hpa
            by_cases hl : 1 ≤ f.code.length ∧ f.code.length ≤ 40
            · obtain ⟨hl1, hl2⟩ := hl
              have hl3 : (1 : Int) ≤ (f.code.length : Int) := by omega
              have hl4 : (f.code.length : Int) ≤ 40 := by omega
              have hfa := funFault_at f p.funcs.length
              have HFA := Lib.hid fun (j : Nat) (hj : j < f.code.length) => hfa j hj ⟨hr1, hr2, hp1, hp2, hp3⟩ ⟨hl1, hl2⟩
              clear hfa
              go_wp2_with (first | (go_at_call 47; refine (In_any _ _ _ _).mono ?_; rintro e w' ⟨rfl, rfl⟩))
              go_hide hQ
              go_loopw [5] (fun i wr => ∃ j : Nat, j ≤ f.code.length ∧ i = .int .i64 j ∧ Hid (∀ x, x ∈ f.code.take j → insFault x f.regs f.code.length p.funcs.length = 0) ∧ Below (w1.heap.size + 1) (w1.alloc (.cells #[.int .i64 f.params, .int .i64 f.regs, .slice A2 f.code.length c2] 72)) wr) (fun i _ => f.code.length - (intOf i).toNat)
              case atStart => exact ⟨0, by omega, rfl, Lib.hid (by simp), Below.refl _ _⟩
              case round =>
                obtain ⟨j, hj, rfl, hzj, hbj⟩ := hrel
                obtain ⟨w2, rfl⟩ : ∃ w2, w2 = wr := ⟨_, rfl⟩
                have hsj := hbj.size
                simp only [World.size_alloc] at hsj
                by_cases hjl : j < f.code.length
                · obtain ⟨a2, rfl, hab2, hat2⟩ := HX2.out j hjl
                  have hal2 := alike_box hbj (by omega)
                  have hcp2 : w2.cell? ⟨w.heap.size, 0, none⟩ = some (.slice (some a) p.funcs.length c) := by
                    rw [hbj.cell (by show w.heap.size < _; omega), World.cell?_alloc_lt _ _ _ (by show w.heap.size < _; omega)]; exact hcp
                  have HAT2 := Lib.hid (hat2.keep (S := Lt w1.heap.size) (by rw [block_of_add]; exact Nat.lt_trans hab2 (by omega)) hal2)
                  clear hat2
                  obtain ⟨x, hxx⟩ : ∃ x, f.code[j] = x := ⟨_, rfl⟩
                  have HFAj := Lib.hid (HFA.out j hjl hzj.out)
                  rw [hxx] at HAT2 HFAj
                  have HXX := Lib.hid hxx
                  clear hxx
                  have HATF : Hid (At w2 ⟨w1.heap.size, 0, none⟩ [.int .i64 f.params, .int .i64 f.regs, .slice (some a2) f.code.length c2]) :=
                    Lib.hid (((Blk.new w1 72 #[.int .i64 f.params, .int .i64 f.regs, .slice (some a2) f.code.length c2]).below hbj (by omega)).at_ 0)
                  have hcf2 : w2.cell? ⟨w1.heap.size, 2, none⟩ = some (.slice (some a2) f.code.length c2) := by
                    rw [hbj.cell (by show w1.heap.size < _; omega)]; exact (World.cell?_alloc_new w1 _ _ _).trans rfl
                  have hcf3 : ({ w2 with drawn := w2.drawn + 1 } : World).cell? ⟨w1.heap.size, 2, none⟩ = some (.slice (some a2) f.code.length c2) := hcf2
                  have hcp3 : ({ w2 with drawn := w2.drawn + 1 } : World).cell? ⟨w.heap.size, 0, none⟩ = some (.slice (some a) p.funcs.length c) := hcp2
                  go_upto_region 14 with fail
                  refine wp_region_still_tail 9 (by kernel_rfl) (by kernel_rfl) ?_
                  simp only [List.take_succ_cons, List.take_zero, List.drop_succ_cons, List.drop_zero]
                  repeat (first | (refine wpStill_load_at rfl 85 _ rfl _ rfl _ _ (At.drew HAT2.out) Tryd.underlying85 rfl (by kernel_rfl) ?_) | (refine wpStill_load_at rfl 72 _ rfl _ rfl _ _ (At.drew HATF.out) Tryd.underlying72 rfl (by kernel_rfl) ?_) | still_step)
                  try refine wpStill_nil ?_
                  go_upto_region 15 with (first | (go_at_call 90; refine (instrFault_any x _ _ _ _ _ _ _ ⟨hr1, hr2⟩ (by omega) (by omega)).mono ?_; rintro e w3 ⟨rfl, hw3⟩))
                  have hbj3 : Below (w1.heap.size + 1) (w1.alloc (.cells #[.int .i64 f.params, .int .i64 f.regs, .slice (some a2) f.code.length c2] 72)) w3 :=
                    (below_drewN hbj 1).trans (hw3.mono (by simp; omega))
                  generalize he0 : insFault x f.regs f.code.length p.funcs.length = e0 at HFAj ⊢
                  have HE0 := Lib.hid he0
                  clear he0
                  by_cases hi : e0 = 0
                  · have h1 : (e0 != 0) = false := by simp [hi]
                    have HI := Lib.hid hi
                    clear hi
                    go_wp2
                    go_roundw
                    case rel =>
                      refine ⟨j + 1, by omega, by go_num, Lib.hid fun y hy => ?_, hbj3⟩
                      rcases mem_take_succ hjl hy with hy | rfl
                      · exact hzj.out y hy
                      · rw [HXX.out, HE0.out, HI.out]
                    case measure => simp [intOf]; omega
                  · have h1 : (e0 != 0) = true := by simp [hi]
                    have hfin : prgFault p = e0 := by
                      have h2 := HFAj.out hi
                      exact (hbad.out (by rw [h2]; exact hi)).trans h2
                    have HF := Lib.hid hfin
                    clear hfin hi
                    go_wp2
                    subst hQ
                    go_wp2
                    go_ret
                    exact ⟨ret_int HF.out.symm, hbw.trans (hbj3.mono (by omega))⟩
                · obtain rfl : j = f.code.length := by omega
                  have hff : funFault f p.funcs.length = 0 := funFault_all f _ ⟨hr1, hr2, hp1, hp2, hp3⟩ ⟨hl1, hl2⟩ (by have := hzj.out; rwa [List.take_of_length_le (Nat.le_refl _)] at this)
                  have HFF := Lib.hid hff
                  clear hff
                  have hcf2 : w2.cell? ⟨w1.heap.size, 2, none⟩ = some (.slice A2 f.code.length c2) := by
                    rw [hbj.cell (by show w1.heap.size < _; omega)]; exact (World.cell?_alloc_new w1 _ _ _).trans rfl
                  go_wp2
                  subst hQ
                  go_wp2
                  go_roundw
                  case rel =>
                    refine ⟨k + 1, by omega, by go_num, Lib.hid fun y hy => ?_, ?_⟩
                    · rcases mem_take_succ hlt hy with hy | rfl
                      · exact hz.out y hy
                      · rw [HFK.out, HFF.out]
                    · exact (hb.alloc hsz _).trans (hbj.mono (by omega))
                  case measure => simp [intOf]; omega
            · have hff : funFault f p.funcs.length = 1 := by unfold funFault; rw [if_neg (by omega), if_pos hl]
              have HF := Lib.hid (show prgFault p = 1 from (hbad.out (by rw [hff]; decide)).trans hff)
              clear hff
              by_cases hl1 : (f.code.length : Int) < 1
              · have hd3 : decide (1 ≤ (f.code.length : Int)) = false := by simp; omega
                go_wp2_with (first | (go_at_call 47; refine (In_any _ _ _ _).mono ?_; rintro e w' ⟨rfl, rfl⟩))
                go_ret
                exact ⟨ret_int HF.out.symm, hbw⟩
              · have hl3 : decide (1 ≤ (f.code.length : Int)) = true := by simp; omega
                have hl2 : decide ((f.code.length : Int) ≤ 40) = false := by simp; omega
                go_wp2_with (first | (go_at_call 47; refine (In_any _ _ _ _).mono ?_; rintro e w' ⟨rfl, rfl⟩))
                go_ret
                exact ⟨ret_int HF.out.symm, hbw⟩
          · have hff : funFault f p.funcs.length = 2 := by unfold funFault; rw [if_pos (by omega)]
            have HF := Lib.hid (show prgFault p = 2 from (hbad.out (by rw [hff]; decide)).trans hff)
            clear hff
            by_cases hp1 : 0 ≤ f.params
            · have hd2 : decide (0 ≤ f.params) = true := by simp; omega
              by_cases hp2 : f.params ≤ 2
              · have hd3 : decide (f.params ≤ 2) = true := by simp; omega
                have hd4 : decide (f.regs < f.params) = true := by simp; omega
                go_wp2_with (first | (go_at_call 47; refine (In_any _ _ _ _).mono ?_; rintro e w' ⟨rfl, rfl⟩))
                go_ret
                exact ⟨ret_int HF.out.symm, hbw⟩
              · have hd3 : decide (f.params ≤ 2) = false := by simp; omega
                go_wp2_with (first | (go_at_call 47; refine (In_any _ _ _ _).mono ?_; rintro e w' ⟨rfl, rfl⟩))
                go_ret
                exact ⟨ret_int HF.out.symm, hbw⟩
            · have hd2 : decide (0 ≤ f.params) = false := by simp; omega
              go_wp2_with (first | (go_at_call 47; refine (In_any _ _ _ _).mono ?_; rintro e w' ⟨rfl, rfl⟩))
              go_ret
              exact ⟨ret_int HF.out.symm, hbw⟩
        · have hff : funFault f p.funcs.length = 2 := by unfold funFault; rw [if_pos (by omega)]
          have HF := Lib.hid (show prgFault p = 2 from (hbad.out (by rw [hff]; decide)).trans hff)
          clear hff
          by_cases hl1 : f.regs < 1
          · have hd1 : decide (1 ≤ f.regs) = false := by simp; omega
            go_wp2_with (first | (go_at_call 47; refine (In_any _ _ _ _).mono ?_; rintro e w' ⟨rfl, rfl⟩))
            go_ret
            exact ⟨ret_int HF.out.symm, hbw⟩
          · have hd1 : decide (1 ≤ f.regs) = true := by simp; omega
            have hd2 : decide (f.regs ≤ 12) = false := by simp; omega
            go_wp2_with (first | (go_at_call 47; refine (In_any _ _ _ _).mono ?_; rintro e w' ⟨rfl, rfl⟩))
            go_ret
            exact ⟨ret_int HF.out.symm, hbw⟩
      · obtain rfl : k = p.funcs.length := by omega
        have hfin : prgFault p = 0 := prgFault_all p ⟨hn1, hn2⟩ (by have := hz.out; rwa [List.take_of_length_le (Nat.le_refl _)] at this)
        have HF := Lib.hid hfin
        clear hfin
        have hcp : w1.cell? ⟨w.heap.size, 0, none⟩ = some (.slice A p.funcs.length c) := by
          rw [hb.cell (by simp)]; exact (World.cell?_alloc_new w _ _ _).trans rfl
        go_wp2
        go_ret
        exact ⟨ret_int HF.out.symm, ((Below.refl _ _).alloc (Nat.le_refl _) _).trans (hb.mono (by omega))⟩
  · have hf : prgFault p = 1 := by unfold prgFault; rw [if_pos hn]
    have HF := Lib.hid hf
    clear hf
    by_cases h1 : (p.funcs.length : Int) < 1
    · have hd1 : decide (1 ≤ (p.funcs.length : Int)) = false := by simp; omega
      go_enter Tryd.func67, Tryd.ntmps67
      go_wp2_with (first | (go_at_call 47; refine (In_any _ _ _ _).mono ?_; rintro e w' ⟨rfl, rfl⟩))
      go_ret
      exact ⟨ret_int HF.out.symm, (Below.refl _ _).alloc (Nat.le_refl _) _⟩
    · have hd1 : decide (1 ≤ (p.funcs.length : Int)) = true := by simp; omega
      have hd2 : decide ((p.funcs.length : Int) ≤ 4) = false := by simp; omega
      go_enter Tryd.func67, Tryd.ntmps67
      go_wp2_with (first | (go_at_call 47; refine (In_any _ _ _ _).mono ?_; rintro e w' ⟨rfl, rfl⟩))
      go_ret
      exact ⟨ret_int HF.out.symm, (Below.refl _ _).alloc (Nat.le_refl _) _⟩
end Go.Proofs.YtfhoffpdodjfeaaDoor
namespace Go.Proofs.YtfhoffpdodjfeaaDoor
open Go.RowKit

theorem insNe (x y : Ins) (w : World) : ∃ bb : Bool, (if x.op = y.op then
      if x.dst = y.dst then
        if x.a = y.a then
          if x.b = y.b then
            if x.imm = y.imm then Result.ok (Next.value (Value.bool false)) w
            else Result.ok (Next.value (Value.bool true)) w
          else Result.ok (Next.value (Value.bool true)) w
        else Result.ok (Next.value (Value.bool true)) w
      else Result.ok (Next.value (Value.bool true)) w
    else Result.ok (Next.value (Value.bool true)) w) = Result.ok (Next.value (Value.bool bb)) w ∧ (bb = false → x = y) ∧ (bb = true → x ≠ y) := by
  obtain ⟨a1, a2, a3, a4, a5⟩ := x
  obtain ⟨b1, b2, b3, b4, b5⟩ := y
  by_cases h : a1 = b1 ∧ a2 = b2 ∧ a3 = b3 ∧ a4 = b4 ∧ a5 = b5
  · obtain ⟨rfl, rfl, rfl, rfl, rfl⟩ := h
    exact ⟨false, by simp, by simp, by simp⟩
  · refine ⟨true, ?_, by simp, fun _ e => h (by simpa using e)⟩
    repeat (split; skip)
    all_goals first | rfl | (exfalso; exact h ⟨by assumption, by assumption, by assumption, by assumption, by assumption⟩)

set_option maxRecDepth 10000 in
set_option maxHeartbeats 2000000 in
theorem sameProgram_any (p q : Prg) (u v : Value) (w : World) (hp : Lay.rep w (Lt w.heap.size) p [u]) (hq : Lay.rep w (Lt w.heap.size) q [v]) :
    Calls Tryd.prog 30 #[.agg #[u], .agg #[v]] w fun e w' => e = .returned (.bool (decide (p = q))) ∧ Below w.heap.size w w' := by
  obtain ⟨A, c, rfl, hc, hm, hx⟩ := rep_funs_at hp
  obtain ⟨B, d, rfl, hd, hmd, hy⟩ := rep_funs_at hq
  unfold maxLen at hm hmd
  have HX := Lib.hid hx
  have HY := Lib.hid hy
  clear hx hp hy hq
  by_cases hn : p.funcs.length = q.funcs.length
  · go_enter Tryd.func30, Tryd.ntmps30
    have hni : ((p.funcs.length : Int) != (q.funcs.length : Int)) = false := by simp; omega
    have HN := Lib.hid hn
    clear hn
    go_wp2
    go_loopw [5] (fun i wr => ∃ k : Nat, k ≤ p.funcs.length ∧ i = .int .i64 k ∧ Hid (p.funcs.take k = q.funcs.take k) ∧ Below (w.heap.size + 2) ((w.alloc (.cells #[.slice A p.funcs.length c] 24)).alloc (.cells #[.slice B q.funcs.length d] 24)) wr) (fun i _ => p.funcs.length - (intOf i).toNat)
    case atStart => exact ⟨0, by omega, rfl, Lib.hid (by simp), Below.refl _ _⟩
    case round =>
      obtain ⟨k, hk, rfl, hz, hb⟩ := hrel
      obtain ⟨w1, rfl⟩ : ∃ w1, w1 = wr := ⟨_, rfl⟩
      have hsz := hb.size
      simp only [World.size_alloc] at hsz
      have hal : Alike (Lt w.heap.size) w w1 := ((Alike.alloc _ (fun _ h => h)).trans (Alike.alloc _ (fun b hb => by show b < (w.alloc _).heap.size; rw [World.size_alloc]; exact Nat.lt_succ_of_lt hb))).trans (Alike.below hb (fun b hb => Nat.lt_of_lt_of_le hb (by omega)))
      have hcp : w1.cell? ⟨w.heap.size, 0, none⟩ = some (.slice A p.funcs.length c) := by
        rw [hb.cell (by show w.heap.size < _; omega), World.cell?_alloc_lt _ _ _ (by show w.heap.size < _; simp)]; exact (World.cell?_alloc_new w _ _ _).trans rfl
      have hcq : w1.cell? ⟨w.heap.size + 1, 0, none⟩ = some (.slice B q.funcs.length d) := by
        rw [hb.cell (by show w.heap.size + 1 < _; omega)]; exact ((Blk.new (w.alloc (.cells #[.slice A p.funcs.length c] 24)) 24 #[.slice B q.funcs.length d]).cell' (World.size_alloc _ _) 0).trans rfl
      by_cases hlt : k < p.funcs.length
      · have hlq : k < q.funcs.length := by have := HN.out; omega
        obtain ⟨a, v, rfl, hab, hat, hcode⟩ := HX.out k hlt
        obtain ⟨b, v2, rfl, hbb, hbt, hbcode⟩ := HY.out k hlq
        have HAT := Lib.hid (hat.keep (S := Lt w.heap.size) (by rw [block_of_add]; exact hab) hal)
        have HBT := Lib.hid ((hbt.keep (S := Lt w.heap.size) (by rw [block_of_add]; exact hbb) hal).keep (S := Lt w1.heap.size) (by rw [block_of_add]; exact Nat.lt_trans hbb (by omega)) (Alike.alloc (.cells #[.int .i64 p.funcs[k].params, .int .i64 p.funcs[k].regs, v] 72) (fun _ h => h)))
        have HCa := Lib.hid (Lay.keep hal hcode)
        have HCb := Lib.hid (Lay.keep hal hbcode)
        clear hat hbt hcode hbcode
        obtain ⟨f, hf⟩ : ∃ f, p.funcs[k] = f := ⟨_, rfl⟩
        obtain ⟨g, hg⟩ : ∃ g, q.funcs[k] = g := ⟨_, rfl⟩
        rw [hf] at HAT HCa HBT
        rw [hg] at HBT HCb
        have HFK := Lib.hid hf
        have HGK := Lib.hid hg
        clear hf hg
        obtain ⟨A2, c2, rfl, hc2, hm2, hx2⟩ := rep_code_at HCa.out
        obtain ⟨B2, d2, rfl, hd2, hmd2, hy2⟩ := rep_code_at HCb.out
        unfold maxLen at hm2 hmd2
        have HX2 := Lib.hid hx2
        have HY2 := Lib.hid hy2
        clear hx2 HCa hy2 HCb
        have hcq2 : (w1.alloc (.cells #[.int .i64 f.params, .int .i64 f.regs, .slice A2 f.code.length c2] 72)).cell? ⟨w.heap.size + 1, 0, none⟩ = some (.slice (some b) q.funcs.length d) := by
          rw [World.cell?_alloc_lt _ _ _ (by show w.heap.size + 1 < _; omega)]; exact hcq
        go_upto_region 8 with (first | (refine wpList_load_at rfl 72 _ rfl _ rfl _ _ HAT.out Tryd.underlying72 rfl (by kernel_rfl) ?_) | (refine wpList_load_at rfl 72 _ rfl _ rfl _ _ HBT.out Tryd.underlying72 rfl (by kernel_rfl) ?_))
        by_cases hsame : f.params = g.params ∧ f.regs = g.regs ∧ f.code.length = g.code.length
        · obtain ⟨hs1, hs2, hs3⟩ := hsame
          have hs1b : (f.params != g.params) = false := by simpa using hs1
          have hs2b : (f.regs != g.regs) = false := by simpa using hs2
          have hs3b : ((f.code.length : Int) != g.code.length) = false := by simp; omega
          have HS := Lib.hid (And.intro hs1 (And.intro hs2 hs3))
          clear hs1 hs2 hs3
          go_wp2
          go_hide hQ
          go_loopw [8] (fun i wr => ∃ j : Nat, j ≤ f.code.length ∧ i = .int .i64 j ∧ Hid (f.code.take j = g.code.take j) ∧ Below (w1.heap.size + 2) ((w1.alloc (.cells #[.int .i64 f.params, .int .i64 f.regs, .slice A2 f.code.length c2] 72)).alloc (.cells #[.int .i64 g.params, .int .i64 g.regs, .slice B2 g.code.length d2] 72)) wr) (fun i _ => f.code.length - (intOf i).toNat)
          case atStart => exact ⟨0, by omega, rfl, Lib.hid (by simp), Below.refl _ _⟩
          case round =>
            obtain ⟨j, hj, rfl, hzj, hbj⟩ := hrel
            obtain ⟨w2, rfl⟩ : ∃ w2, w2 = wr := ⟨_, rfl⟩
            have hsj := hbj.size
            simp only [World.size_alloc] at hsj
            have hal2 : Alike (Lt w1.heap.size) w1 w2 := ((Alike.alloc _ (fun _ h => h)).trans (Alike.alloc _ (fun b hb => by show b < (w1.alloc _).heap.size; rw [World.size_alloc]; exact Nat.lt_succ_of_lt hb))).trans (Alike.below hbj (fun b hb => Nat.lt_of_lt_of_le hb (by omega)))
            have hcf : w2.cell? ⟨w1.heap.size, 2, none⟩ = some (.slice A2 f.code.length c2) := by
              rw [hbj.cell (by show w1.heap.size < _; omega), World.cell?_alloc_lt _ _ _ (by show w1.heap.size < _; simp)]; exact (World.cell?_alloc_new w1 _ _ _).trans rfl
            have hcg : w2.cell? ⟨w1.heap.size + 1, 2, none⟩ = some (.slice B2 g.code.length d2) := by
              rw [hbj.cell (by show w1.heap.size + 1 < _; omega)]; exact ((Blk.new (w1.alloc (.cells #[.int .i64 f.params, .int .i64 f.regs, .slice A2 f.code.length c2] 72)) 72 #[.int .i64 g.params, .int .i64 g.regs, .slice B2 g.code.length d2]).cell' (World.size_alloc _ _) 2).trans rfl
            by_cases hjl : j < f.code.length
            · have hjg : j < g.code.length := by have := HS.out; omega
              obtain ⟨a2, rfl, hab2, hat2⟩ := HX2.out j hjl
              obtain ⟨b2, rfl, hbb2, hbt2⟩ := HY2.out j hjg
              have HAT2 := Lib.hid (hat2.keep (S := Lt w1.heap.size) (by rw [block_of_add]; exact Nat.lt_trans hab2 (by omega)) hal2)
              have HBT2 := Lib.hid (hbt2.keep (S := Lt w1.heap.size) (by rw [block_of_add]; exact Nat.lt_trans hbb2 (by omega)) hal2)
              clear hat2 hbt2
              obtain ⟨x, hxx⟩ : ∃ x, f.code[j] = x := ⟨_, rfl⟩
              obtain ⟨y, hyy⟩ : ∃ y, g.code[j] = y := ⟨_, rfl⟩
              rw [hxx] at HAT2
              rw [hyy] at HBT2
              have HXX := Lib.hid hxx
              have HYY := Lib.hid hyy
              clear hxx hyy
              have hcf3 : ({ w2 with drawn := w2.drawn + 1 } : World).cell? ⟨w1.heap.size, 2, none⟩ = some (.slice (some a2) f.code.length c2) := hcf
              have hcg3 : ({ w2 with drawn := w2.drawn + 1 } : World).cell? ⟨w1.heap.size + 1, 2, none⟩ = some (.slice (some b2) g.code.length d2) := hcg
              go_upto_region 13 with fail
              refine wp_region_still_lit (by kernel_rfl) (by kernel_rfl) ?_
              repeat (first | (refine wpStill_load_at rfl 85 _ rfl _ rfl _ _ (At.drew HAT2.out) Tryd.underlying85 rfl (by kernel_rfl) ?_) | (refine wpStill_load_at rfl 85 _ rfl _ rfl _ _ (At.drew HBT2.out) Tryd.underlying85 rfl (by kernel_rfl) ?_) | still_step)
              refine wpStill_step (fun K hK => ?_)
              go_simp
              obtain ⟨bb, hbbq, hbf, hbt⟩ := insNe x y w2.drew
              rw [hbbq]
              have HBF := Lib.hid hbf
              have HBT' := Lib.hid hbt
              clear hbbq hbf hbt
              refine ⟨rfl, hK _ ?_⟩
              clear hK K
              refine wpStill_nil ?_
              cases bb
              · go_wp2
                go_roundw
                case rel =>
                  refine ⟨j + 1, by omega, by go_num, Lib.hid ?_, below_drewN hbj 1⟩
                  rw [List.take_succ_eq_append_getElem hjl, List.take_succ_eq_append_getElem hjg, hzj.out, HXX.out, HYY.out, HBF.out rfl]
                case measure => simp [intOf]; omega
              · have hne : decide (p = q) = false := by
                  rw [decide_eq_false_iff_not]
                  intro e
                  subst e
                  have h1 := HFK.out.symm.trans HGK.out
                  subst h1
                  exact HBT'.out rfl (HXX.out.symm.trans HYY.out)
                have HF := Lib.hid hne
                clear hne
                go_wp2
                subst hQ
                go_wp2
                go_ret
                exact ⟨ret_bool HF.out.symm, ((((Below.refl _ _).alloc (Nat.le_refl _) _).alloc (by simp) _).trans (hb.mono (by omega))).trans ((below_drewN ((((Below.refl _ _).alloc (Nat.le_refl _) _).alloc (by simp) _).trans (hbj.mono (by omega))) 1).mono (by omega))⟩
            · have hje : j = f.code.length := by omega
              subst hje
              have hfg : f = g := by
                obtain ⟨e1, e2, e3⟩ := HS.out
                have := hzj.out
                rw [List.take_of_length_le (Nat.le_refl _), e3, List.take_of_length_le (Nat.le_refl _)] at this
                cases f; cases g; simp_all
              have HFG := Lib.hid hfg
              clear hfg
              go_wp2
              subst hQ
              go_wp2
              go_roundw
              case rel =>
                refine ⟨k + 1, by omega, by go_num, Lib.hid ?_, ?_⟩
                · rw [List.take_succ_eq_append_getElem hlt, List.take_succ_eq_append_getElem hlq, hz.out, HFK.out, HGK.out, HFG.out]
                · exact ((hb.alloc hsz _).alloc (by simp; omega) _).trans (hbj.mono (by omega))
              case measure => simp [intOf]; omega
        · have hne : decide (p = q) = false := by
            rw [decide_eq_false_iff_not]
            intro e
            subst e
            have h1 := HFK.out.symm.trans HGK.out
            subst h1
            exact hsame ⟨rfl, rfl, rfl⟩
          have HF := Lib.hid hne
          clear hne
          by_cases e1 : f.params = g.params
          · have e1b : (f.params != g.params) = false := by simpa using e1
            have E1 := Lib.hid e1
            clear e1
            by_cases e2 : f.regs = g.regs
            · have e2b : (f.regs != g.regs) = false := by simpa using e2
              have e3b : ((f.code.length : Int) != g.code.length) = true := by
                have := E1.out
                simp only [bne_iff_ne, ne_eq, Int.ofNat_inj]
                exact fun e3 => hsame ⟨this, e2, e3⟩
              have E2 := Lib.hid e2
              clear e2 hsame
              go_wp2
              go_ret
              exact ⟨ret_bool HF.out.symm, ((((Below.refl _ _).alloc (Nat.le_refl _) _).alloc (by simp) _).trans (hb.mono (by omega))).trans ((((Below.refl _ _).alloc (Nat.le_refl _) _).alloc (by simp) _).mono (by omega))⟩
            · have e2b : (f.regs != g.regs) = true := by simpa using e2
              clear e2 hsame
              go_wp2
              go_ret
              exact ⟨ret_bool HF.out.symm, ((((Below.refl _ _).alloc (Nat.le_refl _) _).alloc (by simp) _).trans (hb.mono (by omega))).trans ((((Below.refl _ _).alloc (Nat.le_refl _) _).alloc (by simp) _).mono (by omega))⟩
          · have e1b : (f.params != g.params) = true := by simpa using e1
            clear e1 hsame
            go_wp2
            go_ret
            exact ⟨ret_bool HF.out.symm, ((((Below.refl _ _).alloc (Nat.le_refl _) _).alloc (by simp) _).trans (hb.mono (by omega))).trans ((((Below.refl _ _).alloc (Nat.le_refl _) _).alloc (by simp) _).mono (by omega))⟩
      · obtain rfl : k = p.funcs.length := by omega
        have hne : decide (p = q) = true := by
          rw [decide_eq_true_iff]
          have := hz.out
          rw [List.take_of_length_le (Nat.le_refl _), HN.out, List.take_of_length_le (Nat.le_refl _)] at this
          cases p; cases q; simp_all
        have HF := Lib.hid hne
        clear hne
        go_wp2
        go_ret
        exact ⟨ret_bool HF.out.symm, (((Below.refl _ _).alloc (Nat.le_refl _) _).alloc (by simp) _).trans (hb.mono (by omega))⟩
  · have hne : decide (p = q) = false := by
      rw [decide_eq_false_iff_not]
      intro e
      subst e
      exact hn rfl
    have HF := Lib.hid hne
    have hni : ((p.funcs.length : Int) != (q.funcs.length : Int)) = true := by simp; omega
    clear hne hn
    go_enter Tryd.func30, Tryd.ntmps30
    go_wp2
    go_ret
    exact ⟨ret_bool HF.out.symm, (((Below.refl _ _).alloc (Nat.le_refl _) _).alloc (by simp) _)⟩
end Go.Proofs.YtfhoffpdodjfeaaDoor
