/- code.Check: what it answers of a program that lies in memory. -/
import Derived.Test.YtpnapnmkjpolmaaDoorCodeB
set_option linter.unusedSimpArgs false
set_option linter.unusedVariables false
namespace Go.Proofs.YtpnapnmkjpolmaaDoor
open Go.RowKit

theorem alike_box {w wr : World} {o : Obj} {B : Nat} (h : Below B (w.alloc o) wr) (hB : w.heap.size ≤ B) : Alike (Lt w.heap.size) w wr :=
  (Alike.alloc o (fun _ h => h)).trans (Alike.below h (fun b hb => Nat.lt_of_lt_of_le hb hB))
theorem prgFault_at (p : Prg) (k : Nat) (hk : k < p.funcs.length) (hn : 1 ≤ p.funcs.length ∧ p.funcs.length ≤ 4) (h : ∀ f, f ∈ p.funcs.take k → funFault f p.funcs.length = 0) (hne : funFault p.funcs[k] p.funcs.length ≠ 0) :
    prgFault p = funFault p.funcs[k] p.funcs.length := by
  unfold prgFault
  rw [if_neg (by simpa using hn)]
  exact firstZ_map_at (fun f => funFault f p.funcs.length) p.funcs k hk h hne
theorem prgFault_all (p : Prg) (hn : 1 ≤ p.funcs.length ∧ p.funcs.length ≤ 4) (h : ∀ f, f ∈ p.funcs → funFault f p.funcs.length = 0) : prgFault p = 0 := by
  unfold prgFault
  rw [if_neg (by simpa using hn), firstZ_eq_zero]
  simpa using h
theorem funFault_at (f : Fun) (n k : Nat) (hk : k < f.code.length) (h1 : 1 ≤ f.regs ∧ f.regs ≤ 12 ∧ 0 ≤ f.params ∧ f.params ≤ 2 ∧ f.params ≤ f.regs) (h2 : 1 ≤ f.code.length ∧ f.code.length ≤ 40)
    (h : ∀ x, x ∈ f.code.take k → insFault x f.regs f.code.length n = 0) (hne : insFault f.code[k] f.regs f.code.length n ≠ 0) : funFault f n = insFault f.code[k] f.regs f.code.length n := by
  unfold funFault
  rw [if_neg (by simpa using h1), if_neg (by simpa using h2)]
  exact firstZ_map_at (fun x => insFault x f.regs f.code.length n) f.code k hk h hne
theorem funFault_all (f : Fun) (n : Nat) (h1 : 1 ≤ f.regs ∧ f.regs ≤ 12 ∧ 0 ≤ f.params ∧ f.params ≤ 2 ∧ f.params ≤ f.regs) (h2 : 1 ≤ f.code.length ∧ f.code.length ≤ 40)
    (h : ∀ x, x ∈ f.code → insFault x f.regs f.code.length n = 0) : funFault f n = 0 := by
  unfold funFault
  rw [if_neg (by simpa using h1), if_neg (by simpa using h2), firstZ_eq_zero]
  simpa using h
theorem mem_take_succ {α : Type} {l : List α} {k : Nat} (hk : k < l.length) {x : α} (h : x ∈ l.take (k + 1)) : x ∈ l.take k ∨ x = l[k] := by
  rw [List.take_succ_eq_append_getElem hk, List.mem_append, List.mem_singleton] at h
  exact h

set_option maxRecDepth 10000 in
set_option maxHeartbeats 2000000 in
theorem codeCheck_any (p : Prg) (u : Value) (w : World) (hp : Lay.rep w (Lt w.heap.size) p [u]) (hh : Has w) :
    Calls Tryd.prog 11 #[.agg #[u]] w fun e w' => e = .returned (.int .i64 (prgFault p)) ∧ Below w.heap.size w w' := by
  obtain ⟨A, c, rfl, hc, hm, hx⟩ := rep_funs_at hp
  unfold maxLen at hm
  have HX := Lib.hid hx
  clear hx hp
  have hg : 1 < w.heap.size := World.block_lt_of_cell? w _ (hh 0 (by decide))
  have HH := Lib.hid hh
  clear hh
  by_cases hn : 1 ≤ p.funcs.length ∧ p.funcs.length ≤ 4
  · obtain ⟨hn1, hn2⟩ := hn
    go_enter Tryd.func11, Tryd.ntmps11
    go_wp2
    go_loopw [21] (fun i wr => ∃ k : Nat, k ≤ p.funcs.length ∧ i = .int .i64 k ∧ Hid (∀ f, f ∈ p.funcs.take k → funFault f p.funcs.length = 0) ∧ Below (w.heap.size + 1) (w.alloc (.cells #[.slice A p.funcs.length c] 24)) wr) (fun i _ => p.funcs.length - (intOf i).toNat)
    case atStart => exact ⟨0, by omega, rfl, Lib.hid (by simp), Below.refl _ _⟩
    case round =>
      obtain ⟨k, hk, rfl, hz, hb⟩ := hrel
      obtain ⟨w1, rfl⟩ : ∃ w1, w1 = wr := ⟨_, rfl⟩
      by_cases hlt : k < p.funcs.length
      · obtain ⟨a, v, rfl, hab, hat, hcode⟩ := HX.out k hlt
        have hal := alike_box hb (by omega)
        have HAT := Lib.hid (hat.keep (S := Lt w.heap.size) (by rw [block_of_add]; exact hab) hal)
        have HC := Lib.hid (Lay.keep hal hcode)
        have hcp : w1.cell? ⟨w.heap.size, 0, none⟩ = some (.slice (some a) p.funcs.length c) := by
          rw [hb.cell (by simp)]; exact (World.cell?_alloc_new w _ _ _).trans rfl
        clear hat hcode
        obtain ⟨f, hf⟩ : ∃ f, p.funcs[k] = f := ⟨_, rfl⟩
        rw [hf] at HAT HC
        have HFK := Lib.hid hf
        clear hf
        obtain ⟨A2, c2, rfl, hc2, hm2, hx2⟩ := rep_code_at HC.out
        unfold maxLen at hm2
        have HX2 := Lib.hid hx2
        clear hx2 HC
        have hsz := hb.size
        simp only [World.size_alloc] at hsz
        go_upto_region 6 with (first | (refine wpList_load_at rfl 36 _ rfl _ rfl _ _ HAT.out Tryd.underlying36 rfl (by kernel_rfl) ?_))
        have hbw : Below w.heap.size w (w1.alloc (.cells #[.int .i64 f.params, .int .i64 f.regs, .slice A2 f.code.length c2] 36)) :=
          (((Below.refl _ _).alloc (Nat.le_refl _) _).trans (hb.mono (by omega))).alloc (by omega) _
        have hbad : Hid (funFault f p.funcs.length ≠ 0 → prgFault p = funFault f p.funcs.length) := Lib.hid (by
          have := prgFault_at p k hlt ⟨hn1, hn2⟩ hz.out
          rwa [HFK.out] at this)
        by_cases hr : 1 ≤ f.regs ∧ f.regs ≤ 12
        · have hd1 : (decide (1 ≤ f.regs) && decide (f.regs ≤ 12)) = true := by simpa using hr
          obtain ⟨hr1, hr2⟩ := hr
          by_cases hpa : 0 ≤ f.params ∧ f.params ≤ 2 ∧ f.params ≤ f.regs
          · obtain ⟨hp1, hp2, hp3⟩ := hpa
            obtain ⟨mm, hmm, hpm⟩ : ∃ mm, (if f.regs < 2 then f.regs else 2) = mm ∧ f.params ≤ mm := ⟨_, rfl, by split <;> omega⟩
            by_cases hl : 1 ≤ f.code.length ∧ f.code.length ≤ 40
            · obtain ⟨hl1, hl2⟩ := hl
              have hfa := funFault_at f p.funcs.length
              have HFA := Lib.hid fun (j : Nat) (hj : j < f.code.length) => hfa j hj ⟨hr1, hr2, hp1, hp2, hp3⟩ ⟨hl1, hl2⟩
              clear hfa
              go_wp2_with (first | (go_at_call 27; refine (within_any _ _ _ _).mono ?_; rintro e w' ⟨rfl, rfl⟩))
              go_hide hQ
              go_loopw [51] (fun i wr => ∃ j : Nat, j ≤ f.code.length ∧ i = .int .i64 j ∧ Hid (∀ x, x ∈ f.code.take j → insFault x f.regs f.code.length p.funcs.length = 0) ∧ Below (w1.heap.size + 1) (w1.alloc (.cells #[.int .i64 f.params, .int .i64 f.regs, .slice A2 f.code.length c2] 36)) wr) (fun i _ => f.code.length - (intOf i).toNat)
              case atStart => exact ⟨0, by omega, rfl, Lib.hid (by simp), Below.refl _ _⟩
              case round =>
                obtain ⟨j, hj, rfl, hzj, hbj⟩ := hrel
                obtain ⟨w2, rfl⟩ : ∃ w2, w2 = wr := ⟨_, rfl⟩
                have hsj := hbj.size
                simp only [World.size_alloc] at hsj
                by_cases hjl : j < f.code.length
                · obtain ⟨a2, rfl, hab2, hat2⟩ := HX2.out j hjl
                  have hal2 := alike_box hbj (by omega)
                  have HAT2 := Lib.hid (hat2.keep (S := Lt w1.heap.size) (by rw [block_of_add]; exact Nat.lt_trans hab2 (by omega)) hal2)
                  have HH2 := Lib.hid ((HH.out.keep ((((Below.refl _ _).alloc (Nat.le_refl _) _).trans (hb.mono (by omega))).trans ((((Below.refl _ _).alloc (Nat.le_refl _) _).trans (hbj.mono (by omega))).mono (by omega))) rfl).keep ((Below.refl _ _).alloc (Nat.le_refl _) (.cells #[.int .i64 f.code[j].op, .int .i64 f.code[j].dst, .int .i64 f.code[j].a, .int .i64 f.code[j].b, .int .i64 f.code[j].imm] 48)) rfl)
                  clear hat2
                  obtain ⟨x, hxx⟩ : ∃ x, f.code[j] = x := ⟨_, rfl⟩
                  have HFAj := Lib.hid (HFA.out j hjl hzj.out)
                  rw [hxx] at HAT2 HH2 HFAj
                  have HXX := Lib.hid hxx
                  clear hxx
                  have hcp2 : (w2.alloc (.cells #[.int .i64 x.op, .int .i64 x.dst, .int .i64 x.a, .int .i64 x.b, .int .i64 x.imm] 48)).cell? ⟨w.heap.size, 0, none⟩ = some (.slice (some a) p.funcs.length c) := by
                    rw [World.cell?_alloc_lt _ _ _ (by show w.heap.size < _; omega), hbj.cell (by show w.heap.size < _; omega), World.cell?_alloc_lt _ _ _ (by show w.heap.size < _; omega)]; exact hcp
                  have HATF : Hid (At (w2.alloc (.cells #[.int .i64 x.op, .int .i64 x.dst, .int .i64 x.a, .int .i64 x.b, .int .i64 x.imm] 48)) ⟨w1.heap.size, 0, none⟩ [.int .i64 f.params, .int .i64 f.regs, .slice (some a2) f.code.length c2]) :=
                    Lib.hid ((((Blk.new w1 36 #[.int .i64 f.params, .int .i64 f.regs, .slice (some a2) f.code.length c2]).below hbj (by omega)).alloc (.cells #[.int .i64 x.op, .int .i64 x.dst, .int .i64 x.a, .int .i64 x.b, .int .i64 x.imm] 48)).at_ 0)
                  go_upto_region 14 with (first | (refine wpList_load_at rfl 48 _ rfl _ rfl _ _ HAT2.out Tryd.underlying48 rfl (by kernel_rfl) ?_) | (refine wpList_load_at rfl 36 _ rfl _ rfl _ _ HATF.out Tryd.underlying36 rfl (by kernel_rfl) ?_) | (go_at_call 28; refine (instr_any x _ _ _ _ _ _ _ ⟨hr1, hr2⟩ (by omega) (by omega) HH2.out).mono ?_; rintro e w3 ⟨rfl, hw3⟩))
                  have hbj3 : Below (w1.heap.size + 1) (w1.alloc (.cells #[.int .i64 f.params, .int .i64 f.regs, .slice (some a2) f.code.length c2] 36)) w3 :=
                    (hbj.alloc hsj _).trans (hw3.mono (by simp; omega))
                  generalize he0 : insFault x f.regs f.code.length p.funcs.length = e0 at HFAj ⊢
                  have HE0 := Lib.hid he0
                  clear he0
                  by_cases hi : e0 = 0
                  · have h1 : (e0 != 0) = false := by simp [hi]
                    have HI := Lib.hid hi
                    clear hi
                    go_wp2
                    go_roundw
                    case rel =>
                      refine ⟨j + 1, by omega, by go_num, Lib.hid fun y hy => ?_, hbj3⟩
                      rcases mem_take_succ hjl hy with hy | rfl
                      · exact hzj.out y hy
                      · rw [HXX.out, HE0.out, HI.out]
                    case measure => simp [intOf]; omega
                  · have h1 : (e0 != 0) = true := by simp [hi]
                    have hfin : prgFault p = e0 := by
                      have h2 := HFAj.out hi
                      exact (hbad.out (by rw [h2]; exact hi)).trans h2
                    have HF := Lib.hid hfin
                    clear hfin hi
                    go_wp2
                    subst hQ
                    go_wp2
                    go_ret
                    exact ⟨ret_int HF.out.symm, hbw.trans (hbj3.mono (by omega))⟩
                · obtain rfl : j = f.code.length := by omega
                  have hff : funFault f p.funcs.length = 0 := funFault_all f _ ⟨hr1, hr2, hp1, hp2, hp3⟩ ⟨hl1, hl2⟩ (by have := hzj.out; rwa [List.take_of_length_le (Nat.le_refl _)] at this)
                  have HFF := Lib.hid hff
                  clear hff
                  go_wp2
                  subst hQ
                  go_wp2
                  go_roundw
                  case rel =>
                    refine ⟨k + 1, by omega, by go_num, Lib.hid fun y hy => ?_, ?_⟩
                    · rcases mem_take_succ hlt hy with hy | rfl
                      · exact hz.out y hy
                      · rw [HFK.out, HFF.out]
                    · exact (hb.alloc hsz _).trans (hbj.mono (by omega))
                  case measure => simp [intOf]; omega
            · have hff : funFault f p.funcs.length = 1 := by unfold funFault; rw [if_neg (by omega), if_pos hl]
              have HF := Lib.hid (show prgFault p = 1 from (hbad.out (by rw [hff]; decide)).trans hff)
              clear hff
              by_cases hl1 : f.code.length < 1
              · go_wp2_with (first | (go_at_call 27; refine (within_any _ _ _ _).mono ?_; rintro e w' ⟨rfl, rfl⟩))
                go_ret
                exact ⟨ret_int HF.out.symm, hbw⟩
              · have hl2 : 40 < f.code.length := by omega
                go_wp2_with (first | (go_at_call 27; refine (within_any _ _ _ _).mono ?_; rintro e w' ⟨rfl, rfl⟩))
                go_ret
                exact ⟨ret_int HF.out.symm, hbw⟩
          · have hff : funFault f p.funcs.length = 2 := by unfold funFault; rw [if_pos (by omega)]
            have HF := Lib.hid (show prgFault p = 2 from (hbad.out (by rw [hff]; decide)).trans hff)
            clear hff
            obtain ⟨mm, hmm, hpm⟩ : ∃ mm, (if f.regs < 2 then f.regs else 2) = mm ∧ (f.params < 0 ∨ mm < f.params) := ⟨_, rfl, by split <;> omega⟩
            rcases hpm with hpm | hpm
            all_goals
              have hd2 : (decide (0 ≤ f.params) && decide (f.params ≤ mm)) = false := by simp; omega
              go_wp2_with (first | (go_at_call 27; refine (within_any _ _ _ _).mono ?_; rintro e w' ⟨rfl, rfl⟩))
              go_ret
              exact ⟨ret_int HF.out.symm, hbw⟩
        · have hd1 : (decide (1 ≤ f.regs) && decide (f.regs ≤ 12)) = false := by simp; omega
          have hff : funFault f p.funcs.length = 2 := by unfold funFault; rw [if_pos (by omega)]
          have HF := Lib.hid (show prgFault p = 2 from (hbad.out (by rw [hff]; decide)).trans hff)
          clear hff
          go_wp2_with (first | (go_at_call 27; refine (within_any _ _ _ _).mono ?_; rintro e w' ⟨rfl, rfl⟩))
          go_ret
          exact ⟨ret_int HF.out.symm, hbw⟩
      · obtain rfl : k = p.funcs.length := by omega
        have hfin : prgFault p = 0 := prgFault_all p ⟨hn1, hn2⟩ (by have := hz.out; rwa [List.take_of_length_le (Nat.le_refl _)] at this)
        have HF := Lib.hid hfin
        clear hfin
        go_wp2
        go_ret
        exact ⟨ret_int HF.out.symm, ((Below.refl _ _).alloc (Nat.le_refl _) _).trans (hb.mono (by omega))⟩
  · have hf : prgFault p = 1 := by unfold prgFault; rw [if_pos hn]
    have HF := Lib.hid hf
    clear hf
    by_cases h1 : p.funcs.length < 1
    · go_enter Tryd.func11, Tryd.ntmps11
      go_wp2
      go_ret
      exact ⟨ret_int HF.out.symm, (Below.refl _ _).alloc (Nat.le_refl _) _⟩
    · have h2 : 4 < p.funcs.length := by omega
      go_enter Tryd.func11, Tryd.ntmps11
      go_wp2
      go_ret
      exact ⟨ret_int HF.out.symm, (Below.refl _ _).alloc (Nat.le_refl _) _⟩
end Go.Proofs.YtpnapnmkjpolmaaDoor
