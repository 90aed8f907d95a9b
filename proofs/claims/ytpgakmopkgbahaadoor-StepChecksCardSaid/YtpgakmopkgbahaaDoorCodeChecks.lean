/- The law CodeChecks, walked. -/
import Derived.Test.YtpgakmopkgbahaaDoorCodeF
set_option linter.unusedSimpArgs false
set_option linter.unusedVariables false
namespace Go.Proofs.YtpgakmopkgbahaaDoor
open Go.RowKit
theorem rep_later {α : Type} [Lay α] {w w' : World} {S : Nat → Prop} {x : α} {cs : List Value} (h : Lay.rep w S x cs) (hS : ∀ b, S b → b < w.heap.size) (hb : Below w.heap.size w w') : Lay.rep w' (Lt w'.heap.size) x cs :=
  Lay.more (fun b hb' => Nat.lt_of_lt_of_le (hS b hb') hb.size) (Lay.keep (Alike.below hb hS) h)
section
variable {w w1 w2 : World} {u v : Value} {t t' : TypeId}
theorem one_cell (h2 : Below (w1.alloc (.cells #[v] t)).heap.size (w1.alloc (.cells #[v] t)) w2) : w2.cell? ⟨w1.heap.size, 0, none⟩ = some v := by
  rw [h2.cell (by show w1.heap.size < _; simp)]; exact (World.cell?_alloc_new w1 _ _ _).trans rfl
theorem two_cell (h1 : Below (w.alloc (.cells #[u] t)).heap.size (w.alloc (.cells #[u] t)) w1) (h2 : Below (w1.alloc (.cells #[v] t')).heap.size (w1.alloc (.cells #[v] t')) w2) : w2.cell? ⟨w.heap.size, 0, none⟩ = some u := by
  have := h1.size
  simp only [World.size_alloc] at this
  rw [h2.cell (by show w.heap.size < _; simp; omega), World.cell?_alloc_lt _ _ _ (by show w.heap.size < _; omega)]
  exact one_cell h1
theorem two_below (h1 : Below (w.alloc (.cells #[u] t)).heap.size (w.alloc (.cells #[u] t)) w1) (h2 : Below (w1.alloc (.cells #[v] t')).heap.size (w1.alloc (.cells #[v] t')) w2) :
    Below (w.alloc (.cells #[u] t)).heap.size (w.alloc (.cells #[u] t)) w2 :=
  (h1.alloc h1.size _).trans (h2.mono (by have := h1.size; simp at this ⊢; omega))
theorem has_one (h : Has (w.alloc (.cells #[u] t))) (h1 : Below (w.alloc (.cells #[u] t)).heap.size (w.alloc (.cells #[u] t)) w1) : Has (w1.alloc (.cells #[v] t')) :=
  (h.keep h1 rfl).keep ((Below.refl _ _).alloc (Nat.le_refl _) _) rfl
end
set_option maxRecDepth 10000 in
set_option maxHeartbeats 2000000 in
theorem codeChecks_any (p : Prg) (u : Value) (w : World) (hp : Lay.rep w (Lt w.heap.size) p [u]) (hok : Lay.ok p) (hh : Has w) :
    Calls Tryd.prog 4 #[.agg #[u]] w fun e w' => e = .returned (.bool true) ∧ Below w.heap.size w w' := by
  have HP := Lib.hid hp
  have HOK := Lib.hid hok
  have HH := Lib.hid hh
  clear hp hok hh
  go_enter Tryd.func4, Tryd.ntmps4
  have hp0 : Lay.rep (w.alloc (.cells #[u] 29)) (Lt (w.alloc (.cells #[u] 29)).heap.size) p [u] := Lay.more (fun b hb => Nat.lt_of_lt_of_le hb (by simp)) (Lay.keep (Alike.alloc _ (fun _ h => h)) HP.out)
  have HP0 := Lib.hid hp0
  clear hp0
  go_wp2_with (first | (go_at_call 15; refine (programs_any p u _ HP0.out HOK.out).mono ?_; rintro e w1 ⟨v, rfl, hv, hb1⟩; obtain ⟨A, c, rfl, hAc, hcm, hAx⟩ := rep_funs_at (rep_prg.1 hv); clear hAc hcm hAx; have HV := Lib.hid hv; clear hv; have HB1 := Lib.hid hb1; clear hb1) | (go_at_call 16; refine (codeCheck_any p _ _ (rep_later HV.out (fun b hb => hb.2) ((Below.refl _ _).alloc (Nat.le_refl _) _)) (has_one (HH.out.keep ((Below.refl _ _).alloc (Nat.le_refl _) _) rfl) HB1.out)).mono ?_; rintro e w2 ⟨rfl, hb2⟩; have hcu2 := two_cell HB1.out hb2; have hcv2 := one_cell hb2; have HB2 := Lib.hid hb2; clear hb2) | (go_at_call 17; refine (progFault_any p _ _ (rep_later HP0.out (fun b hb => hb) (two_below HB1.out HB2.out))).mono ?_; rintro e w3 ⟨rfl, hb3⟩; have hcu3 := (hb3.cell (World.block_lt_of_cell? _ _ hcu2)).trans hcu2; have hcv3 := (hb3.cell (World.block_lt_of_cell? _ _ hcv2)).trans hcv2; have HB3 := Lib.hid hb3; clear hb3) | (go_at_call 18; refine (sameProgram_any p p _ _ _ (rep_later HV.out (fun b hb => hb.2) (((Below.refl _ _).alloc (Nat.le_refl _) _).trans ((HB2.out.trans (HB3.out.mono HB2.out.size)).mono (by simp)))) (rep_later HP0.out (fun b hb => hb) ((two_below HB1.out HB2.out).trans (HB3.out.mono (two_below HB1.out HB2.out).size)))).mono ?_; rintro e w4 ⟨rfl, hb4⟩; have HB4 := Lib.hid hb4; clear hb4))
  go_ret
  refine ⟨by simp, ?_⟩
  have h3 := (two_below HB1.out HB2.out).trans (HB3.out.mono (two_below HB1.out HB2.out).size)
  exact ((Below.refl _ _).alloc (Nat.le_refl _) _).trans ((h3.trans (HB4.out.mono h3.size)).mono (by simp))
end Go.Proofs.YtpgakmopkgbahaaDoor
