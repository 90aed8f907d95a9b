/- The law CodeChecks, walked. -/
import Derived.Test.YtohindaklpdeeaaDoorCodeF
set_option linter.unusedSimpArgs false
set_option linter.unusedVariables false
namespace Go.Proofs.YtohindaklpdeeaaDoor
open Go.RowKit
theorem rep_later {α : Type} [Lay α] {w w' : World} {S : Nat → Prop} {x : α} {cs : List Value} (h : Lay.rep w S x cs) (hS : ∀ b, S b → b < w.heap.size) (hb : Below w.heap.size w w') : Lay.rep w' (Lt w'.heap.size) x cs :=
  Lay.more (fun b hb' => Nat.lt_of_lt_of_le (hS b hb') hb.size) (Lay.keep (Alike.below hb hS) h)
section
variable {w w1 w2 : World} {u v : Value} {t t' : TypeId}
theorem one_cell (h2 : Below (w1.alloc (.cells #[v] t)).heap.size (w1.alloc (.cells #[v] t)) w2) : w2.cell? ⟨w1.heap.size, 0, none⟩ = some v := by
  rw [h2.cell (by show w1.heap.size < _; simp)]; exact (World.cell?_alloc_new w1 _ _ _).trans rfl
theorem two_cell (h1 : Below (w.alloc (.cells #[u] t)).heap.size (w.alloc (.cells #[u] t)) w1) (h2 : Below (w1.alloc (.cells #[v] t')).heap.size (w1.alloc (.cells #[v] t')) w2) : w2.cell? ⟨w.heap.size, 0, none⟩ = some u := by
  have := h1.size
  simp only [World.size_alloc] at this
  rw [h2.cell (by show w.heap.size < _; simp; omega), World.cell?_alloc_lt _ _ _ (by show w.heap.size < _; omega)]
  exact one_cell h1
theorem two_below (h1 : Below (w.alloc (.cells #[u] t)).heap.size (w.alloc (.cells #[u] t)) w1) (h2 : Below (w1.alloc (.cells #[v] t')).heap.size (w1.alloc (.cells #[v] t')) w2) :
    Below (w.alloc (.cells #[u] t)).heap.size (w.alloc (.cells #[u] t)) w2 :=
  (h1.alloc h1.size _).trans (h2.mono (by have := h1.size; simp at this ⊢; omega))
theorem has_one (h : Has (w.alloc (.cells #[u] t))) (h1 : Below (w.alloc (.cells #[u] t)).heap.size (w.alloc (.cells #[u] t)) w1) : Has (w1.alloc (.cells #[v] t')) :=
  (h.keep h1 rfl).keep ((Below.refl _ _).alloc (Nat.le_refl _) _) rfl
end
end Go.Proofs.YtohindaklpdeeaaDoor
