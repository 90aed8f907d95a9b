/- A block of memory of any kind that is owned: laid, read, written. No program is named here. -/
import Derived.Test.YtpnapnmkjpolmaaDoorHpSub
import Derived.RangeFuncRecord
set_option linter.unusedSimpArgs false
set_option linter.unusedVariables false
namespace Go.Proofs.YtpnapnmkjpolmaaDoor
open Go.RowKit
section
variable {w0 w : World} {Fs Fs' : List Fro} {L A B : List Res} {g : Nat} {o : Obj}
theorem Hp.theObj (h : Hp w0 Fs L w) (hr : Res.obj g o ∈ L) : w.heap[g]? = some o := (h.own _ hr).1
theorem Hp.newObj (h : Hp w0 Fs L w) (o : Obj) : Hp w0 Fs (.obj w.heap.size o :: L) (w.alloc o) :=
  h.add (World.grownBy_alloc w _ none) (World.alloc_heap_new w o) (fun b hb => by cases hb; simp)
theorem Hp.putObj (h : Hp w0 Fs (A ++ .obj g o :: B) w) (o' : Obj) : Hp w0 Fs (A ++ .obj g o' :: B) (w.putObj g o') := by
  have hg := h.own (.obj g o) (by simp)
  have hlt := (hg.2 g rfl).2.1
  refine h.chg (r' := .obj g o') ⟨rfl, rfl, rfl, by simp, fun b _ hne => World.putObj_heap_other (fun e => hne (by rw [e]; rfl))⟩ (World.putObj_heap_same hlt) (fun b hb => .inl hb)
end
end Go.Proofs.YtpnapnmkjpolmaaDoor
