/- A round of a range over a function is walked by the rules for plain walks: a list of operations without a defer statement goes in a round as anywhere. No program is named here. -/
import Derived.Test.YtpnapnmkjpolmaaDoorHp
import Derived.RangeFuncNested
import Derived.OrdersIn
import Derived.OrdersHeld
import Derived.TacticsIn
set_option linter.unusedSimpArgs false
set_option linter.unusedVariables false
namespace Go.Proofs.YtpnapnmkjpolmaaDoor
open Go.RowKit

/-- No defer statement. -/
def nod (o : Oper) : Bool := match o.op with
  | .defer _ => false
  | _ => true
theorem nod_spec {o : Oper} (h : nod o = true) (c : Call) : o.op ≠ .defer c := fun e => by simp [nod, e] at h

/-- The wide fence, in a round or not. -/
abbrev Wf (ro : Option Nat) : Fence := { Fence.wide with round := ro }

section
variable {P : Program} {ops : Array Oper} {Q : Exit → Act → World → Prop} {ro : Option Nat} {n : Nat}

theorem callsIn_wf {f : FuncId} {args : Array Value} {w : World} {R : Ending → World → Prop} (h : Calls P f args w R) : CallsIn (Wf ro) n P f args w R := callsIn_wide.2 h
theorem rowsIn_wf {row : String} {args : Array Value} {w : World} {R : Value → World → Prop} (h : Rows P row args w R) : RowsIn (Wf ro) n P row args w R :=
  fun c cs _ => let ⟨v, w', r, s⟩ := h c cs; ⟨v, w', r, stepsIn_wide.2 s⟩

theorem oper_in {o : Oper} {a : Act} {w : World} {next next' : Act → World → Prop} (hd : nod o = true) (hn : ∀ a w, next a w → next' a w) (h : o.wp P a w next Q) : o.wpIn (Wf ro) n P a w next' Q := by
  unfold Oper.wp at h
  refine ⟨fun _ _ => trivial, ?_⟩
  rw [show (Wf ro).round = ro from rfl, Oper.semAt_eq ro _ _ (nod_spec hd)]
  generalize (execOp a.eval o).run P w = r at *
  cases r with
  | ok x w' =>
    cases x <;> simp only [Oper.upon, Oper.uponIn] at h ⊢
    case value v => exact hn _ _ h
    case skip => exact hn _ _ h
    case defer d => exact hn _ _ h
    case enter f args => exact ⟨fun e => (by cases e), callsIn_wf (Calls.mono h fun e w'' he => by cases e <;> first | exact hn _ _ he | exact he)⟩
    case row row args => exact ⟨fun e => (by cases e), rowsIn_wf (Rows.mono h fun _ _ he => hn _ _ he)⟩
  | halt x w' => cases x <;> simp only [Oper.upon, Oper.uponIn] at h ⊢ <;> exact h

theorem wpList_in (hO : ∀ a w, ¬ Q .outgrown a w) : ∀ (l : List Oper), l.all nod = true → ∀ (a : Act) (w : World), wpList P ops Q l a w → wpListIn (Wf ro) n P ops Q l a w
  | [], _, _, _, h => h
  | o :: rest, hd, a, w, h => by
    rw [List.all_cons, Bool.and_eq_true] at hd
    simp only [wpList, wpListIn] at h ⊢
    split
    · rename_i hw
      rw [if_pos hw] at h
      rcases h with h | ⟨_, a1, w1, h⟩
      · exact oper_in hd.1 (wpList_in hO rest hd.2) h
      · exact absurd h (hO _ _)
    · rename_i hw
      rw [if_neg hw] at h
      exact ⟨fun _ _ => trivial, wpList_in hO rest hd.2 _ _ h⟩

theorem wpOp_in (hO : ∀ a w, ¬ Q .outgrown a w) (hd : ops.all nod = true) {K K' : Act → World → Prop} (hK : ∀ a w, K a w → K' a w) {i : Nat} {a : Act} {w : World} (h : wpOp P ops Q i K a w) : wpOpIn (Wf ro) n P ops Q i K' a w := by
  unfold wpOp at h
  unfold wpOpIn
  cases ho : ops[i]? with
  | none => simp only [ho] at h ⊢; exact hK _ _ h
  | some o =>
    simp only [ho] at h ⊢
    have hdo : nod o = true := by
      rw [Array.all_eq_true] at hd
      obtain ⟨hi, e⟩ := Array.getElem?_eq_some_iff.1 ho
      rw [← e]; exact hd i hi
    split
    · rename_i hw
      rw [if_pos hw] at h
      rcases h with h | ⟨_, a1, w1, h⟩
      · exact oper_in hdo hK h
      · exact absurd h (hO _ _)
    · rename_i hw
      rw [if_neg hw] at h
      exact ⟨fun _ _ => trivial, hK _ _ h⟩

theorem wpAny_in (hO : ∀ a w, ¬ Q .outgrown a w) (hd : ops.all nod = true) {md : Region.Mode} : ∀ (fuel : Nat) (listed : Array Bool) (a : Act) (w : World), wpAny P md ops Q fuel listed a w → wpAnyIn (Wf ro) n P md ops Q fuel listed a w
  | 0, _, _, _, h => h
  | fuel + 1, _, _, _, h => ⟨h.1, fun i hi => wpOp_in hO hd (fun a' w' h' => wpAny_in hO hd fuel _ a' w' h') (h.2 i hi)⟩

/-- A region that keeps its order. -/
theorem wpR_region {id : Nat} {l : List Oper} {a : Act} {w : World} (hO : ∀ a w, ¬ Q .outgrown a w) (hd : l.all nod = true) (h : wpList P l.toArray Q l a w) : (Code.region id l.toArray false).wpIn (Wf ro) n P Q a w :=
  wpIn_region_lit (wpList_in hO l hd a w h)
/-- A region that draws its order. -/
theorem wpR_held {id : Nat} {S : World → Prop} {a : Act} {w : World} (hm : P.follows .mixedOrders = true) (hO : ∀ a w, ¬ Q .outgrown a w) (hd : ops.all nod = true)
    (h : wpAnyH P .any ops Q S ops.size (Array.replicate ops.size false) a w.drew) : (Code.region id ops true).wpIn (Wf ro) n P Q a w :=
  wpIn_region_any hm (wpAny_in hO hd _ _ _ _ (wpAny_of_held _ _ _ _ h))
/-- A region that draws its order, where it is not known that the post lets out. -/
theorem wpR_held2 {id : Nat} {S : World → Prop} {a : Act} {w : World} (hm : P.follows .mixedOrders = true) (hd : ops.all nod = true)
    (h : wpAnyH P .any ops (fun e a w => e ≠ .outgrown ∧ Q e a w) S ops.size (Array.replicate ops.size false) a w.drew) : (Code.region id ops true).wpIn (Wf ro) n P Q a w :=
  wpIn_mono (wpR_held (Q := fun e a w => e ≠ .outgrown ∧ Q e a w) hm (fun _ _ h => h.1 rfl) hd h) fun _ _ _ h => h.2
theorem wpR_region2 {id : Nat} {l : List Oper} {a : Act} {w : World} (hd : l.all nod = true) (h : wpList P l.toArray (fun e a w => e ≠ .outgrown ∧ Q e a w) l a w) : (Code.region id l.toArray false).wpIn (Wf ro) n P Q a w :=
  wpIn_mono (wpR_region (Q := fun e a w => e ≠ .outgrown ∧ Q e a w) (fun _ _ h => h.1 rfl) hd h) fun _ _ _ h => h.2
end
theorem and_normal {X : Prop} (h : X) : Exit.normal ≠ Exit.outgrown ∧ X := ⟨by simp, h⟩
end Go.Proofs.YtpnapnmkjpolmaaDoor
