/- The law's sameBytes. -/
import Derived.Test.YtohindaklpdeeaaDoorHpB
import Derived.Test.YtohindaklpdeeaaDoorRows
import Derived.Laws.BytesString
import Derived.Laws.IdiomStrings
set_option linter.unusedSimpArgs false
set_option linter.unusedVariables false
namespace Go.Proofs.YtohindaklpdeeaaDoor
open Go.RowKit
attribute [local irreducible] wpList Code.wp Oper.wp
def strOf (bs : List Int) : ByteArray := bs.foldl (fun r n => r.push (UInt8.ofNat n.toNat)) ByteArray.empty
theorem run_conv {w : World} {S : Nat → Prop} {bs : List Int} {A : Option Addr} {c : Nat} (h : ∀ (k : Nat) (x : Int), bs[k]? = some x → ∃ a, A = some a ∧ S a.block ∧ w.cell? (a.add k) = some (.int .u8 x)) :
    (convert 22 9 (.slice A bs.length c)).run Tryd.prog w = .ok (.string (strOf bs)) w := by
  rw [run_convert_bytes_string w 22 9 5 A bs.length c Tryd.underlying22 (by kernel_rfl) (by kernel_rfl)]
  cases A with
  | none =>
    have : bs = [] := by
      cases bs with
      | nil => rfl
      | cons x l => obtain ⟨a, e, _⟩ := h 0 x rfl; cases e
    subst this
    simp [Conv.bytesToString, strOf, Sem.run_pure]
  | some a =>
    have hl := run_loadCells_list (P := Tryd.prog) w a (bs.map (Value.int .u8)) (fun j v hj => by
      rw [List.getElem?_map] at hj
      cases hb : bs[j]? with
      | none => rw [hb] at hj; cases hj
      | some x =>
        rw [hb] at hj
        cases hj
        obtain ⟨a', e, _, h2⟩ := h j x hb
        cases e
        exact h2)
    rw [List.length_map] at hl
    exact run_bytesToString w a bs.length c bs hl
set_option maxRecDepth 10000 in
set_option maxHeartbeats 1000000 in
theorem sameBytes_any (bs : List Int) (u v : Value) (w : World) (hu : RepB w (Lt w.heap.size) bs u) (hv : RepB w (Lt w.heap.size) bs v) :
    Calls Tryd.prog 9 #[u, v] w fun e w' => e = .returned (.bool true) ∧ Below w.heap.size w w' := by
  obtain ⟨A, c, rfl, hc, hm, hx⟩ := hu
  obtain ⟨B, d, rfl, hd, hn, hy⟩ := hv
  have HX := Lib.hid hx
  have HY := Lib.hid hy
  clear hx hy
  go_enter Tryd.func9, Tryd.ntmps9
  have h1 := run_conv (c := c) HX.out
  have h2 := run_conv (c := d) HY.out
  obtain ⟨S, hS⟩ : ∃ S, strOf bs = S := ⟨_, rfl⟩
  rw [hS] at h1 h2
  go_wp2
  go_ret
  exact ⟨ret_bool (by simp), Below.refl _ _⟩
end Go.Proofs.YtohindaklpdeeaaDoor
