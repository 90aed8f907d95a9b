/- strings.Split at a blank, by the kit's contract. -/
import Derived.Test.YtpnapnmkjpolmaaDoorNumLaw
import Derived.Test.YtpnapnmkjpolmaaDoorSheetTab
import Derived.Test.YtpnapnmkjpolmaaDoorMgFunsInPr2
import Derived.Test.YtpnapnmkjpolmaaDoorShelf
set_option linter.unusedSimpArgs false
set_option linter.unusedVariables false
namespace Go.Proofs.YtpnapnmkjpolmaaDoor
open Go.RowKit
theorem countB_sp (l : List UInt8) : Lib.countB (bstr l) ⟨#[32]⟩ = l.count 32 := by
  unfold Lib.countB
  rw [bstr_data]
  exact Lib.count_one 32 l
theorem splitB_sp (l : List UInt8) : Lib.splitB ⟨#[32]⟩ 0 (l.count 32) (bstr l) = (splitSp l).map bstr := by
  have h := Lib.splitB_data ⟨#[32]⟩ 0 (l.count 32) (bstr l)
  rw [bstr_data] at h
  have h2 : (Lib.splitB ⟨#[32]⟩ 0 (l.count 32) (bstr l)).map (·.data.toList) = splitSp l := by rw [h]; exact splitK_sp l
  rw [← h2, List.map_map]
  have : (bstr ∘ fun x : ByteArray => x.data.toList) = id := by
    funext x
    apply ByteArray.ext
    apply Array.toList_inj.1
    exact bstr_data _
  rw [this, List.map_id]
theorem splitSp_len : ∀ l : List UInt8, (splitSp l).length = l.count 32 + 1
  | [] => rfl
  | c :: r => by
    by_cases h : c = 32
    · subst h
      rw [splitSp_sp, List.count_cons_self, List.length_cons, splitSp_len r]
    · rw [splitSp_other _ h, List.count_cons_of_ne (by simpa using h), List.length_cons, List.length_tail, splitSp_len r]
      omega
theorem Split_any (l : List UInt8) (hl : l.length ≤ 1000000) (w : World) (m : Int) (hm : w.cell? ⟨4, 0, none⟩ = some (.int .i64 m)) :
    Calls Tryd.prog 20 #[.string (bstr l), .string ⟨#[32]⟩] w fun e w' => ∃ v, e = .returned v ∧ Lay.rep w' (Fresh w w') ((splitSp l).map bstr) [v] ∧ Below w.heap.size w w' := by
  have hs := bstr_size l
  have hc := List.count_le_length (a := (32 : UInt8)) (l := l)
  refine (Tryd.strings_Split (bstr l) ⟨#[32]⟩ m w (by omega) hm (by decide)).mono ?_
  rintro e w' ⟨rfl, rfl⟩
  rw [countB_sp, splitB_sp]
  refine ⟨_, rfl, ⟨_, _, by rw [List.length_map, splitSp_len], by rw [List.length_map, splitSp_len]; exact Nat.le_refl _, by unfold maxLen; omega, fun k x hx => ⟨_, [.string x], rfl, ⟨Nat.le_refl _, by simp⟩, fun j u hu => ?_, rfl⟩⟩, (Below.refl _ _).alloc (Nat.le_refl _) _⟩
  have hj : j = 0 := by have := (List.getElem?_eq_some_iff.1 hu).1; simpa using this
  subst hj
  simp at hu
  subst hu
  have hb := (Blk.new w 9 (((splitSp l).map bstr).map Value.string).toArray).cell k
  rw [add_of_add]
  rw [show ((⟨w.heap.size, 0, none⟩ : Addr).add (k * Lay.size ByteArray + 0)) = ⟨w.heap.size, k, none⟩ from by simp [Addr.add, Lay.size]; omega]
  refine hb.trans ?_
  rw [List.getElem?_toArray, List.getElem?_map, hx]
  rfl
end Go.Proofs.YtpnapnmkjpolmaaDoor
