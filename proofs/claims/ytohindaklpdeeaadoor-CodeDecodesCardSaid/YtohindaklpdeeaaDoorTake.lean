/- code.reader.take. -/
import Derived.Test.YtohindaklpdeeaaDoorHpB
import Derived.Test.YtohindaklpdeeaaDoorCodeC
import Derived.Test.YtohindaklpdeeaaDoorSameB
import Derived.WalkLawsBesides
set_option linter.unusedSimpArgs false
set_option linter.unusedVariables false
namespace Go.Proofs.YtohindaklpdeeaaDoor
open Go.RowKit
attribute [local irreducible] wpList Code.wp Oper.wp
/-- The reader has no byte left. -/
theorem take_nil (g : Nat) (V : Value) (w w1 : World) (S : Nat → Prop) (hc : w.cell? ⟨g, 0, none⟩ = some V) (hV : RepB w1 S [] V) :
    Calls Tryd.prog 13 #[.pointer (some ⟨g, 0, none⟩)] w fun e w' => e = .panicked [{ v := .iface 27 (.int .i64 4), recovered := false }] ∧ w' = w := by
  obtain ⟨A, c, rfl, -, -, -⟩ := hV
  simp only [List.length_nil] at hc
  go_enter Tryd.func13, Tryd.ntmps13
  go_wp2
  exact ⟨rfl, rfl, rfl⟩
/-- It gives the next byte. -/
theorem take_cons (g : Nat) (V : Value) (b : Int) (rest : List Int) (w w1 : World) (S : Nat → Prop) (hc : w.cell? ⟨g, 0, none⟩ = some V) (hf : w.frozen? ⟨g, 0, none⟩ = false) (hV : RepB w1 S (b :: rest) V) (ha : Alike S w1 w) (h0 : 0 ≤ b) (h1 : b < 256) :
    Calls Tryd.prog 13 #[.pointer (some ⟨g, 0, none⟩)] w fun e w' => e = .returned (.int .i64 b) ∧ ∃ V', w' = w.setCell ⟨g, 0, none⟩ V' ∧ RepB w1 S rest V' := by
  obtain ⟨A, c, rfl, hn, hcm, hx⟩ := hV
  obtain ⟨a, rfl, hab, hb⟩ := hx 0 b rfl
  have hb := (ha _ (by rw [block_of_add]; exact hab)).trans hb
  rw [show a.add 0 = a by simp [Addr.add]] at hb
  have HX := Lib.hid hx
  rw [List.length_cons] at hn hc
  obtain ⟨n, hln⟩ : ∃ n, rest.length = n := ⟨_, rfl⟩
  rw [hln] at hn hc
  have HL := Lib.hid hln
  have HEND := Lib.hid (show ∀ (A' : Option Addr), (0 < n → A' = some (a.add 1)) → RepB w1 S rest (.slice A' n (c - 1)) from fun A' h => ⟨A', c - 1, by rw [hln], by omega, by omega, fun k x hk => by
    have hkl := (List.getElem?_eq_some_iff.1 hk).1
    obtain ⟨a2, e, h2, h3⟩ := hx (k + 1) x (by simpa using hk)
    cases e
    refine ⟨_, h (by omega), by rw [block_of_add]; exact h2, ?_⟩
    rw [add_of_add, Nat.add_comm]; exact h3⟩)
  unfold maxLen at hcm
  clear hx hln hab ha
  by_cases hc1 : c = 1
  · subst hc1
    obtain rfl : n = 0 := by omega
    have HE := Lib.hid (HEND.out (some a) (fun h => by omega))
    simp only [Nat.sub_self] at HE
    go_enter Tryd.func13, Tryd.ntmps13
    go_wp2
    (try simp only [Exit.inBlock, Exit.then])
    refine bodyPost_ret (results_tmp (by rfl) _ _ _) (by rfl) ?_
    exact ⟨rfl, _, rfl, HE.out⟩
  · have HE := Lib.hid (HEND.out _ (fun _ => rfl))
    go_enter Tryd.func13, Tryd.ntmps13
    go_wp2
    (try simp only [Exit.inBlock, Exit.then])
    refine bodyPost_ret (results_tmp (by rfl) _ _ _) (by rfl) ?_
    exact ⟨rfl, _, rfl, HE.out⟩
end Go.Proofs.YtohindaklpdeeaaDoor
