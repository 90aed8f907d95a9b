/- strconv.Atoi at every string, by the kit's contracts. -/
import Derived.Test.YtpnapnmkjpolmaaDoorNumLaw
import Derived.Test.YtpnapnmkjpolmaaDoorCat
import Derived.Test.YtpnapnmkjpolmaaDoorShelf
set_option linter.unusedSimpArgs false
set_option linter.unusedVariables false
namespace Go.Proofs.YtpnapnmkjpolmaaDoor
open Go.RowKit
/-- The two errors that Atoi hands on. -/
structure AtoiW (w : World) : Prop where
  syn : ∃ tp p, w.var? Tryd.prog "strconv.ErrSyntax" = some #[.iface tp p]
  rng : ∃ tp p, w.var? Tryd.prog "strconv.ErrRange" = some #[.iface tp p]
theorem Atoi_any (l : List UInt8) (hl : l.length ≤ 1000000) (w : World) (hw : AtoiW w) :
    Calls Tryd.prog 22 #[.string (bstr l)] w fun e w' => ∃ ev, e = .returned (.tuple #[.int .i64 (atoiV l), ev]) ∧ Below w.heap.size w w' := by
  have hs := bstr_size l
  cases ha : Lib.atoiAll l with
  | ok v =>
    have hv : atoiV l = v := by unfold atoiV; rw [ha]
    refine (Tryd.strconv_Atoi_ok (bstr l) (by omega) v (by rw [bstr_data]; exact ha) w).mono ?_
    rintro e w' ⟨rfl, h⟩
    refine ⟨_, by rw [hv], ?_⟩
    rcases h with rfl | ⟨t, rfl⟩
    · exact Below.refl _ _
    · have h1 := Lib.bytesWorld_size w 5 t
      exact ⟨rfl, rfl, rfl, by rw [h1]; omega, fun k hk => Lib.bytesWorld_at_old w 5 t k hk⟩
  | «syntax» =>
    have hv : atoiV l = 0 := by unfold atoiV; rw [ha]
    obtain ⟨tp, p, hp⟩ := hw.syn
    refine (Tryd.strconv_Atoi_syntax_var (bstr l) (by omega) (by rw [bstr_data]; exact ha) tp p w hp).mono ?_
    rintro e w' ⟨N, rfl, _, _, hb⟩
    exact ⟨_, by rw [hv], hb⟩
  | range =>
    have hv : atoiV l = Lib.atoiSat l := by unfold atoiV; rw [ha]
    obtain ⟨tp, p, hp⟩ := hw.rng
    refine (Tryd.strconv_Atoi_range_var (bstr l) (by omega) (by rw [bstr_data]; exact ha) tp p w hp).mono ?_
    rintro e w' ⟨N, rfl, _, _, hb⟩
    exact ⟨_, by rw [hv, bstr_data], hb⟩
end Go.Proofs.YtpnapnmkjpolmaaDoor
