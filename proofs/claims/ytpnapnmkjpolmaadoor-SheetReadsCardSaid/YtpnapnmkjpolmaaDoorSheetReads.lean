/- The law SheetReads, walked. -/
import Derived.Test.YtpnapnmkjpolmaaDoorSheetRead
import Derived.Test.YtpnapnmkjpolmaaDoorProgRead
import Derived.Test.YtpnapnmkjpolmaaDoorSheetTab
set_option linter.unusedSimpArgs false
set_option linter.unusedVariables false
namespace Go.Proofs.YtpnapnmkjpolmaaDoor
open Go.RowKit
attribute [local irreducible] wpList Code.wp Oper.wp
/-- What the reading of a text reads of the library. -/
structure ReadTabs (W : World) : Prop where
  has : Has W
  pow : Pow W
  wds : Wds W
  ato : AtoiW W
  max : ∃ m, W.cell? ⟨4, 0, none⟩ = some (.int .i64 m)
set_option maxRecDepth 10000 in
set_option maxHeartbeats 4000000 in
theorem sheetReads_l (l : List UInt8) (w : World) (hh : ReadTabs w) :
    Calls Tryd.prog 4 #[.string (bstr l)] w fun e w' => e = .returned (.bool true) ∧ Below w.heap.size w w' := by
  obtain ⟨ml, hml⟩ := hh.max
  have HRD := Lib.hid (Read_any l w hh.has hh.pow hh.wds hh.ato ml hml)
  have HPR := Lib.hid (fun wq => ProgramRead_any l wq)
  obtain ⟨⟨⟨pf⟩, k, z⟩, hra⟩ : ∃ x, readAns l = x := ⟨_, rfl⟩
  rw [hra] at HRD HPR
  clear hra hml hh
  have HP := Lib.hid (Hp.start w)
  go_enter Tryd.func4, Tryd.ntmps4
  go_upto_region 3 with (first | (go_at_call 9; refine HRD.out.mono ?_; rintro e w1 ⟨v1, rfl, hv1, hb1⟩; replace HP := Lib.hid (HP.out.call hb1); have HV1 := Lib.hid hv1; clear hb1 hv1) | (go_at_call 10; refine (HPR.out _).mono ?_; rintro e w2 ⟨v2, rfl, hv2, hb2⟩; replace HP := Lib.hid (HP.out.call hb2); have HV2 := Lib.hid hv2; clear hb2 hv2) | (refine wpList_alloc_hp (o := ⟨some 3, _, _, _, _, _⟩) rfl _ rfl HP.out (.agg #[.slice none 0 0]) (by kernel_rfl) [_] rfl ?_; clear HP; intro g3 w3 HP; replace HP := Lib.hid HP) | (refine wpList_alloc_hp (o := ⟨some 6, _, _, _, _, _⟩) rfl _ rfl HP.out (.agg #[.slice none 0 0]) (by kernel_rfl) [_] rfl ?_; clear HP; intro g6 w6 HP; replace HP := Lib.hid HP) | (refine wpList_stR0 rfl 24 _ _ rfl HP.out rfl (cs' := [v1]) rfl rfl (by obtain ⟨_, _, e9, -, -, -⟩ := rep_list (rep_prg.1 HV1.out); cases e9; simp [Value.oneCell']) (by kernel_rfl) ?_; clear HP; intro wst HP; replace HP := Lib.hid HP) | (refine wpList_stR0 rfl 24 _ _ rfl HP.out rfl (cs' := [v2]) rfl rfl (by obtain ⟨_, _, e9, -, -, -⟩ := rep_list (rep_prg.1 HV2.out); cases e9; simp [Value.oneCell']) (by kernel_rfl) ?_; clear HP; intro wst HP; replace HP := Lib.hid HP))
  (try simp only [Act.put, List.setIfInBounds_toArray, List.set_cons_zero, List.set_cons_succ])
  obtain ⟨G2, HP, HS2⟩ : ∃ G : Fro, Hid (Hp w [G, ⟨w1, fun b => w.heap.size ≤ b ∧ b < w1.heap.size⟩, ⟨w, Lt w.heap.size⟩] [.blk g6 24 [v2], .blk g3 24 [v1]] wst) ∧ Hid (Lay.rep G.w G.S (⟨pf⟩ : Prg) [v2]) := ⟨_, HP, HV2⟩
  have HM6 := Lib.hid (HP.out.blkAt (g := g6) (t := 24) (cs := [v2]) (.head _) 0)
  have HM3 := Lib.hid (HP.out.blkAt (g := g3) (t := 24) (cs := [v1]) (.tail _ (.head _)) 0)
  have HSM := Lib.hid (show Calls Tryd.prog 8 #[.agg #[v1], .agg #[v2]] wst fun e w' => e = .returned (.bool true) ∧ Below wst.heap.size wst w' by
    have := sameProgram_any ⟨pf⟩ ⟨pf⟩ v1 v2 wst (HP.out.rep (F := ⟨w1, fun b => w.heap.size ≤ b ∧ b < w1.heap.size⟩) (by simp) HV1.out) (HP.out.rep (.head _) HS2.out)
    rwa [decide_eq_true rfl] at this)
  go_wp2_with (first | (refine wpList_load_wr rfl 24 _ rfl ⟨g3, 0, none⟩ rfl [v1] _ HM3.out Tryd.underlying24 rfl (by kernel_rfl) ?_) | (refine wpList_load_wr rfl 24 _ rfl ⟨g6, 0, none⟩ rfl [v2] _ HM6.out Tryd.underlying24 rfl (by kernel_rfl) ?_) | (go_at_call 8; refine HSM.out.mono ?_; rintro e w4 ⟨rfl, hb⟩; replace HP := Lib.hid (HP.out.call0 hb); clear hb))
  go_ret
  exact ⟨ret_bool (by simp), HP.out.below⟩
theorem sheetReads_any (s : ByteArray) (w : World) (hh : ReadTabs w) :
    Calls Tryd.prog 4 #[.string s] w fun e w' => e = .returned (.bool true) ∧ Below w.heap.size w w' := by
  have e : s = bstr s.data.toList := by unfold bstr; simp
  rw [e]
  exact sheetReads_l _ w hh
end Go.Proofs.YtpnapnmkjpolmaaDoor
