/- ref.RunOf. -/
import Derived.Test.YtfhoffpdodjfeaaDoorStepd
import Derived.Test.YtfhoffpdodjfeaaDoorNext
import Derived.Test.YtfhoffpdodjfeaaDoorMgBegRunMdAMdBMdC4
import Derived.Test.YtfhoffpdodjfeaaDoorBeginB
set_option linter.unusedSimpArgs false
set_option linter.unusedVariables false
namespace Go.Proofs.YtfhoffpdodjfeaaDoor
open Go.RowKit Plain64
attribute [local irreducible] wpList Code.wp Oper.wp
theorem Hp.froSub {w0 w : World} {Fs Fs' : List Fro} {L : List Res} (h : Hp w0 Fs L w) (hs : ∀ F ∈ Fs', F ∈ Fs) : Hp w0 Fs' L w :=
  ⟨h.below, fun F hF => h.fro F (hs F hF), fun r hr => ⟨(h.own r hr).1, fun b hb => ⟨((h.own r hr).2 b hb).1, ((h.own r hr).2 b hb).2.1, fun F hF => ((h.own r hr).2 b hb).2.2 F (hs F hF)⟩⟩, h.apart⟩
theorem proven_of_fault {p : Prg} {s : Sta} (h : stateFault p s = 0) : proven p = 0 := (sf_zero h).1
theorem next_fuel_le {p : Prg} {s : Sta} {fs : List Frm} {f : Frm} : (nextOf p s fs f).fuel ≤ s.fuel := by
  apply nextOf_ind (P := fun t => t.fuel ≤ s.fuel)
  all_goals intros; first | exact Int.le_refl _ | (show s.fuel - 1 ≤ s.fuel; omega)
def runMu (g : Nat) (wr : World) : Nat := 2 * (intOf ((wr.cell? ⟨g, 19, none⟩).getD undef)).toNat + (if intOf ((wr.cell? ⟨g, 0, none⟩).getD undef) = 0 then 1 else 0)
theorem runMu_of {g : Nat} {wr : World} {n m : Int} (h1 : wr.cell? ⟨g, 19, none⟩ = some (iV n)) (h2 : wr.cell? ⟨g, 0, none⟩ = some (iV m)) : runMu g wr = 2 * n.toNat + (if m = 0 then 1 else 0) := by
  unfold runMu; rw [h1, h2]; rfl
set_option maxRecDepth 100000 in
set_option maxHeartbeats 4000000 in
theorem RunOf_any (p : Prg) (v : Value) (xs ys : List Int) (u1 u2 : Value) (fuel : Int) (w : World) (hp : Lay.rep w (Lt w.heap.size) p [v]) (hx : Lay.rep w (Lt w.heap.size) xs [u1]) (hy : Lay.rep w (Lt w.heap.size) ys [u2]) (him : ∀ f ∈ p.funcs, ∀ x ∈ f.code, I64 x.imm) (hxi : ∀ x ∈ xs, I64 x) (hyi : ∀ y ∈ ys, I64 y) :
    Calls Tryd.prog 38 #[.agg #[v], u1, u2, .int .i64 fuel] w fun r w' => ∃ u e a, r = .returned (.tuple #[.agg (staCells (runAns p xs ys fuel).1 u e a).toArray, .int .i64 (runAns p xs ys fuel).2]) ∧ Lay.rep w' (Fresh w w') (runAns p xs ys fuel).1.frames [u] ∧ Lay.rep w' (Fresh w w') (runAns p xs ys fuel).1.events [e] ∧ Lay.rep w' (Fresh w w') (runAns p xs ys fuel).1.answers [a] ∧ Below w.heap.size w w' := by
  have HR := Lib.hid hp
  have HX := Lib.hid hx
  have HY := Lib.hid hy
  have HIM := Lib.hid him
  have HXI := Lib.hid hxi
  have HYI := Lib.hid hyi
  clear hp hx hy him hxi hyi
  have HP := Lib.hid (Hp.start w)
  by_cases hz : (begunAns p xs ys fuel).2 = 0
  · obtain ⟨hb1, hpz, hyl, hfu⟩ := begun_ok hz
    have HANS := Lib.hid (show runAns p xs ys fuel = (endS p (begunAns p xs ys fuel).1, 0) by unfold runAns; rw [if_neg (by simpa using hz)])
    have HRUN := Lib.hid (show RunOk p (begunAns p xs ys fuel).1 by rw [hb1]; exact beg_run hpz HXI.out HYI.out hyl hfu)
    have HSF := Lib.hid (show stateFault p (begunAns p xs ys fuel).1 = 0 by rw [hb1]; exact beg_fault hpz hyl hfu)
    have HZ := Lib.hid hz
    clear hb1 hpz hyl hfu hz
    go_enter Tryd.func38, Tryd.ntmps38
    go_upto_region 2 with (first | (refine wpList_alloc_hp (o := ⟨some 8, _, _, _, _, _⟩) rfl _ rfl HP.out (.agg #[.int .i64 0, .int .i64 0, .slice none 0 0, .int .i64 0, .int .i64 0, .int .i64 0, .int .i64 0, .int .i64 0, .int .i64 0, .int .i64 0, .int .i64 0, .int .i64 0, .int .i64 0, .int .i64 0, .int .i64 0, .int .i64 0, .int .i64 0, .int .i64 0, .int .i64 0, .int .i64 0, .slice none 0 0, .slice none 0 0]) (by kernel_rfl) [_, _, _, _, _, _, _, _, _, _, _, _, _, _, _, _, _, _, _, _, _, _] rfl ?_; clear HP; intro g8 w8 HP; replace HP := Lib.hid HP) | (refine wpList_alloc_hp (o := ⟨some 10, _, _, _, _, _⟩) rfl _ rfl HP.out (.agg #[.int .i64 0, .int .i64 0, .slice none 0 0, .int .i64 0, .int .i64 0, .int .i64 0, .int .i64 0, .int .i64 0, .int .i64 0, .int .i64 0, .int .i64 0, .int .i64 0, .int .i64 0, .int .i64 0, .int .i64 0, .int .i64 0, .int .i64 0, .int .i64 0, .int .i64 0, .int .i64 0, .slice none 0 0, .slice none 0 0]) (by kernel_rfl) [_, _, _, _, _, _, _, _, _, _, _, _, _, _, _, _, _, _, _, _, _, _] rfl ?_; clear HP; intro g10 w10 HP; replace HP := Lib.hid HP) | (refine wpList_box_hp (o := ⟨some 4, _, _, _, _, _⟩) rfl _ _ rfl HP.out [_] rfl ?_; clear HP; intro g4 w4 HP; replace HP := Lib.hid HP) | (refine wpList_ldR0 rfl 24 _ rfl HP.out rfl Tryd.underlying24 rfl (by kernel_rfl) ?_) | (refine wpList_ldR1 rfl 24 _ rfl HP.out rfl Tryd.underlying24 rfl (by kernel_rfl) ?_) | (refine wpList_ldR2 rfl 24 _ rfl HP.out rfl Tryd.underlying24 rfl (by kernel_rfl) ?_) | (go_at_call 17; refine (Begun_any p _ xs ys _ _ fuel _ (HP.out.rep (F := ⟨w, Lt w.heap.size⟩) (by simp) HR.out) (HP.out.rep (F := ⟨w, Lt w.heap.size⟩) (by simp) HX.out) (HP.out.rep (F := ⟨w, Lt w.heap.size⟩) (by simp) HY.out)).mono ?_; have HSZ0 := Lib.hid HP.out.size; rintro r1 w5 ⟨ua, ea, aa, rfl, hf, he, ha, hb⟩; replace HP := Lib.hid (HP.out.call hb); have HF1 := Lib.hid hf; have HE1 := Lib.hid he; have HA1 := Lib.hid ha; obtain ⟨Af1, cf1, rfl, -, -, -⟩ := rep_frames_at hf; obtain ⟨Ae1, ce1, rfl, -, -, -⟩ := rep_ints_at he; obtain ⟨Aa1, ca1, rfl, -, -, -⟩ := rep_ints_at ha; clear hb hf he ha) | (refine wpList_stR0 rfl 29 _ _ rfl HP.out rfl (cs' := staCells (begunAns p xs ys fuel).1 (.slice Af1 (begunAns p xs ys fuel).1.frames.length cf1) (.slice Ae1 (begunAns p xs ys fuel).1.events.length ce1) (.slice Aa1 (begunAns p xs ys fuel).1.answers.length ca1)) rfl rfl (by simp [staCells, Value.oneCell']) (by kernel_rfl) ?_; clear HP; intro wst HP; replace HP := Lib.hid HP))
    rw [HZ.out]
    go_wp2
    go_loopw [24] (fun _ wr => ∃ (t : Sta) (F E A9 : Value) (G : Fro), Hid (RunOk p t ∧ endS p t = endS p (begunAns p xs ys fuel).1) ∧ Hid (Lay.rep G.w G.S t.frames [F] ∧ Lay.rep G.w G.S t.events [E] ∧ Lay.rep G.w G.S t.answers [A9]) ∧ Hid (∀ b, G.S b → w.heap.size ≤ b) ∧ Hid (Hp w [G, ⟨w, Lt w.heap.size⟩] [.blk g10 29 (staCells t F E A9), .blk g8 29 [iV 0, iV 0, .slice none 0 0, iV 0, iV 0, iV 0, iV 0, iV 0, iV 0, iV 0, iV 0, iV 0, iV 0, iV 0, iV 0, iV 0, iV 0, iV 0, iV 0, iV 0, .slice none 0 0, .slice none 0 0], .blk g4 24 [v]] wr)) (fun _ wr => runMu g10 wr)
    case atStart => exact ⟨(begunAns p xs ys fuel).1, _, _, _, _, Lib.hid ⟨HRUN.out, rfl⟩, Lib.hid ⟨HF1.out, HE1.out, HA1.out⟩, Lib.hid (by exact fun b hb => Nat.le_trans HSZ0.out hb.1), HP⟩
    case round =>
      clear HP HF1 HE1 HA1
      obtain ⟨t, F, E, A9, G, HI, HRP, HGS, HP⟩ := hrel
      obtain ⟨wo, rfl⟩ : ∃ wo : World, wo = wr := ⟨_, rfl⟩
      have HM := Lib.hid (runMu_of (n := t.fuel) (m := t.status) (HP.out.cell (.head _) 19 _ rfl) (HP.out.cell (.head _) 0 _ rfl))
      by_cases hst : t.status = 0
      · obtain ⟨fs, f, hfr⟩ := frames_last (HI.out.1.top hst)
        have hsb : (t.status == 0) = true := by simpa using hst
        have HST := Lib.hid hst
        have HN := Lib.hid (HI.out.1.nextOf (proven_of_fault HSF.out) HIM.out hfr)
        have HEN := Lib.hid ((endS_next hfr hst HI.out.1.fuel.1).symm.trans HI.out.2)
        have HFR := Lib.hid hfr
        have hlen := HI.out.1.len
        have hans := HI.out.1.ans
        have hev := HI.out.1.ev
        have hfu := HI.out.1.fuel
        have HSM := Lib.hid (And.intro (show t.answers.length ≤ 17592186043999 by omega) (show t.events.length ≤ 17592186043999 by omega))
        clear hst hfr hlen hans hev hfu
        go_wp2_with (first | (refine wpList_ld0 rfl 3 _ rfl HP.out rfl rfl Tryd.underlying3 rfl ?_) | (refine wpList_ldR0 rfl 24 _ rfl HP.out rfl Tryd.underlying24 rfl (by kernel_rfl) ?_) | (refine wpList_ldR1 rfl 24 _ rfl HP.out rfl Tryd.underlying24 rfl (by kernel_rfl) ?_) | (refine wpList_ldR2 rfl 24 _ rfl HP.out rfl Tryd.underlying24 rfl (by kernel_rfl) ?_) | (refine wpList_ldR0 rfl 29 _ rfl HP.out rfl Tryd.underlying29 rfl (by kernel_rfl) ?_) | (go_at_call 63; have HSZ := Lib.hid HP.out.size; refine (stepped_own p _ t fs f HFR.out _ _ _ _ (HP.out.rep (F := ⟨w, Lt w.heap.size⟩) (by simp) HR.out) (HP.out.rep (.head _) HRP.out.1) (HP.out.rep (.head _) HRP.out.2.1) (HP.out.rep (.head _) HRP.out.2.2) HI.out.1.len HSM.out.1 HSM.out.2 HI.out.1.fuel (okP_of (proven_prg (proven_of_fault HSF.out))) (fun g hg => rch_own (HI.out.1.rch g hg)) (HI.out.1.regs f (by rw [HFR.out]; simp))).mono ?_; rintro r5 w5 ⟨u5, e5, a5, rfl, hb5⟩; replace HP := Lib.hid ((HP.out.call hb5.below).froSub (Fs' := [_, ⟨w, Lt w.heap.size⟩]) (fun F hF => by rcases List.mem_cons.1 hF with h | h; exact h ▸ .head _; exact List.mem_singleton.1 h ▸ .tail _ (.tail _ (.head _)))); have HR5 := Lib.hid (And.intro (hb5.rowFrames (.head _) rfl) (And.intro (hb5.rowInts (.tail _ (.head _)) rfl) (hb5.rowInts (.tail _ (.tail _ (.head _))) rfl))); have HO5 := Lib.hid (And.intro (hb5.rowOne u5 (.head _)) (And.intro (hb5.rowOne e5 (.tail _ (.head _))) (hb5.rowOne a5 (.tail _ (.tail _ (.head _)))))); clear hb5) | (refine wpList_stR0 rfl 29 _ _ rfl HP.out rfl (cs' := staCells (nextOf p t fs f) u5 e5 a5) rfl rfl (sta_one HO5.out.1 HO5.out.2.1 HO5.out.2.2) (by kernel_rfl) ?_; clear HP; intro wst HP; replace HP := Lib.hid HP))
        go_roundw
        case rel => exact ⟨_, _, _, _, _, _, ⟨(nextOf p t fs f), u5, e5, a5, _, Lib.hid ⟨HN.out, HEN.out⟩, HR5, Lib.hid (by exact fun b hb => Nat.le_trans HSZ.out hb.1), HP⟩, rfl⟩
        case measure =>
          have h1 := runMu_of (n := (nextOf p t fs f).fuel) (m := (nextOf p t fs f).status) (HP.out.cell (.head _) 19 _ rfl) (HP.out.cell (.head _) 0 _ rfl)
          have h2 := HM.out
          have h3 := HST.out
          have h4 := next_fuel_le (p := p) (s := t) (fs := fs) (f := f)
          have h5 := HI.out.1.fuel
          rw [h3] at h2
          simp only [if_true] at h2
          show runMu g10 _ < runMu g10 _
          rw [h1, h2]
          by_cases h6 : (nextOf p t fs f).status = 0
          · rw [if_pos h6]
            have h7 := next_fuel h6
            have h8 := HN.out.fuel
            omega
          · rw [if_neg h6]; omega
      · have hend : t = endS p (begunAns p xs ys fuel).1 := by rw [← HI.out.2, endS_done p hst]
        have hsb : (t.status == 0) = false := by simpa using hst
        have HEND := Lib.hid hend
        obtain ⟨Af3, cf3, rfl, -, -, -⟩ := rep_frames_at HRP.out.1
        obtain ⟨Ae3, ce3, rfl, -, -, -⟩ := rep_ints_at HRP.out.2.1
        obtain ⟨Aa3, ca3, rfl, -, -, -⟩ := rep_ints_at HRP.out.2.2
        clear hst hend
        go_wp2_with (first | (refine wpList_ld0 rfl 3 _ rfl HP.out rfl rfl Tryd.underlying3 rfl ?_) | (refine wpList_ldR0 rfl 29 _ rfl HP.out rfl Tryd.underlying29 rfl (by kernel_rfl) ?_) | (refine wpList_stR1 rfl 29 _ _ rfl HP.out rfl (cs' := staCells t (.slice Af3 t.frames.length cf3) (.slice Ae3 t.events.length ce3) (.slice Aa3 t.answers.length ca3)) rfl rfl (by simp [staCells, Value.oneCell']) (by kernel_rfl) ?_; clear HP; intro wst HP; replace HP := Lib.hid HP))
        rw [HANS.out]
        refine bodyPost_ret (results_cell_row_tmp2 rfl _ _ g8 29 (staCells t (.slice Af3 t.frames.length cf3) (.slice Ae3 t.events.length ce3) (.slice Aa3 t.answers.length ca3)).toArray (0, 0) _ rfl (HP.out.blk (.tail _ (.head _))) Tryd.underlying29 rfl (by kernel_rfl)) rfl ⟨_, _, _, by rw [← HEND.out]; rfl, ?_⟩
        simp only
        rw [← HEND.out]
        exact ⟨HP.out.repMore (.head _) HRP.out.1 (fun b hb => ⟨HGS.out b hb, (HP.out.fro _ (.head _) b hb).1⟩), HP.out.repMore (.head _) HRP.out.2.1 (fun b hb => ⟨HGS.out b hb, (HP.out.fro _ (.head _) b hb).1⟩), HP.out.repMore (.head _) HRP.out.2.2 (fun b hb => ⟨HGS.out b hb, (HP.out.fro _ (.head _) b hb).1⟩), HP.out.below⟩
  · have hans : runAns p xs ys fuel = (zeroS, (begunAns p xs ys fuel).2) := by unfold runAns; rw [if_pos hz]
    obtain ⟨e0, he0⟩ : ∃ e0, (begunAns p xs ys fuel).2 = e0 := ⟨_, rfl⟩
    rw [he0] at hz hans
    have HANS := Lib.hid hans
    have HZ := Lib.hid he0
    have hzb : (e0 != 0) = true := by simpa using hz
    clear he0 hz hans
    go_enter Tryd.func38, Tryd.ntmps38
    go_upto_region 2 with (first | (refine wpList_alloc_hp (o := ⟨some 8, _, _, _, _, _⟩) rfl _ rfl HP.out (.agg #[.int .i64 0, .int .i64 0, .slice none 0 0, .int .i64 0, .int .i64 0, .int .i64 0, .int .i64 0, .int .i64 0, .int .i64 0, .int .i64 0, .int .i64 0, .int .i64 0, .int .i64 0, .int .i64 0, .int .i64 0, .int .i64 0, .int .i64 0, .int .i64 0, .int .i64 0, .int .i64 0, .slice none 0 0, .slice none 0 0]) (by kernel_rfl) [_, _, _, _, _, _, _, _, _, _, _, _, _, _, _, _, _, _, _, _, _, _] rfl ?_; clear HP; intro g8 w8 HP; replace HP := Lib.hid HP) | (refine wpList_alloc_hp (o := ⟨some 10, _, _, _, _, _⟩) rfl _ rfl HP.out (.agg #[.int .i64 0, .int .i64 0, .slice none 0 0, .int .i64 0, .int .i64 0, .int .i64 0, .int .i64 0, .int .i64 0, .int .i64 0, .int .i64 0, .int .i64 0, .int .i64 0, .int .i64 0, .int .i64 0, .int .i64 0, .int .i64 0, .int .i64 0, .int .i64 0, .int .i64 0, .int .i64 0, .slice none 0 0, .slice none 0 0]) (by kernel_rfl) [_, _, _, _, _, _, _, _, _, _, _, _, _, _, _, _, _, _, _, _, _, _] rfl ?_; clear HP; intro g10 w10 HP; replace HP := Lib.hid HP) | (refine wpList_box_hp (o := ⟨some 4, _, _, _, _, _⟩) rfl _ _ rfl HP.out [_] rfl ?_; clear HP; intro g4 w4 HP; replace HP := Lib.hid HP) | (refine wpList_ldR0 rfl 24 _ rfl HP.out rfl Tryd.underlying24 rfl (by kernel_rfl) ?_) | (refine wpList_ldR1 rfl 24 _ rfl HP.out rfl Tryd.underlying24 rfl (by kernel_rfl) ?_) | (refine wpList_ldR2 rfl 24 _ rfl HP.out rfl Tryd.underlying24 rfl (by kernel_rfl) ?_) | (go_at_call 17; refine (Begun_any p _ xs ys _ _ fuel _ (HP.out.rep (F := ⟨w, Lt w.heap.size⟩) (by simp) HR.out) (HP.out.rep (F := ⟨w, Lt w.heap.size⟩) (by simp) HX.out) (HP.out.rep (F := ⟨w, Lt w.heap.size⟩) (by simp) HY.out)).mono ?_; have HSZ0 := Lib.hid HP.out.size; rintro r1 w5 ⟨ua, ea, aa, rfl, hf, he, ha, hb⟩; replace HP := Lib.hid (HP.out.call hb); have HF1 := Lib.hid hf; have HE1 := Lib.hid he; have HA1 := Lib.hid ha; obtain ⟨Af1, cf1, rfl, -, -, -⟩ := rep_frames_at hf; obtain ⟨Ae1, ce1, rfl, -, -, -⟩ := rep_ints_at he; obtain ⟨Aa1, ca1, rfl, -, -, -⟩ := rep_ints_at ha; clear hb hf he ha) | (refine wpList_stR0 rfl 29 _ _ rfl HP.out rfl (cs' := staCells (begunAns p xs ys fuel).1 (.slice Af1 (begunAns p xs ys fuel).1.frames.length cf1) (.slice Ae1 (begunAns p xs ys fuel).1.events.length ce1) (.slice Aa1 (begunAns p xs ys fuel).1.answers.length ca1)) rfl rfl (by simp [staCells, Value.oneCell']) (by kernel_rfl) ?_; clear HP; intro wst HP; replace HP := Lib.hid HP))
    rw [HZ.out]
    go_wp2_with (first | (refine wpList_stR0 rfl 29 _ _ rfl HP.out rfl (cs' := staCells zeroS (.slice none 0 0) (.slice none 0 0) (.slice none 0 0)) rfl rfl (by simp [staCells, Value.oneCell']) (by kernel_rfl) ?_; clear HP; intro wst HP; replace HP := Lib.hid HP) | (refine wpList_stR1 rfl 29 _ _ rfl HP.out rfl (cs' := staCells zeroS (.slice none 0 0) (.slice none 0 0) (.slice none 0 0)) rfl rfl (by simp [staCells, Value.oneCell']) (by kernel_rfl) ?_; clear HP; intro wst HP; replace HP := Lib.hid HP) | (refine wpList_stR2 rfl 29 _ _ rfl HP.out rfl (cs' := staCells zeroS (.slice none 0 0) (.slice none 0 0) (.slice none 0 0)) rfl rfl (by simp [staCells, Value.oneCell']) (by kernel_rfl) ?_; clear HP; intro wst HP; replace HP := Lib.hid HP))
    rw [HANS.out]
    refine bodyPost_ret (results_cell_row_tmp2 rfl _ _ g8 29 (staCells zeroS (.slice none 0 0) (.slice none 0 0) (.slice none 0 0)).toArray (0, 0) _ rfl (HP.out.blk (.tail _ (.head _))) Tryd.underlying29 rfl (by kernel_rfl)) rfl ⟨_, _, _, rfl, rep_frames_nil2, rep_ints_nil, rep_ints_nil, HP.out.below⟩
end Go.Proofs.YtfhoffpdodjfeaaDoor
