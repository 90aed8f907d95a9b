/- proof.Reads. The law's states. -/
import Derived.Test.YtigbdlcjnnphbaaDoorMgBegLawNextAnsTidyLawReadsHReadsK5
import Derived.Test.YtigbdlcjnnphbaaDoorCopy
set_option linter.unusedSimpArgs false
set_option linter.unusedVariables false
namespace Go.Proofs.YtigbdlcjnnphbaaDoor
open Go.RowKit Plain64
attribute [local irreducible] wpList Code.wp Oper.wp
set_option maxRecDepth 10000 in
set_option maxHeartbeats 1000000 in
theorem Reads_any (p : Prg) (u : Value) (fn pc : Int) (w : World) (hp : Lay.rep w (Lt w.heap.size) p [u]) (hh : Has w) :
    Calls Tryd.prog 23 #[.agg #[u], .int .i64 fn, .int .i64 pc] w fun e w' => e = .returned (.tuple #[.int .i64 (readsAns p fn pc).1, .int .i64 (readsAns p fn pc).2.1, .int .i64 (readsAns p fn pc).2.2]) ∧ Below w.heap.size w w' := by
  obtain ⟨A, c, rfl, hc, hm, hx⟩ := rep_prg_at hp
  unfold maxLen at hm
  have HX := Lib.hid hx
  have HR := Lib.hid hp
  have HH := Lib.hid hh
  clear hx hp hh
  have HP := Lib.hid (Hp.start w)
  have HA : Hid (readsAns p fn pc = readsAns p fn pc) := Lib.hid rfl
  by_cases hz : prgFault p = 0
  · have ok := okP_of hz
    have HOK := Lib.hid ok
    obtain ⟨n1, n2⟩ := ok.len
    clear ok
    have HZ := Lib.hid hz
    clear hz
    go_enter Tryd.func23, Tryd.ntmps23
    go_upto_region 2 with (first | (refine wpList_box_hp (o := ⟨some 3, _, _, _, _, _⟩) rfl _ _ rfl HP.out [_] rfl ?_; clear HP; intro g3 w3 HP; replace HP := Lib.hid HP) | (refine wpList_ldR0 rfl 24 _ rfl HP.out rfl Tryd.underlying24 rfl (by kernel_rfl) ?_) | (go_at_call 32; refine (codeCheck_any p _ _ (HP.out.rep (F := ⟨w, Lt w.heap.size⟩) (by simp) HR.out) (HH.out.keep HP.out.below rfl)).mono ?_; rintro e w4 ⟨rfl, hb⟩; replace HP := Lib.hid (HP.out.call0 hb); clear hb; rw [HZ.out]))
    have hfs := HP.out.cell (.head _) 0 _ rfl
    by_cases hfn : 0 ≤ fn ∧ fn < p.funcs.length
    · obtain ⟨f1, f2⟩ := hfn
      obtain ⟨k, rfl⟩ := Int.eq_ofNat_of_zero_le f1
      have hkl : k < p.funcs.length := by omega
      obtain ⟨ad, v, rfl, hab, hat, hcode⟩ := HX.out k hkl
      obtain ⟨f, hf⟩ : ∃ f, p.funcs[k] = f := ⟨_, rfl⟩
      rw [hf] at hat hcode
      have HF := Lib.hid (show p.funcs[k]? = some f by rw [← hf, List.getElem?_eq_getElem hkl])
      have HOF := Lib.hid (HOK.out.fns f (hf ▸ List.getElem_mem hkl))
      clear hf
      obtain ⟨A2, c2, rfl, hc2, hm2, hx2⟩ := rep_code hcode
      unfold maxLen at hm2
      have HX2 := Lib.hid hx2
      clear hx2 hcode
      have hlen := HOF.out.len
      obtain ⟨l1, l2⟩ := hlen
      have hcl := (HP.out.at_ (F := ⟨w, Lt w.heap.size⟩) (by simp) hat (by rw [block_of_add]; exact hab)).fld 1 rfl
      have HAT := Lib.hid hat
      clear hat
      by_cases hpc : 0 ≤ pc ∧ pc < f.code.length
      · obtain ⟨q1, q2⟩ := hpc
        obtain ⟨j, rfl⟩ := Int.eq_ofNat_of_zero_le q1
        have hjl : j < f.code.length := by omega
        obtain ⟨a2, rfl, hab2, hat2⟩ := HX2.out j hjl
        obtain ⟨x, hx⟩ : ∃ x, f.code[j] = x := ⟨_, rfl⟩
        rw [hx] at hat2
        have HI := Lib.hid (show f.code[j]? = some x by rw [← hx, List.getElem?_eq_getElem hjl])
        have HOI := Lib.hid (HOF.out.ins x (hx ▸ List.getElem_mem hjl))
        clear hx
        have HAT2 := Lib.hid hat2
        clear hat2
        have hans : readsAns p (k : Int) (j : Int) = (bitsL (readsL p x), if setsZ x.op then 2 ^ x.dst.toNat else 0, 0) := by
          unfold readsAns
          rw [if_neg (by simpa using HZ.out)]
          simp only [Int.toNat_natCast, HF.out, HI.out]
          rw [if_neg (by omega)]
        have HANS := Lib.hid hans
        clear hans
        have hs1 := sets_ok x.op HOI.out.op.1
        obtain ⟨sb, hsb⟩ : ∃ sb, setsZ x.op = sb := ⟨_, rfl⟩
        rw [hsb] at hs1 HANS
        have HS1 := Lib.hid hs1
        clear hs1 hsb
        have hd := pow_small x.dst HOI.out.dst
        have ed : wrap64 (2 ^ x.dst.toNat) = 2 ^ x.dst.toNat := by unfold wrap64; omega
        have hand := and_all x.dst HOI.out.dst
        have hand0 := and_all0
        obtain ⟨d1, d2⟩ := HOI.out.dst
        go_wp2_with (first | (refine wpList_alloc_hp (o := ⟨some 10, _, _, _, _, _⟩) rfl _ rfl HP.out (.agg #[.int .i64 0, .int .i64 0, .int .i64 0, .int .i64 0, .int .i64 0]) (by kernel_rfl) [_, _, _, _, _] rfl ?_; clear HP; intro g10 w10 HP; replace HP := Lib.hid HP) | (refine wpList_ld0 rfl 22 _ rfl HP.out rfl rfl Tryd.underlying22 rfl ?_) | (refine wpList_ld1 rfl 22 _ rfl HP.out rfl rfl Tryd.underlying22 rfl ?_) | (refine wpList_load_at rfl 53 _ rfl _ rfl _ _ (HP.out.at_ (F := ⟨w, Lt w.heap.size⟩) (by simp) HAT2.out (by rw [block_of_add]; exact hab2)) Tryd.underlying53 rfl (by kernel_rfl) ?_) | (refine wpList_stR0 rfl 53 _ _ rfl HP.out rfl (cs' := [_, _, _, _, _]) rfl rfl (by simp [Value.oneCell']) (by kernel_rfl) ?_; clear HP; intro wst HP; replace HP := Lib.hid HP) | (refine wpList_ldR0 rfl 53 _ rfl HP.out rfl Tryd.underlying53 rfl (by kernel_rfl) ?_) | (refine wpList_ldR1 rfl 53 _ rfl HP.out rfl Tryd.underlying53 rfl (by kernel_rfl) ?_) | (refine wpList_ldR0 rfl 24 _ rfl HP.out rfl Tryd.underlying24 rfl (by kernel_rfl) ?_) | (refine wpList_ldR1 rfl 24 _ rfl HP.out rfl Tryd.underlying24 rfl (by kernel_rfl) ?_) | (refine wpList_ld0 rfl 3 _ rfl HP.out rfl rfl Tryd.underlying3 rfl ?_) | (refine wpList_ld1 rfl 3 _ rfl HP.out rfl rfl Tryd.underlying3 rfl ?_) | (go_at_call 43; refine (sets_any x _).mono ?_; rintro e w5 ⟨rfl, hb⟩; replace HP := Lib.hid (HP.out.call0 hb); clear hb; rw [HS1.out]; clear HS1; cases sb) | (go_at_call 44; refine (reads_any p _ x f.code.length _ (HP.out.rep (F := ⟨w, Lt w.heap.size⟩) (by simp) HR.out) HOK.out HOI.out).mono ?_; rintro e w6 ⟨rfl, hb⟩; replace HP := Lib.hid (HP.out.call0 hb); clear hb))
        all_goals
          go_ret3
          refine ⟨?_, HP.out.below⟩
          rw [HANS.out]
          rfl
      · have hans : readsAns p (k : Int) pc = (0, 0, 2) := by
          unfold readsAns
          rw [if_neg (by simpa using HZ.out)]
          simp only [Int.toNat_natCast, HF.out]
          rcases hq : f.code[pc.toNat]? with _ | x
          · rfl
          · have := (List.getElem?_eq_some_iff.1 hq).1
            simp only
            rw [if_pos (by omega)]
        have HANS := Lib.hid hans
        clear hans
        by_cases q1 : 0 ≤ pc
        · have q2 : (f.code.length : Int) ≤ pc := by omega
          clear hpc
          go_wp2
          go_ret3
          exact ⟨by rw [HANS.out]; rfl, HP.out.below⟩
        · have q2 : pc < 0 := by omega
          clear hpc q1
          go_wp2
          go_ret3
          exact ⟨by rw [HANS.out]; rfl, HP.out.below⟩
    · have hans : readsAns p fn pc = (0, 0, 2) := by
        unfold readsAns
        rw [if_neg (by simpa using HZ.out)]
        rcases hq : p.funcs[fn.toNat]? with _ | f
        · rfl
        · have := (List.getElem?_eq_some_iff.1 hq).1
          rcases hq2 : f.code[pc.toNat]? with _ | x
          · simp only [hq2]
          · simp only [hq2]
            rw [if_pos (by omega)]
      have HANS := Lib.hid hans
      clear hans
      by_cases q1 : 0 ≤ fn
      · have q2 : (p.funcs.length : Int) ≤ fn := by omega
        clear hfn
        go_wp2
        go_ret3
        exact ⟨by rw [HANS.out]; rfl, HP.out.below⟩
      · have q2 : fn < 0 := by omega
        clear hfn q1
        go_wp2
        go_ret3
        exact ⟨by rw [HANS.out]; rfl, HP.out.below⟩
  · have hans : readsAns p fn pc = (0, 0, prgFault p) := by unfold readsAns; rw [if_pos hz]
    have HANS := Lib.hid hans
    obtain ⟨e0, he0⟩ : ∃ e0, prgFault p = e0 := ⟨_, rfl⟩
    rw [he0] at hz HANS
    have HE0 := Lib.hid he0
    have hzb : (e0 != 0) = true := by simpa using hz
    clear hans he0 hz
    go_enter Tryd.func23, Tryd.ntmps23
    go_wp2_with (first | (refine wpList_box_hp (o := ⟨some 3, _, _, _, _, _⟩) rfl _ _ rfl HP.out [_] rfl ?_; clear HP; intro g3 w3 HP; replace HP := Lib.hid HP) | (refine wpList_ldR0 rfl 24 _ rfl HP.out rfl Tryd.underlying24 rfl (by kernel_rfl) ?_) | (go_at_call 32; refine (codeCheck_any p _ _ (HP.out.rep (F := ⟨w, Lt w.heap.size⟩) (by simp) HR.out) (HH.out.keep HP.out.below rfl)).mono ?_; rintro e w4 ⟨rfl, hb⟩; replace HP := Lib.hid (HP.out.call0 hb); clear hb; rw [HE0.out]))
    go_ret3
    exact ⟨by rw [HANS.out]; rfl, HP.out.below⟩
end Go.Proofs.YtigbdlcjnnphbaaDoor
namespace Go.Proofs.YtigbdlcjnnphbaaDoor
open Go.RowKit
attribute [local irreducible] wpList Code.wp Oper.wp
set_option maxRecDepth 10000 in
set_option maxHeartbeats 1000000 in
theorem states_any (s : Sta) (u e a : Value) (w : World) (hf : Lay.rep w (Lt w.heap.size) s.frames [u]) (he : Lay.rep w (Lt w.heap.size) s.events [e]) (ha : Lay.rep w (Lt w.heap.size) s.answers [a]) (hlf : s.frames.length ≤ 1256584717421) (hle : s.events.length ≤ 17592186044000) (hla : s.answers.length ≤ 17592186044000) :
    Calls Tryd.prog 4 #[.agg (staCells s u e a).toArray] w fun r w' => ∃ u' e' a', r = .returned (.agg (staCells s u' e' a').toArray) ∧ Lay.rep w' (Fresh w w') s.frames [u'] ∧ Lay.rep w' (Fresh w w') s.events [e'] ∧ Lay.rep w' (Fresh w w') s.answers [a'] ∧ Below w.heap.size w w' := by
  have HF := Lib.hid hf
  have HE := Lib.hid he
  have HAN := Lib.hid ha
  clear hf he ha
  unfold staCells
  have HP := Lib.hid (Hp.start w)
  go_enter Tryd.func4, Tryd.ntmps4
  go_wp2_with (first | (refine wpList_alloc_hp (o := ⟨some 2, _, _, _, _, _⟩) rfl _ rfl HP.out (.agg #[.int .i64 0, .int .i64 0, .slice none 0 0, .int .i64 0, .int .i64 0, .int .i64 0, .int .i64 0, .int .i64 0, .int .i64 0, .int .i64 0, .int .i64 0, .int .i64 0, .int .i64 0, .int .i64 0, .int .i64 0, .int .i64 0, .int .i64 0, .int .i64 0, .int .i64 0, .int .i64 0, .slice none 0 0, .slice none 0 0]) (by kernel_rfl) [_, _, _, _, _, _, _, _, _, _, _, _, _, _, _, _, _, _, _, _, _, _] rfl ?_; clear HP; intro g2 w2 HP; replace HP := Lib.hid HP) | (refine wpList_box_hp (o := ⟨some 1, _, _, _, _, _⟩) rfl _ _ rfl HP.out [_, _, _, _, _, _, _, _, _, _, _, _, _, _, _, _, _, _, _, _, _, _] rfl ?_; clear HP; intro g1 w1 HP; replace HP := Lib.hid HP) | (refine wpList_ldR0 rfl 29 _ rfl HP.out rfl Tryd.underlying29 rfl (by kernel_rfl) ?_) | (refine wpList_ldR1 rfl 29 _ rfl HP.out rfl Tryd.underlying29 rfl (by kernel_rfl) ?_) | (refine wpList_stR0 rfl 29 _ _ rfl HP.out rfl (cs' := staCells s (.slice A1 s.frames.length c1) (.slice A2 s.events.length c2) (.slice A3 s.answers.length c3)) rfl rfl (by simp [staCells, Value.oneCell']) (by kernel_rfl) ?_; clear HP; intro wst HP; replace HP := Lib.hid HP) | (go_at_call 9; go_loud (refine (StateCopy_any s _ _ _ _ (HP.out.rep (F := ⟨w, Lt w.heap.size⟩) (.head _) HF.out) (HP.out.rep (F := ⟨w, Lt w.heap.size⟩) (.head _) HE.out) (HP.out.rep (F := ⟨w, Lt w.heap.size⟩) (.head _) HAN.out) hlf hle hla).mono ?_); rintro r w2 ⟨u', e', a', rfl, h1, h2, h3, hb⟩; obtain ⟨A1, c1, rfl, -, -, -⟩ := rep_frames_at h1; obtain ⟨A2, c2, rfl, -, -, -⟩ := rep_ints_at h2; obtain ⟨A3, c3, rfl, -, -, -⟩ := rep_ints_at h3; have hz := HP.out.size; replace HP := Lib.hid (HP.out.call hb); have H1 := Lib.hid h1; have H2 := Lib.hid h2; have H3 := Lib.hid h3; clear hb h1 h2 h3; unfold staCells))
  refine bodyPost_ret (results_cell_row rfl _ _ g2 29 (staCells s (.slice A1 s.frames.length c1) (.slice A2 s.events.length c2) (.slice A3 s.answers.length c3)).toArray (0, 0) _ rfl (HP.out.blk (.head _)) Tryd.underlying29 rfl (by kernel_rfl)) rfl ⟨_, _, _, rfl, ?_, ?_, ?_, HP.out.below⟩
  · exact HP.out.repMore (.head _) H1.out (fun b hb => ⟨Nat.le_trans hz hb.1, (HP.out.fro _ (.head _) b hb).1⟩)
  · exact HP.out.repMore (.head _) H2.out (fun b hb => ⟨Nat.le_trans hz hb.1, (HP.out.fro _ (.head _) b hb).1⟩)
  · exact HP.out.repMore (.head _) H3.out (fun b hb => ⟨Nat.le_trans hz hb.1, (HP.out.fro _ (.head _) b hb).1⟩)
end Go.Proofs.YtigbdlcjnnphbaaDoor
