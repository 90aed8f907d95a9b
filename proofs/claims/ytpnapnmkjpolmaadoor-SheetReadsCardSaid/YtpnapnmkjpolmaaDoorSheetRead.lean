/- sheet.Read. -/
import Derived.Test.YtpnapnmkjpolmaaDoorReadInv
import Derived.Test.YtpnapnmkjpolmaaDoorLines
import Derived.Test.YtpnapnmkjpolmaaDoorInstr
import Derived.Test.YtpnapnmkjpolmaaDoorSheetB
import Derived.Test.YtpnapnmkjpolmaaDoorRangeF
set_option linter.unusedSimpArgs false
set_option linter.unusedVariables false
namespace Go.Proofs.YtpnapnmkjpolmaaDoor
open Go.RowKit
attribute [local irreducible] wpList Code.wp Oper.wp Code.wpIn
theorem wpList_load_wr {P : Program} {w : World} {ops : Array Oper} {rest : List Oper} {o : Oper} {a : Act} {Q : Exit → Act → World → Prop} (hw : Region.wanted o (yielded ops a.tmps) = true) (ty : TypeId) (x : Operand) (ho : o.op = .load ty x)
    (ad : Addr) (hx : a.eval x = .pointer (some ad)) (cs : List Value) (d : TypeDesc) (hc : At w ad cs)
    (hu : P.underlying ty = some d) (hd : d.isRow = true) (hi : (P.info? ty).map (·.size) = some cs.length)
    (h : wpList P ops Q rest (a.put o.dst (.agg cs.toArray)) w) : wpList P ops Q (o :: rest) a w :=
  wpList_step fun K hK => by
    rw [if_pos hw]
    unfold Oper.wp execOp
    simp only [ho, hx, Instr.loadAt, Instr.sureAddr, Sem.run_bind, Sem.run_pure, Result.andThen_ok, run_loadVar_at w ad ty cs d hc hu hd hi]
    exact hK _ _ h
theorem Hp.rowSlice2 {w0 w : World} {Fs : List Fro} {L : List Res} {v : Value} {e : TypeId} {sz n : Nat} {cs : List Value} (h : Hp w0 Fs L w) (hm : Res.row v e sz n cs ∈ L) : ∃ A c, v = .slice A n c := by
  rcases (h.row hm).2 with ⟨rfl, h0⟩ | ⟨g, cap, cur, rfl, _⟩
  · exact ⟨none, 0, by rw [h0]⟩
  · exact ⟨_, _, rfl⟩
theorem cutLn_fst_le : ∀ s, (cutLn s).1.length ≤ s.length
  | [] => Nat.le_refl _
  | c :: r => by
    have := cutLn_fst_le r
    unfold cutLn
    split
    · simp
    · simp only [List.length_cons]; omega
theorem trimSuffix_le (w p : List UInt8) : (Lib.trimSuffix w p).length ≤ w.length := by
  unfold Lib.trimSuffix
  split
  · simp
  · exact Nat.le_refl _
theorem Hp.rowOne2 {w0 w : World} {Fs : List Fro} {L : List Res} {v : Value} {e : TypeId} {sz n : Nat} {cs : List Value} (h : Hp w0 Fs L w) (hm : Res.row v e sz n cs ∈ L) : v.oneCell' = true := by
  rcases (h.row hm).2 with ⟨rfl, _⟩ | ⟨g, cap, cur, rfl, _⟩ <;> rfl
set_option maxRecDepth 10000 in
set_option maxHeartbeats 8000000 in
theorem Read_any (l : List UInt8) (w : World) (hh : Has w) (ht : Pow w) (hw : Wds w) (ha : AtoiW w) (ml : Int) (hm : w.cell? ⟨4, 0, none⟩ = some (.int .i64 ml)) :
    Calls Tryd.prog 9 #[.string (bstr l)] w (RdR2 w (readAns l)) := by
  have hsz := bstr_size l
  obtain ⟨n, hn⟩ : ∃ n : Nat, l.length = n := ⟨_, rfl⟩
  have HN := Lib.hid hn
  rw [hn] at hsz
  have HH := Lib.hid hh
  have HT := Lib.hid ht
  have HW := Lib.hid hw
  have HA := Lib.hid ha
  have HML := Lib.hid hm
  have HP := Lib.hid (Hp.start w)
  clear hh ht hw ha hm
  by_cases hbig : 10000 < n
  · have hbg : (10000 : Int) < (n : Int) := by omega
    have HE := Lib.hid (show readAns l = (⟨[]⟩, 0, 1) by unfold readAns; rw [if_pos (by rw [HN.out]; exact hbig)])
    clear hn
    refine callsIn_wide.1 (callsIn_of_wp_marks (n := 5) Tryd.func9 rfl trivial ?_)
    simp only [Tryd.ntmps9, List.size_toArray, List.length_cons, List.length_nil, Nat.reduceAdd, Nat.reduceSub, Array.replicate_succ, Array.replicate_zero, List.push_toArray, List.append_toArray, List.nil_append, List.cons_append]
    refine wpIn_wide.2 ?_
    go_wp2_with (first | (refine wpList_alloc_hp (o := ⟨some 2, _, _, _, _, _⟩) rfl _ rfl HP.out (.agg #[.slice none 0 0]) (by kernel_rfl) [_] rfl ?_; clear HP; intro g2 w2 HP; replace HP := Lib.hid HP) | (refine wpList_alloc_hp (o := ⟨some 3, _, _, _, _, _⟩) rfl _ rfl HP.out (.int .i64 0) (by kernel_rfl) [_] rfl ?_; clear HP; intro g3 w3 HP; replace HP := Lib.hid HP) | (refine wpList_alloc_hp (o := ⟨some 4, _, _, _, _, _⟩) rfl _ rfl HP.out (.int .i64 0) (by kernel_rfl) [_] rfl ?_; clear HP; intro g4 w4 HP; replace HP := Lib.hid HP) | (refine wpList_stR0 rfl 24 _ _ rfl HP.out rfl (cs' := [_]) rfl rfl (by simp [Value.oneCell']) (by kernel_rfl) ?_; clear HP; intro wst HP; replace HP := Lib.hid HP) | (refine wpList_stR1 rfl 24 _ _ rfl HP.out rfl (cs' := [_]) rfl rfl (by simp [Value.oneCell']) (by kernel_rfl) ?_; clear HP; intro wst HP; replace HP := Lib.hid HP) | (refine wpList_stR2 rfl 24 _ _ rfl HP.out rfl (cs' := [_]) rfl rfl (by simp [Value.oneCell']) (by kernel_rfl) ?_; clear HP; intro wst HP; replace HP := Lib.hid HP) | (refine wpList_st0 rfl 3 _ _ rfl HP.out rfl rfl (by simp) rfl rfl (by kernel_rfl) ?_; clear HP; intro wst HP; replace HP := Lib.hid HP) | (refine wpList_st1 rfl 3 _ _ rfl HP.out rfl rfl (by simp) rfl rfl (by kernel_rfl) ?_; clear HP; intro wst HP; replace HP := Lib.hid HP) | (refine wpList_st2 rfl 3 _ _ rfl HP.out rfl rfl (by simp) rfl rfl (by kernel_rfl) ?_; clear HP; intro wst HP; replace HP := Lib.hid HP) | (refine wpList_st0 rfl 26 _ _ rfl HP.out rfl rfl (by simp) rfl rfl (by kernel_rfl) ?_; clear HP; intro wst HP; replace HP := Lib.hid HP) | (refine wpList_st1 rfl 26 _ _ rfl HP.out rfl rfl (by simp) rfl rfl (by kernel_rfl) ?_; clear HP; intro wst HP; replace HP := Lib.hid HP) | (refine wpList_st2 rfl 26 _ _ rfl HP.out rfl rfl (by simp) rfl rfl (by kernel_rfl) ?_; clear HP; intro wst HP; replace HP := Lib.hid HP))
    (try simp only [Exit.inBlock, Exit.then])
    refine leave_none (results_read (v := .slice none 0 0) (k := 0) (e := 1) _ rfl rfl rfl HP.out (.tail _ (.tail _ (.head _))) (.tail _ (.head _)) (.head _) rfl) ?_
    unfold RdR2
    rw [HE.out]
    exact ⟨_, rfl, rep_prg_nil4, HP.out.below⟩
  · have hbg : ¬ (10000 : Int) < (n : Int) := by omega
    have HE := Lib.hid (show readAns l = readFrom [] 0 l by unfold readAns; rw [if_neg (by rw [HN.out]; exact hbig)])
    have HNB := Lib.hid hbig
    obtain ⟨i_Fun, hi_Fun, hz_Fun, hs_Fun, hy_Fun⟩ := info_parts info_fun
    obtain ⟨i_Ins, hi_Ins, hz_Ins, hs_Ins, hy_Ins⟩ := info_parts info_ins
    clear hn
    refine callsIn_wide.1 (callsIn_of_wp_marks (n := 5) Tryd.func9 rfl trivial ?_)
    simp only [Tryd.ntmps9, List.size_toArray, List.length_cons, List.length_nil, Nat.reduceAdd, Nat.reduceSub, Array.replicate_succ, Array.replicate_zero, List.push_toArray, List.append_toArray, List.nil_append, List.cons_append]
    refine wpIn_wide.2 ?_
    go_wp2_with (first | (refine wpList_alloc_hp (o := ⟨some 2, _, _, _, _, _⟩) rfl _ rfl HP.out (.agg #[.slice none 0 0]) (by kernel_rfl) [_] rfl ?_; clear HP; intro g2 w2 HP; replace HP := Lib.hid HP) | (refine wpList_alloc_hp (o := ⟨some 3, _, _, _, _, _⟩) rfl _ rfl HP.out (.int .i64 0) (by kernel_rfl) [_] rfl ?_; clear HP; intro g3 w3 HP; replace HP := Lib.hid HP) | (refine wpList_alloc_hp (o := ⟨some 4, _, _, _, _, _⟩) rfl _ rfl HP.out (.int .i64 0) (by kernel_rfl) [_] rfl ?_; clear HP; intro g4 w4 HP; replace HP := Lib.hid HP) | (refine wpList_alloc_hp (o := ⟨some 5, _, _, _, _, _⟩) rfl _ rfl HP.out (.agg #[.slice none 0 0]) (by kernel_rfl) [_] rfl ?_; clear HP; intro g5 w5 HP; replace HP := Lib.hid HP) | (refine wpList_alloc_hp (o := ⟨some 6, _, _, _, _, _⟩) rfl _ rfl HP.out (.int .i64 0) (by kernel_rfl) [_] rfl ?_; clear HP; intro g6 w6 HP; replace HP := Lib.hid HP) | (refine wpList_st0 rfl 3 _ _ rfl HP.out rfl rfl (by simp) rfl rfl (by kernel_rfl) ?_; clear HP; intro wst HP; replace HP := Lib.hid HP) | (refine wpList_st1 rfl 3 _ _ rfl HP.out rfl rfl (by simp) rfl rfl (by kernel_rfl) ?_; clear HP; intro wst HP; replace HP := Lib.hid HP) | (refine wpList_st2 rfl 3 _ _ rfl HP.out rfl rfl (by simp) rfl rfl (by kernel_rfl) ?_; clear HP; intro wst HP; replace HP := Lib.hid HP) | (go_at_call 19; refine (Lines_any l _).mono ?_; rintro e wli ⟨rfl, rfl⟩; replace HP := Lib.hid (HP.out.alloc #[.string (bstr l)] 9)))
    obtain ⟨B, hB⟩ : ∃ B, wst.heap.size = B := ⟨_, rfl⟩
    obtain ⟨wl, hwl⟩ : ∃ wl, wst.alloc (Obj.cells #[.string (bstr l)] 9) = wl := ⟨_, rfl⟩
    have hcl : wst.alloc (Obj.cells #[.string (bstr l)] 9) = wl := hwl
    rw [hB, hcl] at HP
    rw [hB]
    clear hB hwl
    replace HP := Lib.hid (((HP.out.nil 36 3).nil 48 5).newObj (.deferred (some [])))
    refine wp_range (lf := 41) (B := B) rfl (fun _ _ => rfl) (fun fn rec HREC => ?_)
    rw [hcl] at HREC ⊢
    replace HP := Lib.hid ((HP.out.newObj (.loop (rec .ready none))).froNone2)
    obtain ⟨bd, hbd⟩ : ∃ bd, wl.heap.size = bd := ⟨_, rfl⟩
    have hlp : (wl.alloc (.deferred (some []))).heap.size = bd + 1 := by rw [World.size_alloc, hbd]
    rw [hlp, hbd] at HP
    rw [hbd] at HREC ⊢
    obtain ⟨W1, hW1⟩ : ∃ W1, (wl.alloc (.deferred (some []))).alloc (.loop (rec .ready none)) = W1 := ⟨_, rfl⟩
    rw [hW1] at HP ⊢
    clear hW1 hlp hbd hcl
    replace HP := Lib.hid (Hp.pull (A := [_]) HP.out)
    replace HP := Lib.hid (Hp.pull (A := [_]) HP.out)
    replace HP := Lib.hid (Hp.pull (A := [_, _, _, _]) HP.out)
    replace HP := Lib.hid (Hp.pull (A := [_, _, _, _, _, _, _]) HP.out)
    replace HP := Lib.hid (Hp.pull (A := [_, _, _, _, _, _, _, _]) HP.out)
    replace HP := Lib.hid (Hp.pull (A := [_, _, _, _, _, _, _, _, _]) HP.out)
    replace HP := Lib.hid (Hp.pull (A := [_, _, _, _, _, _, _, _]) HP.out)
    replace HP := Lib.hid (Hp.pull (A := [_, _, _, _, _, _, _, _, _]) HP.out)
    replace HP := Lib.hid (Hp.pull (A := [_, _, _, _, _, _, _, _, _]) HP.out)
    replace HP := Lib.hid (Hp.pull (A := [_, _, _, _, _, _, _, _, _]) HP.out)
    simp only [List.cons_append, List.nil_append] at HP
    refine (Lines1_in 4 (bd + 1) B (RdI w l (bd + 1) bd B g2 g3 g4 g5 g6 (rec .ready none)) (RdX w l (bd + 1) bd g2 g3 g4 (rec .done (some .ret))) ?_ ?_ ?_ ?_ l W1 ?_).mono ?_
    · rintro r W ⟨k, G, fs, fs0, us0, cells, cv, pv, code, h1, h2, h3⟩
      exact ⟨h3.cell (g := B) (t := 9) (cs := [.string (bstr r)]) (by simp) 0 _ rfl, h3.free (g := B) (t := 9) (cs := [.string (bstr r)]) (by simp) 0⟩
    · rintro r W ⟨k, G, fs, fs0, us0, cells, cv, pv, code, h1, h2, h3⟩
      exact ⟨k, G, fs, fs0, us0, cells, cv, pv, code, h1, h2, h3.drew⟩
    · rintro r W ⟨k, G, fs, fs0, us0, cells, cv, pv, code, h1, h2, h3⟩
      have h4 := h1.kr
      have h5 := HNB.out
      rw [HN.out] at h4
      omega
    · clear HP
      rintro r W hr ⟨k, G, fs, fs0, us0, cells, cv, pv, code, HQ, HM, HP⟩
      replace HQ := Lib.hid HQ
      replace HM := Lib.hid HM
      replace HP := Lib.hid (Hp.set (A := rdP g5 g6 cv pv code fs cells k ++ rdG g2 g3 g4 (.slice none 0 0) 0 0) HP 0 (.string (bstr (cutLn r).2)))
      refine yield_rec HREC (HP.out.theObj (by simp)) ?_
      dsimp only
      simp only [List.setIfInBounds_toArray, List.set_cons_succ, List.set_cons_zero]
      gi_wp2
      refine ⟨_, begin_rec HREC (HP.out.theObj (by simp)), ?_⟩
      replace HP := Lib.hid (Hp.putObj (A := rdP g5 g6 cv pv code fs cells k ++ rdG g2 g3 g4 (.slice none 0 0) 0 0 ++ [.blk B 9 [.string (bstr (cutLn r).2)]]) HP.out (.loop (rec .busy none)))
      obtain ⟨wb, hwb⟩ : ∃ wb, (W.setCell ⟨B, 0, none⟩ (.string (bstr (cutLn r).2))).putObj (bd + 1) (.loop (rec .busy none)) = wb := ⟨_, rfl⟩
      rw [hwb] at HP ⊢
      have HQG := Lib.hid (fun fs' code' => HQ.out.go (fs' := fs') (code' := code') hr)
      have HQB := Lib.hid (HQ.out.bad hr)
      have hkr := HQ.out.kr
      have hfk := HQ.out.fk
      have hck := HQ.out.ck
      have htl := cutLn_fst_le r
      rw [HN.out] at hkr
      obtain ⟨t, ht⟩ : ∃ t, (cutLn r).1 = t := ⟨_, rfl⟩
      obtain ⟨r', hr'⟩ : ∃ r', (cutLn r).2 = r' := ⟨_, rfl⟩
      rw [ht] at HQG HQB htl ⊢
      rw [hr'] at HQG HP ⊢
      clear hwb ht hr' hr
      obtain ⟨ts, hts⟩ : ∃ ts, Lib.trimSuffix t [10] = ts := ⟨_, rfl⟩
      have htsl : ts.length ≤ 1000000 := by
        rw [← hts]
        have := trimSuffix_le t [10]
        omega
      have HTS := Lib.hid hts
      have HTC := Lib.hid (show ∀ wq, Calls Tryd.prog 21 #[.string (bstr t), .string ⟨#[10]⟩] wq fun e w' => e = .returned (.string (bstr ts)) ∧ wq = w' from fun wq => by
        refine (Tryd.strings_TrimSuffix (bstr t) ⟨#[10]⟩ wq (by rw [bstr_size]; omega)).mono ?_
        rintro e w' ⟨rfl, rfl⟩
        rw [bstr_data, ← hts]
        exact ⟨rfl, rfl⟩)
      clear hts
      simp only [List.cons_append, List.nil_append] at HP
      generalize hQQ : roundPost Tryd.prog (bd + 1) _ = QQ
      have HQQ := Lib.hid hQQ
      have HPN := Lib.hid (show ∀ c a w, ¬ QQ (.panic c) a w from fun c a w h => by rw [← hQQ] at h; exact h)
      clear hQQ
      apply wpIn_block
      apply wpIn_seq_k
      intro K hK
      refine wpR_region2 (by kernel_rfl) ?_
      go_wp2_with (first | (go_at_call 21; refine (HTC.out _).mono ?_; rintro e wts ⟨rfl, rfl⟩) | (go_at_call 20; refine (Split_any ts htsl _ ml (HP.out.cellOf (F := ⟨w, Lt w.heap.size⟩) (by simp) HML.out (World.block_lt_of_cell? w _ HML.out))).mono ?_; rintro e w1 ⟨v, rfl, hv, hb1⟩; have HP1 := Lib.hid (HP.out.call hb1); have HV := Lib.hid hv; clear hb1 hv HP))
      refine and_normal ?_
      obtain ⟨ws, hws⟩ : ∃ ws, splitSp ts = ws := ⟨_, rfl⟩
      have hne : ws ≠ [] := by rw [← hws]; exact splitSp_ne ts
      have hsl := split_len ts
      rw [hws] at hsl
      have HWL := Lib.hid hsl.2
      have hm1 := hsl.1
      clear hsl
      have HWS := Lib.hid hws
      obtain ⟨m, hm⟩ : ∃ m, ws.length = m := ⟨_, rfl⟩
      have hm0 : 0 < m := by rw [← hm]; exact List.length_pos_iff.2 hne
      rw [hm] at hm1
      obtain ⟨w0, hw0⟩ : ∃ w0, ws.headD [] = w0 := ⟨_, rfl⟩
      have HLW := Lib.hid (show lineWs t = ws by unfold lineWs; rw [HTS.out, hws])
      have HR1 := Lib.hid (show Lay.rep w1 (Lt w1.heap.size) (ws.map bstr) [v] by rw [← HWS.out]; exact Lay.more (fun b hb => hb.2) HV.out)
      obtain ⟨F1, A, ca, rfl, HP, HX⟩ : ∃ (F1 : Fro) (A : Addr) (ca : Nat), v = .slice (some A) m ca ∧ Hid (Hp w [G, F1, { w := w, S := Lt w.heap.size }] [.row cv 48 5 code.length (code.flatMap insR), .row pv 36 3 fs.length cells, .blk g5 24 [pv], .blk g6 3 [.int .i64 k], .blk g2 24 [.slice none 0 0], .blk g3 3 [.int .i64 0], .blk g4 26 [.int .i64 0], .blk B 9 [.string (bstr r')], .obj (bd + 1) (.loop (rec .busy none)), .obj bd (.deferred (some []))] w1) ∧ Hid (∀ k, k < m → F1.w.cell? (A.add k) = some (.string (bstr (ws.getD k []))) ∧ F1.S A.block) := by
        obtain ⟨A, ca, rfl, hcell⟩ := rep_strs HV.out (by simpa using splitSp_ne ts)
        have hl2 : (List.map bstr (splitSp ts)).length = m := by rw [HWS.out, List.length_map, hm]
        refine ⟨⟨w1, fun b => wb.heap.size ≤ b ∧ b < w1.heap.size⟩, A, ca, by rw [hl2], Lib.hid (HP1.out.froSub (fun F hF => by simp only [List.mem_cons, List.not_mem_nil, or_false] at hF ⊢; rcases hF with h | h | h <;> simp [h])), Lib.hid fun k hk => ?_⟩
        obtain ⟨h1, h2⟩ := hcell k (by rw [hl2]; exact hk)
        refine ⟨?_, h2⟩
        rw [h1]
        congr 2
        rw [List.getElem_map]
        congr 1
        have hk2 : k < ws.length := by rw [hm]; exact hk
        simp only [HWS.out, List.getD_eq_getElem?_getD, List.getElem?_eq_getElem hk2, Option.getD_some]
      have HM9 := Lib.hid hm
      have HW0 := Lib.hid (show ws.getD 0 [] = w0 by rw [← hw0]; cases ws <;> rfl)
      have HWH := Lib.hid hw0
      have hc0 := HP.out.cellOf (F := F1) (by simp) (HX.out 0 hm0).1 (by rw [block_of_add]; exact (HX.out 0 hm0).2)
      rw [HW0.out, show A.add 0 = A by simp [Addr.add]] at hc0
      clear HP1 HV hw0 hws
      simp only [Exit.then]
      refine hK _ _ ?_
      clear hK K
      have hnb := HNB.out
      have HKW := Lib.hid (show wrap64 ((k : Int) + 1) = ((k + 1 : Nat) : Int) by unfold wrap64; omega)
      obtain ⟨Ap, cp, rfl⟩ := HP.out.rowSlice2 (.tail _ (.head _))
      by_cases hf : w0 = funcW
      · have hfb : ((bstr w0).toList == [102, 117, 110, 99]) = true := by rw [bstr_toList, hf]; exact beq_self_eq_true funcW
        have HF := Lib.hid (show (lineWs t).headD [] = funcW by rw [HLW.out, HWH.out, hf])
        clear hf
        by_cases h2 : 2 < m
        · have h2i : (2 : Int) < (m : Int) := by omega
          have h1i : (1 : Int) < (m : Int) := by omega
          obtain ⟨wa, hwa⟩ : ∃ wa, ws.getD 1 [] = wa := ⟨_, rfl⟩
          obtain ⟨wc, hwc⟩ : ∃ wc, ws.getD 2 [] = wc := ⟨_, rfl⟩
          have hX1 := HX.out 1 (by omega)
          have hX2 := HX.out 2 (by omega)
          rw [hwa, show A.add 1 = ⟨A.block, A.off + 1, none⟩ by simp [Addr.add]] at hX1
          rw [hwc, show A.add 2 = ⟨A.block, A.off + 2, none⟩ by simp [Addr.add]] at hX2
          have HX1 := Lib.hid hX1
          have HX2 := Lib.hid hX2
          have hal : wa.length ≤ 1000000 := by
            have hk2 : 1 < ws.length := by rw [HM9.out]; omega
            have := HWL.out ws[1] (List.getElem_mem hk2)
            rw [List.getD_eq_getElem?_getD, List.getElem?_eq_getElem hk2, Option.getD_some] at hwa
            rw [← hwa]; omega
          have hbl : wc.length ≤ 1000000 := by
            have hk2 : 2 < ws.length := by rw [HM9.out]; omega
            have := HWL.out ws[2] (List.getElem_mem hk2)
            rw [List.getD_eq_getElem?_getD, List.getElem?_eq_getElem hk2, Option.getD_some] at hwc
            rw [← hwc]; omega
          obtain ⟨pa, hpa⟩ : ∃ pa, atoiV wa = pa := ⟨_, rfl⟩
          obtain ⟨pb, hpb⟩ : ∃ pb, atoiV wc = pb := ⟨_, rfl⟩
          have HPF := Lib.hid (show parseFun (lineWs t) = ⟨pa, pb, []⟩ by rw [HLW.out]; unfold parseFun; rw [if_pos (by rw [HM9.out]; exact h2), hwa, hwc, hpa, hpb])
          have HIA := Lib.hid (show I64 pa by rw [← hpa]; exact atoiV_range _)
          have HIB := Lib.hid (show I64 pb by rw [← hpb]; exact atoiV_range _)
          have HNA := Lib.hid (show ∀ wq, Below w.heap.size w wq → Calls Tryd.prog 22 #[.string (bstr wa)] wq fun e w' => ∃ ev, e = .returned (.tuple #[.int .i64 pa, ev]) ∧ Below wq.heap.size wq w' from fun wq hb => by
            have := Atoi_any wa hal wq (HA.out.keep hb)
            rwa [hpa] at this)
          have HNC := Lib.hid (show ∀ wq, Below w.heap.size w wq → Calls Tryd.prog 22 #[.string (bstr wc)] wq fun e w' => ∃ ev, e = .returned (.tuple #[.int .i64 pb, ev]) ∧ Below wq.heap.size wq w' from fun wq hb => by
            have := Atoi_any wc hbl wq (HA.out.keep hb)
            rwa [hpb] at this)
          clear hpa hpb hwa hwc hX1 hX2 h2
          obtain ⟨hs, hhs⟩ : ∃ hs, headS ⟨pa, pb, []⟩ = hs := ⟨_, rfl⟩
          have HHD := Lib.hid (show ∀ wq, Below w.heap.size w wq → Calls Tryd.prog 13 #[.agg #[.int .i64 pa, .int .i64 pb, .slice none 0 0]] wq fun e w' => e = .returned (.string (bstr hs)) ∧ Below wq.heap.size wq w' from fun wq hb => by
            rw [← hhs]
            exact head_any pa pb (.slice none 0 0) HIA.out HIB.out wq (HT.out.keep hb rfl))
          have HHS := Lib.hid hhs
          clear hhs
          by_cases hok : hs = t ∧ 0 ≤ pa ∧ 0 ≤ pb
          · have HSL := Lib.hid (show stepLn fs t = some (fs ++ [⟨pa, pb, []⟩]) by
              unfold stepLn headOf
              rw [if_pos HF.out, HPF.out, HHS.out, if_pos hok]
              rfl)
            obtain ⟨hq, h0a, h0b⟩ := hok
            have hb1 : ((bstr hs).toList == (bstr t).toList) = true := by rw [hq]; exact beq_self_eq_true _
            have hb2 : ((bstr hs).toList != (bstr t).toList) = false := by unfold bne; rw [hb1]; rfl
            have hd1 : decide (pa < 0) = false := decide_eq_false (by omega)
            have hd2 : decide (pb < 0) = false := decide_eq_false (by omega)
            clear hq
            repeat (first | (with_reducible refine and_normal ?_) | ((fail_if_success (apply wpIn_region_lit)); gi_step))
            refine wpR_region2 (by kernel_rfl) ?_
            go_wp2_with (first | fail)
            repeat (first | (with_reducible refine and_normal ?_) | ((fail_if_success (apply wpIn_region_lit)); gi_step))
            refine wpR_region2 (by kernel_rfl) ?_
            go_wp2_with (first | ((refine wpList_alloc_hp (o := ⟨some 9, _, _, _, _, _⟩) rfl _ rfl HP.out (.agg #[.int .i64 0, .int .i64 0, .slice none 0 0]) (by kernel_rfl) [_, _, _] rfl ?_; clear HP; intro g9 w9 HP; replace HP := Lib.hid HP); clear hc0; have hca := HP.out.cellOf (F := F1) (by simp) HX1.out.1 HX1.out.2))
            repeat (first | (with_reducible refine and_normal ?_) | ((fail_if_success (apply wpIn_region_lit)); gi_step))
            refine wpR_region2 (by kernel_rfl) ?_
            go_wp2_with (first | fail)
            repeat (first | (with_reducible refine and_normal ?_) | ((fail_if_success (apply wpIn_region_lit)); gi_step))
            refine wpR_region2 (by kernel_rfl) ?_
            go_wp2_with (first | ((refine wpList_st0 rfl 3 _ _ rfl HP.out rfl rfl (by simp) rfl rfl (by kernel_rfl) ?_; clear HP; intro wst HP; replace HP := Lib.hid HP); have hcb := HP.out.cellOf (F := F1) (by simp) HX2.out.1 HX2.out.2) | (go_at_call_of 22 ([Value.string (bstr wa)]); refine (HNA.out _ HP.out.below).mono ?_; rintro e wna ⟨ev, rfl, hb⟩; replace HP := Lib.hid (HP.out.call0 hb); clear hb hca))
            repeat (first | (with_reducible refine and_normal ?_) | ((fail_if_success (apply wpIn_region_lit)); gi_step))
            refine wpR_region2 (by kernel_rfl) ?_
            go_wp2_with (first | ((refine wpList_st0 rfl 3 _ _ rfl HP.out rfl rfl (by simp) rfl rfl (by kernel_rfl) ?_; clear HP; intro wst HP; replace HP := Lib.hid HP); have hcb := HP.out.cellOf (F := F1) (by simp) HX2.out.1 HX2.out.2) | (go_at_call_of 22 ([Value.string (bstr wc)]); refine (HNC.out _ HP.out.below).mono ?_; rintro e wna ⟨ev, rfl, hb⟩; replace HP := Lib.hid (HP.out.call0 hb); clear hb hcb))
            repeat (first | (with_reducible refine and_normal ?_) | ((fail_if_success (apply wpIn_region_lit)); gi_step))
            refine wpR_region2 (by kernel_rfl) ?_
            go_wp2_with (first | (go_at_call 13; refine (HHD.out _ HP.out.below).mono ?_; rintro e whd ⟨rfl, hb⟩; replace HP := Lib.hid (HP.out.call0 hb); clear hb; have hcp := HP.out.cell (g := g9) (t := 36) (cs := [.int .i64 pa, .int .i64 pb, .slice none 0 0]) (.head _) 0 _ rfl; have hcr := HP.out.cell (g := g9) (t := 36) (cs := [.int .i64 pa, .int .i64 pb, .slice none 0 0]) (.head _) 1 _ rfl) | (refine wpList_ldR0 rfl 36 _ rfl HP.out rfl Tryd.underlying36 rfl (by kernel_rfl) ?_))
            repeat (first | (with_reducible refine and_normal ?_) | ((fail_if_success (apply wpIn_region_lit)); gi_step))
            refine wpR_region2 (by kernel_rfl) ?_
            go_wp2_with (first | (refine wpList_ldR0 rfl 36 _ rfl HP.out rfl Tryd.underlying36 rfl (by kernel_rfl) ?_) | (refine wpList_ld0 rfl 22 _ rfl HP.out rfl rfl Tryd.underlying22 rfl ?_) | (refine wpList_ld1 rfl 22 _ rfl HP.out rfl rfl Tryd.underlying22 rfl ?_) | (refine wpList_ld2 rfl 22 _ rfl HP.out rfl rfl Tryd.underlying22 rfl ?_) | (refine wpList_ld3 rfl 22 _ rfl HP.out rfl rfl Tryd.underlying22 rfl ?_) | (refine wpList_slice_hp rfl 22 36 1 _ rfl HP.out Tryd.underlying22 #[.int .i64 pa, .int .i64 pb, .slice none 0 0] (by kernel_rfl) ?_; clear HP; intro gi wi HP; replace HP := Lib.hid HP) | (at_builtin; refine wpList_app2 rfl _ _ 22 rfl i_Fun (.agg #[.int .i64 0, .int .i64 0, .slice none 0 0]) Tryd.underlying22 hi_Fun hz_Fun hs_Fun rfl (by decide) hy_Fun (fs.length + 1) (by omega) HP.out rfl rfl rfl (by simp [Value.oneCell']) (by unfold maxLen; omega) (by omega) ?_; clear HP; intro A4 c4 wap HP; replace HP := Lib.hid HP) | (refine wpList_st0 rfl 22 _ _ rfl HP.out rfl rfl (by simp) rfl rfl (by kernel_rfl) ?_; clear HP; intro wst HP; replace HP := Lib.hid HP) | (refine wpList_st1 rfl 22 _ _ rfl HP.out rfl rfl (by simp) rfl rfl (by kernel_rfl) ?_; clear HP; intro wst HP; replace HP := Lib.hid HP) | (refine wpList_st2 rfl 22 _ _ rfl HP.out rfl rfl (by simp) rfl rfl (by kernel_rfl) ?_; clear HP; intro wst HP; replace HP := Lib.hid HP) | (refine wpList_st3 rfl 22 _ _ rfl HP.out rfl rfl (by simp) rfl rfl (by kernel_rfl) ?_; clear HP; intro wst HP; replace HP := Lib.hid HP))
            repeat (first | (with_reducible refine and_normal ?_) | ((fail_if_success (apply wpIn_region_lit)); gi_step))
            refine wpR_region2 (by kernel_rfl) ?_
            go_wp2_with (first | (refine wpList_ld0 rfl 3 _ rfl HP.out rfl rfl Tryd.underlying3 rfl ?_) | (refine wpList_ld1 rfl 3 _ rfl HP.out rfl rfl Tryd.underlying3 rfl ?_) | (refine wpList_ld2 rfl 3 _ rfl HP.out rfl rfl Tryd.underlying3 rfl ?_) | (refine wpList_ld3 rfl 3 _ rfl HP.out rfl rfl Tryd.underlying3 rfl ?_) | (refine wpList_ld4 rfl 3 _ rfl HP.out rfl rfl Tryd.underlying3 rfl ?_) | (refine wpList_st0 rfl 3 _ _ rfl HP.out rfl rfl (by simp) rfl rfl (by kernel_rfl) ?_; clear HP; intro wst HP; replace HP := Lib.hid HP) | (refine wpList_st1 rfl 3 _ _ rfl HP.out rfl rfl (by simp) rfl rfl (by kernel_rfl) ?_; clear HP; intro wst HP; replace HP := Lib.hid HP) | (refine wpList_st2 rfl 3 _ _ rfl HP.out rfl rfl (by simp) rfl rfl (by kernel_rfl) ?_; clear HP; intro wst HP; replace HP := Lib.hid HP) | (refine wpList_st3 rfl 3 _ _ rfl HP.out rfl rfl (by simp) rfl rfl (by kernel_rfl) ?_; clear HP; intro wst HP; replace HP := Lib.hid HP) | (refine wpList_st4 rfl 3 _ _ rfl HP.out rfl rfl (by simp) rfl rfl (by kernel_rfl) ?_; clear HP; intro wst HP; replace HP := Lib.hid HP))
            repeat (first | (with_reducible refine and_normal ?_) | ((fail_if_success (apply wpIn_region_lit)); gi_step))
            rw [← HQQ.out]
            have HP9 := Hp.putObj (A := [.blk g9 36 [.int .i64 pa, .int .i64 pb, .slice none 0 0], .row cv 48 5 code.length (code.flatMap insR), .row (.slice A4 (fs.length + 1) c4) 36 3 (fs.length + 1) (cells ++ [.int .i64 pa, .int .i64 pb, .slice none 0 0]), .blk g5 24 [.slice A4 (fs.length + 1) c4], .blk g6 3 [.int .i64 ((k + 1 : Nat) : Int)], .blk g2 24 [.slice none 0 0], .blk g3 3 [.int .i64 0], .blk g4 26 [.int .i64 0], .blk B 9 [.string (bstr r')]]) HP.out (.loop (rec .ready none))
            obtain ⟨G', us, HM2, HP2⟩ := HM.out.next rfl pa pb (Hp.drop (A := []) (HP9.froSub (Fs' := [G, ⟨w, Lt w.heap.size⟩]) (fun F hF => by simp only [List.mem_cons, List.not_mem_nil, or_false] at hF ⊢; rcases hF with h | h <;> simp [h])))
            refine ⟨_, _, end_rec none HREC (HP.out.theObj (by simp)), .inl ⟨rfl, k + 1, G', fs ++ [⟨pa, pb, []⟩], fs, us, _, _, .slice A4 (fs.length + 1) c4, [], HQG.out _ _ HSL.out (by simp; omega) (by simp), HM2, ?_⟩⟩
            unfold rdP
            rw [show (fs ++ [(⟨pa, pb, []⟩ : Fun)]).length = fs.length + 1 by simp]
            exact HP2
          · have HBD := Lib.hid (show readFrom [] 0 l = (⟨[]⟩, (k : Int), 5) from HQB.out (by
              unfold stepLn headOf
              rw [if_pos HF.out, HPF.out, HHS.out, if_neg hok]
              rfl))
            obtain ⟨q, hq⟩ : ∃ q : Bool, ((bstr hs).toList == (bstr t).toList) = q := ⟨_, rfl⟩
            have hq2 : ((bstr hs).toList != (bstr t).toList) = !q := by unfold bne; rw [hq]
            obtain ⟨da, hda⟩ : ∃ da, decide (pa < 0) = da := ⟨_, rfl⟩
            obtain ⟨db, hdb⟩ : ∃ db, decide (pb < 0) = db := ⟨_, rfl⟩
            have hno : q = false ∨ (q = true ∧ da = true) ∨ (q = true ∧ da = false ∧ db = true) := by
              cases q with
              | false => exact .inl rfl
              | true =>
                rw [bstr_toList, bstr_toList, beq_iff_eq] at hq
                cases da with
                | true => exact .inr (.inl ⟨rfl, rfl⟩)
                | false =>
                  cases db with
                  | true => exact .inr (.inr ⟨rfl, rfl, rfl⟩)
                  | false => exact absurd ⟨hq, by have := of_decide_eq_false hda; omega, by have := of_decide_eq_false hdb; omega⟩ hok
            clear hok
            repeat (first | (with_reducible refine and_normal ?_) | ((fail_if_success (apply wpIn_region_lit)); gi_step))
            refine wpR_region2 (by kernel_rfl) ?_
            go_wp2_with (first | fail)
            repeat (first | (with_reducible refine and_normal ?_) | ((fail_if_success (apply wpIn_region_lit)); gi_step))
            refine wpR_region2 (by kernel_rfl) ?_
            go_wp2_with (first | ((refine wpList_alloc_hp (o := ⟨some 9, _, _, _, _, _⟩) rfl _ rfl HP.out (.agg #[.int .i64 0, .int .i64 0, .slice none 0 0]) (by kernel_rfl) [_, _, _] rfl ?_; clear HP; intro g9 w9 HP; replace HP := Lib.hid HP); clear hc0; have hca := HP.out.cellOf (F := F1) (by simp) HX1.out.1 HX1.out.2))
            repeat (first | (with_reducible refine and_normal ?_) | ((fail_if_success (apply wpIn_region_lit)); gi_step))
            refine wpR_region2 (by kernel_rfl) ?_
            go_wp2_with (first | fail)
            repeat (first | (with_reducible refine and_normal ?_) | ((fail_if_success (apply wpIn_region_lit)); gi_step))
            refine wpR_region2 (by kernel_rfl) ?_
            go_wp2_with (first | ((refine wpList_st0 rfl 3 _ _ rfl HP.out rfl rfl (by simp) rfl rfl (by kernel_rfl) ?_; clear HP; intro wst HP; replace HP := Lib.hid HP); have hcb := HP.out.cellOf (F := F1) (by simp) HX2.out.1 HX2.out.2) | (go_at_call_of 22 ([Value.string (bstr wa)]); refine (HNA.out _ HP.out.below).mono ?_; rintro e wna ⟨ev, rfl, hb⟩; replace HP := Lib.hid (HP.out.call0 hb); clear hb hca))
            repeat (first | (with_reducible refine and_normal ?_) | ((fail_if_success (apply wpIn_region_lit)); gi_step))
            refine wpR_region2 (by kernel_rfl) ?_
            go_wp2_with (first | ((refine wpList_st0 rfl 3 _ _ rfl HP.out rfl rfl (by simp) rfl rfl (by kernel_rfl) ?_; clear HP; intro wst HP; replace HP := Lib.hid HP); have hcb := HP.out.cellOf (F := F1) (by simp) HX2.out.1 HX2.out.2) | (go_at_call_of 22 ([Value.string (bstr wc)]); refine (HNC.out _ HP.out.below).mono ?_; rintro e wna ⟨ev, rfl, hb⟩; replace HP := Lib.hid (HP.out.call0 hb); clear hb hcb))
            repeat (first | (with_reducible refine and_normal ?_) | ((fail_if_success (apply wpIn_region_lit)); gi_step))
            rcases hno with rfl | ⟨rfl, rfl⟩ | ⟨rfl, rfl, rfl⟩
            all_goals
              repeat (first | (with_reducible refine and_normal ?_) | ((fail_if_success (apply wpIn_region_lit)); gi_step))
              refine wpR_region2 (by kernel_rfl) ?_
              go_wp2_with (first | (go_at_call 13; refine (HHD.out _ HP.out.below).mono ?_; rintro e whd ⟨rfl, hb⟩; replace HP := Lib.hid (HP.out.call0 hb); clear hb; have hcp := HP.out.cell (g := g9) (t := 36) (cs := [.int .i64 pa, .int .i64 pb, .slice none 0 0]) (.head _) 0 _ rfl; have hcr := HP.out.cell (g := g9) (t := 36) (cs := [.int .i64 pa, .int .i64 pb, .slice none 0 0]) (.head _) 1 _ rfl) | (refine wpList_ldR0 rfl 36 _ rfl HP.out rfl Tryd.underlying36 rfl (by kernel_rfl) ?_))
              repeat (first | (with_reducible refine and_normal ?_) | ((fail_if_success (apply wpIn_region_lit)); gi_step))
              refine wpR_held2 (S := fun wq => wq.cell? ⟨g6, 0, none⟩ = some (.int .i64 k)) (by kernel_rfl) (by kernel_rfl) ?_
              replace HP := Lib.hid HP.out.drew
              have HS0 := Lib.hid (HP.out.cell (g := g6) (t := 3) (cs := [.int .i64 k]) (by simp) 0 _ rfl)
              (try simp only [Act.put, List.setIfInBounds_toArray, List.set_cons_zero, List.set_cons_succ])
              refine wpAnyH_take (i := 0) (v := ?_) rfl (by kernel_rfl) (by kernel_rfl) (by kernel_rfl) (fun _ _ _ h => (HPN.out _ _ _ h.2).elim) (.inl ⟨by first | (simp [Region.wanted]; done) | rfl, ?_⟩) HS0.out ?_
              rotate_left
              · intro w' hw
                go_simp
                (try with_reducible rfl)
              (try simp only [List.getElem_toArray, List.getElem_cons_succ, List.getElem_cons_zero, Act.put, List.setIfInBounds_toArray, List.set_cons_zero, List.set_cons_succ])
              refine wpAnyH_take (i := 1) (v := ?_) rfl (by kernel_rfl) (by kernel_rfl) (by kernel_rfl) (fun _ _ _ h => (HPN.out _ _ _ h.2).elim) (.inl ⟨by first | (simp [Region.wanted]; done) | rfl, ?_⟩) HS0.out ?_
              rotate_left
              · intro w' hw
                go_simp
                (try with_reducible rfl)
              (try simp only [List.getElem_toArray, List.getElem_cons_succ, List.getElem_cons_zero, Act.put, List.setIfInBounds_toArray, List.set_cons_zero, List.set_cons_succ])
              refine wpAnyH_ready (rs := [2]) (by kernel_rfl) (by simp) ?_
              refine AllReadyH.cons rfl (fun K hK => ?_) AllReadyH.nil
              refine wanted_only rfl ?_
              refine wpList_stR5 rfl 24 _ _ rfl HP.out rfl (cs' := [.slice none 0 0]) rfl rfl (by simp [Value.oneCell']) (by kernel_rfl) ?_; clear HP; intro wst HP; replace HP := Lib.hid HP
              refine wpList_nil ?_
              refine hK.out _ _ (HP.out.cell (g := g6) (t := 3) (cs := [.int .i64 k]) (by simp) 0 _ rfl) (fun hHeld => ?_)
              replace HS0 := Lib.hid hHeld
              clear hK K hHeld
              (try simp only [List.getElem_toArray, List.getElem_cons_succ, List.getElem_cons_zero, Act.put, List.setIfInBounds_toArray, List.set_cons_zero, List.set_cons_succ])
              refine wpAnyH_ready (rs := [3]) (by kernel_rfl) (by simp) ?_
              refine AllReadyH.cons rfl (fun K hK => ?_) AllReadyH.nil
              refine wanted_only rfl ?_
              refine wpList_st6 rfl 3 _ _ rfl HP.out rfl rfl (by simp) rfl rfl (by kernel_rfl) ?_; clear HP; intro wst HP; replace HP := Lib.hid HP
              refine wpList_nil ?_
              refine hK.out _ _ (HP.out.cell (g := g6) (t := 3) (cs := [.int .i64 k]) (by simp) 0 _ rfl) (fun hHeld => ?_)
              replace HS0 := Lib.hid hHeld
              clear hK K hHeld
              (try simp only [List.getElem_toArray, List.getElem_cons_succ, List.getElem_cons_zero, Act.put, List.setIfInBounds_toArray, List.set_cons_zero, List.set_cons_succ])
              refine wpAnyH_ready (rs := [4]) (by kernel_rfl) (by simp) ?_
              refine AllReadyH.cons rfl (fun K hK => ?_) AllReadyH.nil
              refine wanted_only rfl ?_
              refine wpList_st7 rfl 26 _ _ rfl HP.out rfl rfl (by simp) rfl rfl (by kernel_rfl) ?_; clear HP; intro wst HP; replace HP := Lib.hid HP
              refine wpList_nil ?_
              refine hK.out _ _ (HP.out.cell (g := g6) (t := 3) (cs := [.int .i64 k]) (by simp) 0 _ rfl) (fun hHeld => ?_)
              replace HS0 := Lib.hid hHeld
              clear hK K hHeld
              (try simp only [List.getElem_toArray, List.getElem_cons_succ, List.getElem_cons_zero, Act.put, List.setIfInBounds_toArray, List.set_cons_zero, List.set_cons_succ])
              refine wpAnyH_done (by kernel_rfl) ⟨by simp, ?_⟩ _
              clear HS0
              repeat gi_step
              rw [← HQQ.out]
              have HP9 := ((HP.out.sub (.cons _ (.cons _ (.cons _ (.cons _ (.cons _ (.cons_cons _ (.cons_cons _ (.cons_cons _ (.cons _ (.cons_cons _ (.cons_cons _ .slnil))))))))))))).froSub (Fs' := [⟨w, Lt w.heap.size⟩]) (fun F hF => by simp only [List.mem_cons, List.not_mem_nil, or_false] at hF ⊢; simp [hF])
              have HP8 := Hp.putObj (A := rdG g2 g3 g4 (.slice none 0 0) k 5) (B := [.obj bd (.deferred (some []))]) HP9 (.loop (rec .done (some .ret)))
              exact ⟨_, _, end_rec (some .ret) HREC (HP.out.theObj (by simp)), .inr ⟨rfl, k, HBD.out, HP8⟩⟩
        · have HPF := Lib.hid (show parseFun (lineWs t) = ⟨0, 0, []⟩ by rw [HLW.out]; unfold parseFun; rw [if_neg (by rw [HM9.out]; exact h2)])
          have h2i : ¬ (2 : Int) < (m : Int) := by omega
          obtain ⟨hs, hhs⟩ : ∃ hs, headS ⟨0, 0, []⟩ = hs := ⟨_, rfl⟩
          have HHD := Lib.hid (show ∀ wq, Below w.heap.size w wq → Calls Tryd.prog 13 #[.agg #[.int .i64 0, .int .i64 0, .slice none 0 0]] wq fun e w' => e = .returned (.string (bstr hs)) ∧ Below wq.heap.size wq w' from fun wq hb => by
            rw [← hhs]
            exact head_any 0 0 (.slice none 0 0) ⟨by omega, by omega⟩ ⟨by omega, by omega⟩ wq (HT.out.keep hb rfl))
          have HHS := Lib.hid hhs
          clear hhs h2
          by_cases hok : hs = t
          · have HSL := Lib.hid (show stepLn fs t = some (fs ++ [⟨0, 0, []⟩]) by
              unfold stepLn headOf
              rw [if_pos HF.out, HPF.out, HHS.out, if_pos ⟨hok, by simp, by simp⟩]
              rfl)
            have hb1 : ((bstr hs).toList == (bstr t).toList) = true := by rw [hok]; exact beq_self_eq_true _
            have hb2 : ((bstr hs).toList != (bstr t).toList) = false := by unfold bne; rw [hb1]; rfl
            clear hok
            repeat (first | (with_reducible refine and_normal ?_) | ((fail_if_success (apply wpIn_region_lit)); gi_step))
            refine wpR_region2 (by kernel_rfl) ?_
            go_wp2_with (first | fail)
            repeat (first | (with_reducible refine and_normal ?_) | ((fail_if_success (apply wpIn_region_lit)); gi_step))
            refine wpR_region2 (by kernel_rfl) ?_
            go_wp2_with (first | ((refine wpList_alloc_hp (o := ⟨some 9, _, _, _, _, _⟩) rfl _ rfl HP.out (.agg #[.int .i64 0, .int .i64 0, .slice none 0 0]) (by kernel_rfl) [_, _, _] rfl ?_; clear HP; intro g9 w9 HP; replace HP := Lib.hid HP); clear hc0))
            repeat (first | (with_reducible refine and_normal ?_) | ((fail_if_success (apply wpIn_region_lit)); gi_step))
            refine wpR_region2 (by kernel_rfl) ?_
            go_wp2_with (first | fail)
            repeat (first | (with_reducible refine and_normal ?_) | ((fail_if_success (apply wpIn_region_lit)); gi_step))
            refine wpR_region2 (by kernel_rfl) ?_
            go_wp2_with (first | (go_at_call 13; refine (HHD.out _ HP.out.below).mono ?_; rintro e whd ⟨rfl, hb⟩; replace HP := Lib.hid (HP.out.call0 hb); clear hb; have hcp := HP.out.cell (g := g9) (t := 36) (cs := [.int .i64 0, .int .i64 0, .slice none 0 0]) (.head _) 0 _ rfl; have hcr := HP.out.cell (g := g9) (t := 36) (cs := [.int .i64 0, .int .i64 0, .slice none 0 0]) (.head _) 1 _ rfl) | (refine wpList_ldR0 rfl 36 _ rfl HP.out rfl Tryd.underlying36 rfl (by kernel_rfl) ?_))
            repeat (first | (with_reducible refine and_normal ?_) | ((fail_if_success (apply wpIn_region_lit)); gi_step))
            refine wpR_region2 (by kernel_rfl) ?_
            go_wp2_with (first | (refine wpList_ldR0 rfl 36 _ rfl HP.out rfl Tryd.underlying36 rfl (by kernel_rfl) ?_) | (refine wpList_ld0 rfl 22 _ rfl HP.out rfl rfl Tryd.underlying22 rfl ?_) | (refine wpList_ld1 rfl 22 _ rfl HP.out rfl rfl Tryd.underlying22 rfl ?_) | (refine wpList_ld2 rfl 22 _ rfl HP.out rfl rfl Tryd.underlying22 rfl ?_) | (refine wpList_ld3 rfl 22 _ rfl HP.out rfl rfl Tryd.underlying22 rfl ?_) | (refine wpList_slice_hp rfl 22 36 1 _ rfl HP.out Tryd.underlying22 #[.int .i64 0, .int .i64 0, .slice none 0 0] (by kernel_rfl) ?_; clear HP; intro gi wi HP; replace HP := Lib.hid HP) | (at_builtin; refine wpList_app2 rfl _ _ 22 rfl i_Fun (.agg #[.int .i64 0, .int .i64 0, .slice none 0 0]) Tryd.underlying22 hi_Fun hz_Fun hs_Fun rfl (by decide) hy_Fun (fs.length + 1) (by omega) HP.out rfl rfl rfl (by simp [Value.oneCell']) (by unfold maxLen; omega) (by omega) ?_; clear HP; intro A4 c4 wap HP; replace HP := Lib.hid HP) | (refine wpList_st0 rfl 22 _ _ rfl HP.out rfl rfl (by simp) rfl rfl (by kernel_rfl) ?_; clear HP; intro wst HP; replace HP := Lib.hid HP) | (refine wpList_st1 rfl 22 _ _ rfl HP.out rfl rfl (by simp) rfl rfl (by kernel_rfl) ?_; clear HP; intro wst HP; replace HP := Lib.hid HP) | (refine wpList_st2 rfl 22 _ _ rfl HP.out rfl rfl (by simp) rfl rfl (by kernel_rfl) ?_; clear HP; intro wst HP; replace HP := Lib.hid HP) | (refine wpList_st3 rfl 22 _ _ rfl HP.out rfl rfl (by simp) rfl rfl (by kernel_rfl) ?_; clear HP; intro wst HP; replace HP := Lib.hid HP))
            repeat (first | (with_reducible refine and_normal ?_) | ((fail_if_success (apply wpIn_region_lit)); gi_step))
            refine wpR_region2 (by kernel_rfl) ?_
            go_wp2_with (first | (refine wpList_ld0 rfl 3 _ rfl HP.out rfl rfl Tryd.underlying3 rfl ?_) | (refine wpList_ld1 rfl 3 _ rfl HP.out rfl rfl Tryd.underlying3 rfl ?_) | (refine wpList_ld2 rfl 3 _ rfl HP.out rfl rfl Tryd.underlying3 rfl ?_) | (refine wpList_ld3 rfl 3 _ rfl HP.out rfl rfl Tryd.underlying3 rfl ?_) | (refine wpList_ld4 rfl 3 _ rfl HP.out rfl rfl Tryd.underlying3 rfl ?_) | (refine wpList_st0 rfl 3 _ _ rfl HP.out rfl rfl (by simp) rfl rfl (by kernel_rfl) ?_; clear HP; intro wst HP; replace HP := Lib.hid HP) | (refine wpList_st1 rfl 3 _ _ rfl HP.out rfl rfl (by simp) rfl rfl (by kernel_rfl) ?_; clear HP; intro wst HP; replace HP := Lib.hid HP) | (refine wpList_st2 rfl 3 _ _ rfl HP.out rfl rfl (by simp) rfl rfl (by kernel_rfl) ?_; clear HP; intro wst HP; replace HP := Lib.hid HP) | (refine wpList_st3 rfl 3 _ _ rfl HP.out rfl rfl (by simp) rfl rfl (by kernel_rfl) ?_; clear HP; intro wst HP; replace HP := Lib.hid HP) | (refine wpList_st4 rfl 3 _ _ rfl HP.out rfl rfl (by simp) rfl rfl (by kernel_rfl) ?_; clear HP; intro wst HP; replace HP := Lib.hid HP))
            repeat (first | (with_reducible refine and_normal ?_) | ((fail_if_success (apply wpIn_region_lit)); gi_step))
            rw [← HQQ.out]
            have HP9 := Hp.putObj (A := [.blk g9 36 [.int .i64 0, .int .i64 0, .slice none 0 0], .row cv 48 5 code.length (code.flatMap insR), .row (.slice A4 (fs.length + 1) c4) 36 3 (fs.length + 1) (cells ++ [.int .i64 0, .int .i64 0, .slice none 0 0]), .blk g5 24 [.slice A4 (fs.length + 1) c4], .blk g6 3 [.int .i64 ((k + 1 : Nat) : Int)], .blk g2 24 [.slice none 0 0], .blk g3 3 [.int .i64 0], .blk g4 26 [.int .i64 0], .blk B 9 [.string (bstr r')]]) HP.out (.loop (rec .ready none))
            obtain ⟨G', us, HM2, HP2⟩ := HM.out.next rfl 0 0 (Hp.drop (A := []) (HP9.froSub (Fs' := [G, ⟨w, Lt w.heap.size⟩]) (fun F hF => by simp only [List.mem_cons, List.not_mem_nil, or_false] at hF ⊢; rcases hF with h | h <;> simp [h])))
            refine ⟨_, _, end_rec none HREC (HP.out.theObj (by simp)), .inl ⟨rfl, k + 1, G', fs ++ [⟨0, 0, []⟩], fs, us, _, _, .slice A4 (fs.length + 1) c4, [], HQG.out _ _ HSL.out (by simp; omega) (by simp), HM2, ?_⟩⟩
            unfold rdP
            rw [show (fs ++ [(⟨0, 0, []⟩ : Fun)]).length = fs.length + 1 by simp]
            exact HP2
          · have HBD := Lib.hid (show readFrom [] 0 l = (⟨[]⟩, (k : Int), 5) from HQB.out (by
              unfold stepLn headOf
              rw [if_pos HF.out, HPF.out, HHS.out, if_neg (fun h => hok h.1)]
              rfl))
            have hb1 : ((bstr hs).toList == (bstr t).toList) = false := by rw [bstr_toList, bstr_toList]; exact beq_eq_false_iff_ne.2 hok
            have hb2 : ((bstr hs).toList != (bstr t).toList) = true := by unfold bne; rw [hb1]; rfl
            clear hok
            repeat (first | (with_reducible refine and_normal ?_) | ((fail_if_success (apply wpIn_region_lit)); gi_step))
            refine wpR_region2 (by kernel_rfl) ?_
            go_wp2_with (first | fail)
            repeat (first | (with_reducible refine and_normal ?_) | ((fail_if_success (apply wpIn_region_lit)); gi_step))
            refine wpR_region2 (by kernel_rfl) ?_
            go_wp2_with (first | ((refine wpList_alloc_hp (o := ⟨some 9, _, _, _, _, _⟩) rfl _ rfl HP.out (.agg #[.int .i64 0, .int .i64 0, .slice none 0 0]) (by kernel_rfl) [_, _, _] rfl ?_; clear HP; intro g9 w9 HP; replace HP := Lib.hid HP); clear hc0))
            repeat (first | (with_reducible refine and_normal ?_) | ((fail_if_success (apply wpIn_region_lit)); gi_step))
            refine wpR_region2 (by kernel_rfl) ?_
            go_wp2_with (first | fail)
            repeat (first | (with_reducible refine and_normal ?_) | ((fail_if_success (apply wpIn_region_lit)); gi_step))
            refine wpR_region2 (by kernel_rfl) ?_
            go_wp2_with (first | (go_at_call 13; refine (HHD.out _ HP.out.below).mono ?_; rintro e whd ⟨rfl, hb⟩; replace HP := Lib.hid (HP.out.call0 hb); clear hb; have hcp := HP.out.cell (g := g9) (t := 36) (cs := [.int .i64 0, .int .i64 0, .slice none 0 0]) (.head _) 0 _ rfl; have hcr := HP.out.cell (g := g9) (t := 36) (cs := [.int .i64 0, .int .i64 0, .slice none 0 0]) (.head _) 1 _ rfl) | (refine wpList_ldR0 rfl 36 _ rfl HP.out rfl Tryd.underlying36 rfl (by kernel_rfl) ?_))
            repeat (first | (with_reducible refine and_normal ?_) | ((fail_if_success (apply wpIn_region_lit)); gi_step))
            refine wpR_held2 (S := fun wq => wq.cell? ⟨g6, 0, none⟩ = some (.int .i64 k)) (by kernel_rfl) (by kernel_rfl) ?_
            replace HP := Lib.hid HP.out.drew
            have HS0 := Lib.hid (HP.out.cell (g := g6) (t := 3) (cs := [.int .i64 k]) (by simp) 0 _ rfl)
            (try simp only [Act.put, List.setIfInBounds_toArray, List.set_cons_zero, List.set_cons_succ])
            refine wpAnyH_take (i := 0) (v := ?_) rfl (by kernel_rfl) (by kernel_rfl) (by kernel_rfl) (fun _ _ _ h => (HPN.out _ _ _ h.2).elim) (.inl ⟨by first | (simp [Region.wanted]; done) | rfl, ?_⟩) HS0.out ?_
            rotate_left
            · intro w' hw
              go_simp
              (try with_reducible rfl)
            (try simp only [List.getElem_toArray, List.getElem_cons_succ, List.getElem_cons_zero, Act.put, List.setIfInBounds_toArray, List.set_cons_zero, List.set_cons_succ])
            refine wpAnyH_take (i := 1) (v := ?_) rfl (by kernel_rfl) (by kernel_rfl) (by kernel_rfl) (fun _ _ _ h => (HPN.out _ _ _ h.2).elim) (.inl ⟨by first | (simp [Region.wanted]; done) | rfl, ?_⟩) HS0.out ?_
            rotate_left
            · intro w' hw
              go_simp
              (try with_reducible rfl)
            (try simp only [List.getElem_toArray, List.getElem_cons_succ, List.getElem_cons_zero, Act.put, List.setIfInBounds_toArray, List.set_cons_zero, List.set_cons_succ])
            refine wpAnyH_ready (rs := [2]) (by kernel_rfl) (by simp) ?_
            refine AllReadyH.cons rfl (fun K hK => ?_) AllReadyH.nil
            refine wanted_only rfl ?_
            refine wpList_stR5 rfl 24 _ _ rfl HP.out rfl (cs' := [.slice none 0 0]) rfl rfl (by simp [Value.oneCell']) (by kernel_rfl) ?_; clear HP; intro wst HP; replace HP := Lib.hid HP
            refine wpList_nil ?_
            refine hK.out _ _ (HP.out.cell (g := g6) (t := 3) (cs := [.int .i64 k]) (by simp) 0 _ rfl) (fun hHeld => ?_)
            replace HS0 := Lib.hid hHeld
            clear hK K hHeld
            (try simp only [List.getElem_toArray, List.getElem_cons_succ, List.getElem_cons_zero, Act.put, List.setIfInBounds_toArray, List.set_cons_zero, List.set_cons_succ])
            refine wpAnyH_ready (rs := [3]) (by kernel_rfl) (by simp) ?_
            refine AllReadyH.cons rfl (fun K hK => ?_) AllReadyH.nil
            refine wanted_only rfl ?_
            refine wpList_st6 rfl 3 _ _ rfl HP.out rfl rfl (by simp) rfl rfl (by kernel_rfl) ?_; clear HP; intro wst HP; replace HP := Lib.hid HP
            refine wpList_nil ?_
            refine hK.out _ _ (HP.out.cell (g := g6) (t := 3) (cs := [.int .i64 k]) (by simp) 0 _ rfl) (fun hHeld => ?_)
            replace HS0 := Lib.hid hHeld
            clear hK K hHeld
            (try simp only [List.getElem_toArray, List.getElem_cons_succ, List.getElem_cons_zero, Act.put, List.setIfInBounds_toArray, List.set_cons_zero, List.set_cons_succ])
            refine wpAnyH_ready (rs := [4]) (by kernel_rfl) (by simp) ?_
            refine AllReadyH.cons rfl (fun K hK => ?_) AllReadyH.nil
            refine wanted_only rfl ?_
            refine wpList_st7 rfl 26 _ _ rfl HP.out rfl rfl (by simp) rfl rfl (by kernel_rfl) ?_; clear HP; intro wst HP; replace HP := Lib.hid HP
            refine wpList_nil ?_
            refine hK.out _ _ (HP.out.cell (g := g6) (t := 3) (cs := [.int .i64 k]) (by simp) 0 _ rfl) (fun hHeld => ?_)
            replace HS0 := Lib.hid hHeld
            clear hK K hHeld
            (try simp only [List.getElem_toArray, List.getElem_cons_succ, List.getElem_cons_zero, Act.put, List.setIfInBounds_toArray, List.set_cons_zero, List.set_cons_succ])
            refine wpAnyH_done (by kernel_rfl) ⟨by simp, ?_⟩ _
            clear HS0
            repeat gi_step
            rw [← HQQ.out]
            have HP9 := ((HP.out.sub (.cons _ (.cons _ (.cons _ (.cons _ (.cons _ (.cons_cons _ (.cons_cons _ (.cons_cons _ (.cons _ (.cons_cons _ (.cons_cons _ .slnil))))))))))))).froSub (Fs' := [⟨w, Lt w.heap.size⟩]) (fun F hF => by simp only [List.mem_cons, List.not_mem_nil, or_false] at hF ⊢; simp [hF])
            have HP8 := Hp.putObj (A := rdG g2 g3 g4 (.slice none 0 0) k 5) (B := [.obj bd (.deferred (some []))]) HP9 (.loop (rec .done (some .ret)))
            exact ⟨_, _, end_rec (some .ret) HREC (HP.out.theObj (by simp)), .inr ⟨rfl, k, HBD.out, HP8⟩⟩
      · have hfb : ((bstr w0).toList == [102, 117, 110, 99]) = false := by rw [bstr_toList]; exact beq_eq_false_iff_ne.2 hf
        have HF := Lib.hid (show (lineWs t).headD [] ≠ funcW by rw [HLW.out, HWH.out]; exact hf)
        clear hf
        obtain ⟨x, hx⟩ : ∃ x, parseIns ws = x := ⟨_, rfl⟩
        have HPI := Lib.hid (show parseIns (lineWs t) = x by rw [HLW.out, hx])
        have HIN := Lib.hid (show Calls Tryd.prog 23 #[.slice (some A) m ca] w1 fun e w' => e = .returned (.agg #[.int .i64 x.op, .int .i64 x.dst, .int .i64 x.a, .int .i64 x.b, .int .i64 x.imm]) ∧ Below w1.heap.size w1 w' by
          have := instrP_any ws hne (fun y hy => by have := HWL.out y hy; omega) (by rw [HM9.out]; omega) (.slice (some A) m ca) w1 HR1.out (HA.out.keep HP.out.below) (HW.out.keep HP.out.below rfl)
          rw [hx] at this
          exact this)
        clear hne
        have HIC := Lib.hid (fun (h : x.op ≠ 0) => (show InsC x by rw [← hx]; exact parse_ok (by rw [hx]; exact h)))
        clear hx
        have HST := Lib.hid (show stepLn fs t = if fs = [] then none else if x.op ≠ 0 ∧ lineS x = t then some (addIns fs x) else none by
          unfold stepLn insOf
          rw [if_neg HF.out, HPI.out]
          split
          · rfl
          · split <;> rfl)
        repeat (first | (with_reducible refine and_normal ?_) | ((fail_if_success (apply wpIn_region_lit)); gi_step))
        refine wpR_region2 (by kernel_rfl) ?_
        go_wp2_with (first | fail)
        repeat (first | (with_reducible refine and_normal ?_) | ((fail_if_success (apply wpIn_region_lit)); gi_step))
        refine wpR_region2 (by kernel_rfl) ?_
        go_wp2_with (first | (go_at_call 23; refine HIN.out.mono ?_; rintro e win ⟨rfl, hb⟩; clear hc0; replace HP := Lib.hid (HP.out.call0 hb); clear hb) | (refine wpList_alloc_hp (o := ⟨some 10, _, _, _, _, _⟩) rfl _ rfl HP.out (.agg #[.int .i64 0, .int .i64 0, .int .i64 0, .int .i64 0, .int .i64 0]) (by kernel_rfl) [_, _, _, _, _] rfl ?_; clear HP; intro g10 w10 HP; replace HP := Lib.hid HP) | (refine wpList_stR0 rfl 48 _ _ rfl HP.out rfl (cs' := [_, _, _, _, _]) rfl rfl (by simp [Value.oneCell']) (by kernel_rfl) ?_; clear HP; intro wst HP; replace HP := Lib.hid HP))
        repeat (first | (with_reducible refine and_normal ?_) | ((fail_if_success (apply wpIn_region_lit)); gi_step))
        have hcg := HP.out.cell (g := g5) (t := 24) (cs := [.slice Ap fs.length cp]) (by simp) 0 _ rfl
        by_cases hop : x.op = 0
        · have HBD := Lib.hid (show readFrom [] 0 l = (⟨[]⟩, (k : Int), 5) from HQB.out (by
            rw [HST.out]
            split
            · rfl
            · rw [if_neg (fun h => h.1 hop)]))
          have hg0 : (x.op == 0) = true := beq_iff_eq.2 hop
          clear hop
          repeat (first | (with_reducible refine and_normal ?_) | ((fail_if_success (apply wpIn_region_lit)); gi_step))
          refine wpR_region2 (by kernel_rfl) ?_
          go_wp2_with (first | (go_at_call 14; refine (HLI.out _ HP.out.below).mono ?_; rintro e wli ⟨rfl, hb⟩; replace HP := Lib.hid (HP.out.call0 hb); clear hb) | (refine wpList_ld0 rfl 3 _ rfl HP.out rfl rfl Tryd.underlying3 rfl ?_) | (refine wpList_load_wr rfl 48 _ rfl ⟨g10, 0, none⟩ rfl [.int .i64 x.op, .int .i64 x.dst, .int .i64 x.a, .int .i64 x.b, .int .i64 x.imm] _ (HP.out.blkAt (g := g10) (t := 48) (cs := [.int .i64 x.op, .int .i64 x.dst, .int .i64 x.a, .int .i64 x.b, .int .i64 x.imm]) (.head _) 0) Tryd.underlying48 rfl (by kernel_rfl) ?_))
          repeat (first | (with_reducible refine and_normal ?_) | ((fail_if_success (apply wpIn_region_lit)); gi_step))
          refine wpR_held2 (S := fun wq => wq.cell? ⟨g6, 0, none⟩ = some (.int .i64 k)) (by kernel_rfl) (by kernel_rfl) ?_
          replace HP := Lib.hid HP.out.drew
          have HS0 := Lib.hid (HP.out.cell (g := g6) (t := 3) (cs := [.int .i64 k]) (by simp) 0 _ rfl)
          (try simp only [Act.put, List.setIfInBounds_toArray, List.set_cons_zero, List.set_cons_succ])
          refine wpAnyH_take (i := 0) (v := ?_) rfl (by kernel_rfl) (by kernel_rfl) (by kernel_rfl) (fun _ _ _ h => (HPN.out _ _ _ h.2).elim) (.inl ⟨by first | (simp [Region.wanted]; done) | rfl, ?_⟩) HS0.out ?_
          rotate_left
          · intro w' hw
            go_simp
            (try with_reducible rfl)
          (try simp only [List.getElem_toArray, List.getElem_cons_succ, List.getElem_cons_zero, Act.put, List.setIfInBounds_toArray, List.set_cons_zero, List.set_cons_succ])
          refine wpAnyH_take (i := 1) (v := ?_) rfl (by kernel_rfl) (by kernel_rfl) (by kernel_rfl) (fun _ _ _ h => (HPN.out _ _ _ h.2).elim) (.inl ⟨by first | (simp [Region.wanted]; done) | rfl, ?_⟩) HS0.out ?_
          rotate_left
          · intro w' hw
            go_simp
            (try with_reducible rfl)
          (try simp only [List.getElem_toArray, List.getElem_cons_succ, List.getElem_cons_zero, Act.put, List.setIfInBounds_toArray, List.set_cons_zero, List.set_cons_succ])
          refine wpAnyH_ready (rs := [2]) (by kernel_rfl) (by simp) ?_
          refine AllReadyH.cons rfl (fun K hK => ?_) AllReadyH.nil
          refine wanted_only rfl ?_
          refine wpList_stR5 rfl 24 _ _ rfl HP.out rfl (cs' := [.slice none 0 0]) rfl rfl (by simp [Value.oneCell']) (by kernel_rfl) ?_; clear HP; intro wst HP; replace HP := Lib.hid HP
          refine wpList_nil ?_
          refine hK.out _ _ (HP.out.cell (g := g6) (t := 3) (cs := [.int .i64 k]) (by simp) 0 _ rfl) (fun hHeld => ?_)
          replace HS0 := Lib.hid hHeld
          clear hK K hHeld
          (try simp only [List.getElem_toArray, List.getElem_cons_succ, List.getElem_cons_zero, Act.put, List.setIfInBounds_toArray, List.set_cons_zero, List.set_cons_succ])
          refine wpAnyH_ready (rs := [3]) (by kernel_rfl) (by simp) ?_
          refine AllReadyH.cons rfl (fun K hK => ?_) AllReadyH.nil
          refine wanted_only rfl ?_
          refine wpList_st6 rfl 3 _ _ rfl HP.out rfl rfl (by simp) rfl rfl (by kernel_rfl) ?_; clear HP; intro wst HP; replace HP := Lib.hid HP
          refine wpList_nil ?_
          refine hK.out _ _ (HP.out.cell (g := g6) (t := 3) (cs := [.int .i64 k]) (by simp) 0 _ rfl) (fun hHeld => ?_)
          replace HS0 := Lib.hid hHeld
          clear hK K hHeld
          (try simp only [List.getElem_toArray, List.getElem_cons_succ, List.getElem_cons_zero, Act.put, List.setIfInBounds_toArray, List.set_cons_zero, List.set_cons_succ])
          refine wpAnyH_ready (rs := [4]) (by kernel_rfl) (by simp) ?_
          refine AllReadyH.cons rfl (fun K hK => ?_) AllReadyH.nil
          refine wanted_only rfl ?_
          refine wpList_st7 rfl 26 _ _ rfl HP.out rfl rfl (by simp) rfl rfl (by kernel_rfl) ?_; clear HP; intro wst HP; replace HP := Lib.hid HP
          refine wpList_nil ?_
          refine hK.out _ _ (HP.out.cell (g := g6) (t := 3) (cs := [.int .i64 k]) (by simp) 0 _ rfl) (fun hHeld => ?_)
          replace HS0 := Lib.hid hHeld
          clear hK K hHeld
          (try simp only [List.getElem_toArray, List.getElem_cons_succ, List.getElem_cons_zero, Act.put, List.setIfInBounds_toArray, List.set_cons_zero, List.set_cons_succ])
          refine wpAnyH_done (by kernel_rfl) ⟨by simp, ?_⟩ _
          clear HS0
          repeat gi_step
          rw [← HQQ.out]
          have HP9 := ((HP.out.sub (.cons _ (.cons _ (.cons _ (.cons _ (.cons _ (.cons_cons _ (.cons_cons _ (.cons_cons _ (.cons _ (.cons_cons _ (.cons_cons _ .slnil))))))))))))).froSub (Fs' := [⟨w, Lt w.heap.size⟩]) (fun F hF => by simp only [List.mem_cons, List.not_mem_nil, or_false] at hF ⊢; simp [hF])
          have HP8 := Hp.putObj (A := rdG g2 g3 g4 (.slice none 0 0) k 5) (B := [.obj bd (.deferred (some []))]) HP9 (.loop (rec .done (some .ret)))
          exact ⟨_, _, end_rec (some .ret) HREC (HP.out.theObj (by simp)), .inr ⟨rfl, k, HBD.out, HP8⟩⟩
        · have hg0 : (x.op == 0) = false := beq_eq_false_iff_ne.2 hop
          have HIX := Lib.hid (HIC.out hop)
          by_cases hfe : fs = []
          · have HBD := Lib.hid (show readFrom [] 0 l = (⟨[]⟩, (k : Int), 5) from HQB.out (by rw [HST.out, if_pos hfe]))
            have hgl : ((fs.length : Int) == 0) = true := by rw [hfe]; rfl
            have hgl2 : (fs.length == 0) = true := by rw [hfe]; rfl
            clear hop hfe
            repeat (first | (with_reducible refine and_normal ?_) | ((fail_if_success (apply wpIn_region_lit)); gi_step))
            refine wpR_region2 (by kernel_rfl) ?_
            go_wp2_with (first | (go_at_call 14; refine (HLI.out _ HP.out.below).mono ?_; rintro e wli ⟨rfl, hb⟩; replace HP := Lib.hid (HP.out.call0 hb); clear hb) | (refine wpList_ld0 rfl 3 _ rfl HP.out rfl rfl Tryd.underlying3 rfl ?_) | (refine wpList_load_wr rfl 48 _ rfl ⟨g10, 0, none⟩ rfl [.int .i64 x.op, .int .i64 x.dst, .int .i64 x.a, .int .i64 x.b, .int .i64 x.imm] _ (HP.out.blkAt (g := g10) (t := 48) (cs := [.int .i64 x.op, .int .i64 x.dst, .int .i64 x.a, .int .i64 x.b, .int .i64 x.imm]) (.head _) 0) Tryd.underlying48 rfl (by kernel_rfl) ?_))
            repeat (first | (with_reducible refine and_normal ?_) | ((fail_if_success (apply wpIn_region_lit)); gi_step))
            refine wpR_held2 (S := fun wq => wq.cell? ⟨g6, 0, none⟩ = some (.int .i64 k)) (by kernel_rfl) (by kernel_rfl) ?_
            replace HP := Lib.hid HP.out.drew
            have HS0 := Lib.hid (HP.out.cell (g := g6) (t := 3) (cs := [.int .i64 k]) (by simp) 0 _ rfl)
            (try simp only [Act.put, List.setIfInBounds_toArray, List.set_cons_zero, List.set_cons_succ])
            refine wpAnyH_take (i := 0) (v := ?_) rfl (by kernel_rfl) (by kernel_rfl) (by kernel_rfl) (fun _ _ _ h => (HPN.out _ _ _ h.2).elim) (.inl ⟨by first | (simp [Region.wanted]; done) | rfl, ?_⟩) HS0.out ?_
            rotate_left
            · intro w' hw
              go_simp
              (try with_reducible rfl)
            (try simp only [List.getElem_toArray, List.getElem_cons_succ, List.getElem_cons_zero, Act.put, List.setIfInBounds_toArray, List.set_cons_zero, List.set_cons_succ])
            refine wpAnyH_take (i := 1) (v := ?_) rfl (by kernel_rfl) (by kernel_rfl) (by kernel_rfl) (fun _ _ _ h => (HPN.out _ _ _ h.2).elim) (.inl ⟨by first | (simp [Region.wanted]; done) | rfl, ?_⟩) HS0.out ?_
            rotate_left
            · intro w' hw
              go_simp
              (try with_reducible rfl)
            (try simp only [List.getElem_toArray, List.getElem_cons_succ, List.getElem_cons_zero, Act.put, List.setIfInBounds_toArray, List.set_cons_zero, List.set_cons_succ])
            refine wpAnyH_ready (rs := [2]) (by kernel_rfl) (by simp) ?_
            refine AllReadyH.cons rfl (fun K hK => ?_) AllReadyH.nil
            refine wanted_only rfl ?_
            refine wpList_stR5 rfl 24 _ _ rfl HP.out rfl (cs' := [.slice none 0 0]) rfl rfl (by simp [Value.oneCell']) (by kernel_rfl) ?_; clear HP; intro wst HP; replace HP := Lib.hid HP
            refine wpList_nil ?_
            refine hK.out _ _ (HP.out.cell (g := g6) (t := 3) (cs := [.int .i64 k]) (by simp) 0 _ rfl) (fun hHeld => ?_)
            replace HS0 := Lib.hid hHeld
            clear hK K hHeld
            (try simp only [List.getElem_toArray, List.getElem_cons_succ, List.getElem_cons_zero, Act.put, List.setIfInBounds_toArray, List.set_cons_zero, List.set_cons_succ])
            refine wpAnyH_ready (rs := [3]) (by kernel_rfl) (by simp) ?_
            refine AllReadyH.cons rfl (fun K hK => ?_) AllReadyH.nil
            refine wanted_only rfl ?_
            refine wpList_st6 rfl 3 _ _ rfl HP.out rfl rfl (by simp) rfl rfl (by kernel_rfl) ?_; clear HP; intro wst HP; replace HP := Lib.hid HP
            refine wpList_nil ?_
            refine hK.out _ _ (HP.out.cell (g := g6) (t := 3) (cs := [.int .i64 k]) (by simp) 0 _ rfl) (fun hHeld => ?_)
            replace HS0 := Lib.hid hHeld
            clear hK K hHeld
            (try simp only [List.getElem_toArray, List.getElem_cons_succ, List.getElem_cons_zero, Act.put, List.setIfInBounds_toArray, List.set_cons_zero, List.set_cons_succ])
            refine wpAnyH_ready (rs := [4]) (by kernel_rfl) (by simp) ?_
            refine AllReadyH.cons rfl (fun K hK => ?_) AllReadyH.nil
            refine wanted_only rfl ?_
            refine wpList_st7 rfl 26 _ _ rfl HP.out rfl rfl (by simp) rfl rfl (by kernel_rfl) ?_; clear HP; intro wst HP; replace HP := Lib.hid HP
            refine wpList_nil ?_
            refine hK.out _ _ (HP.out.cell (g := g6) (t := 3) (cs := [.int .i64 k]) (by simp) 0 _ rfl) (fun hHeld => ?_)
            replace HS0 := Lib.hid hHeld
            clear hK K hHeld
            (try simp only [List.getElem_toArray, List.getElem_cons_succ, List.getElem_cons_zero, Act.put, List.setIfInBounds_toArray, List.set_cons_zero, List.set_cons_succ])
            refine wpAnyH_done (by kernel_rfl) ⟨by simp, ?_⟩ _
            clear HS0
            repeat gi_step
            rw [← HQQ.out]
            have HP9 := ((HP.out.sub (.cons _ (.cons _ (.cons _ (.cons _ (.cons _ (.cons_cons _ (.cons_cons _ (.cons_cons _ (.cons _ (.cons_cons _ (.cons_cons _ .slnil))))))))))))).froSub (Fs' := [⟨w, Lt w.heap.size⟩]) (fun F hF => by simp only [List.mem_cons, List.not_mem_nil, or_false] at hF ⊢; simp [hF])
            have HP8 := Hp.putObj (A := rdG g2 g3 g4 (.slice none 0 0) k 5) (B := [.obj bd (.deferred (some []))]) HP9 (.loop (rec .done (some .ret)))
            exact ⟨_, _, end_rec (some .ret) HREC (HP.out.theObj (by simp)), .inr ⟨rfl, k, HBD.out, HP8⟩⟩
          · have hlp : 0 < fs.length := List.length_pos_iff.2 hfe
            have hgl : ((fs.length : Int) == 0) = false := beq_eq_false_iff_ne.2 (by omega)
            have hgl2 : (fs.length == 0) = false := beq_eq_false_iff_ne.2 (by omega)
            have HLI := Lib.hid (show ∀ wq, Below w.heap.size w wq → Calls Tryd.prog 14 #[.agg #[.int .i64 x.op, .int .i64 x.dst, .int .i64 x.a, .int .i64 x.b, .int .i64 x.imm]] wq fun e w' => e = .returned (.string (bstr (lineS x))) ∧ Below wq.heap.size wq w' from fun wq hb =>
              line_any x wq HIX.out.op (fun c => HIX.out.i64 c) (HT.out.keep hb rfl) (HW.out.keep hb rfl))
            obtain ⟨lx, hlx⟩ : ∃ lx, lineS x = lx := ⟨_, rfl⟩
            rw [hlx] at HLI HST
            clear hlx
            by_cases hq : lx = t
            · have hne : fs ≠ [] := hfe
              have HSL := Lib.hid (show stepLn fs t = some (addIns fs x) by rw [HST.out, if_neg hfe, if_pos ⟨hop, hq⟩])
              have hb1 : ((bstr lx).toList == (bstr t).toList) = true := by rw [hq]; exact beq_self_eq_true _
              have hb2 : ((bstr lx).toList != (bstr t).toList) = false := by unfold bne; rw [hb1]; rfl
              clear hop hfe hq
              obtain ⟨gp, cp', hpe⟩ := HP.out.rowSome (.tail _ (.tail _ (.head _))) hlp
              obtain ⟨rfl, -, rfl⟩ : Ap = some ⟨gp, 0, none⟩ ∧ True ∧ cp = cp' := by cases hpe; exact ⟨rfl, trivial, rfl⟩
              obtain ⟨q, hql⟩ : ∃ q, fs.length = q + 1 := ⟨fs.length - 1, by omega⟩
              have HQL := Lib.hid hql
              have HCV := Lib.hid (show cells[q * 3 + 2]? = some cv by
                have := HM.out.cell hne
                rwa [show (fs.length - 1) * 3 + 2 = q * 3 + 2 by omega] at this)
              have HLC := Lib.hid (show q * 3 + 2 < cells.length by rw [HM.out.cellsLen]; omega)
              have hqn : (q : Int) < (fs.length : Int) := by omega
              have hqq : (fs.length : Int) - 1 = (q : Int) := by omega
              clear hql hpe
              repeat (first | (with_reducible refine and_normal ?_) | ((fail_if_success (apply wpIn_region_lit)); gi_step))
              refine wpR_region2 (by kernel_rfl) ?_
              go_wp2_with (first | (go_at_call 14; refine (HLI.out _ HP.out.below).mono ?_; rintro e wli ⟨rfl, hb⟩; replace HP := Lib.hid (HP.out.call0 hb); clear hb) | (refine wpList_ld0 rfl 3 _ rfl HP.out rfl rfl Tryd.underlying3 rfl ?_) | (refine wpList_load_wr rfl 48 _ rfl ⟨g10, 0, none⟩ rfl [.int .i64 x.op, .int .i64 x.dst, .int .i64 x.a, .int .i64 x.b, .int .i64 x.imm] _ (HP.out.blkAt (g := g10) (t := 48) (cs := [.int .i64 x.op, .int .i64 x.dst, .int .i64 x.a, .int .i64 x.b, .int .i64 x.imm]) (.head _) 0) Tryd.underlying48 rfl (by kernel_rfl) ?_))
              repeat (first | (with_reducible refine and_normal ?_) | ((fail_if_success (apply wpIn_region_lit)); gi_step))
              refine wpR_region2 (by kernel_rfl) ?_
              go_wp2_with (first | (refine wpList_ld0 rfl 22 _ rfl HP.out rfl rfl Tryd.underlying22 rfl ?_) | (refine wpList_ld1 rfl 22 _ rfl HP.out rfl rfl Tryd.underlying22 rfl ?_) | (refine wpList_ld2 rfl 22 _ rfl HP.out rfl rfl Tryd.underlying22 rfl ?_) | (refine wpList_ld3 rfl 22 _ rfl HP.out rfl rfl Tryd.underlying22 rfl ?_))
              repeat (first | (with_reducible refine and_normal ?_) | ((fail_if_success (apply wpIn_region_lit)); gi_step))
              refine wpR_held2 (S := fun wq => At wq ⟨g10, 0, none⟩ [.int .i64 x.op, .int .i64 x.dst, .int .i64 x.a, .int .i64 x.b, .int .i64 x.imm]) (by kernel_rfl) (by kernel_rfl) ?_
              replace HP := Lib.hid HP.out.drew
              have HS0 := Lib.hid (HP.out.blkAt (g := g10) (t := 48) (cs := [.int .i64 x.op, .int .i64 x.dst, .int .i64 x.a, .int .i64 x.b, .int .i64 x.imm]) (by simp) 0)
              (try simp only [Act.put, List.setIfInBounds_toArray, List.set_cons_zero, List.set_cons_succ])
              refine wpAnyH_take (i := 0) (v := ?_) rfl (by kernel_rfl) (by kernel_rfl) (by kernel_rfl) (fun _ _ _ h => (HPN.out _ _ _ h.2).elim) (.inl ⟨by first | (simp [Region.wanted]; done) | rfl, ?_⟩) HS0.out ?_
              rotate_left
              · intro w' hw
                go_simp
                (try with_reducible rfl)
              (try simp only [List.getElem_toArray, List.getElem_cons_succ, List.getElem_cons_zero, Act.put, List.setIfInBounds_toArray, List.set_cons_zero, List.set_cons_succ])
              refine wpAnyH_take (i := 1) (v := ?_) rfl (by kernel_rfl) (by kernel_rfl) (by kernel_rfl) (fun _ _ _ h => (HPN.out _ _ _ h.2).elim) (.inl ⟨by first | (simp [Region.wanted]; done) | rfl, ?_⟩) HS0.out ?_
              rotate_left
              · intro w' hw
                go_simp
                (try with_reducible rfl)
              (try simp only [List.getElem_toArray, List.getElem_cons_succ, List.getElem_cons_zero, Act.put, List.setIfInBounds_toArray, List.set_cons_zero, List.set_cons_succ])
              refine wpAnyH_take (i := 2) (v := ?_) rfl (by kernel_rfl) (by kernel_rfl) (by kernel_rfl) (fun _ _ _ h => (HPN.out _ _ _ h.2).elim) (.inl ⟨by first | (simp [Region.wanted]; done) | rfl, ?_⟩) HS0.out ?_
              rotate_left
              · intro w' hw
                go_simp
                (try with_reducible rfl)
              (try simp only [List.getElem_toArray, List.getElem_cons_succ, List.getElem_cons_zero, Act.put, List.setIfInBounds_toArray, List.set_cons_zero, List.set_cons_succ])
              refine wpAnyH_take (i := 3) (v := ?_) rfl (by kernel_rfl) (by kernel_rfl) (by kernel_rfl) (fun _ _ _ h => (HPN.out _ _ _ h.2).elim) (.inl ⟨by first | (simp [Region.wanted]; done) | rfl, ?_⟩) HS0.out ?_
              rotate_left
              · intro w' hw
                go_simp
                (try with_reducible rfl)
              (try simp only [List.getElem_toArray, List.getElem_cons_succ, List.getElem_cons_zero, Act.put, List.setIfInBounds_toArray, List.set_cons_zero, List.set_cons_succ])
              refine wpAnyH_row (i := 5) rfl (by kernel_rfl) (by kernel_rfl) (by kernel_rfl) (fun _ _ _ _ h => (HPN.out _ _ _ h.2).elim) rfl 48 _ rfl ⟨g10, 0, none⟩ rfl [.int .i64 x.op, .int .i64 x.dst, .int .i64 x.a, .int .i64 x.b, .int .i64 x.imm] _ (fun w hw => hw) Tryd.underlying48 rfl (by kernel_rfl) HS0.out ?_
              (try simp only [List.getElem_toArray, List.getElem_cons_succ, List.getElem_cons_zero, Act.put, List.setIfInBounds_toArray, List.set_cons_zero, List.set_cons_succ])
              refine wpAnyH_ready (rs := [4, 6]) (by kernel_rfl) (by simp) ?_
              refine AllReadyH.cons rfl (fun K hK => ?_) (AllReadyH.cons rfl (fun K hK => ?_) AllReadyH.nil)
              · refine wanted_only rfl ?_
                refine wpList_ldW2 rfl 34 _ rfl HP.out rfl HCV.out Tryd.underlying34 rfl ?_
                refine wpList_nil ?_
                refine hK.out _ _ (HP.out.blkAt (g := g10) (t := 48) (cs := [.int .i64 x.op, .int .i64 x.dst, .int .i64 x.a, .int .i64 x.b, .int .i64 x.imm]) (by simp) 0) (fun hHeld => ?_)
                replace HS0 := Lib.hid hHeld
                clear hK K hHeld
                (try simp only [List.getElem_toArray, List.getElem_cons_succ, List.getElem_cons_zero, Act.put, List.setIfInBounds_toArray, List.set_cons_zero, List.set_cons_succ])
                refine wpAnyH_ready (rs := [6]) (by kernel_rfl) (by simp) ?_
                refine AllReadyH.cons rfl (fun K hK => ?_) AllReadyH.nil
                refine wanted_only rfl ?_
                refine wpList_slice_hp rfl 34 48 1 _ rfl HP.out Tryd.underlying34 #[.int .i64 x.op, .int .i64 x.dst, .int .i64 x.a, .int .i64 x.b, .int .i64 x.imm] (by kernel_rfl) ?_; clear HP; intro gi wi HP; replace HP := Lib.hid HP
                refine wpList_nil ?_
                refine hK.out _ _ (HP.out.blkAt (g := g10) (t := 48) (cs := [.int .i64 x.op, .int .i64 x.dst, .int .i64 x.a, .int .i64 x.b, .int .i64 x.imm]) (by simp) 0) (fun hHeld => ?_)
                replace HS0 := Lib.hid hHeld
                clear hK K hHeld
                (try simp only [List.getElem_toArray, List.getElem_cons_succ, List.getElem_cons_zero, Act.put, List.setIfInBounds_toArray, List.set_cons_zero, List.set_cons_succ])
                refine wpAnyH_ready (rs := [7]) (by kernel_rfl) (by simp) ?_
                refine AllReadyH.cons rfl (fun K hK => ?_) AllReadyH.nil
                refine wanted_only rfl ?_
                refine wpList_app1 rfl _ _ 34 rfl i_Ins (.agg #[.int .i64 0, .int .i64 0, .int .i64 0, .int .i64 0, .int .i64 0]) Tryd.underlying34 hi_Ins hz_Ins hs_Ins rfl (by decide) hy_Ins (code.length + 1) (by omega) HP.out rfl rfl rfl (by simp [Value.oneCell']) (by unfold maxLen; omega) (by omega) ?_; clear HP; intro A5 c5 wap HP; replace HP := Lib.hid HP
                refine wpList_nil ?_
                refine hK.out _ _ (HP.out.blkAt (g := g10) (t := 48) (cs := [.int .i64 x.op, .int .i64 x.dst, .int .i64 x.a, .int .i64 x.b, .int .i64 x.imm]) (by simp) 0) (fun hHeld => ?_)
                replace HS0 := Lib.hid hHeld
                clear hK K hHeld
                (try simp only [List.getElem_toArray, List.getElem_cons_succ, List.getElem_cons_zero, Act.put, List.setIfInBounds_toArray, List.set_cons_zero, List.set_cons_succ])
                refine wpAnyH_take (i := 8) (v := ?_) rfl (by kernel_rfl) (by kernel_rfl) (by kernel_rfl) (fun _ _ _ h => (HPN.out _ _ _ h.2).elim) (.inl ⟨by first | (simp [Region.wanted]; done) | rfl, ?_⟩) HS0.out ?_
                rotate_left
                · intro w' hw
                  go_simp
                  (try with_reducible rfl)
                (try simp only [List.getElem_toArray, List.getElem_cons_succ, List.getElem_cons_zero, Act.put, List.setIfInBounds_toArray, List.set_cons_zero, List.set_cons_succ])
                refine wpAnyH_take (i := 9) (v := ?_) rfl (by kernel_rfl) (by kernel_rfl) (by kernel_rfl) (fun _ _ _ h => (HPN.out _ _ _ h.2).elim) (.inl ⟨by first | (simp [Region.wanted]; done) | rfl, ?_⟩) HS0.out ?_
                rotate_left
                · intro w' hw
                  go_simp
                  (try with_reducible rfl)
                (try simp only [List.getElem_toArray, List.getElem_cons_succ, List.getElem_cons_zero, Act.put, List.setIfInBounds_toArray, List.set_cons_zero, List.set_cons_succ])
                refine wpAnyH_ready (rs := [10]) (by kernel_rfl) (by simp) ?_
                refine AllReadyH.cons rfl (fun K hK => ?_) AllReadyH.nil
                refine wanted_only rfl ?_
                refine wpList_stW2 rfl 34 _ _ rfl HP.out rfl rfl HLC.out rfl rfl (by kernel_rfl) ?_
                clear HP; intro wst HP; replace HP := Lib.hid HP
                refine wpList_nil ?_
                refine hK.out _ _ (HP.out.blkAt (g := g10) (t := 48) (cs := [.int .i64 x.op, .int .i64 x.dst, .int .i64 x.a, .int .i64 x.b, .int .i64 x.imm]) (by simp) 0) (fun hHeld => ?_)
                replace HS0 := Lib.hid hHeld
                clear hK K hHeld
                (try simp only [List.getElem_toArray, List.getElem_cons_succ, List.getElem_cons_zero, Act.put, List.setIfInBounds_toArray, List.set_cons_zero, List.set_cons_succ])
                clear HS0
                refine wpAnyH_done (by kernel_rfl) ⟨by simp, ?_⟩ _
                repeat (first | (with_reducible refine and_normal ?_) | ((fail_if_success (apply wpIn_region_lit)); gi_step))
                refine wpR_region2 (by kernel_rfl) ?_
                go_wp2_with (first | (refine wpList_ld0 rfl 3 _ rfl HP.out rfl rfl Tryd.underlying3 rfl ?_) | (refine wpList_ld1 rfl 3 _ rfl HP.out rfl rfl Tryd.underlying3 rfl ?_) | (refine wpList_ld2 rfl 3 _ rfl HP.out rfl rfl Tryd.underlying3 rfl ?_) | (refine wpList_ld3 rfl 3 _ rfl HP.out rfl rfl Tryd.underlying3 rfl ?_) | (refine wpList_ld4 rfl 3 _ rfl HP.out rfl rfl Tryd.underlying3 rfl ?_) | (refine wpList_st0 rfl 3 _ _ rfl HP.out rfl rfl (by simp) rfl rfl (by kernel_rfl) ?_; clear HP; intro wst HP; replace HP := Lib.hid HP) | (refine wpList_st1 rfl 3 _ _ rfl HP.out rfl rfl (by simp) rfl rfl (by kernel_rfl) ?_; clear HP; intro wst HP; replace HP := Lib.hid HP) | (refine wpList_st2 rfl 3 _ _ rfl HP.out rfl rfl (by simp) rfl rfl (by kernel_rfl) ?_; clear HP; intro wst HP; replace HP := Lib.hid HP) | (refine wpList_st3 rfl 3 _ _ rfl HP.out rfl rfl (by simp) rfl rfl (by kernel_rfl) ?_; clear HP; intro wst HP; replace HP := Lib.hid HP) | (refine wpList_st4 rfl 3 _ _ rfl HP.out rfl rfl (by simp) rfl rfl (by kernel_rfl) ?_; clear HP; intro wst HP; replace HP := Lib.hid HP))
                repeat (first | (with_reducible refine and_normal ?_) | ((fail_if_success (apply wpIn_region_lit)); gi_step))
                rw [← HQQ.out]
                have HM2 := HM.out.add hne x (.slice A5 (code.length + 1) c5)
                rw [show (fs.length - 1) * 3 + 2 = q * 3 + 2 by have := HQL.out; omega] at HM2
                have HP9 := Hp.putObj (A := [.blk g10 48 [.int .i64 x.op, .int .i64 x.dst, .int .i64 x.a, .int .i64 x.b, .int .i64 x.imm], .row (.slice A5 (code.length + 1) c5) 48 5 (code.length + 1) (code.flatMap insR ++ [.int .i64 x.op, .int .i64 x.dst, .int .i64 x.a, .int .i64 x.b, .int .i64 x.imm]), .row (.slice (some ⟨gp, 0, none⟩) fs.length cp) 36 3 fs.length (cells.set (q * 3 + 2) (.slice A5 (code.length + 1) c5)), .blk g5 24 [(.slice (some ⟨gp, 0, none⟩) fs.length cp)], .blk g6 3 [.int .i64 ((k + 1 : Nat) : Int)], .blk g2 24 [.slice none 0 0], .blk g3 3 [.int .i64 0], .blk g4 26 [.int .i64 0], .blk B 9 [.string (bstr r')]]) HP.out (.loop (rec .ready none))
                have HP2 := Hp.drop (A := []) (HP9.froSub (Fs' := [G, ⟨w, Lt w.heap.size⟩]) (fun F hF => by simp only [List.mem_cons, List.not_mem_nil, or_false] at hF ⊢; rcases hF with h | h <;> simp [h]))
                refine ⟨_, _, end_rec none HREC (HP.out.theObj (by simp)), .inl ⟨rfl, k + 1, G, addIns fs x, fs0, us0, _, _, (.slice (some ⟨gp, 0, none⟩) fs.length cp), code ++ [x], HQG.out _ _ HSL.out (by rw [addIns_len hne]; omega) (by simp; omega), HM2, ?_⟩⟩
                unfold rdP
                rw [addIns_len hne, show (code ++ [x]).length = code.length + 1 by simp, show (code ++ [x]).flatMap insR = code.flatMap insR ++ [.int .i64 x.op, .int .i64 x.dst, .int .i64 x.a, .int .i64 x.b, .int .i64 x.imm] by simp [insR]]
                exact HP2
              · refine wanted_only rfl ?_
                refine wpList_slice_hp rfl 34 48 1 _ rfl HP.out Tryd.underlying34 #[.int .i64 x.op, .int .i64 x.dst, .int .i64 x.a, .int .i64 x.b, .int .i64 x.imm] (by kernel_rfl) ?_; clear HP; intro gi wi HP; replace HP := Lib.hid HP
                refine wpList_nil ?_
                refine hK.out _ _ (HP.out.blkAt (g := g10) (t := 48) (cs := [.int .i64 x.op, .int .i64 x.dst, .int .i64 x.a, .int .i64 x.b, .int .i64 x.imm]) (by simp) 0) (fun hHeld => ?_)
                replace HS0 := Lib.hid hHeld
                clear hK K hHeld
                (try simp only [List.getElem_toArray, List.getElem_cons_succ, List.getElem_cons_zero, Act.put, List.setIfInBounds_toArray, List.set_cons_zero, List.set_cons_succ])
                refine wpAnyH_ready (rs := [4]) (by kernel_rfl) (by simp) ?_
                refine AllReadyH.cons rfl (fun K hK => ?_) AllReadyH.nil
                refine wanted_only rfl ?_
                refine wpList_ldW3 rfl 34 _ rfl HP.out rfl HCV.out Tryd.underlying34 rfl ?_
                refine wpList_nil ?_
                refine hK.out _ _ (HP.out.blkAt (g := g10) (t := 48) (cs := [.int .i64 x.op, .int .i64 x.dst, .int .i64 x.a, .int .i64 x.b, .int .i64 x.imm]) (by simp) 0) (fun hHeld => ?_)
                replace HS0 := Lib.hid hHeld
                clear hK K hHeld
                (try simp only [List.getElem_toArray, List.getElem_cons_succ, List.getElem_cons_zero, Act.put, List.setIfInBounds_toArray, List.set_cons_zero, List.set_cons_succ])
                refine wpAnyH_ready (rs := [7]) (by kernel_rfl) (by simp) ?_
                refine AllReadyH.cons rfl (fun K hK => ?_) AllReadyH.nil
                refine wanted_only rfl ?_
                refine wpList_app1 rfl _ _ 34 rfl i_Ins (.agg #[.int .i64 0, .int .i64 0, .int .i64 0, .int .i64 0, .int .i64 0]) Tryd.underlying34 hi_Ins hz_Ins hs_Ins rfl (by decide) hy_Ins (code.length + 1) (by omega) HP.out rfl rfl rfl (by simp [Value.oneCell']) (by unfold maxLen; omega) (by omega) ?_; clear HP; intro A5 c5 wap HP; replace HP := Lib.hid HP
                refine wpList_nil ?_
                refine hK.out _ _ (HP.out.blkAt (g := g10) (t := 48) (cs := [.int .i64 x.op, .int .i64 x.dst, .int .i64 x.a, .int .i64 x.b, .int .i64 x.imm]) (by simp) 0) (fun hHeld => ?_)
                replace HS0 := Lib.hid hHeld
                clear hK K hHeld
                (try simp only [List.getElem_toArray, List.getElem_cons_succ, List.getElem_cons_zero, Act.put, List.setIfInBounds_toArray, List.set_cons_zero, List.set_cons_succ])
                refine wpAnyH_take (i := 8) (v := ?_) rfl (by kernel_rfl) (by kernel_rfl) (by kernel_rfl) (fun _ _ _ h => (HPN.out _ _ _ h.2).elim) (.inl ⟨by first | (simp [Region.wanted]; done) | rfl, ?_⟩) HS0.out ?_
                rotate_left
                · intro w' hw
                  go_simp
                  (try with_reducible rfl)
                (try simp only [List.getElem_toArray, List.getElem_cons_succ, List.getElem_cons_zero, Act.put, List.setIfInBounds_toArray, List.set_cons_zero, List.set_cons_succ])
                refine wpAnyH_take (i := 9) (v := ?_) rfl (by kernel_rfl) (by kernel_rfl) (by kernel_rfl) (fun _ _ _ h => (HPN.out _ _ _ h.2).elim) (.inl ⟨by first | (simp [Region.wanted]; done) | rfl, ?_⟩) HS0.out ?_
                rotate_left
                · intro w' hw
                  go_simp
                  (try with_reducible rfl)
                (try simp only [List.getElem_toArray, List.getElem_cons_succ, List.getElem_cons_zero, Act.put, List.setIfInBounds_toArray, List.set_cons_zero, List.set_cons_succ])
                refine wpAnyH_ready (rs := [10]) (by kernel_rfl) (by simp) ?_
                refine AllReadyH.cons rfl (fun K hK => ?_) AllReadyH.nil
                refine wanted_only rfl ?_
                refine wpList_stW2 rfl 34 _ _ rfl HP.out rfl rfl HLC.out rfl rfl (by kernel_rfl) ?_
                clear HP; intro wst HP; replace HP := Lib.hid HP
                refine wpList_nil ?_
                refine hK.out _ _ (HP.out.blkAt (g := g10) (t := 48) (cs := [.int .i64 x.op, .int .i64 x.dst, .int .i64 x.a, .int .i64 x.b, .int .i64 x.imm]) (by simp) 0) (fun hHeld => ?_)
                replace HS0 := Lib.hid hHeld
                clear hK K hHeld
                (try simp only [List.getElem_toArray, List.getElem_cons_succ, List.getElem_cons_zero, Act.put, List.setIfInBounds_toArray, List.set_cons_zero, List.set_cons_succ])
                clear HS0
                refine wpAnyH_done (by kernel_rfl) ⟨by simp, ?_⟩ _
                repeat (first | (with_reducible refine and_normal ?_) | ((fail_if_success (apply wpIn_region_lit)); gi_step))
                refine wpR_region2 (by kernel_rfl) ?_
                go_wp2_with (first | (refine wpList_ld0 rfl 3 _ rfl HP.out rfl rfl Tryd.underlying3 rfl ?_) | (refine wpList_ld1 rfl 3 _ rfl HP.out rfl rfl Tryd.underlying3 rfl ?_) | (refine wpList_ld2 rfl 3 _ rfl HP.out rfl rfl Tryd.underlying3 rfl ?_) | (refine wpList_ld3 rfl 3 _ rfl HP.out rfl rfl Tryd.underlying3 rfl ?_) | (refine wpList_ld4 rfl 3 _ rfl HP.out rfl rfl Tryd.underlying3 rfl ?_) | (refine wpList_st0 rfl 3 _ _ rfl HP.out rfl rfl (by simp) rfl rfl (by kernel_rfl) ?_; clear HP; intro wst HP; replace HP := Lib.hid HP) | (refine wpList_st1 rfl 3 _ _ rfl HP.out rfl rfl (by simp) rfl rfl (by kernel_rfl) ?_; clear HP; intro wst HP; replace HP := Lib.hid HP) | (refine wpList_st2 rfl 3 _ _ rfl HP.out rfl rfl (by simp) rfl rfl (by kernel_rfl) ?_; clear HP; intro wst HP; replace HP := Lib.hid HP) | (refine wpList_st3 rfl 3 _ _ rfl HP.out rfl rfl (by simp) rfl rfl (by kernel_rfl) ?_; clear HP; intro wst HP; replace HP := Lib.hid HP) | (refine wpList_st4 rfl 3 _ _ rfl HP.out rfl rfl (by simp) rfl rfl (by kernel_rfl) ?_; clear HP; intro wst HP; replace HP := Lib.hid HP))
                repeat (first | (with_reducible refine and_normal ?_) | ((fail_if_success (apply wpIn_region_lit)); gi_step))
                rw [← HQQ.out]
                have HM2 := HM.out.add hne x (.slice A5 (code.length + 1) c5)
                rw [show (fs.length - 1) * 3 + 2 = q * 3 + 2 by have := HQL.out; omega] at HM2
                have HP9 := Hp.putObj (A := [.blk g10 48 [.int .i64 x.op, .int .i64 x.dst, .int .i64 x.a, .int .i64 x.b, .int .i64 x.imm], .row (.slice A5 (code.length + 1) c5) 48 5 (code.length + 1) (code.flatMap insR ++ [.int .i64 x.op, .int .i64 x.dst, .int .i64 x.a, .int .i64 x.b, .int .i64 x.imm]), .row (.slice (some ⟨gp, 0, none⟩) fs.length cp) 36 3 fs.length (cells.set (q * 3 + 2) (.slice A5 (code.length + 1) c5)), .blk g5 24 [(.slice (some ⟨gp, 0, none⟩) fs.length cp)], .blk g6 3 [.int .i64 ((k + 1 : Nat) : Int)], .blk g2 24 [.slice none 0 0], .blk g3 3 [.int .i64 0], .blk g4 26 [.int .i64 0], .blk B 9 [.string (bstr r')]]) HP.out (.loop (rec .ready none))
                have HP2 := Hp.drop (A := []) (HP9.froSub (Fs' := [G, ⟨w, Lt w.heap.size⟩]) (fun F hF => by simp only [List.mem_cons, List.not_mem_nil, or_false] at hF ⊢; rcases hF with h | h <;> simp [h]))
                refine ⟨_, _, end_rec none HREC (HP.out.theObj (by simp)), .inl ⟨rfl, k + 1, G, addIns fs x, fs0, us0, _, _, (.slice (some ⟨gp, 0, none⟩) fs.length cp), code ++ [x], HQG.out _ _ HSL.out (by rw [addIns_len hne]; omega) (by simp; omega), HM2, ?_⟩⟩
                unfold rdP
                rw [addIns_len hne, show (code ++ [x]).length = code.length + 1 by simp, show (code ++ [x]).flatMap insR = code.flatMap insR ++ [.int .i64 x.op, .int .i64 x.dst, .int .i64 x.a, .int .i64 x.b, .int .i64 x.imm] by simp [insR]]
                exact HP2
            · have HBD := Lib.hid (show readFrom [] 0 l = (⟨[]⟩, (k : Int), 5) from HQB.out (by rw [HST.out, if_neg hfe, if_neg (fun h => hq h.2)]))
              have hb1 : ((bstr lx).toList == (bstr t).toList) = false := by rw [bstr_toList, bstr_toList]; exact beq_eq_false_iff_ne.2 hq
              have hb2 : ((bstr lx).toList != (bstr t).toList) = true := by unfold bne; rw [hb1]; rfl
              clear hop hfe hq
              repeat (first | (with_reducible refine and_normal ?_) | ((fail_if_success (apply wpIn_region_lit)); gi_step))
              refine wpR_region2 (by kernel_rfl) ?_
              go_wp2_with (first | (go_at_call 14; refine (HLI.out _ HP.out.below).mono ?_; rintro e wli ⟨rfl, hb⟩; replace HP := Lib.hid (HP.out.call0 hb); clear hb) | (refine wpList_ld0 rfl 3 _ rfl HP.out rfl rfl Tryd.underlying3 rfl ?_) | (refine wpList_load_wr rfl 48 _ rfl ⟨g10, 0, none⟩ rfl [.int .i64 x.op, .int .i64 x.dst, .int .i64 x.a, .int .i64 x.b, .int .i64 x.imm] _ (HP.out.blkAt (g := g10) (t := 48) (cs := [.int .i64 x.op, .int .i64 x.dst, .int .i64 x.a, .int .i64 x.b, .int .i64 x.imm]) (.head _) 0) Tryd.underlying48 rfl (by kernel_rfl) ?_))
              repeat (first | (with_reducible refine and_normal ?_) | ((fail_if_success (apply wpIn_region_lit)); gi_step))
              refine wpR_held2 (S := fun wq => wq.cell? ⟨g6, 0, none⟩ = some (.int .i64 k)) (by kernel_rfl) (by kernel_rfl) ?_
              replace HP := Lib.hid HP.out.drew
              have HS0 := Lib.hid (HP.out.cell (g := g6) (t := 3) (cs := [.int .i64 k]) (by simp) 0 _ rfl)
              (try simp only [Act.put, List.setIfInBounds_toArray, List.set_cons_zero, List.set_cons_succ])
              refine wpAnyH_take (i := 0) (v := ?_) rfl (by kernel_rfl) (by kernel_rfl) (by kernel_rfl) (fun _ _ _ h => (HPN.out _ _ _ h.2).elim) (.inl ⟨by first | (simp [Region.wanted]; done) | rfl, ?_⟩) HS0.out ?_
              rotate_left
              · intro w' hw
                go_simp
                (try with_reducible rfl)
              (try simp only [List.getElem_toArray, List.getElem_cons_succ, List.getElem_cons_zero, Act.put, List.setIfInBounds_toArray, List.set_cons_zero, List.set_cons_succ])
              refine wpAnyH_take (i := 1) (v := ?_) rfl (by kernel_rfl) (by kernel_rfl) (by kernel_rfl) (fun _ _ _ h => (HPN.out _ _ _ h.2).elim) (.inl ⟨by first | (simp [Region.wanted]; done) | rfl, ?_⟩) HS0.out ?_
              rotate_left
              · intro w' hw
                go_simp
                (try with_reducible rfl)
              (try simp only [List.getElem_toArray, List.getElem_cons_succ, List.getElem_cons_zero, Act.put, List.setIfInBounds_toArray, List.set_cons_zero, List.set_cons_succ])
              refine wpAnyH_ready (rs := [2]) (by kernel_rfl) (by simp) ?_
              refine AllReadyH.cons rfl (fun K hK => ?_) AllReadyH.nil
              refine wanted_only rfl ?_
              refine wpList_stR5 rfl 24 _ _ rfl HP.out rfl (cs' := [.slice none 0 0]) rfl rfl (by simp [Value.oneCell']) (by kernel_rfl) ?_; clear HP; intro wst HP; replace HP := Lib.hid HP
              refine wpList_nil ?_
              refine hK.out _ _ (HP.out.cell (g := g6) (t := 3) (cs := [.int .i64 k]) (by simp) 0 _ rfl) (fun hHeld => ?_)
              replace HS0 := Lib.hid hHeld
              clear hK K hHeld
              (try simp only [List.getElem_toArray, List.getElem_cons_succ, List.getElem_cons_zero, Act.put, List.setIfInBounds_toArray, List.set_cons_zero, List.set_cons_succ])
              refine wpAnyH_ready (rs := [3]) (by kernel_rfl) (by simp) ?_
              refine AllReadyH.cons rfl (fun K hK => ?_) AllReadyH.nil
              refine wanted_only rfl ?_
              refine wpList_st6 rfl 3 _ _ rfl HP.out rfl rfl (by simp) rfl rfl (by kernel_rfl) ?_; clear HP; intro wst HP; replace HP := Lib.hid HP
              refine wpList_nil ?_
              refine hK.out _ _ (HP.out.cell (g := g6) (t := 3) (cs := [.int .i64 k]) (by simp) 0 _ rfl) (fun hHeld => ?_)
              replace HS0 := Lib.hid hHeld
              clear hK K hHeld
              (try simp only [List.getElem_toArray, List.getElem_cons_succ, List.getElem_cons_zero, Act.put, List.setIfInBounds_toArray, List.set_cons_zero, List.set_cons_succ])
              refine wpAnyH_ready (rs := [4]) (by kernel_rfl) (by simp) ?_
              refine AllReadyH.cons rfl (fun K hK => ?_) AllReadyH.nil
              refine wanted_only rfl ?_
              refine wpList_st7 rfl 26 _ _ rfl HP.out rfl rfl (by simp) rfl rfl (by kernel_rfl) ?_; clear HP; intro wst HP; replace HP := Lib.hid HP
              refine wpList_nil ?_
              refine hK.out _ _ (HP.out.cell (g := g6) (t := 3) (cs := [.int .i64 k]) (by simp) 0 _ rfl) (fun hHeld => ?_)
              replace HS0 := Lib.hid hHeld
              clear hK K hHeld
              (try simp only [List.getElem_toArray, List.getElem_cons_succ, List.getElem_cons_zero, Act.put, List.setIfInBounds_toArray, List.set_cons_zero, List.set_cons_succ])
              refine wpAnyH_done (by kernel_rfl) ⟨by simp, ?_⟩ _
              clear HS0
              repeat gi_step
              rw [← HQQ.out]
              have HP9 := ((HP.out.sub (.cons _ (.cons _ (.cons _ (.cons _ (.cons _ (.cons_cons _ (.cons_cons _ (.cons_cons _ (.cons _ (.cons_cons _ (.cons_cons _ .slnil))))))))))))).froSub (Fs' := [⟨w, Lt w.heap.size⟩]) (fun F hF => by simp only [List.mem_cons, List.not_mem_nil, or_false] at hF ⊢; simp [hF])
              have HP8 := Hp.putObj (A := rdG g2 g3 g4 (.slice none 0 0) k 5) (B := [.obj bd (.deferred (some []))]) HP9 (.loop (rec .done (some .ret)))
              exact ⟨_, _, end_rec (some .ret) HREC (HP.out.theObj (by simp)), .inr ⟨rfl, k, HBD.out, HP8⟩⟩
    · exact ⟨0, _, [], [], [], [], _, _, [], ⟨rfl, by simp, by simp, by simp⟩, PrgM.start _ _, HP.out⟩
    · clear HP
      rintro e W' ⟨⟨v, rfl⟩, ⟨k, G, fs, fs0, us0, cells, cv, pv, code, HQ, HM, HP⟩ | ⟨k, hbad, HP⟩⟩
      · refine ⟨none, _, over_rec (st := .ready) (pe := none) HREC (HP.theObj (by simp)) (by simp), ?_⟩
        replace HP := Lib.hid (Hp.putObj (A := rdP g5 g6 cv pv code fs cells k ++ rdG g2 g3 g4 (.slice none 0 0) 0 0 ++ [.blk B 9 [.string (bstr [])]]) HP (.loop (rec .exhausted none)))
        have HEN := Lib.hid (show readAns l = readEnd fs by rw [HE.out]; exact HQ.done)
        have HM := Lib.hid HM
        obtain ⟨z, hz⟩ : ∃ z, prgFault ⟨fs⟩ = z := ⟨_, rfl⟩
        have HZ := Lib.hid hz
        have HPV := Lib.hid (HP.out.rowOne2 (.tail _ (.head _)))
        obtain ⟨WX, hWX⟩ : ∃ WX, W'.putObj (bd + 1) (.loop (rec .exhausted none)) = WX := ⟨_, rfl⟩
        rw [hWX] at HP ⊢
        clear hWX HQ
        have HCH := Lib.hid (show ∀ wq, Hp w [G, ⟨w, Lt w.heap.size⟩] (rdP g5 g6 cv pv code fs cells k ++ rdG g2 g3 g4 (.slice none 0 0) 0 0 ++ [.blk B 9 [.string (bstr [])], .obj (bd + 1) (.loop (rec .exhausted none)), .obj bd (.deferred (some []))]) wq → Calls Tryd.prog 11 #[.agg #[pv]] wq fun e w' => e = .returned (.int .i64 z) ∧ Below wq.heap.size wq w' from fun wq hp => by
          have := codeCheck_any ⟨fs⟩ pv wq (rep_prg.2 (Lay.more (fun b hb => hb.2) (HM.out.whole rfl hp (.head _)))) (HH.out.keep hp.below rfl)
          rwa [hz] at this)
        clear hz
        simp only [List.cons_append, List.nil_append] at HP
        (try simp only [Exit.inBlock, Exit.then])
        by_cases hz0 : z = 0
        · have hzz : (z != 0) = false := by rw [hz0]; rfl
          have HAN := Lib.hid (show readAns l = (⟨fs⟩, 0, 0) by rw [HEN.out]; unfold readEnd; rw [HZ.out, if_neg (fun h => h hz0)])
          clear hz0
          go_wp2_with (first | (refine wpList_ldR0 rfl 24 _ rfl HP.out rfl Tryd.underlying24 rfl (by kernel_rfl) ?_) | (refine wpList_ldR1 rfl 24 _ rfl HP.out rfl Tryd.underlying24 rfl (by kernel_rfl) ?_) | (refine wpList_ldR2 rfl 24 _ rfl HP.out rfl Tryd.underlying24 rfl (by kernel_rfl) ?_) | (refine wpList_ldR3 rfl 24 _ rfl HP.out rfl Tryd.underlying24 rfl (by kernel_rfl) ?_) | (refine wpList_ldR4 rfl 24 _ rfl HP.out rfl Tryd.underlying24 rfl (by kernel_rfl) ?_) | (go_at_call 11; refine (HCH.out _ HP.out).mono ?_; rintro e wpf ⟨rfl, hb⟩; replace HP := Lib.hid (HP.out.call0 hb); clear hb) | (refine wpList_stR4 rfl 24 _ _ rfl HP.out rfl (cs' := [pv]) rfl rfl (by simp [HPV.out]) (by kernel_rfl) ?_; clear HP; intro wst HP; replace HP := Lib.hid HP) | (refine wpList_st0 rfl 3 _ _ rfl HP.out rfl rfl (by simp) rfl rfl (by kernel_rfl) ?_; clear HP; intro wst HP; replace HP := Lib.hid HP) | (refine wpList_st1 rfl 3 _ _ rfl HP.out rfl rfl (by simp) rfl rfl (by kernel_rfl) ?_; clear HP; intro wst HP; replace HP := Lib.hid HP) | (refine wpList_st2 rfl 3 _ _ rfl HP.out rfl rfl (by simp) rfl rfl (by kernel_rfl) ?_; clear HP; intro wst HP; replace HP := Lib.hid HP) | (refine wpList_st3 rfl 3 _ _ rfl HP.out rfl rfl (by simp) rfl rfl (by kernel_rfl) ?_; clear HP; intro wst HP; replace HP := Lib.hid HP) | (refine wpList_st4 rfl 3 _ _ rfl HP.out rfl rfl (by simp) rfl rfl (by kernel_rfl) ?_; clear HP; intro wst HP; replace HP := Lib.hid HP) | (refine wpList_st5 rfl 3 _ _ rfl HP.out rfl rfl (by simp) rfl rfl (by kernel_rfl) ?_; clear HP; intro wst HP; replace HP := Lib.hid HP) | (refine wpList_st6 rfl 3 _ _ rfl HP.out rfl rfl (by simp) rfl rfl (by kernel_rfl) ?_; clear HP; intro wst HP; replace HP := Lib.hid HP) | (refine wpList_st0 rfl 26 _ _ rfl HP.out rfl rfl (by simp) rfl rfl (by kernel_rfl) ?_; clear HP; intro wst HP; replace HP := Lib.hid HP) | (refine wpList_st1 rfl 26 _ _ rfl HP.out rfl rfl (by simp) rfl rfl (by kernel_rfl) ?_; clear HP; intro wst HP; replace HP := Lib.hid HP) | (refine wpList_st2 rfl 26 _ _ rfl HP.out rfl rfl (by simp) rfl rfl (by kernel_rfl) ?_; clear HP; intro wst HP; replace HP := Lib.hid HP) | (refine wpList_st3 rfl 26 _ _ rfl HP.out rfl rfl (by simp) rfl rfl (by kernel_rfl) ?_; clear HP; intro wst HP; replace HP := Lib.hid HP) | (refine wpList_st4 rfl 26 _ _ rfl HP.out rfl rfl (by simp) rfl rfl (by kernel_rfl) ?_; clear HP; intro wst HP; replace HP := Lib.hid HP) | (refine wpList_st5 rfl 26 _ _ rfl HP.out rfl rfl (by simp) rfl rfl (by kernel_rfl) ?_; clear HP; intro wst HP; replace HP := Lib.hid HP) | (refine wpList_st6 rfl 26 _ _ rfl HP.out rfl rfl (by simp) rfl rfl (by kernel_rfl) ?_; clear HP; intro wst HP; replace HP := Lib.hid HP))
          (try simp only [Exit.inBlock, Exit.then])
          have HP3 := Lib.hid (Hp.putObj (A := rdP g5 g6 cv pv code fs cells k ++ rdG g2 g3 g4 pv 0 0 ++ [.blk B 9 [.string (bstr [])], .obj (bd + 1) (.loop (rec .exhausted none))]) (B := []) HP.out (.deferred none))
          refine leave_mark (HP.out.theObj (by simp)) (results_read (v := pv) (k := 0) (e := 0) _ rfl rfl rfl HP3.out (by simp) (by simp) (by simp) rfl) ?_
          unfold RdR2
          rw [HAN.out]
          exact ⟨_, rfl, rep_prg.2 (HM.out.whole rfl HP3.out (.head _)), HP3.out.below⟩
        · have hzz : (z != 0) = true := by rw [bne_iff_ne]; exact hz0
          have HAN := Lib.hid (show readAns l = (⟨[]⟩, 0, z) by rw [HEN.out]; unfold readEnd; rw [HZ.out, if_pos hz0])
          clear hz0
          go_wp2_with (first | (refine wpList_ldR0 rfl 24 _ rfl HP.out rfl Tryd.underlying24 rfl (by kernel_rfl) ?_) | (refine wpList_ldR1 rfl 24 _ rfl HP.out rfl Tryd.underlying24 rfl (by kernel_rfl) ?_) | (refine wpList_ldR2 rfl 24 _ rfl HP.out rfl Tryd.underlying24 rfl (by kernel_rfl) ?_) | (refine wpList_ldR3 rfl 24 _ rfl HP.out rfl Tryd.underlying24 rfl (by kernel_rfl) ?_) | (refine wpList_ldR4 rfl 24 _ rfl HP.out rfl Tryd.underlying24 rfl (by kernel_rfl) ?_) | (go_at_call 11; refine (HCH.out _ HP.out).mono ?_; rintro e wpf ⟨rfl, hb⟩; replace HP := Lib.hid (HP.out.call0 hb); clear hb) | (refine wpList_stR0 rfl 24 _ _ rfl HP.out rfl (cs' := [_]) rfl rfl (by simp [Value.oneCell']) (by kernel_rfl) ?_; clear HP; intro wst HP; replace HP := Lib.hid HP) | (refine wpList_stR1 rfl 24 _ _ rfl HP.out rfl (cs' := [_]) rfl rfl (by simp [Value.oneCell']) (by kernel_rfl) ?_; clear HP; intro wst HP; replace HP := Lib.hid HP) | (refine wpList_stR2 rfl 24 _ _ rfl HP.out rfl (cs' := [_]) rfl rfl (by simp [Value.oneCell']) (by kernel_rfl) ?_; clear HP; intro wst HP; replace HP := Lib.hid HP) | (refine wpList_stR3 rfl 24 _ _ rfl HP.out rfl (cs' := [_]) rfl rfl (by simp [Value.oneCell']) (by kernel_rfl) ?_; clear HP; intro wst HP; replace HP := Lib.hid HP) | (refine wpList_stR4 rfl 24 _ _ rfl HP.out rfl (cs' := [_]) rfl rfl (by simp [Value.oneCell']) (by kernel_rfl) ?_; clear HP; intro wst HP; replace HP := Lib.hid HP) | (refine wpList_st0 rfl 3 _ _ rfl HP.out rfl rfl (by simp) rfl rfl (by kernel_rfl) ?_; clear HP; intro wst HP; replace HP := Lib.hid HP) | (refine wpList_st1 rfl 3 _ _ rfl HP.out rfl rfl (by simp) rfl rfl (by kernel_rfl) ?_; clear HP; intro wst HP; replace HP := Lib.hid HP) | (refine wpList_st2 rfl 3 _ _ rfl HP.out rfl rfl (by simp) rfl rfl (by kernel_rfl) ?_; clear HP; intro wst HP; replace HP := Lib.hid HP) | (refine wpList_st3 rfl 3 _ _ rfl HP.out rfl rfl (by simp) rfl rfl (by kernel_rfl) ?_; clear HP; intro wst HP; replace HP := Lib.hid HP) | (refine wpList_st4 rfl 3 _ _ rfl HP.out rfl rfl (by simp) rfl rfl (by kernel_rfl) ?_; clear HP; intro wst HP; replace HP := Lib.hid HP) | (refine wpList_st5 rfl 3 _ _ rfl HP.out rfl rfl (by simp) rfl rfl (by kernel_rfl) ?_; clear HP; intro wst HP; replace HP := Lib.hid HP) | (refine wpList_st6 rfl 3 _ _ rfl HP.out rfl rfl (by simp) rfl rfl (by kernel_rfl) ?_; clear HP; intro wst HP; replace HP := Lib.hid HP) | (refine wpList_st0 rfl 26 _ _ rfl HP.out rfl rfl (by simp) rfl rfl (by kernel_rfl) ?_; clear HP; intro wst HP; replace HP := Lib.hid HP) | (refine wpList_st1 rfl 26 _ _ rfl HP.out rfl rfl (by simp) rfl rfl (by kernel_rfl) ?_; clear HP; intro wst HP; replace HP := Lib.hid HP) | (refine wpList_st2 rfl 26 _ _ rfl HP.out rfl rfl (by simp) rfl rfl (by kernel_rfl) ?_; clear HP; intro wst HP; replace HP := Lib.hid HP) | (refine wpList_st3 rfl 26 _ _ rfl HP.out rfl rfl (by simp) rfl rfl (by kernel_rfl) ?_; clear HP; intro wst HP; replace HP := Lib.hid HP) | (refine wpList_st4 rfl 26 _ _ rfl HP.out rfl rfl (by simp) rfl rfl (by kernel_rfl) ?_; clear HP; intro wst HP; replace HP := Lib.hid HP) | (refine wpList_st5 rfl 26 _ _ rfl HP.out rfl rfl (by simp) rfl rfl (by kernel_rfl) ?_; clear HP; intro wst HP; replace HP := Lib.hid HP) | (refine wpList_st6 rfl 26 _ _ rfl HP.out rfl rfl (by simp) rfl rfl (by kernel_rfl) ?_; clear HP; intro wst HP; replace HP := Lib.hid HP))
          (try simp only [Exit.inBlock, Exit.then])
          have HP3 := Lib.hid (Hp.putObj (A := rdP g5 g6 cv pv code fs cells k ++ rdG g2 g3 g4 (.slice none 0 0) 0 z ++ [.blk B 9 [.string (bstr [])], .obj (bd + 1) (.loop (rec .exhausted none))]) (B := []) HP.out (.deferred none))
          refine leave_mark (HP.out.theObj (by simp)) (results_read (v := .slice none 0 0) (k := 0) (e := z) _ rfl rfl rfl HP3.out (by simp) (by simp) (by simp) rfl) ?_
          unfold RdR2
          rw [HAN.out]
          exact ⟨_, rfl, rep_prg_nil4, HP3.out.below⟩
      · refine ⟨some .ret, _, over_rec (st := .done) (pe := some .ret) HREC (HP.theObj (by simp)) (by simp), ?_⟩
        refine wpIn_ret ?_
        (try simp only [Exit.inBlock, Exit.then])
        have HP2 := Hp.putObj (A := rdG g2 g3 g4 (.slice none 0 0) k 5) HP (.loop (rec .exhausted (some .ret)))
        have HP3 := Hp.putObj (A := rdG g2 g3 g4 (.slice none 0 0) k 5 ++ [.obj (bd + 1) (.loop (rec .exhausted (some .ret)))]) (B := []) HP2 (.deferred none)
        refine leave_mark (HP2.theObj (by simp)) (results_read (v := .slice none 0 0) (k := k) (e := 5) _ rfl rfl rfl HP3 (by simp) (by simp) (by simp) rfl) ?_
        unfold RdR2
        rw [HE.out, hbad]
        exact ⟨_, rfl, rep_prg_nil4, HP3.below⟩
end Go.Proofs.YtpnapnmkjpolmaaDoor
