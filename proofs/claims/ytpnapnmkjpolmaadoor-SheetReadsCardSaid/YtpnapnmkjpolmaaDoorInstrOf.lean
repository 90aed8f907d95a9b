/- ref.instrOf. -/
import Derived.Test.YtpnapnmkjpolmaaDoorNumeral
import Derived.Test.YtpnapnmkjpolmaaDoorWordsOf
import Derived.Test.YtpnapnmkjpolmaaDoorSheetD
import Derived.Test.YtpnapnmkjpolmaaDoorMgHeldHeldB2
import Derived.Deep.DeepCutAuto
set_option linter.unusedSimpArgs false
set_option linter.unusedVariables false
namespace Go.Proofs.YtpnapnmkjpolmaaDoor
open Go.RowKit
attribute [local irreducible] wpList Code.wp Oper.wp
theorem split_len : ∀ (l : List UInt8), (splitSp l).length ≤ l.length + 1 ∧ ∀ w ∈ splitSp l, w.length ≤ l.length
  | [] => by simp [splitSp]
  | c :: r => by
    obtain ⟨h1, h2⟩ := split_len r
    by_cases h : c = 32
    · subst h
      rw [splitSp_sp]
      refine ⟨by simp; omega, fun w hw => ?_⟩
      rcases List.mem_cons.1 hw with rfl | hw
      · simp
      · have := h2 w hw; simp; omega
    · rw [splitSp_other _ h]
      cases hs : splitSp r with
      | nil => exact absurd hs (splitSp_ne r)
      | cons x xs =>
        rw [hs] at h1 h2
        refine ⟨by simp at h1 ⊢; omega, fun w hw => ?_⟩
        rcases List.mem_cons.1 hw with rfl | hw
        · have := h2 x (by simp)
          simp
          omega
        · have := h2 w (by simp at hw ⊢; exact .inr hw)
          simp
          omega
/-- A row of strings in memory. -/
theorem rep_strs {w : World} {S : Nat → Prop} {xs : List ByteArray} {v : Value} (h : Lay.rep w S xs [v]) (hne : xs ≠ []) : ∃ a c, v = .slice (some a) xs.length c ∧ ∀ k (hk : k < xs.length), w.cell? (a.add k) = some (.string xs[k]) ∧ S a.block := by
  obtain ⟨A, c, e, hc, hm, hx⟩ := h
  obtain rfl := (List.cons.inj e).1
  have h0 : 0 < xs.length := List.length_pos_iff.2 hne
  obtain ⟨a, cs, rfl, hS, hat, hr⟩ := hx 0 xs[0] (List.getElem?_eq_getElem h0)
  refine ⟨a, c, rfl, fun k hk => ?_⟩
  obtain ⟨a', cs', e', hS', hat', hr'⟩ := hx k xs[k] (List.getElem?_eq_getElem hk)
  obtain rfl := Option.some.inj e'
  obtain rfl : cs' = [.string xs[k]] := hr'
  have := hat' 0 _ rfl
  simp only [Lay.size, Nat.mul_one] at this
  exact ⟨by simpa [Addr.add] using this, by simpa using hS'⟩
theorem results_crow_tmp {P : Program} {fn : Func} {p u : Tmp} {ty : TypeId} (h : fn.results = #[.cell p ty, .tmp u]) (tmps : Array Value) (w : World) (g : Nat) (t : TypeId) (cs : Array Value) (fr : Nat × Nat) (d : TypeDesc)
    (hp : tmps.getD p undef = .pointer (some ⟨g, 0, none⟩)) (hg : w.heap[g]? = some (.cells cs t fr))
    (hu : P.underlying ty = some d) (hd : (match d with | .struct _ | .array _ _ => true | _ => false) = true) (hi : (P.info? ty).map (·.size) = some cs.size) :
    (results fn tmps).run P w = .ok (.tuple #[.agg cs, tmps.getD u undef]) w := by
  rw [results_cell_tmp h, hp]
  simp [asAddr, run_loadVar_row w g t ty cs fr d hg hu hd hi, Result.andThen]
theorem refArgs_ins (l : List (List UInt8)) {op : Int} (h1 : 1 ≤ op) (h2 : op ≤ 19) : InsC (refArgs l op ⟨⟨op, 0, 0, 0, 0⟩, 1, true⟩).x := by
  rw [refArgs_fold _ _ h1 h2]
  have hq := refFold_op l (formL op) ⟨⟨op, 0, 0, 0, 0⟩, 1, true⟩
  have hk := refFold_ok l (· ∈ formL op) (formL op) ⟨⟨op, 0, 0, 0, 0⟩, 1, true⟩ (fun c hc => ⟨formL_mem _ c hc, hc⟩) (fun d hd => by
    rcases hd with rfl | rfl | rfl | rfl <;> simp [fieldZ])
  refine ⟨by rw [hq]; exact ⟨h1, h2⟩, fun c => ?_, fun c hc hn => ?_⟩
  · obtain ⟨e, he, h3⟩ := fieldZ_any (refFold l (formL op) ⟨⟨op, 0, 0, 0, 0⟩, 1, true⟩).x c
    rw [h3]
    exact (hk e he).1
  · rw [hq] at hn
    exact (hk c hc).2 hn
theorem exec_ins9 {w : World} {a : Act} {o : Oper} {x : Operand} {ad : Addr} {cs : List Value} (hat : At w ad cs) (ho : o.op = .load 48 x := by rfl) (hx : a.eval x = .pointer (some ad) := by rfl) (hl : cs.length = 5 := by rfl) : (execOp a.eval o).run Tryd.prog w = .ok (.value (.agg cs.toArray)) w := by
  unfold execOp
  simp only [ho, hx, Instr.loadAt, Instr.sureAddr, Sem.run_bind, Sem.run_pure, Result.andThen_ok, run_loadVar_at w ad _ cs _ hat Tryd.underlying48 rfl (by rw [hl]; kernel_rfl)]
theorem Hp.cellOf {w0 w : World} {Fs : List Fro} {L : List Res} {F : Fro} {a : Addr} {v : Value} (h : Hp w0 Fs L w) (hF : F ∈ Fs) (hc : F.w.cell? a = some v) (hS : F.S a.block) : w.cell? a = some v := by
  have hat : At F.w a [v] := fun j u hu => by
    have hj : j = 0 := by have := (List.getElem?_eq_some_iff.1 hu).1; simpa using this
    subst hj
    simp at hu
    subst hu
    simpa [Addr.add] using hc
  exact (h.at_ hF hat hS).cell 0 rfl
set_option maxRecDepth 10000 in
set_option maxHeartbeats 4000000 in
theorem instrOf_any (l : List UInt8) (hl : l.length ≤ 1000000) (w : World) :
    Calls Tryd.prog 26 #[.string (bstr l)] w fun e w' => e = .returned (.tuple #[.agg #[.int .i64 (refIns l).1.op, .int .i64 (refIns l).1.dst, .int .i64 (refIns l).1.a, .int .i64 (refIns l).1.b, .int .i64 (refIns l).1.imm], .bool (refIns l).2]) ∧ Below w.heap.size w w' := by
  have hsz := bstr_size l
  obtain ⟨ws, hws⟩ : ∃ ws, splitSp l = ws := ⟨_, rfl⟩
  have hne : ws ≠ [] := by rw [← hws]; exact splitSp_ne l
  have hsl := split_len l
  rw [hws] at hsl
  obtain ⟨hs1, hs2⟩ := hsl
  have HS2 := Lib.hid hs2
  have HWS := Lib.hid hws
  obtain ⟨n, hn⟩ : ∃ n, ws.length = n := ⟨_, rfl⟩
  have hn0 : 0 < n := by rw [← hn]; exact List.length_pos_iff.2 hne
  rw [hn] at hs1
  obtain ⟨w0, hw0⟩ : ∃ w0, ws.headD [] = w0 := ⟨_, rfl⟩
  have HP := Lib.hid (Hp.start w)
  clear hws hs2
  go_enter Tryd.func26, Tryd.ntmps26
  go_upto_region 2 with (first | (refine wpList_alloc_hp (o := ⟨some 2, _, _, _, _, _⟩) rfl _ rfl HP.out (.agg #[.int .i64 0, .int .i64 0, .int .i64 0, .int .i64 0, .int .i64 0]) (by kernel_rfl) [_, _, _, _, _] rfl ?_; clear HP; intro g2 w2 HP; replace HP := Lib.hid HP) | (refine wpList_alloc_hp (o := ⟨some 6, _, _, _, _, _⟩) rfl _ rfl HP.out (.agg #[.int .i64 0, .int .i64 0, .int .i64 0, .int .i64 0, .int .i64 0]) (by kernel_rfl) [_, _, _, _, _] rfl ?_; clear HP; intro g6 w6 HP; replace HP := Lib.hid HP) | (go_at_call 24; refine (wordsOf_any l hl _).mono ?_; rintro e w1 ⟨v, rfl, hv, hb⟩; have HP1 := Lib.hid (HP.out.call hb); have HV := Lib.hid hv; clear hb hv HP))
  obtain ⟨F1, A, c, rfl, HP, HX⟩ : ∃ (F1 : Fro) (A : Addr) (c : Nat), v = .slice (some A) n c ∧ Hid (Hp w [F1, { w := w, S := Lt w.heap.size }] [.blk g2 48 [.int .i64 0, .int .i64 0, .int .i64 0, .int .i64 0, .int .i64 0]] w1) ∧ Hid (∀ k, k < n → F1.w.cell? (A.add k) = some (.string (bstr (ws.getD k []))) ∧ F1.S A.block) := by
    obtain ⟨A, c, rfl, hcell⟩ := rep_strs HV.out (by simpa using splitSp_ne l)
    have hl2 : (List.map bstr (splitSp l)).length = n := by rw [HWS.out, List.length_map, hn]
    refine ⟨_, A, c, by rw [hl2], HP1, Lib.hid fun k hk => ?_⟩
    obtain ⟨h1, h2⟩ := hcell k (by rw [hl2]; exact hk)
    refine ⟨?_, h2⟩
    rw [h1]
    congr 2
    rw [List.getElem_map]
    congr 1
    have hk2 : k < ws.length := by rw [hn]; exact hk
    simp only [HWS.out, List.getD_eq_getElem?_getD, List.getElem?_eq_getElem hk2, Option.getD_some]
  have HNL := Lib.hid hn
  clear HP1 HV hne hn
  have hw0' : ws.getD 0 [] = w0 := by rw [← hw0]; cases ws <;> rfl
  have HW0 := Lib.hid hw0'
  have HWH := Lib.hid hw0
  clear hw0 hw0'
  go_upto_region 3 with fail
  go_loopw [5] (fun i wr => ∃ q : Nat, 1 ≤ q ∧ q ≤ 20 ∧ i = .int .i64 q ∧ Hid (∀ j : Nat, 1 ≤ j → j < q → wordL j ≠ w0) ∧ Hid (Hp w [F1, { w := w, S := Lt w.heap.size }] [.blk g2 48 [.int .i64 0, .int .i64 0, .int .i64 0, .int .i64 0, .int .i64 0]] wr)) (fun i _ => 20 - (intOf i).toNat)
  case atStart => exact ⟨1, by omega, by omega, rfl, Lib.hid (fun j h1 h2 => by omega), HP⟩
  case round =>
    clear HP
    obtain ⟨q, hq1, hq2, rfl, HNO, HP⟩ := hrel
    by_cases h20 : q = 20
    · have hg1 : decide (q ≤ 19) = false := decide_eq_false (by omega)
      have hg1' : decide ((q : Int) ≤ 19) = false := decide_eq_false (by omega)
      have HE := Lib.hid (show refIns l = (⟨0, 0, 0, 0, 0⟩, false) by
        unfold refIns
        rw [if_pos]
        rw [HWS.out, HWH.out]
        by_cases h0 : opOf w0 = 0
        · exact h0
        · obtain ⟨h1, h2, h3⟩ := opOf_is h0
          obtain ⟨j, hj⟩ := Int.eq_ofNat_of_zero_le (show 0 ≤ opOf w0 by omega)
          rw [hj] at h1 h2 h3
          exact absurd h3 (HNO.out j (by omega) (by omega)))
      clear h20 hq1 hq2
      go_wp2_with (first | (refine wpList_stR0 rfl 48 _ _ rfl HP.out rfl (cs' := [_, _, _, _, _]) rfl rfl (by simp [Value.oneCell']) (by kernel_rfl) ?_; clear HP; intro wst HP; replace HP := Lib.hid HP))
      (try simp only [Exit.inBlock, Exit.then])
      refine bodyPost_ret (results_crow_tmp rfl _ _ g2 48 [.int .i64 0, .int .i64 0, .int .i64 0, .int .i64 0, .int .i64 0].toArray (0, 0) _ rfl (HP.out.blk (.head _)) Tryd.underlying48 rfl (by kernel_rfl)) (by rfl) ?_
      exact ⟨by rw [HE.out]; rfl, HP.out.below⟩
    · have hg1 : decide (q ≤ 19) = true := decide_eq_true (by omega)
      have hg1' : decide ((q : Int) ≤ 19) = true := decide_eq_true (by omega)
      have HQ := Lib.hid (show q < 20 by omega)
      obtain ⟨wq, hwq⟩ : ∃ wq, wordL (q : Int) = wq := ⟨_, rfl⟩
      have HWQ := Lib.hid hwq
      have hx0 : F1.w.cell? A = some (.string (bstr w0)) ∧ F1.S A.block := by
        have := HX.out 0 hn0
        rw [HW0.out] at this
        simpa [Addr.add] using this
      have HX0 := Lib.hid hx0
      have HQ1 := Lib.hid hq1
      have HN0 := Lib.hid hn0
      clear hwq hx0 h20 hq1 hq2
      go_upto_region 5 with fail
      replace HP := Lib.hid HP.out.drew
      refine wp_region_held_drew (S := fun w' => w'.cell? A = some (.string (bstr w0))) (by kernel_rfl) (HP.out.cellOf (F := F1) (by simp) HX0.out.1 HX0.out.2) (fun hHeld => ?_)
      have HS0 := Lib.hid hHeld
      clear hHeld
      (try simp only [Act.put, List.setIfInBounds_toArray, List.set_cons_zero, List.set_cons_succ])
      refine wpAnyH_take (i := 0) (v := ?_) rfl (by kernel_rfl) (by kernel_rfl) (by kernel_rfl) (fun _ _ _ h => h) (.inl ⟨by first | (simp [Region.wanted]; done) | rfl, ?_⟩) HS0.out ?_
      rotate_left
      · intro w' hw
        go_simp
        (try with_reducible rfl)
      (try simp only [List.getElem_toArray, List.getElem_cons_succ, List.getElem_cons_zero, Act.put, List.setIfInBounds_toArray, List.set_cons_zero, List.set_cons_succ])
      refine wpAnyH_take (i := 2) (v := ?_) rfl (by kernel_rfl) (by kernel_rfl) (by kernel_rfl) (fun _ _ _ h => h) (.inl ⟨by first | (simp [Region.wanted]; done) | rfl, ?_⟩) HS0.out ?_
      rotate_left
      · intro w' hw
        go_simp
        (try with_reducible rfl)
      (try simp only [List.getElem_toArray, List.getElem_cons_succ, List.getElem_cons_zero, Act.put, List.setIfInBounds_toArray, List.set_cons_zero, List.set_cons_succ])
      refine wpAnyH_take (i := 3) (v := ?_) rfl (by kernel_rfl) (by kernel_rfl) (by kernel_rfl) (fun _ _ _ h => h) (.inl ⟨by first | (simp [Region.wanted]; done) | rfl, ?_⟩) HS0.out ?_
      rotate_left
      · intro w' hw
        go_simp
        (try with_reducible rfl)
      (try simp only [List.getElem_toArray, List.getElem_cons_succ, List.getElem_cons_zero, Act.put, List.setIfInBounds_toArray, List.set_cons_zero, List.set_cons_succ])
      refine wpAnyH_take (i := 4) (v := ?_) rfl (by kernel_rfl) (by kernel_rfl) (by kernel_rfl) (fun _ _ _ h => h) (.inl ⟨by first | (simp [Region.wanted]; done) | rfl, ?_⟩) HS0.out ?_
      rotate_left
      · intro w' hw
        go_simp
        (try with_reducible rfl)
      (try simp only [List.getElem_toArray, List.getElem_cons_succ, List.getElem_cons_zero, Act.put, List.setIfInBounds_toArray, List.set_cons_zero, List.set_cons_succ])
      refine wpAnyH_ready (rs := [1]) (by kernel_rfl) (by simp) ?_
      refine AllReadyH.cons rfl (fun K hK => ?_) AllReadyH.nil
      go_simp
      refine (opWord_any q HQ.out _).mono ?_
      rintro e wo ⟨rfl, hb⟩
      replace HP := Lib.hid (HP.out.call0 hb)
      clear hb HS0
      rw [HWQ.out]
      dsimp only
      refine hK.out _ _ (HP.out.cellOf (F := F1) (by simp) HX0.out.1 HX0.out.2) (fun hHeld => ?_)
      have HS0 := Lib.hid hHeld
      clear hK K hHeld
      (try simp only [List.getElem_toArray, List.getElem_cons_succ, List.getElem_cons_zero, Act.put, List.setIfInBounds_toArray, List.set_cons_zero, List.set_cons_succ])
      refine wpAnyH_take (i := 5) (v := ?_) rfl (by kernel_rfl) (by kernel_rfl) (by kernel_rfl) (fun _ _ _ h => h) (.inl ⟨by first | (simp [Region.wanted]; done) | rfl, ?_⟩) HS0.out ?_
      rotate_left
      · intro w' hw
        go_simp
        (try with_reducible rfl)
      (try simp only [List.getElem_toArray, List.getElem_cons_succ, List.getElem_cons_zero, Act.put, List.setIfInBounds_toArray, List.set_cons_zero, List.set_cons_succ])
      refine wpAnyH_done (by kernel_rfl) ?_ _
      (try simp only [List.getElem_toArray, List.getElem_cons_succ, List.getElem_cons_zero, Act.put, List.setIfInBounds_toArray, List.set_cons_zero, List.set_cons_succ])
      clear HS0
      by_cases heq : wq = w0
      · have hb : ((bstr wq).toList == (bstr w0).toList) = true := by rw [heq]; exact beq_self_eq_true _
        simp only [hb, Bool.not_true]
        clear hb
        have hop : opOf w0 = (q : Int) := by rw [← heq, ← HWQ.out]; exact opOf_word (by have := HQ1.out; omega) (by have := HQ.out; omega)
        have HR := Lib.hid (show refIns l = refEnd ws l (q : Int) by
          unfold refIns
          rw [HWS.out, HWH.out, hop, if_neg (by have := HQ1.out; omega)])
        clear heq hop
        go_upto_region 8 with (first | (refine wpList_alloc_hp (o := ⟨some 6, _, _, _, _, _⟩) rfl _ rfl HP.out (.agg #[.int .i64 0, .int .i64 0, .int .i64 0, .int .i64 0, .int .i64 0]) (by kernel_rfl) [_, _, _, _, _] rfl ?_; clear HP; intro g6 w6 HP; replace HP := Lib.hid HP) | (refine wpList_stR0 rfl 48 _ _ rfl HP.out rfl (cs' := [_, _, _, _, _]) rfl rfl (by simp [Value.oneCell']) (by kernel_rfl) ?_; clear HP; intro wst HP; replace HP := Lib.hid HP))
        go_cut [7, 8] from 33 to 33 (fun vk vo wr => ∃ s' : Rst, Hid (s' = ⟨⟨(q : Int), 0, 0, 0, 0⟩, 1, true⟩) ∧ vk = .int .i64 (s'.k : Int) ∧ vo = .bool s'.ok ∧ Hid (Hp w [F1, { w := w, S := Lt w.heap.size }] [.blk g6 48 [.int .i64 s'.x.op, .int .i64 s'.x.dst, .int .i64 s'.x.a, .int .i64 s'.x.b, .int .i64 s'.x.imm], .blk g2 48 [.int .i64 0, .int .i64 0, .int .i64 0, .int .i64 0, .int .i64 0]] wr))
        case first =>
          go_wp2
          go_meet
          exact ⟨_, Lib.hid rfl, rfl, rfl, HP⟩
        case rest =>
          obtain ⟨s0, Hs0, rfl, rfl, HP⟩ := hcut
          go_upto_region 9 with fail
          go_cut [40] from 33 to 40 (fun v wr => v = .bool (setsZ (q : Int) && decide (s0.k < n)) ∧ Hid (Hp w [F1, { w := w, S := Lt w.heap.size }] [.blk g6 48 [.int .i64 s0.x.op, .int .i64 s0.x.dst, .int .i64 s0.x.a, .int .i64 s0.x.b, .int .i64 s0.x.imm], .blk g2 48 [.int .i64 0, .int .i64 0, .int .i64 0, .int .i64 0, .int .i64 0]] wr))
          case first =>
            obtain ⟨b, hb⟩ : ∃ b, setsZ (q : Int) = b := ⟨_, rfl⟩
            have HVS := Lib.hid hb
            have HWE := Lib.hid hb
            clear hb
            cases b
            all_goals
              obtain ⟨t, ht⟩ : ∃ t, decide (s0.k < n) = t := ⟨_, rfl⟩
              have ht2 : decide ((s0.k : Int) < (n : Int)) = t := by rw [← ht]; simp
              go_wp2_with (first | (go_at_call 38; refine (Sets_any _ _).mono ?_; rintro e wfn ⟨rfl, rfl⟩; rw [HVS.out]))
              go_meet
              exact ⟨by rw [HWE.out, ht]; simp, HP⟩
          case rest =>
            clear HP
            obtain ⟨rfl, HP⟩ := hcut
            obtain ⟨t, ht⟩ : ∃ t, (setsZ (q : Int) && decide (s0.k < n)) = t := ⟨_, rfl⟩
            have HT := Lib.hid ht
            rw [ht]
            clear ht
            go_upto_if 40 with fail
            go_cut [7, 8] from 41 to 56 (fun vk vo wr => ∃ s' : Rst, Hid (s' = refArg ws (setsZ (q : Int)) 100 s0) ∧ vk = .int .i64 (s'.k : Int) ∧ vo = .bool s'.ok ∧ Hid (Hp w [F1, { w := w, S := Lt w.heap.size }] [.blk g6 48 [.int .i64 s'.x.op, .int .i64 s'.x.dst, .int .i64 s'.x.a, .int .i64 s'.x.b, .int .i64 s'.x.imm], .blk g2 48 [.int .i64 0, .int .i64 0, .int .i64 0, .int .i64 0, .int .i64 0]] wr))
            case first =>
              cases t with
              | false =>
                have HE := Lib.hid (show s0 = refArg ws (setsZ (q : Int)) 100 s0 by
                  have ht := HT.out
                  unfold refArg
                  rw [if_neg]
                  rintro ⟨h1, h2⟩
                  rw [HNL.out] at h2
                  rw [h1, decide_eq_true h2] at ht
                  exact absurd ht (by decide))
                go_wp2
                go_meet
                exact ⟨s0, HE, rfl, rfl, HP⟩
              | true =>
                obtain ⟨hW, hk0⟩ := Bool.and_eq_true_iff.1 HT.out
                have hk := of_decide_eq_true hk0
                clear hk0
                obtain ⟨wk, hwk⟩ : ∃ wk, ws.getD s0.k [] = wk := ⟨_, rfl⟩
                have hwl : wk.length ≤ 1000000 := by
                  have hk2 : s0.k < ws.length := by rw [HNL.out]; exact hk
                  have := HS2.out ws[s0.k] (List.getElem_mem hk2)
                  rw [List.getD_eq_getElem?_getD, List.getElem?_eq_getElem hk2, Option.getD_some] at hwk
                  rw [← hwk]; omega
                obtain ⟨⟨r, b0⟩, hr⟩ : ∃ p, regAns wk = p := ⟨_, rfl⟩
                have HC := Lib.hid (show ∀ w, Calls Tryd.prog 48 #[.string (bstr wk)] w fun e w' => e = .returned (.tuple #[.int .i64 r, .bool b0]) ∧ Below w.heap.size w w' from fun w5 => by
                  have := registerOf_any wk hwl w5
                  rw [hr] at this
                  exact this)
                have HE := Lib.hid (show (⟨setF s0.x 100 r, s0.k + 1, s0.ok && b0⟩ : Rst) = refArg ws (setsZ (q : Int)) 100 s0 by
                  unfold refArg
                  rw [if_pos ⟨hW, by rw [HNL.out]; exact hk⟩]
                  unfold argAns
                  rw [if_neg (by decide), hwk, hr])
                have hcell := HX.out s0.k hk
                rw [hwk] at hcell
                have hck := HP.out.cellOf (F := F1) (by simp) hcell.1 (by rw [block_of_add]; exact hcell.2)
                have HW1 := Lib.hid (show wrap64 ((s0.k : Int) + 1) = ((s0.k + 1 : Nat) : Int) by unfold wrap64; omega)
                have hkI : (s0.k : Int) < (n : Int) := by omega
                clear hr hwk hcell HT hW
                obtain ⟨⟨o, d, a, b, i⟩, k, ok⟩ := s0
                dsimp only at HP HE hck HW1 hkI hk ⊢
                cases ok
                all_goals
                  go_wp2_with (first | (go_at_call 48; refine (HC.out _).mono ?_; rintro e wcl ⟨rfl, hb⟩; clear hck; replace HP := Lib.hid (HP.out.call0 hb); clear hb) | (refine wpList_st0 rfl 3 _ _ rfl HP.out rfl rfl (by simp) rfl rfl (by kernel_rfl) ?_; clear HP; intro wst HP; replace HP := Lib.hid HP))
                  go_meet
                  exact ⟨⟨⟨o, r, a, b, i⟩, k + 1, _⟩, HE, by first | rfl | (rw [HW1.out]; rfl), by simp, HP⟩
            case rest =>
              clear HP HT
              obtain ⟨s1, Hs1, rfl, rfl, HP⟩ := hcut
              go_upto_region 14 with fail
              go_cut [68] from 57 to 68 (fun v wr => v = .bool (decide ((q : Int) = 17 ∨ (q : Int) = 1) && decide (s1.k < n)) ∧ Hid (Hp w [F1, { w := w, S := Lt w.heap.size }] [.blk g6 48 [.int .i64 s1.x.op, .int .i64 s1.x.dst, .int .i64 s1.x.a, .int .i64 s1.x.b, .int .i64 s1.x.imm], .blk g2 48 [.int .i64 0, .int .i64 0, .int .i64 0, .int .i64 0, .int .i64 0]] wr))
              case first =>
                obtain ⟨b1, hb1⟩ : ∃ b1, ((q : Int) == 17) = b1 := ⟨_, rfl⟩
                obtain ⟨b2, hb2⟩ : ∃ b2, ((q : Int) == 1) = b2 := ⟨_, rfl⟩
                have hW : decide ((q : Int) = 17 ∨ (q : Int) = 1) = (b1 || b2) := by rw [← hb1, ← hb2]; simp [Bool.beq_eq_decide_eq, Bool.decide_or]
                have HWE := Lib.hid hW
                clear hW
                cases b1 <;> cases b2
                all_goals
                  obtain ⟨t, ht⟩ : ∃ t, decide (s1.k < n) = t := ⟨_, rfl⟩
                  have ht2 : decide ((s1.k : Int) < (n : Int)) = t := by rw [← ht]; simp
                  go_wp2_with (first | fail)
                  go_meet
                  exact ⟨by rw [HWE.out, ht]; simp, HP⟩
              case rest =>
                clear HP
                obtain ⟨rfl, HP⟩ := hcut
                obtain ⟨t, ht⟩ : ∃ t, (decide ((q : Int) = 17 ∨ (q : Int) = 1) && decide (s1.k < n)) = t := ⟨_, rfl⟩
                have HT := Lib.hid ht
                rw [ht]
                clear ht
                go_upto_if 68 with fail
                go_cut [7, 8] from 69 to 84 (fun vk vo wr => ∃ s' : Rst, Hid (s' = refArg ws (decide ((q : Int) = 17 ∨ (q : Int) = 1)) 105 s1) ∧ vk = .int .i64 (s'.k : Int) ∧ vo = .bool s'.ok ∧ Hid (Hp w [F1, { w := w, S := Lt w.heap.size }] [.blk g6 48 [.int .i64 s'.x.op, .int .i64 s'.x.dst, .int .i64 s'.x.a, .int .i64 s'.x.b, .int .i64 s'.x.imm], .blk g2 48 [.int .i64 0, .int .i64 0, .int .i64 0, .int .i64 0, .int .i64 0]] wr))
                case first =>
                  cases t with
                  | false =>
                    have HE := Lib.hid (show s1 = refArg ws (decide ((q : Int) = 17 ∨ (q : Int) = 1)) 105 s1 by
                      have ht := HT.out
                      unfold refArg
                      rw [if_neg]
                      rintro ⟨h1, h2⟩
                      rw [HNL.out] at h2
                      rw [h1, decide_eq_true h2] at ht
                      exact absurd ht (by decide))
                    go_wp2
                    go_meet
                    exact ⟨s1, HE, rfl, rfl, HP⟩
                  | true =>
                    obtain ⟨hW, hk0⟩ := Bool.and_eq_true_iff.1 HT.out
                    have hk := of_decide_eq_true hk0
                    clear hk0
                    obtain ⟨wk, hwk⟩ : ∃ wk, ws.getD s1.k [] = wk := ⟨_, rfl⟩
                    have hwl : wk.length ≤ 1000000 := by
                      have hk2 : s1.k < ws.length := by rw [HNL.out]; exact hk
                      have := HS2.out ws[s1.k] (List.getElem_mem hk2)
                      rw [List.getD_eq_getElem?_getD, List.getElem?_eq_getElem hk2, Option.getD_some] at hwk
                      rw [← hwk]; omega
                    obtain ⟨⟨r, b0⟩, hr⟩ : ∃ p, numAns wk = p := ⟨_, rfl⟩
                    have HC := Lib.hid (show ∀ w, Calls Tryd.prog 25 #[.string (bstr wk)] w fun e w' => e = .returned (.tuple #[.int .i64 r, .bool b0]) ∧ Below w.heap.size w w' from fun w5 => by
                      have := numeral_any wk hwl w5
                      rw [hr] at this
                      exact this)
                    have HE := Lib.hid (show (⟨setF s1.x 105 r, s1.k + 1, s1.ok && b0⟩ : Rst) = refArg ws (decide ((q : Int) = 17 ∨ (q : Int) = 1)) 105 s1 by
                      unfold refArg
                      rw [if_pos ⟨hW, by rw [HNL.out]; exact hk⟩]
                      unfold argAns
                      rw [if_pos rfl, hwk, hr])
                    have hcell := HX.out s1.k hk
                    rw [hwk] at hcell
                    have hck := HP.out.cellOf (F := F1) (by simp) hcell.1 (by rw [block_of_add]; exact hcell.2)
                    have HW1 := Lib.hid (show wrap64 ((s1.k : Int) + 1) = ((s1.k + 1 : Nat) : Int) by unfold wrap64; omega)
                    have hkI : (s1.k : Int) < (n : Int) := by omega
                    clear hr hwk hcell HT hW
                    obtain ⟨⟨o, d, a, b, i⟩, k, ok⟩ := s1
                    dsimp only at HP HE hck HW1 hkI hk ⊢
                    cases ok
                    all_goals
                      go_wp2_with (first | (go_at_call 25; refine (HC.out _).mono ?_; rintro e wcl ⟨rfl, hb⟩; clear hck; replace HP := Lib.hid (HP.out.call0 hb); clear hb) | (refine wpList_st0 rfl 3 _ _ rfl HP.out rfl rfl (by simp) rfl rfl (by kernel_rfl) ?_; clear HP; intro wst HP; replace HP := Lib.hid HP))
                      go_meet
                      exact ⟨⟨⟨o, d, a, b, r⟩, k + 1, _⟩, HE, by first | rfl | (rw [HW1.out]; rfl), by simp, HP⟩
                case rest =>
                  clear HP HT
                  obtain ⟨s2, Hs2, rfl, rfl, HP⟩ := hcut
                  go_upto_region 19 with fail
                  go_cut [92] from 85 to 92 (fun v wr => v = .bool (readsAZ (q : Int) && decide (s2.k < n)) ∧ Hid (Hp w [F1, { w := w, S := Lt w.heap.size }] [.blk g6 48 [.int .i64 s2.x.op, .int .i64 s2.x.dst, .int .i64 s2.x.a, .int .i64 s2.x.b, .int .i64 s2.x.imm], .blk g2 48 [.int .i64 0, .int .i64 0, .int .i64 0, .int .i64 0, .int .i64 0]] wr))
                  case first =>
                    obtain ⟨b, hb⟩ : ∃ b, readsAZ (q : Int) = b := ⟨_, rfl⟩
                    have HWA := Lib.hid hb
                    have HWE := Lib.hid hb
                    clear hb
                    cases b
                    all_goals
                      obtain ⟨t, ht⟩ : ∃ t, decide (s2.k < n) = t := ⟨_, rfl⟩
                      have ht2 : decide ((s2.k : Int) < (n : Int)) = t := by rw [← ht]; simp
                      go_wp2_with (first | (go_at_call 39; refine (ReadsA_any _ _).mono ?_; rintro e wfn ⟨rfl, rfl⟩; rw [HWA.out]))
                      go_meet
                      exact ⟨by rw [HWE.out, ht]; simp, HP⟩
                  case rest =>
                    clear HP
                    obtain ⟨rfl, HP⟩ := hcut
                    obtain ⟨t, ht⟩ : ∃ t, (readsAZ (q : Int) && decide (s2.k < n)) = t := ⟨_, rfl⟩
                    have HT := Lib.hid ht
                    rw [ht]
                    clear ht
                    go_upto_if 92 with fail
                    go_cut [7, 8] from 93 to 108 (fun vk vo wr => ∃ s' : Rst, Hid (s' = refArg ws (readsAZ (q : Int)) 97 s2) ∧ vk = .int .i64 (s'.k : Int) ∧ vo = .bool s'.ok ∧ Hid (Hp w [F1, { w := w, S := Lt w.heap.size }] [.blk g6 48 [.int .i64 s'.x.op, .int .i64 s'.x.dst, .int .i64 s'.x.a, .int .i64 s'.x.b, .int .i64 s'.x.imm], .blk g2 48 [.int .i64 0, .int .i64 0, .int .i64 0, .int .i64 0, .int .i64 0]] wr))
                    case first =>
                      cases t with
                      | false =>
                        have HE := Lib.hid (show s2 = refArg ws (readsAZ (q : Int)) 97 s2 by
                          have ht := HT.out
                          unfold refArg
                          rw [if_neg]
                          rintro ⟨h1, h2⟩
                          rw [HNL.out] at h2
                          rw [h1, decide_eq_true h2] at ht
                          exact absurd ht (by decide))
                        go_wp2
                        go_meet
                        exact ⟨s2, HE, rfl, rfl, HP⟩
                      | true =>
                        obtain ⟨hW, hk0⟩ := Bool.and_eq_true_iff.1 HT.out
                        have hk := of_decide_eq_true hk0
                        clear hk0
                        obtain ⟨wk, hwk⟩ : ∃ wk, ws.getD s2.k [] = wk := ⟨_, rfl⟩
                        have hwl : wk.length ≤ 1000000 := by
                          have hk2 : s2.k < ws.length := by rw [HNL.out]; exact hk
                          have := HS2.out ws[s2.k] (List.getElem_mem hk2)
                          rw [List.getD_eq_getElem?_getD, List.getElem?_eq_getElem hk2, Option.getD_some] at hwk
                          rw [← hwk]; omega
                        obtain ⟨⟨r, b0⟩, hr⟩ : ∃ p, regAns wk = p := ⟨_, rfl⟩
                        have HC := Lib.hid (show ∀ w, Calls Tryd.prog 48 #[.string (bstr wk)] w fun e w' => e = .returned (.tuple #[.int .i64 r, .bool b0]) ∧ Below w.heap.size w w' from fun w5 => by
                          have := registerOf_any wk hwl w5
                          rw [hr] at this
                          exact this)
                        have HE := Lib.hid (show (⟨setF s2.x 97 r, s2.k + 1, s2.ok && b0⟩ : Rst) = refArg ws (readsAZ (q : Int)) 97 s2 by
                          unfold refArg
                          rw [if_pos ⟨hW, by rw [HNL.out]; exact hk⟩]
                          unfold argAns
                          rw [if_neg (by decide), hwk, hr])
                        have hcell := HX.out s2.k hk
                        rw [hwk] at hcell
                        have hck := HP.out.cellOf (F := F1) (by simp) hcell.1 (by rw [block_of_add]; exact hcell.2)
                        have HW1 := Lib.hid (show wrap64 ((s2.k : Int) + 1) = ((s2.k + 1 : Nat) : Int) by unfold wrap64; omega)
                        have hkI : (s2.k : Int) < (n : Int) := by omega
                        clear hr hwk hcell HT hW
                        obtain ⟨⟨o, d, a, b, i⟩, k, ok⟩ := s2
                        dsimp only at HP HE hck HW1 hkI hk ⊢
                        cases ok
                        all_goals
                          go_wp2_with (first | (go_at_call 48; refine (HC.out _).mono ?_; rintro e wcl ⟨rfl, hb⟩; clear hck; replace HP := Lib.hid (HP.out.call0 hb); clear hb) | (refine wpList_st0 rfl 3 _ _ rfl HP.out rfl rfl (by simp) rfl rfl (by kernel_rfl) ?_; clear HP; intro wst HP; replace HP := Lib.hid HP))
                          go_meet
                          exact ⟨⟨⟨o, d, r, b, i⟩, k + 1, _⟩, HE, by first | rfl | (rw [HW1.out]; rfl), by simp, HP⟩
                    case rest =>
                      clear HP HT
                      obtain ⟨s3, Hs3, rfl, rfl, HP⟩ := hcut
                      go_upto_region 24 with fail
                      go_cut [116] from 109 to 116 (fun v wr => v = .bool (readsBZ (q : Int) && decide (s3.k < n)) ∧ Hid (Hp w [F1, { w := w, S := Lt w.heap.size }] [.blk g6 48 [.int .i64 s3.x.op, .int .i64 s3.x.dst, .int .i64 s3.x.a, .int .i64 s3.x.b, .int .i64 s3.x.imm], .blk g2 48 [.int .i64 0, .int .i64 0, .int .i64 0, .int .i64 0, .int .i64 0]] wr))
                      case first =>
                        obtain ⟨b, hb⟩ : ∃ b, readsBZ (q : Int) = b := ⟨_, rfl⟩
                        have HWB := Lib.hid hb
                        have HWE := Lib.hid hb
                        clear hb
                        cases b
                        all_goals
                          obtain ⟨t, ht⟩ : ∃ t, decide (s3.k < n) = t := ⟨_, rfl⟩
                          have ht2 : decide ((s3.k : Int) < (n : Int)) = t := by rw [← ht]; simp
                          go_wp2_with (first | (go_at_call 40; refine (ReadsB_any _ _).mono ?_; rintro e wfn ⟨rfl, rfl⟩; rw [HWB.out]))
                          go_meet
                          exact ⟨by rw [HWE.out, ht]; simp, HP⟩
                      case rest =>
                        clear HP
                        obtain ⟨rfl, HP⟩ := hcut
                        obtain ⟨t, ht⟩ : ∃ t, (readsBZ (q : Int) && decide (s3.k < n)) = t := ⟨_, rfl⟩
                        have HT := Lib.hid ht
                        rw [ht]
                        clear ht
                        go_upto_if 116 with fail
                        go_cut [7, 8] from 117 to 132 (fun vk vo wr => ∃ s' : Rst, Hid (s' = refArg ws (readsBZ (q : Int)) 98 s3) ∧ vk = .int .i64 (s'.k : Int) ∧ vo = .bool s'.ok ∧ Hid (Hp w [F1, { w := w, S := Lt w.heap.size }] [.blk g6 48 [.int .i64 s'.x.op, .int .i64 s'.x.dst, .int .i64 s'.x.a, .int .i64 s'.x.b, .int .i64 s'.x.imm], .blk g2 48 [.int .i64 0, .int .i64 0, .int .i64 0, .int .i64 0, .int .i64 0]] wr))
                        case first =>
                          cases t with
                          | false =>
                            have HE := Lib.hid (show s3 = refArg ws (readsBZ (q : Int)) 98 s3 by
                              have ht := HT.out
                              unfold refArg
                              rw [if_neg]
                              rintro ⟨h1, h2⟩
                              rw [HNL.out] at h2
                              rw [h1, decide_eq_true h2] at ht
                              exact absurd ht (by decide))
                            go_wp2
                            go_meet
                            exact ⟨s3, HE, rfl, rfl, HP⟩
                          | true =>
                            obtain ⟨hW, hk0⟩ := Bool.and_eq_true_iff.1 HT.out
                            have hk := of_decide_eq_true hk0
                            clear hk0
                            obtain ⟨wk, hwk⟩ : ∃ wk, ws.getD s3.k [] = wk := ⟨_, rfl⟩
                            have hwl : wk.length ≤ 1000000 := by
                              have hk2 : s3.k < ws.length := by rw [HNL.out]; exact hk
                              have := HS2.out ws[s3.k] (List.getElem_mem hk2)
                              rw [List.getD_eq_getElem?_getD, List.getElem?_eq_getElem hk2, Option.getD_some] at hwk
                              rw [← hwk]; omega
                            obtain ⟨⟨r, b0⟩, hr⟩ : ∃ p, regAns wk = p := ⟨_, rfl⟩
                            have HC := Lib.hid (show ∀ w, Calls Tryd.prog 48 #[.string (bstr wk)] w fun e w' => e = .returned (.tuple #[.int .i64 r, .bool b0]) ∧ Below w.heap.size w w' from fun w5 => by
                              have := registerOf_any wk hwl w5
                              rw [hr] at this
                              exact this)
                            have HE := Lib.hid (show (⟨setF s3.x 98 r, s3.k + 1, s3.ok && b0⟩ : Rst) = refArg ws (readsBZ (q : Int)) 98 s3 by
                              unfold refArg
                              rw [if_pos ⟨hW, by rw [HNL.out]; exact hk⟩]
                              unfold argAns
                              rw [if_neg (by decide), hwk, hr])
                            have hcell := HX.out s3.k hk
                            rw [hwk] at hcell
                            have hck := HP.out.cellOf (F := F1) (by simp) hcell.1 (by rw [block_of_add]; exact hcell.2)
                            have HW1 := Lib.hid (show wrap64 ((s3.k : Int) + 1) = ((s3.k + 1 : Nat) : Int) by unfold wrap64; omega)
                            have hkI : (s3.k : Int) < (n : Int) := by omega
                            clear hr hwk hcell HT hW
                            obtain ⟨⟨o, d, a, b, i⟩, k, ok⟩ := s3
                            dsimp only at HP HE hck HW1 hkI hk ⊢
                            cases ok
                            all_goals
                              go_wp2_with (first | (go_at_call 48; refine (HC.out _).mono ?_; rintro e wcl ⟨rfl, hb⟩; clear hck; replace HP := Lib.hid (HP.out.call0 hb); clear hb) | (refine wpList_st0 rfl 3 _ _ rfl HP.out rfl rfl (by simp) rfl rfl (by kernel_rfl) ?_; clear HP; intro wst HP; replace HP := Lib.hid HP))
                              go_meet
                              exact ⟨⟨⟨o, d, a, r, i⟩, k + 1, _⟩, HE, by first | rfl | (rw [HW1.out]; rfl), by simp, HP⟩
                        case rest =>
                          clear HP HT
                          obtain ⟨s4, Hs4, rfl, rfl, HP⟩ := hcut
                          go_upto_region 29 with fail
                          go_cut [144] from 133 to 144 (fun v wr => v = .bool (decide ((q : Int) = 15 ∨ (q : Int) = 16) && decide (s4.k < n)) ∧ Hid (Hp w [F1, { w := w, S := Lt w.heap.size }] [.blk g6 48 [.int .i64 s4.x.op, .int .i64 s4.x.dst, .int .i64 s4.x.a, .int .i64 s4.x.b, .int .i64 s4.x.imm], .blk g2 48 [.int .i64 0, .int .i64 0, .int .i64 0, .int .i64 0, .int .i64 0]] wr))
                          case first =>
                            obtain ⟨b1, hb1⟩ : ∃ b1, ((q : Int) == 15) = b1 := ⟨_, rfl⟩
                            obtain ⟨b2, hb2⟩ : ∃ b2, ((q : Int) == 16) = b2 := ⟨_, rfl⟩
                            have hW : decide ((q : Int) = 15 ∨ (q : Int) = 16) = (b1 || b2) := by rw [← hb1, ← hb2]; simp [Bool.beq_eq_decide_eq, Bool.decide_or]
                            have HWE := Lib.hid hW
                            clear hW
                            cases b1 <;> cases b2
                            all_goals
                              obtain ⟨t, ht⟩ : ∃ t, decide (s4.k < n) = t := ⟨_, rfl⟩
                              have ht2 : decide ((s4.k : Int) < (n : Int)) = t := by rw [← ht]; simp
                              go_wp2_with (first | fail)
                              go_meet
                              exact ⟨by rw [HWE.out, ht]; simp, HP⟩
                          case rest =>
                            clear HP
                            obtain ⟨rfl, HP⟩ := hcut
                            obtain ⟨t, ht⟩ : ∃ t, (decide ((q : Int) = 15 ∨ (q : Int) = 16) && decide (s4.k < n)) = t := ⟨_, rfl⟩
                            have HT := Lib.hid ht
                            rw [ht]
                            clear ht
                            go_upto_if 144 with fail
                            go_cut [7, 8] from 145 to 160 (fun vk vo wr => ∃ s' : Rst, Hid (s' = refArg ws (decide ((q : Int) = 15 ∨ (q : Int) = 16)) 105 s4) ∧ vk = .int .i64 (s'.k : Int) ∧ vo = .bool s'.ok ∧ Hid (Hp w [F1, { w := w, S := Lt w.heap.size }] [.blk g6 48 [.int .i64 s'.x.op, .int .i64 s'.x.dst, .int .i64 s'.x.a, .int .i64 s'.x.b, .int .i64 s'.x.imm], .blk g2 48 [.int .i64 0, .int .i64 0, .int .i64 0, .int .i64 0, .int .i64 0]] wr))
                            case first =>
                              cases t with
                              | false =>
                                have HE := Lib.hid (show s4 = refArg ws (decide ((q : Int) = 15 ∨ (q : Int) = 16)) 105 s4 by
                                  have ht := HT.out
                                  unfold refArg
                                  rw [if_neg]
                                  rintro ⟨h1, h2⟩
                                  rw [HNL.out] at h2
                                  rw [h1, decide_eq_true h2] at ht
                                  exact absurd ht (by decide))
                                go_wp2
                                go_meet
                                exact ⟨s4, HE, rfl, rfl, HP⟩
                              | true =>
                                obtain ⟨hW, hk0⟩ := Bool.and_eq_true_iff.1 HT.out
                                have hk := of_decide_eq_true hk0
                                clear hk0
                                obtain ⟨wk, hwk⟩ : ∃ wk, ws.getD s4.k [] = wk := ⟨_, rfl⟩
                                have hwl : wk.length ≤ 1000000 := by
                                  have hk2 : s4.k < ws.length := by rw [HNL.out]; exact hk
                                  have := HS2.out ws[s4.k] (List.getElem_mem hk2)
                                  rw [List.getD_eq_getElem?_getD, List.getElem?_eq_getElem hk2, Option.getD_some] at hwk
                                  rw [← hwk]; omega
                                obtain ⟨⟨r, b0⟩, hr⟩ : ∃ p, numAns wk = p := ⟨_, rfl⟩
                                have HC := Lib.hid (show ∀ w, Calls Tryd.prog 25 #[.string (bstr wk)] w fun e w' => e = .returned (.tuple #[.int .i64 r, .bool b0]) ∧ Below w.heap.size w w' from fun w5 => by
                                  have := numeral_any wk hwl w5
                                  rw [hr] at this
                                  exact this)
                                have HE := Lib.hid (show (⟨setF s4.x 105 r, s4.k + 1, s4.ok && b0⟩ : Rst) = refArg ws (decide ((q : Int) = 15 ∨ (q : Int) = 16)) 105 s4 by
                                  unfold refArg
                                  rw [if_pos ⟨hW, by rw [HNL.out]; exact hk⟩]
                                  unfold argAns
                                  rw [if_pos rfl, hwk, hr])
                                have hcell := HX.out s4.k hk
                                rw [hwk] at hcell
                                have hck := HP.out.cellOf (F := F1) (by simp) hcell.1 (by rw [block_of_add]; exact hcell.2)
                                have HW1 := Lib.hid (show wrap64 ((s4.k : Int) + 1) = ((s4.k + 1 : Nat) : Int) by unfold wrap64; omega)
                                have hkI : (s4.k : Int) < (n : Int) := by omega
                                clear hr hwk hcell HT hW
                                obtain ⟨⟨o, d, a, b, i⟩, k, ok⟩ := s4
                                dsimp only at HP HE hck HW1 hkI hk ⊢
                                cases ok
                                all_goals
                                  go_wp2_with (first | (go_at_call 25; refine (HC.out _).mono ?_; rintro e wcl ⟨rfl, hb⟩; clear hck; replace HP := Lib.hid (HP.out.call0 hb); clear hb) | (refine wpList_st0 rfl 3 _ _ rfl HP.out rfl rfl (by simp) rfl rfl (by kernel_rfl) ?_; clear HP; intro wst HP; replace HP := Lib.hid HP))
                                  go_meet
                                  exact ⟨⟨⟨o, d, a, b, r⟩, k + 1, _⟩, HE, by first | rfl | (rw [HW1.out]; rfl), by simp, HP⟩
                            case rest =>
                              clear HP HT
                              obtain ⟨s5, Hs5, rfl, rfl, HP⟩ := hcut
                              go_upto_region 34 with fail
                              have HFIN := Lib.hid (show s5 = refArgs ws (q : Int) ⟨⟨(q : Int), 0, 0, 0, 0⟩, 1, true⟩ by
                                unfold refArgs
                                rw [Hs5.out, Hs4.out, Hs3.out, Hs2.out, Hs1.out, Hs0.out])
                              have HIC := Lib.hid (show InsC s5.x by
                                rw [HFIN.out]
                                exact refArgs_ins _ (by have := HQ1.out; omega) (by have := HQ.out; omega))
                              have HE := Lib.hid (show refIns l = (s5.x, s5.ok && decide (s5.k = n) && decide (lineB s5.x = l)) by
                                rw [HR.out]
                                unfold refEnd
                                rw [← HFIN.out, HNL.out])
                              clear HR HFIN Hs5 Hs4 Hs3 Hs2 Hs1 Hs0
                              obtain ⟨⟨o, d, a, b, i⟩, k, ok⟩ := s5
                              dsimp only at HE HIC HP ⊢
                              replace HP := Lib.hid HP.out.drew
                              refine wp_region_held_drew (S := fun w' => At w' ⟨g6, 0, none⟩ [.int .i64 o, .int .i64 d, .int .i64 a, .int .i64 b, .int .i64 i]) (by kernel_rfl) (HP.out.blkAt (.head _) 0) (fun hHeld => ?_)
                              have HS0 := Lib.hid hHeld
                              clear hHeld
                              (try simp only [Act.put, List.setIfInBounds_toArray, List.set_cons_zero, List.set_cons_succ])
                              refine wpAnyH_row (i := 0) rfl (by kernel_rfl) (by kernel_rfl) (by kernel_rfl) (fun _ _ _ _ h => h) rfl 48 _ rfl ⟨g6, 0, none⟩ rfl [.int .i64 o, .int .i64 d, .int .i64 a, .int .i64 b, .int .i64 i] _ (fun _ h => h) Tryd.underlying48 rfl (by kernel_rfl) HS0.out ?_
                              (try simp only [List.getElem_toArray, List.getElem_cons_succ, List.getElem_cons_zero, Act.put, List.setIfInBounds_toArray, List.set_cons_zero, List.set_cons_succ])
                              cases ok with
                              | false =>
                                have HE2 := Lib.hid (show refIns l = (⟨o, d, a, b, i⟩, false) by rw [HE.out]; simp)
                                clear HE
                                have HE := HE2
                                refine wpAnyH_take (i := 1) (v := ?_) rfl (by kernel_rfl) (by kernel_rfl) (by kernel_rfl) (fun _ _ _ h => h) (.inl ⟨by first | (simp [Region.wanted]; done) | rfl, ?_⟩) HS0.out ?_
                                rotate_left
                                · intro w' hw
                                  go_simp
                                  (try with_reducible rfl)
                                (try simp only [List.getElem_toArray, List.getElem_cons_succ, List.getElem_cons_zero, Act.put, List.setIfInBounds_toArray, List.set_cons_zero, List.set_cons_succ])
                                refine wpAnyH_take (i := 2) (v := ?_) rfl (by kernel_rfl) (by kernel_rfl) (by kernel_rfl) (fun _ _ _ h => h) (.inl ⟨by first | (simp [Region.wanted]; done) | rfl, ?_⟩) HS0.out ?_
                                rotate_left
                                · intro w' hw
                                  go_simp
                                  (try with_reducible rfl)
                                (try simp only [List.getElem_toArray, List.getElem_cons_succ, List.getElem_cons_zero, Act.put, List.setIfInBounds_toArray, List.set_cons_zero, List.set_cons_succ])
                                refine wpAnyH_take (i := 3) (v := undef) rfl (by kernel_rfl) (by kernel_rfl) (by kernel_rfl) (fun _ _ _ h => h) (.inr ⟨by first | (simp [Region.wanted]; done) | rfl, rfl⟩) HS0.out ?_
                                (try simp only [List.getElem_toArray, List.getElem_cons_succ, List.getElem_cons_zero, Act.put, List.setIfInBounds_toArray, List.set_cons_zero, List.set_cons_succ])
                                refine wpAnyH_take (i := 4) (v := undef) rfl (by kernel_rfl) (by kernel_rfl) (by kernel_rfl) (fun _ _ _ h => h) (.inr ⟨by first | (simp [Region.wanted]; done) | rfl, rfl⟩) HS0.out ?_
                                (try simp only [List.getElem_toArray, List.getElem_cons_succ, List.getElem_cons_zero, Act.put, List.setIfInBounds_toArray, List.set_cons_zero, List.set_cons_succ])
                                refine wpAnyH_take (i := 5) (v := undef) rfl (by kernel_rfl) (by kernel_rfl) (by kernel_rfl) (fun _ _ _ h => h) (.inr ⟨by first | (simp [Region.wanted]; done) | rfl, rfl⟩) HS0.out ?_
                                (try simp only [List.getElem_toArray, List.getElem_cons_succ, List.getElem_cons_zero, Act.put, List.setIfInBounds_toArray, List.set_cons_zero, List.set_cons_succ])
                                refine wpAnyH_take (i := 6) (v := undef) rfl (by kernel_rfl) (by kernel_rfl) (by kernel_rfl) (fun _ _ _ h => h) (.inr ⟨by first | (simp [Region.wanted]; done) | rfl, rfl⟩) HS0.out ?_
                                (try simp only [List.getElem_toArray, List.getElem_cons_succ, List.getElem_cons_zero, Act.put, List.setIfInBounds_toArray, List.set_cons_zero, List.set_cons_succ])
                                refine wpAnyH_take (i := 7) (v := ?_) rfl (by kernel_rfl) (by kernel_rfl) (by kernel_rfl) (fun _ _ _ h => h) (.inl ⟨by first | (simp [Region.wanted]; done) | rfl, ?_⟩) HS0.out ?_
                                rotate_left
                                · intro w' hw
                                  go_simp
                                  (try with_reducible rfl)
                                (try simp only [List.getElem_toArray, List.getElem_cons_succ, List.getElem_cons_zero, Act.put, List.setIfInBounds_toArray, List.set_cons_zero, List.set_cons_succ])
                                refine wpAnyH_take (i := 8) (v := ?_) rfl (by kernel_rfl) (by kernel_rfl) (by kernel_rfl) (fun _ _ _ h => h) (.inl ⟨by first | (simp [Region.wanted]; done) | rfl, ?_⟩) HS0.out ?_
                                rotate_left
                                · intro w' hw
                                  go_simp
                                  (try with_reducible rfl)
                                (try simp only [List.getElem_toArray, List.getElem_cons_succ, List.getElem_cons_zero, Act.put, List.setIfInBounds_toArray, List.set_cons_zero, List.set_cons_succ])
                                refine wpAnyH_take (i := 9) (v := undef) rfl (by kernel_rfl) (by kernel_rfl) (by kernel_rfl) (fun _ _ _ h => h) (.inr ⟨by first | (simp [Region.wanted]; done) | rfl, rfl⟩) HS0.out ?_
                                (try simp only [List.getElem_toArray, List.getElem_cons_succ, List.getElem_cons_zero, Act.put, List.setIfInBounds_toArray, List.set_cons_zero, List.set_cons_succ])
                                refine wpAnyH_take (i := 10) (v := undef) rfl (by kernel_rfl) (by kernel_rfl) (by kernel_rfl) (fun _ _ _ h => h) (.inr ⟨by first | (simp [Region.wanted]; done) | rfl, rfl⟩) HS0.out ?_
                                (try simp only [List.getElem_toArray, List.getElem_cons_succ, List.getElem_cons_zero, Act.put, List.setIfInBounds_toArray, List.set_cons_zero, List.set_cons_succ])
                                refine wpAnyH_take (i := 11) (v := undef) rfl (by kernel_rfl) (by kernel_rfl) (by kernel_rfl) (fun _ _ _ h => h) (.inr ⟨by first | (simp [Region.wanted]; done) | rfl, rfl⟩) HS0.out ?_
                                (try simp only [List.getElem_toArray, List.getElem_cons_succ, List.getElem_cons_zero, Act.put, List.setIfInBounds_toArray, List.set_cons_zero, List.set_cons_succ])
                                refine wpAnyH_take (i := 12) (v := undef) rfl (by kernel_rfl) (by kernel_rfl) (by kernel_rfl) (fun _ _ _ h => h) (.inr ⟨by first | (simp [Region.wanted]; done) | rfl, rfl⟩) HS0.out ?_
                                (try simp only [List.getElem_toArray, List.getElem_cons_succ, List.getElem_cons_zero, Act.put, List.setIfInBounds_toArray, List.set_cons_zero, List.set_cons_succ])
                                refine wpAnyH_take (i := 13) (v := ?_) rfl (by kernel_rfl) (by kernel_rfl) (by kernel_rfl) (fun _ _ _ h => h) (.inl ⟨by first | (simp [Region.wanted]; done) | rfl, ?_⟩) HS0.out ?_
                                rotate_left
                                · intro w' hw
                                  go_simp
                                  (try with_reducible rfl)
                                (try simp only [List.getElem_toArray, List.getElem_cons_succ, List.getElem_cons_zero, Act.put, List.setIfInBounds_toArray, List.set_cons_zero, List.set_cons_succ])
                                refine wpAnyH_ready (rs := [14]) (by kernel_rfl) (by simp) ?_
                                refine AllReadyH.cons rfl (fun K hK => ?_) AllReadyH.nil
                                refine wanted_only rfl ?_
                                (refine wpList_stR1 rfl 48 _ _ rfl HP.out rfl (cs' := [.int .i64 o, .int .i64 d, .int .i64 a, .int .i64 b, .int .i64 i]) rfl rfl (by simp [Value.oneCell']) (by kernel_rfl) ?_; clear HP; intro wst HP; replace HP := Lib.hid HP)
                                refine wpList_nil ?_
                                refine hK.out _ _ (HP.out.blkAt (.head _) 0) (fun hHeld => ?_)
                                clear HS0
                                have HS0 := Lib.hid hHeld
                                clear hK K hHeld
                                (try simp only [List.getElem_toArray, List.getElem_cons_succ, List.getElem_cons_zero, Act.put, List.setIfInBounds_toArray, List.set_cons_zero, List.set_cons_succ])
                                refine wpAnyH_take (i := 15) (v := ?_) rfl (by kernel_rfl) (by kernel_rfl) (by kernel_rfl) (fun _ _ _ h => h) (.inl ⟨by first | (simp [Region.wanted]; done) | rfl, ?_⟩) HS0.out ?_
                                rotate_left
                                · intro w' hw
                                  go_simp
                                  (try with_reducible rfl)
                                (try simp only [List.getElem_toArray, List.getElem_cons_succ, List.getElem_cons_zero, Act.put, List.setIfInBounds_toArray, List.set_cons_zero, List.set_cons_succ])
                                refine wpAnyH_done (by kernel_rfl) ?_ _
                                (try simp only [List.getElem_toArray, List.getElem_cons_succ, List.getElem_cons_zero, Act.put, List.setIfInBounds_toArray, List.set_cons_zero, List.set_cons_succ])
                                clear HS0
                                go_wp2
                                (try simp only [Exit.inBlock, Exit.then])
                                refine bodyPost_ret (results_crow_tmp rfl _ _ g2 48 [.int .i64 o, .int .i64 d, .int .i64 a, .int .i64 b, .int .i64 i].toArray (0, 0) _ rfl (HP.out.blk (.tail _ (.head _))) Tryd.underlying48 rfl (by kernel_rfl)) (by rfl) ?_
                                exact ⟨by rw [HE.out]; first | rfl | (simp only [ht]; rfl), HP.out.below⟩
                              | true =>
                                by_cases hkn : k = n
                                · have he : ((k : Int) == (n : Int)) = true := beq_iff_eq.2 (by omega)
                                  have hic := HIC.out
                                  have hL := Lib.hid (instrLine_any ⟨o, d, a, b, i⟩ · hic.op (hic.i64 100) (hic.i64 97) (hic.i64 98) (hic.i64 105))
                                  obtain ⟨lb, hlb⟩ : ∃ lb, lineB ⟨o, d, a, b, i⟩ = lb := ⟨_, rfl⟩
                                  rw [hlb] at hL
                                  obtain ⟨t, ht⟩ : ∃ t : Bool, ((bstr lb).toList == (bstr l).toList) = t := ⟨_, rfl⟩
                                  have HE2 := Lib.hid (show refIns l = (⟨o, d, a, b, i⟩, t) by
                                    rw [HE.out, hlb, ← ht, bstr_toList, bstr_toList, decide_eq_true hkn]
                                    exact Prod.ext rfl (Bool.eq_iff_iff.2 (by simp)))
                                  clear HE hlb hkn
                                  have HE := HE2
                                  refine wpAnyH_take (i := 1) (v := ?_) rfl (by kernel_rfl) (by kernel_rfl) (by kernel_rfl) (fun _ _ _ h => h) (.inl ⟨by first | (simp [Region.wanted]; done) | rfl, ?_⟩) HS0.out ?_
                                  rotate_left
                                  · intro w' hw
                                    go_simp
                                    (try with_reducible rfl)
                                  (try simp only [List.getElem_toArray, List.getElem_cons_succ, List.getElem_cons_zero, Act.put, List.setIfInBounds_toArray, List.set_cons_zero, List.set_cons_succ])
                                  refine wpAnyH_take (i := 2) (v := ?_) rfl (by kernel_rfl) (by kernel_rfl) (by kernel_rfl) (fun _ _ _ h => h) (.inl ⟨by first | (simp [Region.wanted]; done) | rfl, ?_⟩) HS0.out ?_
                                  rotate_left
                                  · intro w' hw
                                    go_simp
                                    (try with_reducible rfl)
                                  (try simp only [List.getElem_toArray, List.getElem_cons_succ, List.getElem_cons_zero, Act.put, List.setIfInBounds_toArray, List.set_cons_zero, List.set_cons_succ])
                                  refine wpAnyH_take (i := 3) (v := ?_) rfl (by kernel_rfl) (by kernel_rfl) (by kernel_rfl) (fun _ _ _ h => h) (.inl ⟨by first | (simp [Region.wanted]; done) | rfl, ?_⟩) HS0.out ?_
                                  rotate_left
                                  · intro w' hw
                                    go_simp
                                    (try with_reducible rfl)
                                  (try simp only [List.getElem_toArray, List.getElem_cons_succ, List.getElem_cons_zero, Act.put, List.setIfInBounds_toArray, List.set_cons_zero, List.set_cons_succ])
                                  refine wpAnyH_take (i := 4) (v := ?_) rfl (by kernel_rfl) (by kernel_rfl) (by kernel_rfl) (fun _ _ _ h => h) (.inl ⟨by first | (simp [Region.wanted]; done) | rfl, ?_⟩) HS0.out ?_
                                  rotate_left
                                  · intro w' hw
                                    go_simp
                                    (try with_reducible rfl)
                                  (try simp only [List.getElem_toArray, List.getElem_cons_succ, List.getElem_cons_zero, Act.put, List.setIfInBounds_toArray, List.set_cons_zero, List.set_cons_succ])
                                  refine wpAnyH_take (i := 5) (v := ?_) rfl (by kernel_rfl) (by kernel_rfl) (by kernel_rfl) (fun _ _ _ h => h) (.inl ⟨by first | (simp [Region.wanted]; done) | rfl, ?_⟩) HS0.out ?_
                                  rotate_left
                                  · intro w' hw
                                    go_simp
                                    (try with_reducible rfl)
                                  (try simp only [List.getElem_toArray, List.getElem_cons_succ, List.getElem_cons_zero, Act.put, List.setIfInBounds_toArray, List.set_cons_zero, List.set_cons_succ])
                                  refine wpAnyH_take (i := 6) (v := ?_) rfl (by kernel_rfl) (by kernel_rfl) (by kernel_rfl) (fun _ _ _ h => h) (.inl ⟨by first | (simp [Region.wanted]; done) | rfl, ?_⟩) HS0.out ?_
                                  rotate_left
                                  · intro w' hw
                                    go_simp
                                    (try with_reducible rfl)
                                  (try simp only [List.getElem_toArray, List.getElem_cons_succ, List.getElem_cons_zero, Act.put, List.setIfInBounds_toArray, List.set_cons_zero, List.set_cons_succ])
                                  refine wpAnyH_take (i := 7) (v := ?_) rfl (by kernel_rfl) (by kernel_rfl) (by kernel_rfl) (fun _ _ _ h => h) (.inl ⟨by first | (simp [Region.wanted]; done) | rfl, ?_⟩) HS0.out ?_
                                  rotate_left
                                  · intro w' hw
                                    go_simp
                                    (try with_reducible rfl)
                                  (try simp only [List.getElem_toArray, List.getElem_cons_succ, List.getElem_cons_zero, Act.put, List.setIfInBounds_toArray, List.set_cons_zero, List.set_cons_succ])
                                  refine wpAnyH_take (i := 8) (v := ?_) rfl (by kernel_rfl) (by kernel_rfl) (by kernel_rfl) (fun _ _ _ h => h) (.inl ⟨by first | (simp [Region.wanted]; done) | rfl, ?_⟩) HS0.out ?_
                                  rotate_left
                                  · intro w' hw
                                    go_simp
                                    (try with_reducible rfl)
                                  (try simp only [List.getElem_toArray, List.getElem_cons_succ, List.getElem_cons_zero, Act.put, List.setIfInBounds_toArray, List.set_cons_zero, List.set_cons_succ])
                                  refine wpAnyH_take (i := 9) (v := .agg #[.int .i64 o, .int .i64 d, .int .i64 a, .int .i64 b, .int .i64 i]) rfl (by kernel_rfl) (by kernel_rfl) (by kernel_rfl) (fun _ _ _ h => h) (.inl ⟨by first | (simp [Region.wanted]; done) | rfl, fun w' hw => ?_⟩) HS0.out ?_
                                  · exact exec_ins9 hw
                                  (try simp only [List.getElem_toArray, List.getElem_cons_succ, List.getElem_cons_zero, Act.put, List.setIfInBounds_toArray, List.set_cons_zero, List.set_cons_succ])
                                  refine wpAnyH_take (i := 11) (v := ?_) rfl (by kernel_rfl) (by kernel_rfl) (by kernel_rfl) (fun _ _ _ h => h) (.inl ⟨by first | (simp [Region.wanted]; done) | rfl, ?_⟩) HS0.out ?_
                                  rotate_left
                                  · intro w' hw
                                    go_simp
                                    (try with_reducible rfl)
                                  (try simp only [List.getElem_toArray, List.getElem_cons_succ, List.getElem_cons_zero, Act.put, List.setIfInBounds_toArray, List.set_cons_zero, List.set_cons_succ])
                                  refine wpAnyH_ready (rs := [10]) (by kernel_rfl) (by simp) ?_
                                  refine AllReadyH.cons rfl (fun K hK => ?_) AllReadyH.nil
                                  go_simp
                                  refine (hL.out _).mono ?_
                                  rintro e wo2 ⟨rfl, hb⟩
                                  replace HP := Lib.hid (HP.out.call0 hb)
                                  clear hb HS0
                                  dsimp only
                                  refine hK.out _ _ (HP.out.blkAt (.head _) 0) (fun hHeld => ?_)
                                  have HS0 := Lib.hid hHeld
                                  clear hK K hHeld
                                  (try simp only [List.getElem_toArray, List.getElem_cons_succ, List.getElem_cons_zero, Act.put, List.setIfInBounds_toArray, List.set_cons_zero, List.set_cons_succ])
                                  refine wpAnyH_take (i := 12) (v := ?_) rfl (by kernel_rfl) (by kernel_rfl) (by kernel_rfl) (fun _ _ _ h => h) (.inl ⟨by first | (simp [Region.wanted]; done) | rfl, ?_⟩) HS0.out ?_
                                  rotate_left
                                  · intro w' hw
                                    go_simp
                                    (try with_reducible rfl)
                                  (try simp only [List.getElem_toArray, List.getElem_cons_succ, List.getElem_cons_zero, Act.put, List.setIfInBounds_toArray, List.set_cons_zero, List.set_cons_succ])
                                  refine wpAnyH_take (i := 13) (v := ?_) rfl (by kernel_rfl) (by kernel_rfl) (by kernel_rfl) (fun _ _ _ h => h) (.inl ⟨by first | (simp [Region.wanted]; done) | rfl, ?_⟩) HS0.out ?_
                                  rotate_left
                                  · intro w' hw
                                    go_simp
                                    (try with_reducible rfl)
                                  (try simp only [List.getElem_toArray, List.getElem_cons_succ, List.getElem_cons_zero, Act.put, List.setIfInBounds_toArray, List.set_cons_zero, List.set_cons_succ])
                                  refine wpAnyH_ready (rs := [14]) (by kernel_rfl) (by simp) ?_
                                  refine AllReadyH.cons rfl (fun K hK => ?_) AllReadyH.nil
                                  refine wanted_only rfl ?_
                                  (refine wpList_stR1 rfl 48 _ _ rfl HP.out rfl (cs' := [.int .i64 o, .int .i64 d, .int .i64 a, .int .i64 b, .int .i64 i]) rfl rfl (by simp [Value.oneCell']) (by kernel_rfl) ?_; clear HP; intro wst HP; replace HP := Lib.hid HP)
                                  refine wpList_nil ?_
                                  refine hK.out _ _ (HP.out.blkAt (.head _) 0) (fun hHeld => ?_)
                                  clear HS0
                                  have HS0 := Lib.hid hHeld
                                  clear hK K hHeld
                                  (try simp only [List.getElem_toArray, List.getElem_cons_succ, List.getElem_cons_zero, Act.put, List.setIfInBounds_toArray, List.set_cons_zero, List.set_cons_succ])
                                  refine wpAnyH_take (i := 15) (v := ?_) rfl (by kernel_rfl) (by kernel_rfl) (by kernel_rfl) (fun _ _ _ h => h) (.inl ⟨by first | (simp [Region.wanted]; done) | rfl, ?_⟩) HS0.out ?_
                                  rotate_left
                                  · intro w' hw
                                    go_simp
                                    (try with_reducible rfl)
                                  (try simp only [List.getElem_toArray, List.getElem_cons_succ, List.getElem_cons_zero, Act.put, List.setIfInBounds_toArray, List.set_cons_zero, List.set_cons_succ])
                                  refine wpAnyH_done (by kernel_rfl) ?_ _
                                  (try simp only [List.getElem_toArray, List.getElem_cons_succ, List.getElem_cons_zero, Act.put, List.setIfInBounds_toArray, List.set_cons_zero, List.set_cons_succ])
                                  clear HS0
                                  go_wp2
                                  (try simp only [Exit.inBlock, Exit.then])
                                  refine bodyPost_ret (results_crow_tmp rfl _ _ g2 48 [.int .i64 o, .int .i64 d, .int .i64 a, .int .i64 b, .int .i64 i].toArray (0, 0) _ rfl (HP.out.blk (.tail _ (.head _))) Tryd.underlying48 rfl (by kernel_rfl)) (by rfl) ?_
                                  exact ⟨by rw [HE.out]; first | rfl | (simp only [ht]; rfl), HP.out.below⟩
                                · have he : ((k : Int) == (n : Int)) = false := beq_eq_false_iff_ne.2 (by omega)
                                  have HE2 := Lib.hid (show refIns l = (⟨o, d, a, b, i⟩, false) by rw [HE.out, decide_eq_false hkn]; simp)
                                  clear HE hkn
                                  have HE := HE2
                                  refine wpAnyH_take (i := 1) (v := ?_) rfl (by kernel_rfl) (by kernel_rfl) (by kernel_rfl) (fun _ _ _ h => h) (.inl ⟨by first | (simp [Region.wanted]; done) | rfl, ?_⟩) HS0.out ?_
                                  rotate_left
                                  · intro w' hw
                                    go_simp
                                    (try with_reducible rfl)
                                  (try simp only [List.getElem_toArray, List.getElem_cons_succ, List.getElem_cons_zero, Act.put, List.setIfInBounds_toArray, List.set_cons_zero, List.set_cons_succ])
                                  refine wpAnyH_take (i := 2) (v := ?_) rfl (by kernel_rfl) (by kernel_rfl) (by kernel_rfl) (fun _ _ _ h => h) (.inl ⟨by first | (simp [Region.wanted]; done) | rfl, ?_⟩) HS0.out ?_
                                  rotate_left
                                  · intro w' hw
                                    go_simp
                                    (try with_reducible rfl)
                                  (try simp only [List.getElem_toArray, List.getElem_cons_succ, List.getElem_cons_zero, Act.put, List.setIfInBounds_toArray, List.set_cons_zero, List.set_cons_succ])
                                  refine wpAnyH_take (i := 3) (v := ?_) rfl (by kernel_rfl) (by kernel_rfl) (by kernel_rfl) (fun _ _ _ h => h) (.inl ⟨by first | (simp [Region.wanted]; done) | rfl, ?_⟩) HS0.out ?_
                                  rotate_left
                                  · intro w' hw
                                    go_simp
                                    (try with_reducible rfl)
                                  (try simp only [List.getElem_toArray, List.getElem_cons_succ, List.getElem_cons_zero, Act.put, List.setIfInBounds_toArray, List.set_cons_zero, List.set_cons_succ])
                                  refine wpAnyH_take (i := 4) (v := ?_) rfl (by kernel_rfl) (by kernel_rfl) (by kernel_rfl) (fun _ _ _ h => h) (.inl ⟨by first | (simp [Region.wanted]; done) | rfl, ?_⟩) HS0.out ?_
                                  rotate_left
                                  · intro w' hw
                                    go_simp
                                    (try with_reducible rfl)
                                  (try simp only [List.getElem_toArray, List.getElem_cons_succ, List.getElem_cons_zero, Act.put, List.setIfInBounds_toArray, List.set_cons_zero, List.set_cons_succ])
                                  refine wpAnyH_take (i := 5) (v := ?_) rfl (by kernel_rfl) (by kernel_rfl) (by kernel_rfl) (fun _ _ _ h => h) (.inl ⟨by first | (simp [Region.wanted]; done) | rfl, ?_⟩) HS0.out ?_
                                  rotate_left
                                  · intro w' hw
                                    go_simp
                                    (try with_reducible rfl)
                                  (try simp only [List.getElem_toArray, List.getElem_cons_succ, List.getElem_cons_zero, Act.put, List.setIfInBounds_toArray, List.set_cons_zero, List.set_cons_succ])
                                  refine wpAnyH_take (i := 6) (v := ?_) rfl (by kernel_rfl) (by kernel_rfl) (by kernel_rfl) (fun _ _ _ h => h) (.inl ⟨by first | (simp [Region.wanted]; done) | rfl, ?_⟩) HS0.out ?_
                                  rotate_left
                                  · intro w' hw
                                    go_simp
                                    (try with_reducible rfl)
                                  (try simp only [List.getElem_toArray, List.getElem_cons_succ, List.getElem_cons_zero, Act.put, List.setIfInBounds_toArray, List.set_cons_zero, List.set_cons_succ])
                                  refine wpAnyH_take (i := 7) (v := ?_) rfl (by kernel_rfl) (by kernel_rfl) (by kernel_rfl) (fun _ _ _ h => h) (.inl ⟨by first | (simp [Region.wanted]; done) | rfl, ?_⟩) HS0.out ?_
                                  rotate_left
                                  · intro w' hw
                                    go_simp
                                    (try with_reducible rfl)
                                  (try simp only [List.getElem_toArray, List.getElem_cons_succ, List.getElem_cons_zero, Act.put, List.setIfInBounds_toArray, List.set_cons_zero, List.set_cons_succ])
                                  refine wpAnyH_take (i := 8) (v := ?_) rfl (by kernel_rfl) (by kernel_rfl) (by kernel_rfl) (fun _ _ _ h => h) (.inl ⟨by first | (simp [Region.wanted]; done) | rfl, ?_⟩) HS0.out ?_
                                  rotate_left
                                  · intro w' hw
                                    go_simp
                                    (try with_reducible rfl)
                                  (try simp only [List.getElem_toArray, List.getElem_cons_succ, List.getElem_cons_zero, Act.put, List.setIfInBounds_toArray, List.set_cons_zero, List.set_cons_succ])
                                  refine wpAnyH_take (i := 9) (v := undef) rfl (by kernel_rfl) (by kernel_rfl) (by kernel_rfl) (fun _ _ _ h => h) (.inr ⟨by first | (simp [Region.wanted]; done) | rfl, rfl⟩) HS0.out ?_
                                  (try simp only [List.getElem_toArray, List.getElem_cons_succ, List.getElem_cons_zero, Act.put, List.setIfInBounds_toArray, List.set_cons_zero, List.set_cons_succ])
                                  refine wpAnyH_take (i := 10) (v := undef) rfl (by kernel_rfl) (by kernel_rfl) (by kernel_rfl) (fun _ _ _ h => h) (.inr ⟨by first | (simp [Region.wanted]; done) | rfl, rfl⟩) HS0.out ?_
                                  (try simp only [List.getElem_toArray, List.getElem_cons_succ, List.getElem_cons_zero, Act.put, List.setIfInBounds_toArray, List.set_cons_zero, List.set_cons_succ])
                                  refine wpAnyH_take (i := 11) (v := undef) rfl (by kernel_rfl) (by kernel_rfl) (by kernel_rfl) (fun _ _ _ h => h) (.inr ⟨by first | (simp [Region.wanted]; done) | rfl, rfl⟩) HS0.out ?_
                                  (try simp only [List.getElem_toArray, List.getElem_cons_succ, List.getElem_cons_zero, Act.put, List.setIfInBounds_toArray, List.set_cons_zero, List.set_cons_succ])
                                  refine wpAnyH_take (i := 12) (v := undef) rfl (by kernel_rfl) (by kernel_rfl) (by kernel_rfl) (fun _ _ _ h => h) (.inr ⟨by first | (simp [Region.wanted]; done) | rfl, rfl⟩) HS0.out ?_
                                  (try simp only [List.getElem_toArray, List.getElem_cons_succ, List.getElem_cons_zero, Act.put, List.setIfInBounds_toArray, List.set_cons_zero, List.set_cons_succ])
                                  refine wpAnyH_take (i := 13) (v := ?_) rfl (by kernel_rfl) (by kernel_rfl) (by kernel_rfl) (fun _ _ _ h => h) (.inl ⟨by first | (simp [Region.wanted]; done) | rfl, ?_⟩) HS0.out ?_
                                  rotate_left
                                  · intro w' hw
                                    go_simp
                                    (try with_reducible rfl)
                                  (try simp only [List.getElem_toArray, List.getElem_cons_succ, List.getElem_cons_zero, Act.put, List.setIfInBounds_toArray, List.set_cons_zero, List.set_cons_succ])
                                  refine wpAnyH_ready (rs := [14]) (by kernel_rfl) (by simp) ?_
                                  refine AllReadyH.cons rfl (fun K hK => ?_) AllReadyH.nil
                                  refine wanted_only rfl ?_
                                  (refine wpList_stR1 rfl 48 _ _ rfl HP.out rfl (cs' := [.int .i64 o, .int .i64 d, .int .i64 a, .int .i64 b, .int .i64 i]) rfl rfl (by simp [Value.oneCell']) (by kernel_rfl) ?_; clear HP; intro wst HP; replace HP := Lib.hid HP)
                                  refine wpList_nil ?_
                                  refine hK.out _ _ (HP.out.blkAt (.head _) 0) (fun hHeld => ?_)
                                  clear HS0
                                  have HS0 := Lib.hid hHeld
                                  clear hK K hHeld
                                  (try simp only [List.getElem_toArray, List.getElem_cons_succ, List.getElem_cons_zero, Act.put, List.setIfInBounds_toArray, List.set_cons_zero, List.set_cons_succ])
                                  refine wpAnyH_take (i := 15) (v := ?_) rfl (by kernel_rfl) (by kernel_rfl) (by kernel_rfl) (fun _ _ _ h => h) (.inl ⟨by first | (simp [Region.wanted]; done) | rfl, ?_⟩) HS0.out ?_
                                  rotate_left
                                  · intro w' hw
                                    go_simp
                                    (try with_reducible rfl)
                                  (try simp only [List.getElem_toArray, List.getElem_cons_succ, List.getElem_cons_zero, Act.put, List.setIfInBounds_toArray, List.set_cons_zero, List.set_cons_succ])
                                  refine wpAnyH_done (by kernel_rfl) ?_ _
                                  (try simp only [List.getElem_toArray, List.getElem_cons_succ, List.getElem_cons_zero, Act.put, List.setIfInBounds_toArray, List.set_cons_zero, List.set_cons_succ])
                                  clear HS0
                                  go_wp2
                                  (try simp only [Exit.inBlock, Exit.then])
                                  refine bodyPost_ret (results_crow_tmp rfl _ _ g2 48 [.int .i64 o, .int .i64 d, .int .i64 a, .int .i64 b, .int .i64 i].toArray (0, 0) _ rfl (HP.out.blk (.tail _ (.head _))) Tryd.underlying48 rfl (by kernel_rfl)) (by rfl) ?_
                                  exact ⟨by rw [HE.out]; first | rfl | (simp only [ht]; rfl), HP.out.below⟩
      · have hb : ((bstr wq).toList == (bstr w0).toList) = false := by
          rw [bstr_toList, bstr_toList]
          exact beq_eq_false_iff_ne.2 heq
        have HNO2 := Lib.hid (show ∀ j : Nat, 1 ≤ j → j < q + 1 → wordL j ≠ w0 from fun j h1 h2 => by
          by_cases hj : j = q
          · rw [hj, HWQ.out]; exact heq
          · exact HNO.out j h1 (by omega))
        have HWR := Lib.hid (show wrap64 ((q : Int) + 1) = ((q + 1 : Nat) : Int) by have := HQ.out; unfold wrap64; omega)
        clear heq
        simp only [hb, Bool.not_false]
        clear hb
        go_wp2
        go_roundw
        case rel =>
          have h1 := HQ.out
          have h2 := HQ1.out
          exact ⟨q + 1, by omega, by omega, by rw [HWR.out], HNO2, HP⟩
        case measure =>
          have h1 := HQ.out
          rw [HWR.out]
          simp only [intOf]
          omega
end Go.Proofs.YtpnapnmkjpolmaaDoor
