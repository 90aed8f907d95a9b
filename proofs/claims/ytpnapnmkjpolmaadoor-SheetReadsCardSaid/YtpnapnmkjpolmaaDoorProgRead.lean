/- ref.ProgramRead. -/
import Derived.Test.YtpnapnmkjpolmaaDoorPrgMem
import Derived.Test.YtpnapnmkjpolmaaDoorObj
import Derived.Test.YtpnapnmkjpolmaaDoorNumLaw
import Derived.Test.YtpnapnmkjpolmaaDoorInstrOf
import Derived.Test.YtpnapnmkjpolmaaDoorCodeD
import Derived.Test.YtpnapnmkjpolmaaDoorCodeF
set_option linter.unusedSimpArgs false
set_option linter.unusedVariables false
namespace Go.Proofs.YtpnapnmkjpolmaaDoor
open Go.RowKit
attribute [local irreducible] wpList Code.wp Oper.wp
theorem results_row_tmp3R {P : Program} {fn : Func} {p u v : Tmp} {ty : TypeId} (h : fn.results = #[.cell p ty, .tmp u, .tmp v]) (tmps : Array Value) (w : World) (g : Nat) (t : TypeId) (cs : Array Value) (fr : Nat × Nat) (d : TypeDesc)
    (hp : tmps.getD p undef = .pointer (some ⟨g, 0, none⟩)) (hg : w.heap[g]? = some (.cells cs t fr))
    (hu : P.underlying ty = some d) (hd : (match d with | .struct _ | .array _ _ => true | _ => false) = true) (hi : (P.info? ty).map (·.size) = some cs.size) :
    (results fn tmps).run P w = .ok (.tuple #[.agg cs, tmps.getD u undef, tmps.getD v undef]) w := by
  have hp' : tmps[p]?.getD undef = .pointer (some ⟨g, 0, none⟩) := by simpa using hp
  simp [results, h, hp', asAddr, run_loadVar_row w g t ty cs fr d hg hu hd hi]
def RdR (w : World) (a : Prg × Int × Int) (e : Ending) (w' : World) : Prop := ∃ v, e = .returned (.tuple #[.agg #[v], .int .i64 a.2.1, .int .i64 a.2.2]) ∧ Lay.rep w' (FreshD w w') a.1 [v] ∧ Below w.heap.size w w'
theorem rep_prg_nil3 {w : World} {S : Nat → Prop} : Lay.rep w S (⟨[]⟩ : Prg) [.slice none 0 0] := rep_prg.2 ⟨none, 0, rfl, Nat.le_refl _, by unfold maxLen; omega, fun k x h => by simp at h⟩
/-- Where the reading of a text stands. -/
structure RdP (l : List UInt8) (fr k i : Nat) (fs : List Fun) (code : List Ins) : Prop where
  frl : fr ≤ l.length
  le : i ≤ l.length → fr ≤ i
  top : i ≤ l.length + 1
  last : l.length < i → fr = l.length
  kfr : k ≤ fr
  fk : fs.length ≤ k
  ck : code.length ≤ k
  rest : readFrom [] 0 l = readFrom fs k (l.drop fr)
  line : ∀ c ∈ (l.drop fr).take (i - fr), c ≠ 10
theorem RdP.start (l : List UInt8) : RdP l 0 0 0 [] [] := ⟨by omega, by omega, by omega, by omega, by omega, by simp, by simp, by simp, by simp⟩
section
variable {l : List UInt8} {fr k i : Nat} {fs : List Fun} {code : List Ins}
theorem RdP.done (h : RdP l fr k i fs code) (hi : l.length < i) : readFrom [] 0 l = readEnd fs := by
  rw [h.rest, h.last hi, List.drop_length, readFrom_nil]
theorem RdP.skip (h : RdP l fr k i fs code) (hi : i < l.length) (hc : l.getD i 0 ≠ 10) : RdP l fr k (i + 1) fs code := by
  refine ⟨h.frl, fun _ => by have := h.le (by omega); omega, by omega, fun h2 => by omega, h.kfr, h.fk, h.ck, h.rest, ?_⟩
  have hle := h.le (by omega)
  rw [show i + 1 - fr = (i - fr) + 1 by omega, List.take_add_one]
  intro c hc'
  rcases List.mem_append.1 hc' with h1 | h1
  · exact h.line c h1
  · rw [List.getElem?_drop, show fr + (i - fr) = i by omega, List.getElem?_eq_getElem hi] at h1
    simp at h1
    rw [h1]
    rwa [List.getD_eq_getElem?_getD, List.getElem?_eq_getElem hi, Option.getD_some] at hc
theorem RdP.skipEnd (h : RdP l fr k i fs code) (hi : i = l.length) (hf : fr = l.length) : RdP l fr k (i + 1) fs code :=
  ⟨h.frl, fun h2 => by omega, by omega, fun _ => hf, h.kfr, h.fk, h.ck, h.rest, by rw [hf]; simp⟩
theorem RdP.cut (h : RdP l fr k i fs code) (hi : i < l.length) (hc : l.getD i 0 = 10) : cutLn (l.drop fr) = ((l.drop fr).take (i - fr) ++ [10], l.drop (i + 1)) := by
  have hle := h.le (by omega)
  have e : l.drop fr = (l.drop fr).take (i - fr) ++ 10 :: l.drop (i + 1) := by
    have h1 : l.drop i = 10 :: l.drop (i + 1) := by
      rw [List.drop_eq_getElem_cons hi]
      rw [List.getD_eq_getElem?_getD, List.getElem?_eq_getElem hi, Option.getD_some] at hc
      rw [hc]
    rw [← h1]
    have h2 := (List.take_append_drop (i - fr) (l.drop fr)).symm
    rw [List.drop_drop, show fr + (i - fr) = i by omega] at h2
    exact h2
  rw [e, cutLn_has _ _ h.line, List.take_left']
  rw [List.length_take, List.length_drop]
  omega
theorem RdP.ne (h : RdP l fr k i fs code) (hf : fr < l.length) : l.drop fr ≠ [] := fun e => by
  have := congrArg List.length e
  rw [List.length_drop] at this
  simp at this
  omega
/-- A line that is taken. -/
theorem RdP.go (h : RdP l fr k i fs code) (hi : i < l.length) (hc : l.getD i 0 = 10) {fs' : List Fun} {code' : List Ins} (hs : refLn fs ((l.drop fr).take (i - fr)) = some fs') (hf : fs'.length ≤ k + 1) (hk : code'.length ≤ k + 1) : RdP l (i + 1) (k + 1) (i + 1) fs' code' := by
  have hle := h.le (by omega)
  have hk2 := h.kfr
  refine ⟨by omega, fun _ => by omega, by omega, fun h2 => by omega, by omega, hf, hk, ?_, by simp⟩
  have hcut := h.cut hi hc
  rw [h.rest, readFrom_go (h.ne (by omega)) (by rw [hcut, stepLn_ref]; exact hs), hcut, Int.natCast_add]
  rfl
/-- A line that is none. -/
theorem RdP.bad (h : RdP l fr k i fs code) (hi : i < l.length) (hc : l.getD i 0 = 10) (hs : refLn fs ((l.drop fr).take (i - fr)) = none) : readFrom [] 0 l = (⟨[]⟩, (k : Int), 5) := by
  have hle := h.le (by omega)
  have hcut := h.cut hi hc
  rw [h.rest, readFrom_bad (h.ne (by omega)) (by rw [hcut, stepLn_ref]; exact hs)]
/-- A last line without a line feed. -/
theorem RdP.badEnd (h : RdP l fr k i fs code) (hi : i = l.length) (hf : fr < l.length) : readFrom [] 0 l = (⟨[]⟩, (k : Int), 5) := by
  have hl : ∀ c ∈ l.drop fr, c ≠ 10 := by
    have := h.line
    rwa [List.take_of_length_le (by rw [List.length_drop]; omega)] at this
  rw [h.rest, readFrom_bad (h.ne hf) (by rw [cutLn_hasnt _ hl]; exact stepLn_last _ hl)]
end
theorem Hp.rowOne {w0 w : World} {Fs : List Fro} {L : List Res} {v : Value} {e : TypeId} {sz n : Nat} {cs : List Value} (h : Hp w0 Fs L w) (hm : Res.row v e sz n cs ∈ L) : v.oneCell' = true := by
  rcases (h.row hm).2 with ⟨rfl, _⟩ | ⟨g, cap, cur, rfl, _⟩ <;> rfl
theorem Hp.rowSlice {w0 w : World} {Fs : List Fro} {L : List Res} {v : Value} {e : TypeId} {sz n : Nat} {cs : List Value} (h : Hp w0 Fs L w) (hm : Res.row v e sz n cs ∈ L) : ∃ A c, v = .slice A n c := by
  rcases (h.row hm).2 with ⟨rfl, h0⟩ | ⟨g, cap, cur, rfl, _⟩
  · exact ⟨none, 0, by rw [h0]⟩
  · exact ⟨_, _, rfl⟩
theorem refLn_func {fs : List Fun} {s : List UInt8} {ws : List (List UInt8)} {a b : Int} {x y : Bool} (hw : splitSp s = ws) (hf : ws.headD [] = funcW) (h3 : ws.length = 3) (ha : numAns (ws.getD 1 []) = (a, x)) (hb : numAns (ws.getD 2 []) = (b, y)) :
    refLn fs s = if x = true ∧ y = true ∧ 0 ≤ a ∧ 0 ≤ b then some (fs ++ [⟨a, b, []⟩]) else none := by
  unfold refLn refHead
  rw [hw, if_pos hf, ha, hb]
  simp only [h3, true_and]
  split <;> rfl
theorem refLn_func_no {fs : List Fun} {s : List UInt8} {ws : List (List UInt8)} (hw : splitSp s = ws) (hf : ws.headD [] = funcW) (h3 : ws.length ≠ 3) : refLn fs s = none := by
  unfold refLn refHead
  rw [hw, if_pos hf, if_neg (fun h => h3 h.1)]
  rfl
theorem refLn_ins {fs : List Fun} {s : List UInt8} {x : Ins} {ok : Bool} (hf : (splitSp s).headD [] ≠ funcW) (hr : refIns s = (x, ok)) : refLn fs s = if ok = true ∧ fs ≠ [] then some (addIns fs x) else none := by
  unfold refLn
  rw [if_neg hf, hr]
set_option maxRecDepth 10000 in
set_option maxHeartbeats 4000000 in
theorem ProgramRead_any (l : List UInt8) (w : World) :
    Calls Tryd.prog 10 #[.string (bstr l)] w (RdR w (readAns l)) := by
  have hsz := bstr_size l
  obtain ⟨n, hn⟩ : ∃ n : Nat, l.length = n := ⟨_, rfl⟩
  have HN := Lib.hid hn
  rw [hn] at hsz
  have HP := Lib.hid (Hp.start w)
  by_cases hbig : 10000 < n
  · have hbg : (10000 : Int) < (n : Int) := by omega
    have HE := Lib.hid (show readAns l = (⟨[]⟩, 0, 1) by unfold readAns; rw [if_pos (by rw [HN.out]; exact hbig)])
    clear hn
    go_enter Tryd.func10, Tryd.ntmps10
    go_wp2_with (first | (refine wpList_alloc_hp (o := ⟨some 2, _, _, _, _, _⟩) rfl _ rfl HP.out (.agg #[.slice none 0 0]) (by kernel_rfl) [_] rfl ?_; clear HP; intro g2 w2 HP; replace HP := Lib.hid HP) | (refine wpList_stR0 rfl 24 _ _ rfl HP.out rfl (cs' := [_]) rfl rfl (by simp [Value.oneCell']) (by kernel_rfl) ?_; clear HP; intro wst HP; replace HP := Lib.hid HP))
    (try simp only [Exit.inBlock, Exit.then])
    refine bodyPost_ret (results_row_tmp3R (by rfl) _ _ g2 24 #[.slice none 0 0] (0, 0) _ rfl (HP.out.blk (.head _)) Tryd.underlying24 rfl (by kernel_rfl)) (by rfl) ?_
    unfold RdR
    rw [HE.out]
    exact ⟨_, rfl, rep_prg_nil3, HP.out.below⟩
  · have hbg : ¬ (10000 : Int) < (n : Int) := by omega
    have HE := Lib.hid (show readAns l = readFrom [] 0 l by unfold readAns; rw [if_neg (by rw [HN.out]; exact hbig)])
    have HNB := Lib.hid hbig
    obtain ⟨i_Fun, hi_Fun, hz_Fun, hs_Fun, hy_Fun⟩ := info_parts info_fun
    obtain ⟨i_Ins, hi_Ins, hz_Ins, hs_Ins, hy_Ins⟩ := info_parts info_ins
    clear hn hbig
    go_enter Tryd.func10, Tryd.ntmps10
    go_upto_region 7 with (first | (refine wpList_alloc_hp (o := ⟨some 2, _, _, _, _, _⟩) rfl _ rfl HP.out (.agg #[.slice none 0 0]) (by kernel_rfl) [_] rfl ?_; clear HP; intro g2 w2 HP; replace HP := Lib.hid HP) | (refine wpList_alloc_hp (o := ⟨some 5, _, _, _, _, _⟩) rfl _ rfl HP.out (.agg #[.slice none 0 0]) (by kernel_rfl) [_] rfl ?_; clear HP; intro g5 w5 HP; replace HP := Lib.hid HP))
    replace HP := Lib.hid ((HP.out.nil 36 3).nil 48 5).froNone2
    have HM := Lib.hid (PrgM.start w5 w.heap.size)
    have HRD := Lib.hid (RdP.start l)
    have HSZ := Lib.hid hsz
    clear hbg
    go_loopw [6, 7, 8] (fun fv kv iv wr => ∃ (fr k i : Nat) (G : Fro) (fs fs0 : List Fun) (us0 cells : List Value) (cv pv : Value) (code : List Ins), fv = .int .i64 fr ∧ kv = .int .i64 k ∧ iv = .int .i64 i ∧ Hid (RdP l fr k i fs code) ∧ Hid (PrgM w.heap.size G fs fs0 us0 cells cv code) ∧ Hid (Hp w [G, ⟨w, Lt w.heap.size⟩] [.row cv 48 5 code.length (code.flatMap insR), .row pv 36 3 fs.length cells, .blk g5 24 [pv], .blk g2 24 [.slice none 0 0]] wr)) (fun _ _ i _ => n + 1 - (intOf i).toNat)
    case atStart => exact ⟨0, 0, 0, _, [], [], [], [], _, _, [], rfl, rfl, rfl, HRD, HM, HP⟩
    case round =>
      clear HP HM HRD
      obtain ⟨fr, k, i, G, fs, fs0, us0, cells, cv, pv, code, rfl, rfl, rfl, HRD, HM, HP⟩ := hrel
      obtain ⟨wo, rfl⟩ : ∃ wo : World, wo = wr := ⟨_, rfl⟩
      by_cases hlt : n < i
      · have hg1 : decide (i ≤ n) = false := decide_eq_false (by omega)
        have hg1' : decide ((i : Int) ≤ (n : Int)) = false := decide_eq_false (by omega)
        have HEN := Lib.hid (show readAns l = readEnd fs by rw [HE.out]; exact HRD.out.done (by rw [HN.out]; exact hlt))
        clear hlt
        have HPV := Lib.hid (HP.out.rowOne (.tail _ (.head _)))
        obtain ⟨z, hz⟩ : ∃ z, prgFault ⟨fs⟩ = z := ⟨_, rfl⟩
        have HZ := Lib.hid hz
        have HFA := Lib.hid (show ∀ wq, Hp w [G, ⟨w, Lt w.heap.size⟩] [.row cv 48 5 code.length (code.flatMap insR), .row pv 36 3 fs.length cells, .blk g5 24 [pv], .blk g2 24 [.slice none 0 0]] wq → Calls Tryd.prog 16 #[.agg #[pv]] wq fun e w' => e = .returned (.int .i64 z) ∧ Below wq.heap.size wq w' from fun wq hp => by
          have := progFault_any ⟨fs⟩ pv wq (rep_prg.2 (Lay.more (fun b hb => hb.2) (HM.out.whole rfl hp (.head _))))
          rwa [hz] at this)
        clear hz
        by_cases hz0 : z = 0
        · have hzz : (z != 0) = false := by rw [hz0]; rfl
          have HAN := Lib.hid (show readAns l = (⟨fs⟩, 0, 0) by rw [HEN.out]; unfold readEnd; rw [HZ.out, if_neg (fun h => h hz0)])
          clear hz0
          go_wp2_with (first | (refine wpList_ldR0 rfl 24 _ rfl HP.out rfl Tryd.underlying24 rfl (by kernel_rfl) ?_) | (refine wpList_ldR1 rfl 24 _ rfl HP.out rfl Tryd.underlying24 rfl (by kernel_rfl) ?_) | (refine wpList_ldR2 rfl 24 _ rfl HP.out rfl Tryd.underlying24 rfl (by kernel_rfl) ?_) | (refine wpList_ldR3 rfl 24 _ rfl HP.out rfl Tryd.underlying24 rfl (by kernel_rfl) ?_) | (go_at_call 16; refine (HFA.out _ HP.out).mono ?_; rintro e wpf ⟨rfl, hb⟩; replace HP := Lib.hid (HP.out.call0 hb); clear hb) | (refine wpList_stR3 rfl 24 _ _ rfl HP.out rfl (cs' := [pv]) rfl rfl (by simp [HPV.out]) (by kernel_rfl) ?_; clear HP; intro wst HP; replace HP := Lib.hid HP))
          (try simp only [Exit.inBlock, Exit.then])
          refine bodyPost_ret (results_row_tmp3R (by rfl) _ _ g2 24 #[pv] (0, 0) _ rfl (HP.out.blk (by simp)) Tryd.underlying24 rfl (by kernel_rfl)) (by rfl) ?_
          unfold RdR
          rw [HAN.out]
          exact ⟨_, rfl, rep_prg.2 (HM.out.whole rfl HP.out (.head _)), HP.out.below⟩
        · have hzz : (z != 0) = true := by rw [bne_iff_ne]; exact hz0
          have HAN := Lib.hid (show readAns l = (⟨[]⟩, 0, z) by rw [HEN.out]; unfold readEnd; rw [HZ.out, if_pos hz0])
          clear hz0
          go_wp2_with (first | (refine wpList_ldR0 rfl 24 _ rfl HP.out rfl Tryd.underlying24 rfl (by kernel_rfl) ?_) | (refine wpList_ldR1 rfl 24 _ rfl HP.out rfl Tryd.underlying24 rfl (by kernel_rfl) ?_) | (refine wpList_ldR2 rfl 24 _ rfl HP.out rfl Tryd.underlying24 rfl (by kernel_rfl) ?_) | (refine wpList_ldR3 rfl 24 _ rfl HP.out rfl Tryd.underlying24 rfl (by kernel_rfl) ?_) | (go_at_call 16; refine (HFA.out _ HP.out).mono ?_; rintro e wpf ⟨rfl, hb⟩; replace HP := Lib.hid (HP.out.call0 hb); clear hb) | (refine wpList_stR0 rfl 24 _ _ rfl HP.out rfl (cs' := [_]) rfl rfl (by simp [Value.oneCell']) (by kernel_rfl) ?_; clear HP; intro wst HP; replace HP := Lib.hid HP) | (refine wpList_stR1 rfl 24 _ _ rfl HP.out rfl (cs' := [_]) rfl rfl (by simp [Value.oneCell']) (by kernel_rfl) ?_; clear HP; intro wst HP; replace HP := Lib.hid HP) | (refine wpList_stR2 rfl 24 _ _ rfl HP.out rfl (cs' := [_]) rfl rfl (by simp [Value.oneCell']) (by kernel_rfl) ?_; clear HP; intro wst HP; replace HP := Lib.hid HP) | (refine wpList_stR3 rfl 24 _ _ rfl HP.out rfl (cs' := [_]) rfl rfl (by simp [Value.oneCell']) (by kernel_rfl) ?_; clear HP; intro wst HP; replace HP := Lib.hid HP))
          (try simp only [Exit.inBlock, Exit.then])
          refine bodyPost_ret (results_row_tmp3R (by rfl) _ _ g2 24 #[.slice none 0 0] (0, 0) _ rfl (HP.out.blk (by simp)) Tryd.underlying24 rfl (by kernel_rfl)) (by rfl) ?_
          unfold RdR
          rw [HAN.out]
          exact ⟨_, rfl, rep_prg_nil3, HP.out.below⟩
      · have hg1 : decide (i ≤ n) = true := decide_eq_true (by omega)
        have hg1' : decide ((i : Int) ≤ (n : Int)) = true := decide_eq_true (by omega)
        have hnb := HNB.out
        have HIW := Lib.hid (show wrap64 ((i : Int) + 1) = ((i + 1 : Nat) : Int) by unfold wrap64; omega)
        by_cases hin : i < n
        · have hg2 : decide (i < n) = true := decide_eq_true hin
          have hg3 : ((i : Int) == (n : Int)) = false := beq_eq_false_iff_ne.2 (by omega)
          have hil : (i : Int) < (l.length : Int) := by rw [HN.out]; omega
          obtain ⟨c, hc⟩ : ∃ c, l.getD i 0 = c := ⟨_, rfl⟩
          have hc' : l[i]?.getD 0 = c := by rw [← List.getD_eq_getElem?_getD]; exact hc
          have HC := Lib.hid hc
          clear hc
          by_cases h10 : c = 10
          · have hb : ((c.toNat : Int) != 10) = false := by subst h10; rfl
            have HC10 := Lib.hid (show l.getD i 0 = 10 by rw [HC.out, h10])
            clear h10
            have hfri := HRD.out.le (by rw [HN.out]; omega)
            have hil2 : i ≤ l.length := by rw [HN.out]; omega
            obtain ⟨ln, hln⟩ : ∃ ln, (l.drop fr).take (i - fr) = ln := ⟨_, rfl⟩
            have HLN := Lib.hid hln
            have hll : ln.length ≤ 1000000 := by rw [← hln, List.length_take, List.length_drop, HN.out]; omega
            clear hln
            go_upto_region 12 with (first | (refine wpList_sidx_w rfl _ _ rfl l rfl (i : Int) rfl (by omega) hil ?_) | (refine wpList_ssl rfl _ _ _ rfl l rfl fr i (.inr ⟨_, rfl, rfl⟩) (.inr ⟨_, rfl, rfl⟩) hfri hil2 ?_; rw [HLN.out]) | (go_at_call 24; refine (wordsOf_any ln hll _).mono ?_; rintro e w1 ⟨v, rfl, hv, hb1⟩; have HP1 := Lib.hid (HP.out.call hb1); have HV := Lib.hid hv; clear hb1 hv HP))
            obtain ⟨ws, hws⟩ : ∃ ws, splitSp ln = ws := ⟨_, rfl⟩
            have hne : ws ≠ [] := by rw [← hws]; exact splitSp_ne ln
            have hsl := split_len ln
            rw [hws] at hsl
            have HWL := Lib.hid hsl.2
            have hm1 := hsl.1
            clear hsl
            have HWS := Lib.hid hws
            obtain ⟨m, hm⟩ : ∃ m, ws.length = m := ⟨_, rfl⟩
            have hm0 : 0 < m := by rw [← hm]; exact List.length_pos_iff.2 hne
            rw [hm] at hm1
            obtain ⟨w0, hw0⟩ : ∃ w0, ws.headD [] = w0 := ⟨_, rfl⟩
            obtain ⟨F1, A, ca, rfl, HP, HX⟩ : ∃ (F1 : Fro) (A : Addr) (ca : Nat), v = .slice (some A) m ca ∧ Hid (Hp w [G, F1, { w := w, S := Lt w.heap.size }] [.row cv 48 5 code.length (code.flatMap insR), .row pv 36 3 fs.length cells, .blk g5 24 [pv], .blk g2 24 [.slice none 0 0]] w1) ∧ Hid (∀ k, k < m → F1.w.cell? (A.add k) = some (.string (bstr (ws.getD k []))) ∧ F1.S A.block) := by
              obtain ⟨A, ca, rfl, hcell⟩ := rep_strs HV.out (by simpa using splitSp_ne ln)
              have hl2 : (List.map bstr (splitSp ln)).length = m := by rw [HWS.out, List.length_map, hm]
              refine ⟨⟨w1, fun b => wo.heap.size ≤ b ∧ b < w1.heap.size⟩, A, ca, by rw [hl2], Lib.hid (HP1.out.froSub (fun F hF => by simp only [List.mem_cons, List.not_mem_nil, or_false] at hF ⊢; rcases hF with h | h | h <;> simp [h])), Lib.hid fun k hk => ?_⟩
              obtain ⟨h1, h2⟩ := hcell k (by rw [hl2]; exact hk)
              refine ⟨?_, h2⟩
              rw [h1]
              congr 2
              rw [List.getElem_map]
              congr 1
              have hk2 : k < ws.length := by rw [hm]; exact hk
              simp only [HWS.out, List.getD_eq_getElem?_getD, List.getElem?_eq_getElem hk2, Option.getD_some]
            have HM9 := Lib.hid hm
            have HW0 := Lib.hid (show ws.getD 0 [] = w0 by rw [← hw0]; cases ws <;> rfl)
            have HWH := Lib.hid (show (splitSp ln).headD [] = w0 by rw [hws]; exact hw0)
            have hc0 := HP.out.cellOf (F := F1) (by simp) (HX.out 0 hm0).1 (by rw [block_of_add]; exact (HX.out 0 hm0).2)
            rw [HW0.out, show A.add 0 = A by simp [Addr.add]] at hc0
            clear HP1 HV hne hm hw0 hws
            have hfl := HRD.out.fk
            have hkl := HRD.out.kfr
            have hcl := HRD.out.ck
            have hfrl := HRD.out.frl
            rw [HN.out] at hfrl
            by_cases hf : w0 = funcW
            · have hfb : ((bstr w0).toList == [102, 117, 110, 99]) = true := by rw [bstr_toList, hf]; exact beq_self_eq_true funcW
              have HF := Lib.hid (show ws.headD [] = funcW by rw [← hf, ← HWH.out, HWS.out])
              clear hf
              by_cases h3 : m = 3
              · have g3 : ((m : Int) == 3) = true := beq_iff_eq.2 (by omega)
                obtain ⟨wa, hwa⟩ : ∃ wa, ws.getD 1 [] = wa := ⟨_, rfl⟩
                obtain ⟨wb, hwb⟩ : ∃ wb, ws.getD 2 [] = wb := ⟨_, rfl⟩
                have hX1 := HX.out 1 (by omega)
                have hX2 := HX.out 2 (by omega)
                rw [hwa, show A.add 1 = ⟨A.block, A.off + 1, none⟩ by simp [Addr.add]] at hX1
                rw [hwb, show A.add 2 = ⟨A.block, A.off + 2, none⟩ by simp [Addr.add]] at hX2
                have HX1 := Lib.hid hX1
                have HX2 := Lib.hid hX2
                have hal : wa.length ≤ 1000000 := by
                  have hk2 : 1 < ws.length := by rw [HM9.out]; omega
                  have := HWL.out ws[1] (List.getElem_mem hk2)
                  rw [List.getD_eq_getElem?_getD, List.getElem?_eq_getElem hk2, Option.getD_some] at hwa
                  rw [← hwa]; omega
                have hbl : wb.length ≤ 1000000 := by
                  have hk2 : 2 < ws.length := by rw [HM9.out]; omega
                  have := HWL.out ws[2] (List.getElem_mem hk2)
                  rw [List.getD_eq_getElem?_getD, List.getElem?_eq_getElem hk2, Option.getD_some] at hwb
                  rw [← hwb]; omega
                obtain ⟨⟨na, xa⟩, ha⟩ : ∃ p, numAns wa = p := ⟨_, rfl⟩
                obtain ⟨⟨nb, xb⟩, hb2⟩ : ∃ p, numAns wb = p := ⟨_, rfl⟩
                have HRF := Lib.hid (show refLn fs ln = if xa = true ∧ xb = true ∧ 0 ≤ na ∧ 0 ≤ nb then some (fs ++ [⟨na, nb, []⟩]) else none from refLn_func HWS.out HF.out (by rw [HM9.out, h3]) (by rw [hwa, ha]) (by rw [hwb, hb2]))
                have HNA := Lib.hid (show ∀ w, Calls Tryd.prog 25 #[.string (bstr wa)] w fun e w' => e = .returned (.tuple #[.int .i64 na, .bool xa]) ∧ Below w.heap.size w w' from fun w5 => by
                  have := numeral_any wa hal w5
                  rwa [ha] at this)
                have HNB2 := Lib.hid (show ∀ w, Calls Tryd.prog 25 #[.string (bstr wb)] w fun e w' => e = .returned (.tuple #[.int .i64 nb, .bool xb]) ∧ Below w.heap.size w w' from fun w5 => by
                  have := numeral_any wb hbl w5
                  rwa [hb2] at this)
                obtain ⟨Ap, cp, rfl⟩ := HP.out.rowSlice (.tail _ (.head _))
                have hm1i : (1 : Int) < (m : Int) := by omega
                have hm2i : (2 : Int) < (m : Int) := by omega
                clear ha hb2 hwa hwb hX1 hX2 h3
                go_upto_region 16 with (first | (refine wpList_alloc_hp (o := ⟨some 11, _, _, _, _, _⟩) rfl _ rfl HP.out (.agg #[.int .i64 0, .int .i64 0, .slice none 0 0]) (by kernel_rfl) [_, _, _] rfl ?_; clear HP; intro g11 w11 HP; replace HP := Lib.hid HP))
                have hca := HP.out.cellOf (F := F1) (by simp) HX1.out.1 HX1.out.2
                go_upto_region 17 with (first | (go_at_call 25; refine (HNA.out _).mono ?_; rintro e wna ⟨rfl, hb⟩; clear hca hc0; replace HP := Lib.hid (HP.out.call0 hb); clear hb))
                have hcb := HP.out.cellOf (F := F1) (by simp) HX2.out.1 HX2.out.2
                obtain ⟨pa, hpa⟩ : ∃ pa, decide (0 ≤ na) = pa := ⟨_, rfl⟩
                obtain ⟨pb, hpb⟩ : ∃ pb, decide (0 ≤ nb) = pb := ⟨_, rfl⟩
                have HPA := Lib.hid hpa
                have HPB := Lib.hid hpb
                go_upto_region 19 with (first | (go_at_call 25; refine (HNB2.out _).mono ?_; rintro e wnb ⟨rfl, hb⟩; clear hcb; replace HP := Lib.hid (HP.out.call0 hb); clear hb) | (refine wpList_stR0 rfl 36 _ _ rfl HP.out rfl (cs' := [_, _, _]) rfl rfl (by simp [Value.oneCell']) (by kernel_rfl) ?_; clear HP; intro wst HP; replace HP := Lib.hid HP))
                (try simp only [Act.put])
                go_cut [10] from 89 to 100 (fun v wr => v = .bool (xa && (xb && (pa && pb))) ∧ Hid (Hp w [G, F1, { w := w, S := Lt w.heap.size }] (.blk g11 36 [.int .i64 na, .int .i64 nb, .slice none 0 0] :: [.row cv 48 5 code.length (code.flatMap insR), .row (.slice Ap fs.length cp) 36 3 fs.length cells, .blk g5 24 [.slice Ap fs.length cp], .blk g2 24 [.slice none 0 0]]) wr))
                case first =>
                  cases xa <;> cases xb <;> cases pa <;> cases pb
                  all_goals
                    go_wp2
                    go_meet
                    exact ⟨rfl, HP⟩
                case rest =>
                  clear HP hpa hpb
                  obtain ⟨rfl, HP⟩ := hcut
                  obtain ⟨t, ht⟩ : ∃ t, (xa && (xb && (pa && pb))) = t := ⟨_, rfl⟩
                  have HT := Lib.hid ht
                  rw [ht]
                  clear ht
                  go_upto_region 26 with (first | (refine wpList_ldR0 rfl 36 _ rfl HP.out rfl Tryd.underlying36 rfl (by kernel_rfl) ?_) | (refine wpList_ld0 rfl 22 _ rfl HP.out rfl rfl Tryd.underlying22 rfl ?_) | (refine wpList_ld1 rfl 22 _ rfl HP.out rfl rfl Tryd.underlying22 rfl ?_) | (refine wpList_ld2 rfl 22 _ rfl HP.out rfl rfl Tryd.underlying22 rfl ?_) | (refine wpList_ld3 rfl 22 _ rfl HP.out rfl rfl Tryd.underlying22 rfl ?_) | (refine wpList_slice_hp rfl 22 36 1 _ rfl HP.out Tryd.underlying22 #[.int .i64 na, .int .i64 nb, .slice none 0 0] (by kernel_rfl) ?_; clear HP; intro gi wi HP; replace HP := Lib.hid HP) | (at_builtin; refine wpList_app2 rfl _ _ 22 rfl i_Fun (.agg #[.int .i64 0, .int .i64 0, .slice none 0 0]) Tryd.underlying22 hi_Fun hz_Fun hs_Fun rfl (by decide) hy_Fun (fs.length + 1) (by omega) HP.out rfl rfl rfl (by simp [Value.oneCell']) (by unfold maxLen; omega) (by omega) ?_; clear HP; intro A4 c4 wap HP; replace HP := Lib.hid HP) | (refine wpList_st0 rfl 22 _ _ rfl HP.out rfl rfl (by simp) rfl rfl (by kernel_rfl) ?_; clear HP; intro wst HP; replace HP := Lib.hid HP) | (refine wpList_st1 rfl 22 _ _ rfl HP.out rfl rfl (by simp) rfl rfl (by kernel_rfl) ?_; clear HP; intro wst HP; replace HP := Lib.hid HP) | (refine wpList_st2 rfl 22 _ _ rfl HP.out rfl rfl (by simp) rfl rfl (by kernel_rfl) ?_; clear HP; intro wst HP; replace HP := Lib.hid HP) | (refine wpList_st3 rfl 22 _ _ rfl HP.out rfl rfl (by simp) rfl rfl (by kernel_rfl) ?_; clear HP; intro wst HP; replace HP := Lib.hid HP))
                  cases t with
                  | true =>
                    have HRL := Lib.hid (show refLn fs ln = some (fs ++ [⟨na, nb, []⟩]) by
                      have ht := HT.out
                      rw [← HPA.out, ← HPB.out] at ht
                      simp only [Bool.and_eq_true, decide_eq_true_eq] at ht
                      rw [HRF.out, if_pos ht])
                    have HKW := Lib.hid (show wrap64 ((k : Int) + 1) = ((k + 1 : Nat) : Int) by unfold wrap64; omega)
                    go_wp2
                    go_roundw
                    case rel =>
                      obtain ⟨G', us, HM2, HP2⟩ := HM.out.next rfl na nb (Hp.drop (A := []) (HP.out.froSub (Fs' := [G, ⟨w, Lt w.heap.size⟩]) (fun F hF => by simp only [List.mem_cons, List.not_mem_nil, or_false] at hF ⊢; rcases hF with h | h <;> simp [h])))
                      refine ⟨i + 1, k + 1, i + 1, G', fs ++ [⟨na, nb, []⟩], fs, us, _, _, .slice A4 (fs.length + 1) c4, [], by go_num, by go_num, by go_num, Lib.hid (HRD.out.go (by rw [HN.out]; exact hin) HC10.out (by rw [HLN.out]; exact HRL.out) (by simp; omega) (by simp)), Lib.hid HM2, ?_⟩
                      rw [show (fs ++ [(⟨na, nb, []⟩ : Fun)]).length = fs.length + 1 by simp]
                      exact Lib.hid HP2
                    case measure => simp [intOf]; omega
                  | false =>
                    have HAN := Lib.hid (show readAns l = (⟨[]⟩, (k : Int), 5) by
                      rw [HE.out]
                      refine HRD.out.bad (by rw [HN.out]; exact hin) HC10.out ?_
                      have ht := HT.out
                      rw [HLN.out, HRF.out, if_neg]
                      rintro ⟨h1, h2, h3, h4⟩
                      rw [← HPA.out, ← HPB.out, h1, h2, decide_eq_true h3, decide_eq_true h4] at ht
                      cases ht)
                    go_wp2_with (first | (refine wpList_stR0 rfl 24 _ _ rfl HP.out rfl (cs' := [_]) rfl rfl (by simp [Value.oneCell']) (by kernel_rfl) ?_; clear HP; intro wst HP; replace HP := Lib.hid HP) | (refine wpList_stR1 rfl 24 _ _ rfl HP.out rfl (cs' := [_]) rfl rfl (by simp [Value.oneCell']) (by kernel_rfl) ?_; clear HP; intro wst HP; replace HP := Lib.hid HP) | (refine wpList_stR2 rfl 24 _ _ rfl HP.out rfl (cs' := [_]) rfl rfl (by simp [Value.oneCell']) (by kernel_rfl) ?_; clear HP; intro wst HP; replace HP := Lib.hid HP) | (refine wpList_stR3 rfl 24 _ _ rfl HP.out rfl (cs' := [_]) rfl rfl (by simp [Value.oneCell']) (by kernel_rfl) ?_; clear HP; intro wst HP; replace HP := Lib.hid HP) | (refine wpList_stR4 rfl 24 _ _ rfl HP.out rfl (cs' := [_]) rfl rfl (by simp [Value.oneCell']) (by kernel_rfl) ?_; clear HP; intro wst HP; replace HP := Lib.hid HP))
                    (try simp only [Exit.inBlock, Exit.then])
                    refine bodyPost_ret (results_row_tmp3R (by rfl) _ _ g2 24 #[.slice none 0 0] (0, 0) _ rfl (HP.out.blk (by simp)) Tryd.underlying24 rfl (by kernel_rfl)) (by rfl) ?_
                    unfold RdR
                    rw [HAN.out]
                    exact ⟨_, rfl, rep_prg_nil3, HP.out.below⟩
              · have g3 : ((m : Int) == 3) = false := beq_eq_false_iff_ne.2 (by omega)
                have HAN := Lib.hid (show readAns l = (⟨[]⟩, (k : Int), 5) by
                  rw [HE.out]
                  exact HRD.out.bad (by rw [HN.out]; exact hin) HC10.out (by rw [HLN.out]; exact refLn_func_no HWS.out HF.out (by rw [HM9.out]; exact h3)))
                obtain ⟨Ap, cp, rfl⟩ := HP.out.rowSlice (.tail _ (.head _))
                clear h3
                go_wp2_with (first | (refine wpList_alloc_hp (o := ⟨some 11, _, _, _, _, _⟩) rfl _ rfl HP.out (.agg #[.int .i64 0, .int .i64 0, .slice none 0 0]) (by kernel_rfl) [_, _, _] rfl ?_; clear HP; intro g11 w11 HP; replace HP := Lib.hid HP) | (refine wpList_ldR0 rfl 36 _ rfl HP.out rfl Tryd.underlying36 rfl (by kernel_rfl) ?_) | (refine wpList_ld0 rfl 22 _ rfl HP.out rfl rfl Tryd.underlying22 rfl ?_) | (refine wpList_ld1 rfl 22 _ rfl HP.out rfl rfl Tryd.underlying22 rfl ?_) | (refine wpList_ld2 rfl 22 _ rfl HP.out rfl rfl Tryd.underlying22 rfl ?_) | (refine wpList_ld3 rfl 22 _ rfl HP.out rfl rfl Tryd.underlying22 rfl ?_) | (refine wpList_slice_hp rfl 22 36 1 _ rfl HP.out Tryd.underlying22 #[.int .i64 0, .int .i64 0, .slice none 0 0] (by kernel_rfl) ?_; clear HP; intro gi wi HP; replace HP := Lib.hid HP) | (at_builtin; refine wpList_app2 rfl _ _ 22 rfl i_Fun (.agg #[.int .i64 0, .int .i64 0, .slice none 0 0]) Tryd.underlying22 hi_Fun hz_Fun hs_Fun rfl (by decide) hy_Fun (fs.length + 1) (by omega) HP.out rfl rfl rfl (by simp [Value.oneCell']) (by unfold maxLen; omega) (by omega) ?_; clear HP; intro A4 c4 wap HP; replace HP := Lib.hid HP) | (refine wpList_st0 rfl 22 _ _ rfl HP.out rfl rfl (by simp) rfl rfl (by kernel_rfl) ?_; clear HP; intro wst HP; replace HP := Lib.hid HP) | (refine wpList_st1 rfl 22 _ _ rfl HP.out rfl rfl (by simp) rfl rfl (by kernel_rfl) ?_; clear HP; intro wst HP; replace HP := Lib.hid HP) | (refine wpList_st2 rfl 22 _ _ rfl HP.out rfl rfl (by simp) rfl rfl (by kernel_rfl) ?_; clear HP; intro wst HP; replace HP := Lib.hid HP) | (refine wpList_st3 rfl 22 _ _ rfl HP.out rfl rfl (by simp) rfl rfl (by kernel_rfl) ?_; clear HP; intro wst HP; replace HP := Lib.hid HP) | (refine wpList_stR0 rfl 24 _ _ rfl HP.out rfl (cs' := [_]) rfl rfl (by simp [Value.oneCell']) (by kernel_rfl) ?_; clear HP; intro wst HP; replace HP := Lib.hid HP) | (refine wpList_stR1 rfl 24 _ _ rfl HP.out rfl (cs' := [_]) rfl rfl (by simp [Value.oneCell']) (by kernel_rfl) ?_; clear HP; intro wst HP; replace HP := Lib.hid HP) | (refine wpList_stR2 rfl 24 _ _ rfl HP.out rfl (cs' := [_]) rfl rfl (by simp [Value.oneCell']) (by kernel_rfl) ?_; clear HP; intro wst HP; replace HP := Lib.hid HP) | (refine wpList_stR3 rfl 24 _ _ rfl HP.out rfl (cs' := [_]) rfl rfl (by simp [Value.oneCell']) (by kernel_rfl) ?_; clear HP; intro wst HP; replace HP := Lib.hid HP) | (refine wpList_stR4 rfl 24 _ _ rfl HP.out rfl (cs' := [_]) rfl rfl (by simp [Value.oneCell']) (by kernel_rfl) ?_; clear HP; intro wst HP; replace HP := Lib.hid HP))
                (try simp only [Exit.inBlock, Exit.then])
                refine bodyPost_ret (results_row_tmp3R (by rfl) _ _ g2 24 #[.slice none 0 0] (0, 0) _ rfl (HP.out.blk (by simp)) Tryd.underlying24 rfl (by kernel_rfl)) (by rfl) ?_
                unfold RdR
                rw [HAN.out]
                exact ⟨_, rfl, rep_prg_nil3, HP.out.below⟩
            · have hfb : ((bstr w0).toList == [102, 117, 110, 99]) = false := by rw [bstr_toList]; exact beq_eq_false_iff_ne.2 hf
              obtain ⟨⟨x, is⟩, hr⟩ : ∃ p, refIns ln = p := ⟨_, rfl⟩
              have HRF := Lib.hid (show refLn fs ln = if is = true ∧ fs ≠ [] then some (addIns fs x) else none from refLn_ins (by rw [HWH.out]; exact hf) hr)
              have HI := Lib.hid (show ∀ w, Calls Tryd.prog 26 #[.string (bstr ln)] w fun e w' => e = .returned (.tuple #[.agg #[.int .i64 x.op, .int .i64 x.dst, .int .i64 x.a, .int .i64 x.b, .int .i64 x.imm], .bool is]) ∧ Below w.heap.size w w' from fun w5 => by
                have := instrOf_any ln hll w5
                rwa [hr] at this)
              obtain ⟨Ap, cp, rfl⟩ := HP.out.rowSlice (.tail _ (.head _))
              clear hf hr
              go_upto_region 22 with (first | (refine wpList_ssl rfl _ _ _ rfl l rfl fr i (.inr ⟨_, rfl, rfl⟩) (.inr ⟨_, rfl, rfl⟩) hfri hil2 ?_; rw [HLN.out]) | (go_at_call 26; refine (HI.out _).mono ?_; rintro e wio ⟨rfl, hb⟩; clear hc0; replace HP := Lib.hid (HP.out.call0 hb); clear hb) | (refine wpList_alloc_hp (o := ⟨some 16, _, _, _, _, _⟩) rfl _ rfl HP.out (.agg #[.int .i64 0, .int .i64 0, .int .i64 0, .int .i64 0, .int .i64 0]) (by kernel_rfl) [_, _, _, _, _] rfl ?_; clear HP; intro g16 w16 HP; replace HP := Lib.hid HP) | (refine wpList_stR0 rfl 48 _ _ rfl HP.out rfl (cs' := [_, _, _, _, _]) rfl rfl (by simp [Value.oneCell']) (by kernel_rfl) ?_; clear HP; intro wst HP; replace HP := Lib.hid HP))
              have hcg := HP.out.cell (g := g5) (t := 24) (cs := [.slice Ap fs.length cp]) (by simp) 0 _ rfl
              by_cases hok : is = true ∧ fs ≠ []
              · obtain ⟨rfl, hne⟩ := hok
                have hlp : 0 < fs.length := List.length_pos_iff.2 hne
                have hg4 : decide (0 < fs.length) = true := decide_eq_true hlp
                have HRL := Lib.hid (show refLn fs ln = some (addIns fs x) by rw [HRF.out, if_pos ⟨rfl, hne⟩])
                go_upto_region 25 with (first | (refine wpList_ld0 rfl 22 _ rfl HP.out rfl rfl Tryd.underlying22 rfl ?_) | (refine wpList_ld1 rfl 22 _ rfl HP.out rfl rfl Tryd.underlying22 rfl ?_) | (refine wpList_ld2 rfl 22 _ rfl HP.out rfl rfl Tryd.underlying22 rfl ?_) | (refine wpList_ld3 rfl 22 _ rfl HP.out rfl rfl Tryd.underlying22 rfl ?_) | (refine wpList_ld4 rfl 22 _ rfl HP.out rfl rfl Tryd.underlying22 rfl ?_))
                clear hcg hg4
                obtain ⟨gp, cp', hpe⟩ := HP.out.rowSome (.tail _ (.tail _ (.head _))) hlp
                obtain ⟨rfl, -, rfl⟩ : Ap = some ⟨gp, 0, none⟩ ∧ True ∧ cp = cp' := by cases hpe; exact ⟨rfl, trivial, rfl⟩
                obtain ⟨q, hq⟩ : ∃ q, fs.length = q + 1 := ⟨fs.length - 1, by omega⟩
                have HCV := Lib.hid (show cells[q * 3 + 2]? = some cv by
                  have := HM.out.cell hne
                  rwa [show (fs.length - 1) * 3 + 2 = q * 3 + 2 by omega] at this)
                have HLC := Lib.hid (show q * 3 + 2 < cells.length by rw [HM.out.cellsLen]; omega)
                have HKW := Lib.hid (show wrap64 ((k : Int) + 1) = ((k + 1 : Nat) : Int) by unfold wrap64; omega)
                have hqn : (q : Int) < (fs.length : Int) := by omega
                have HQ := Lib.hid hq
                rw [show ((fs.length : Int) - 1) = (q : Int) by omega]
                refine wp_region_held_drew (S := fun wq => wq.cell? ⟨g5, 0, none⟩ = some (.slice (some ⟨gp, 0, none⟩) fs.length cp) ∧ At wq ⟨g16, 0, none⟩ [.int .i64 x.op, .int .i64 x.dst, .int .i64 x.a, .int .i64 x.b, .int .i64 x.imm]) (by kernel_rfl) (⟨HP.out.cell (g := g5) (t := 24) (cs := [(.slice (some ⟨gp, 0, none⟩) fs.length cp)]) (by simp) 0 _ rfl, HP.out.blkAt (g := g16) (t := 48) (cs := [.int .i64 x.op, .int .i64 x.dst, .int .i64 x.a, .int .i64 x.b, .int .i64 x.imm]) (by simp) 0⟩) (fun hHeld => ?_)
                have HS0 := Lib.hid hHeld
                clear hHeld hpe hq
                replace HP := Lib.hid HP.out.drew
                (try simp only [Act.put, List.setIfInBounds_toArray, List.set_cons_zero, List.set_cons_succ])
                refine wpAnyH_take (i := 0) (v := ?_) rfl (by kernel_rfl) (by kernel_rfl) (by kernel_rfl) (fun _ _ _ h => h) (.inl ⟨by first | (simp [Region.wanted]; done) | rfl, ?_⟩) HS0.out ?_
                rotate_left
                · intro w' hw
                  obtain ⟨k0, k1⟩ := hw
                  go_simp
                  (try with_reducible rfl)
                (try simp only [List.getElem_toArray, List.getElem_cons_succ, List.getElem_cons_zero, Act.put, List.setIfInBounds_toArray, List.set_cons_zero, List.set_cons_succ])
                refine wpAnyH_take (i := 1) (v := ?_) rfl (by kernel_rfl) (by kernel_rfl) (by kernel_rfl) (fun _ _ _ h => h) (.inl ⟨by first | (simp [Region.wanted]; done) | rfl, ?_⟩) HS0.out ?_
                rotate_left
                · intro w' hw
                  obtain ⟨k0, k1⟩ := hw
                  go_simp
                  (try with_reducible rfl)
                (try simp only [List.getElem_toArray, List.getElem_cons_succ, List.getElem_cons_zero, Act.put, List.setIfInBounds_toArray, List.set_cons_zero, List.set_cons_succ])
                refine wpAnyH_take (i := 2) (v := ?_) rfl (by kernel_rfl) (by kernel_rfl) (by kernel_rfl) (fun _ _ _ h => h) (.inl ⟨by first | (simp [Region.wanted]; done) | rfl, ?_⟩) HS0.out ?_
                rotate_left
                · intro w' hw
                  obtain ⟨k0, k1⟩ := hw
                  go_simp
                  (try with_reducible rfl)
                (try simp only [List.getElem_toArray, List.getElem_cons_succ, List.getElem_cons_zero, Act.put, List.setIfInBounds_toArray, List.set_cons_zero, List.set_cons_succ])
                refine wpAnyH_take (i := 3) (v := ?_) rfl (by kernel_rfl) (by kernel_rfl) (by kernel_rfl) (fun _ _ _ h => h) (.inl ⟨by first | (simp [Region.wanted]; done) | rfl, ?_⟩) HS0.out ?_
                rotate_left
                · intro w' hw
                  obtain ⟨k0, k1⟩ := hw
                  go_simp
                  (try with_reducible rfl)
                (try simp only [List.getElem_toArray, List.getElem_cons_succ, List.getElem_cons_zero, Act.put, List.setIfInBounds_toArray, List.set_cons_zero, List.set_cons_succ])
                refine wpAnyH_take (i := 4) (v := ?_) rfl (by kernel_rfl) (by kernel_rfl) (by kernel_rfl) (fun _ _ _ h => h) (.inl ⟨by first | (simp [Region.wanted]; done) | rfl, ?_⟩) HS0.out ?_
                rotate_left
                · intro w' hw
                  obtain ⟨k0, k1⟩ := hw
                  go_simp
                  (try with_reducible rfl)
                (try simp only [List.getElem_toArray, List.getElem_cons_succ, List.getElem_cons_zero, Act.put, List.setIfInBounds_toArray, List.set_cons_zero, List.set_cons_succ])
                refine wpAnyH_take (i := 5) (v := ?_) rfl (by kernel_rfl) (by kernel_rfl) (by kernel_rfl) (fun _ _ _ h => h) (.inl ⟨by first | (simp [Region.wanted]; done) | rfl, ?_⟩) HS0.out ?_
                rotate_left
                · intro w' hw
                  obtain ⟨k0, k1⟩ := hw
                  go_simp
                  (try with_reducible rfl)
                (try simp only [List.getElem_toArray, List.getElem_cons_succ, List.getElem_cons_zero, Act.put, List.setIfInBounds_toArray, List.set_cons_zero, List.set_cons_succ])
                refine wpAnyH_take (i := 6) (v := ?_) rfl (by kernel_rfl) (by kernel_rfl) (by kernel_rfl) (fun _ _ _ h => h) (.inl ⟨by first | (simp [Region.wanted]; done) | rfl, ?_⟩) HS0.out ?_
                rotate_left
                · intro w' hw
                  obtain ⟨k0, k1⟩ := hw
                  go_simp
                  (try with_reducible rfl)
                (try simp only [List.getElem_toArray, List.getElem_cons_succ, List.getElem_cons_zero, Act.put, List.setIfInBounds_toArray, List.set_cons_zero, List.set_cons_succ])
                refine wpAnyH_take (i := 7) (v := ?_) rfl (by kernel_rfl) (by kernel_rfl) (by kernel_rfl) (fun _ _ _ h => h) (.inl ⟨by first | (simp [Region.wanted]; done) | rfl, ?_⟩) HS0.out ?_
                rotate_left
                · intro w' hw
                  obtain ⟨k0, k1⟩ := hw
                  go_simp
                  (try with_reducible rfl)
                (try simp only [List.getElem_toArray, List.getElem_cons_succ, List.getElem_cons_zero, Act.put, List.setIfInBounds_toArray, List.set_cons_zero, List.set_cons_succ])
                refine wpAnyH_row (i := 9) rfl (by kernel_rfl) (by kernel_rfl) (by kernel_rfl) (fun _ _ _ _ h => h) rfl 48 _ rfl ⟨g16, 0, none⟩ rfl [.int .i64 x.op, .int .i64 x.dst, .int .i64 x.a, .int .i64 x.b, .int .i64 x.imm] _ (fun w hw => hw.2) Tryd.underlying48 rfl (by kernel_rfl) HS0.out ?_
                (try simp only [List.getElem_toArray, List.getElem_cons_succ, List.getElem_cons_zero, Act.put, List.setIfInBounds_toArray, List.set_cons_zero, List.set_cons_succ])
                refine wpAnyH_ready (rs := [8, 10]) (by kernel_rfl) (by simp) ?_
                refine AllReadyH.cons rfl (fun K hK => ?_) (AllReadyH.cons rfl (fun K hK => ?_) AllReadyH.nil)
                · refine wanted_only rfl ?_
                  refine wpList_ldW2 rfl 34 _ rfl HP.out rfl HCV.out Tryd.underlying34 rfl ?_
                  refine wpList_nil ?_
                  refine hK.out _ _ (⟨HP.out.cell (g := g5) (t := 24) (cs := [(.slice (some ⟨gp, 0, none⟩) fs.length cp)]) (by simp) 0 _ rfl, HP.out.blkAt (g := g16) (t := 48) (cs := [.int .i64 x.op, .int .i64 x.dst, .int .i64 x.a, .int .i64 x.b, .int .i64 x.imm]) (by simp) 0⟩) (fun hHeld => ?_)
                  replace HS0 := Lib.hid hHeld
                  clear hK K hHeld
                  (try simp only [List.getElem_toArray, List.getElem_cons_succ, List.getElem_cons_zero, Act.put, List.setIfInBounds_toArray, List.set_cons_zero, List.set_cons_succ])
                  refine wpAnyH_ready (rs := [10]) (by kernel_rfl) (by simp) ?_
                  refine AllReadyH.cons rfl (fun K hK => ?_) AllReadyH.nil
                  refine wanted_only rfl ?_
                  refine wpList_slice_hp rfl 34 48 1 _ rfl HP.out Tryd.underlying34 #[.int .i64 x.op, .int .i64 x.dst, .int .i64 x.a, .int .i64 x.b, .int .i64 x.imm] (by kernel_rfl) ?_; clear HP; intro gi wi HP; replace HP := Lib.hid HP
                  refine wpList_nil ?_
                  refine hK.out _ _ (⟨HP.out.cell (g := g5) (t := 24) (cs := [(.slice (some ⟨gp, 0, none⟩) fs.length cp)]) (by simp) 0 _ rfl, HP.out.blkAt (g := g16) (t := 48) (cs := [.int .i64 x.op, .int .i64 x.dst, .int .i64 x.a, .int .i64 x.b, .int .i64 x.imm]) (by simp) 0⟩) (fun hHeld => ?_)
                  replace HS0 := Lib.hid hHeld
                  clear hK K hHeld
                  (try simp only [List.getElem_toArray, List.getElem_cons_succ, List.getElem_cons_zero, Act.put, List.setIfInBounds_toArray, List.set_cons_zero, List.set_cons_succ])
                  refine wpAnyH_ready (rs := [11]) (by kernel_rfl) (by simp) ?_
                  refine AllReadyH.cons rfl (fun K hK => ?_) AllReadyH.nil
                  refine wanted_only rfl ?_
                  refine wpList_app1 rfl _ _ 34 rfl i_Ins (.agg #[.int .i64 0, .int .i64 0, .int .i64 0, .int .i64 0, .int .i64 0]) Tryd.underlying34 hi_Ins hz_Ins hs_Ins rfl (by decide) hy_Ins (code.length + 1) (by omega) HP.out rfl rfl rfl (by simp [Value.oneCell']) (by unfold maxLen; omega) (by omega) ?_; clear HP; intro A5 c5 wap HP; replace HP := Lib.hid HP
                  refine wpList_nil ?_
                  refine hK.out _ _ (⟨HP.out.cell (g := g5) (t := 24) (cs := [(.slice (some ⟨gp, 0, none⟩) fs.length cp)]) (by simp) 0 _ rfl, HP.out.blkAt (g := g16) (t := 48) (cs := [.int .i64 x.op, .int .i64 x.dst, .int .i64 x.a, .int .i64 x.b, .int .i64 x.imm]) (by simp) 0⟩) (fun hHeld => ?_)
                  replace HS0 := Lib.hid hHeld
                  clear hK K hHeld
                  (try simp only [List.getElem_toArray, List.getElem_cons_succ, List.getElem_cons_zero, Act.put, List.setIfInBounds_toArray, List.set_cons_zero, List.set_cons_succ])
                  refine wpAnyH_take (i := 12) (v := ?_) rfl (by kernel_rfl) (by kernel_rfl) (by kernel_rfl) (fun _ _ _ h => h) (.inl ⟨by first | (simp [Region.wanted]; done) | rfl, ?_⟩) HS0.out ?_
                  rotate_left
                  · intro w' hw
                    obtain ⟨k0, k1⟩ := hw
                    go_simp
                    (try with_reducible rfl)
                  (try simp only [List.getElem_toArray, List.getElem_cons_succ, List.getElem_cons_zero, Act.put, List.setIfInBounds_toArray, List.set_cons_zero, List.set_cons_succ])
                  refine wpAnyH_take (i := 13) (v := ?_) rfl (by kernel_rfl) (by kernel_rfl) (by kernel_rfl) (fun _ _ _ h => h) (.inl ⟨by first | (simp [Region.wanted]; done) | rfl, ?_⟩) HS0.out ?_
                  rotate_left
                  · intro w' hw
                    obtain ⟨k0, k1⟩ := hw
                    go_simp
                    (try with_reducible rfl)
                  (try simp only [List.getElem_toArray, List.getElem_cons_succ, List.getElem_cons_zero, Act.put, List.setIfInBounds_toArray, List.set_cons_zero, List.set_cons_succ])
                  refine wpAnyH_ready (rs := [14]) (by kernel_rfl) (by simp) ?_
                  refine AllReadyH.cons rfl (fun K hK => ?_) AllReadyH.nil
                  refine wanted_only rfl ?_
                  refine wpList_stW2 rfl 34 _ _ rfl HP.out rfl rfl HLC.out rfl rfl (by kernel_rfl) ?_
                  clear HP; intro wst HP; replace HP := Lib.hid HP
                  refine wpList_nil ?_
                  refine hK.out _ _ (⟨HP.out.cell (g := g5) (t := 24) (cs := [(.slice (some ⟨gp, 0, none⟩) fs.length cp)]) (by simp) 0 _ rfl, HP.out.blkAt (g := g16) (t := 48) (cs := [.int .i64 x.op, .int .i64 x.dst, .int .i64 x.a, .int .i64 x.b, .int .i64 x.imm]) (by simp) 0⟩) (fun hHeld => ?_)
                  clear hK K hHeld HS0
                  (try simp only [List.getElem_toArray, List.getElem_cons_succ, List.getElem_cons_zero, Act.put, List.setIfInBounds_toArray, List.set_cons_zero, List.set_cons_succ])
                  refine wpAnyH_done (by kernel_rfl) ?_ _
                  (try simp only [List.getElem_toArray, List.getElem_cons_succ, List.getElem_cons_zero, Act.put, List.setIfInBounds_toArray, List.set_cons_zero, List.set_cons_succ])
                  go_wp2
                  go_roundw
                  case rel =>
                    have HM2 := HM.out.add hne x (.slice A5 (code.length + 1) c5)
                    rw [show (fs.length - 1) * 3 + 2 = q * 3 + 2 by have := HQ.out; omega] at HM2
                    have HP2 := Hp.drop (A := []) (HP.out.froSub (Fs' := [G, ⟨w, Lt w.heap.size⟩]) (fun F hF => by simp only [List.mem_cons, List.not_mem_nil, or_false] at hF ⊢; rcases hF with h | h <;> simp [h]))
                    refine ⟨i + 1, k + 1, i + 1, G, addIns fs x, fs0, us0, _, _, .slice (some ⟨gp, 0, none⟩) fs.length cp, code ++ [x], by go_num, by go_num, by go_num, Lib.hid (HRD.out.go (by rw [HN.out]; exact hin) HC10.out (by rw [HLN.out]; exact HRL.out) (by rw [addIns_len hne]; omega) (by simp; omega)), Lib.hid HM2, ?_⟩
                    rw [addIns_len hne, show (code ++ [x]).length = code.length + 1 by simp, show (code ++ [x]).flatMap insR = code.flatMap insR ++ [.int .i64 x.op, .int .i64 x.dst, .int .i64 x.a, .int .i64 x.b, .int .i64 x.imm] by simp [insR]]
                    exact Lib.hid HP2
                  case measure => simp [intOf]; omega
                · refine wanted_only rfl ?_
                  refine wpList_slice_hp rfl 34 48 1 _ rfl HP.out Tryd.underlying34 #[.int .i64 x.op, .int .i64 x.dst, .int .i64 x.a, .int .i64 x.b, .int .i64 x.imm] (by kernel_rfl) ?_; clear HP; intro gi wi HP; replace HP := Lib.hid HP
                  refine wpList_nil ?_
                  refine hK.out _ _ (⟨HP.out.cell (g := g5) (t := 24) (cs := [(.slice (some ⟨gp, 0, none⟩) fs.length cp)]) (by simp) 0 _ rfl, HP.out.blkAt (g := g16) (t := 48) (cs := [.int .i64 x.op, .int .i64 x.dst, .int .i64 x.a, .int .i64 x.b, .int .i64 x.imm]) (by simp) 0⟩) (fun hHeld => ?_)
                  replace HS0 := Lib.hid hHeld
                  clear hK K hHeld
                  (try simp only [List.getElem_toArray, List.getElem_cons_succ, List.getElem_cons_zero, Act.put, List.setIfInBounds_toArray, List.set_cons_zero, List.set_cons_succ])
                  refine wpAnyH_ready (rs := [8]) (by kernel_rfl) (by simp) ?_
                  refine AllReadyH.cons rfl (fun K hK => ?_) AllReadyH.nil
                  refine wanted_only rfl ?_
                  refine wpList_ldW3 rfl 34 _ rfl HP.out rfl HCV.out Tryd.underlying34 rfl ?_
                  refine wpList_nil ?_
                  refine hK.out _ _ (⟨HP.out.cell (g := g5) (t := 24) (cs := [(.slice (some ⟨gp, 0, none⟩) fs.length cp)]) (by simp) 0 _ rfl, HP.out.blkAt (g := g16) (t := 48) (cs := [.int .i64 x.op, .int .i64 x.dst, .int .i64 x.a, .int .i64 x.b, .int .i64 x.imm]) (by simp) 0⟩) (fun hHeld => ?_)
                  replace HS0 := Lib.hid hHeld
                  clear hK K hHeld
                  (try simp only [List.getElem_toArray, List.getElem_cons_succ, List.getElem_cons_zero, Act.put, List.setIfInBounds_toArray, List.set_cons_zero, List.set_cons_succ])
                  refine wpAnyH_ready (rs := [11]) (by kernel_rfl) (by simp) ?_
                  refine AllReadyH.cons rfl (fun K hK => ?_) AllReadyH.nil
                  refine wanted_only rfl ?_
                  refine wpList_app1 rfl _ _ 34 rfl i_Ins (.agg #[.int .i64 0, .int .i64 0, .int .i64 0, .int .i64 0, .int .i64 0]) Tryd.underlying34 hi_Ins hz_Ins hs_Ins rfl (by decide) hy_Ins (code.length + 1) (by omega) HP.out rfl rfl rfl (by simp [Value.oneCell']) (by unfold maxLen; omega) (by omega) ?_; clear HP; intro A5 c5 wap HP; replace HP := Lib.hid HP
                  refine wpList_nil ?_
                  refine hK.out _ _ (⟨HP.out.cell (g := g5) (t := 24) (cs := [(.slice (some ⟨gp, 0, none⟩) fs.length cp)]) (by simp) 0 _ rfl, HP.out.blkAt (g := g16) (t := 48) (cs := [.int .i64 x.op, .int .i64 x.dst, .int .i64 x.a, .int .i64 x.b, .int .i64 x.imm]) (by simp) 0⟩) (fun hHeld => ?_)
                  replace HS0 := Lib.hid hHeld
                  clear hK K hHeld
                  (try simp only [List.getElem_toArray, List.getElem_cons_succ, List.getElem_cons_zero, Act.put, List.setIfInBounds_toArray, List.set_cons_zero, List.set_cons_succ])
                  refine wpAnyH_take (i := 12) (v := ?_) rfl (by kernel_rfl) (by kernel_rfl) (by kernel_rfl) (fun _ _ _ h => h) (.inl ⟨by first | (simp [Region.wanted]; done) | rfl, ?_⟩) HS0.out ?_
                  rotate_left
                  · intro w' hw
                    obtain ⟨k0, k1⟩ := hw
                    go_simp
                    (try with_reducible rfl)
                  (try simp only [List.getElem_toArray, List.getElem_cons_succ, List.getElem_cons_zero, Act.put, List.setIfInBounds_toArray, List.set_cons_zero, List.set_cons_succ])
                  refine wpAnyH_take (i := 13) (v := ?_) rfl (by kernel_rfl) (by kernel_rfl) (by kernel_rfl) (fun _ _ _ h => h) (.inl ⟨by first | (simp [Region.wanted]; done) | rfl, ?_⟩) HS0.out ?_
                  rotate_left
                  · intro w' hw
                    obtain ⟨k0, k1⟩ := hw
                    go_simp
                    (try with_reducible rfl)
                  (try simp only [List.getElem_toArray, List.getElem_cons_succ, List.getElem_cons_zero, Act.put, List.setIfInBounds_toArray, List.set_cons_zero, List.set_cons_succ])
                  refine wpAnyH_ready (rs := [14]) (by kernel_rfl) (by simp) ?_
                  refine AllReadyH.cons rfl (fun K hK => ?_) AllReadyH.nil
                  refine wanted_only rfl ?_
                  refine wpList_stW2 rfl 34 _ _ rfl HP.out rfl rfl HLC.out rfl rfl (by kernel_rfl) ?_
                  clear HP; intro wst HP; replace HP := Lib.hid HP
                  refine wpList_nil ?_
                  refine hK.out _ _ (⟨HP.out.cell (g := g5) (t := 24) (cs := [(.slice (some ⟨gp, 0, none⟩) fs.length cp)]) (by simp) 0 _ rfl, HP.out.blkAt (g := g16) (t := 48) (cs := [.int .i64 x.op, .int .i64 x.dst, .int .i64 x.a, .int .i64 x.b, .int .i64 x.imm]) (by simp) 0⟩) (fun hHeld => ?_)
                  clear hK K hHeld HS0
                  (try simp only [List.getElem_toArray, List.getElem_cons_succ, List.getElem_cons_zero, Act.put, List.setIfInBounds_toArray, List.set_cons_zero, List.set_cons_succ])
                  refine wpAnyH_done (by kernel_rfl) ?_ _
                  (try simp only [List.getElem_toArray, List.getElem_cons_succ, List.getElem_cons_zero, Act.put, List.setIfInBounds_toArray, List.set_cons_zero, List.set_cons_succ])
                  go_wp2
                  go_roundw
                  case rel =>
                    have HM2 := HM.out.add hne x (.slice A5 (code.length + 1) c5)
                    rw [show (fs.length - 1) * 3 + 2 = q * 3 + 2 by have := HQ.out; omega] at HM2
                    have HP2 := Hp.drop (A := []) (HP.out.froSub (Fs' := [G, ⟨w, Lt w.heap.size⟩]) (fun F hF => by simp only [List.mem_cons, List.not_mem_nil, or_false] at hF ⊢; rcases hF with h | h <;> simp [h]))
                    refine ⟨i + 1, k + 1, i + 1, G, addIns fs x, fs0, us0, _, _, .slice (some ⟨gp, 0, none⟩) fs.length cp, code ++ [x], by go_num, by go_num, by go_num, Lib.hid (HRD.out.go (by rw [HN.out]; exact hin) HC10.out (by rw [HLN.out]; exact HRL.out) (by rw [addIns_len hne]; omega) (by simp; omega)), Lib.hid HM2, ?_⟩
                    rw [addIns_len hne, show (code ++ [x]).length = code.length + 1 by simp, show (code ++ [x]).flatMap insR = code.flatMap insR ++ [.int .i64 x.op, .int .i64 x.dst, .int .i64 x.a, .int .i64 x.b, .int .i64 x.imm] by simp [insR]]
                    exact Lib.hid HP2
                  case measure => simp [intOf]; omega
              · have HAN := Lib.hid (show readAns l = (⟨[]⟩, (k : Int), 5) by
                  rw [HE.out]
                  exact HRD.out.bad (by rw [HN.out]; exact hin) HC10.out (by rw [HLN.out, HRF.out, if_neg hok]))
                cases is with
                | false =>
                  go_wp2_with (first | (refine wpList_stR0 rfl 24 _ _ rfl HP.out rfl (cs' := [_]) rfl rfl (by simp [Value.oneCell']) (by kernel_rfl) ?_; clear HP; intro wst HP; replace HP := Lib.hid HP) | (refine wpList_stR1 rfl 24 _ _ rfl HP.out rfl (cs' := [_]) rfl rfl (by simp [Value.oneCell']) (by kernel_rfl) ?_; clear HP; intro wst HP; replace HP := Lib.hid HP) | (refine wpList_stR2 rfl 24 _ _ rfl HP.out rfl (cs' := [_]) rfl rfl (by simp [Value.oneCell']) (by kernel_rfl) ?_; clear HP; intro wst HP; replace HP := Lib.hid HP) | (refine wpList_stR3 rfl 24 _ _ rfl HP.out rfl (cs' := [_]) rfl rfl (by simp [Value.oneCell']) (by kernel_rfl) ?_; clear HP; intro wst HP; replace HP := Lib.hid HP) | (refine wpList_stR4 rfl 24 _ _ rfl HP.out rfl (cs' := [_]) rfl rfl (by simp [Value.oneCell']) (by kernel_rfl) ?_; clear HP; intro wst HP; replace HP := Lib.hid HP) | (refine wpList_stR5 rfl 24 _ _ rfl HP.out rfl (cs' := [_]) rfl rfl (by simp [Value.oneCell']) (by kernel_rfl) ?_; clear HP; intro wst HP; replace HP := Lib.hid HP))
                  (try simp only [Exit.inBlock, Exit.then])
                  refine bodyPost_ret (results_row_tmp3R (by rfl) _ _ g2 24 #[.slice none 0 0] (0, 0) _ rfl (HP.out.blk (by simp)) Tryd.underlying24 rfl (by kernel_rfl)) (by rfl) ?_
                  unfold RdR
                  rw [HAN.out]
                  exact ⟨_, rfl, rep_prg_nil3, HP.out.below⟩
                | true =>
                  have hfe : fs = [] := Classical.byContradiction fun h => hok ⟨rfl, h⟩
                  have hg4 : decide (0 < fs.length) = false := by rw [hfe]; rfl
                  clear hok hfe
                  go_wp2_with (first | (refine wpList_stR0 rfl 24 _ _ rfl HP.out rfl (cs' := [_]) rfl rfl (by simp [Value.oneCell']) (by kernel_rfl) ?_; clear HP; intro wst HP; replace HP := Lib.hid HP) | (refine wpList_stR1 rfl 24 _ _ rfl HP.out rfl (cs' := [_]) rfl rfl (by simp [Value.oneCell']) (by kernel_rfl) ?_; clear HP; intro wst HP; replace HP := Lib.hid HP) | (refine wpList_stR2 rfl 24 _ _ rfl HP.out rfl (cs' := [_]) rfl rfl (by simp [Value.oneCell']) (by kernel_rfl) ?_; clear HP; intro wst HP; replace HP := Lib.hid HP) | (refine wpList_stR3 rfl 24 _ _ rfl HP.out rfl (cs' := [_]) rfl rfl (by simp [Value.oneCell']) (by kernel_rfl) ?_; clear HP; intro wst HP; replace HP := Lib.hid HP) | (refine wpList_stR4 rfl 24 _ _ rfl HP.out rfl (cs' := [_]) rfl rfl (by simp [Value.oneCell']) (by kernel_rfl) ?_; clear HP; intro wst HP; replace HP := Lib.hid HP) | (refine wpList_stR5 rfl 24 _ _ rfl HP.out rfl (cs' := [_]) rfl rfl (by simp [Value.oneCell']) (by kernel_rfl) ?_; clear HP; intro wst HP; replace HP := Lib.hid HP))
                  (try simp only [Exit.inBlock, Exit.then])
                  refine bodyPost_ret (results_row_tmp3R (by rfl) _ _ g2 24 #[.slice none 0 0] (0, 0) _ rfl (HP.out.blk (by simp)) Tryd.underlying24 rfl (by kernel_rfl)) (by rfl) ?_
                  unfold RdR
                  rw [HAN.out]
                  exact ⟨_, rfl, rep_prg_nil3, HP.out.below⟩
          · have hb : ((c.toNat : Int) != 10) = true := by rw [bne_iff_ne]; intro e; exact h10 (UInt8.toNat_inj.1 (by show c.toNat = 10; omega))
            have HRN := Lib.hid (HRD.out.skip (by rw [HN.out]; exact hin) (by rw [HC.out]; exact h10))
            clear h10
            go_wp2_with (first | (refine wpList_sidx_w rfl _ _ rfl l rfl (i : Int) rfl (by omega) hil ?_))
            go_roundw
            case rel => exact ⟨fr, k, i + 1, G, fs, fs0, us0, cells, cv, pv, code, rfl, rfl, by go_num, HRN, HM, HP⟩
            case measure => simp [intOf]; omega
        · obtain rfl : i = n := by omega
          have hg2 : decide (i < i) = false := decide_eq_false (by omega)
          have hg3 : ((i : Int) == (i : Int)) = true := beq_self_eq_true _
          by_cases hfn : fr = i
          · have hg4 : ((fr : Int) == (i : Int)) = true := beq_iff_eq.2 (by omega)
            have HRN := Lib.hid (HRD.out.skipEnd HN.out.symm (by rw [HN.out]; exact hfn))
            clear hfn
            go_wp2
            go_roundw
            case rel => exact ⟨fr, k, i + 1, G, fs, fs0, us0, cells, cv, pv, code, rfl, rfl, by go_num, HRN, HM, HP⟩
            case measure => simp [intOf]
          · have hg4 : ((fr : Int) == (i : Int)) = false := beq_eq_false_iff_ne.2 (by omega)
            have HAN := Lib.hid (show readAns l = (⟨[]⟩, (k : Int), 5) by
              rw [HE.out]
              have h1 := HRD.out.frl
              have h2 := HN.out
              exact HRD.out.badEnd HN.out.symm (by omega))
            have hfri := HRD.out.le (by rw [HN.out]; omega)
            have hil2 : i ≤ l.length := by rw [HN.out]; omega
            obtain ⟨ln, hln⟩ : ∃ ln, (l.drop fr).take (i - fr) = ln := ⟨_, rfl⟩
            have HLN := Lib.hid hln
            have hll : ln.length ≤ 1000000 := by rw [← hln, List.length_take, List.length_drop, HN.out]; omega
            clear hln
            go_upto_region 12 with (first | (refine wpList_ssl rfl _ _ _ rfl l rfl fr i (.inr ⟨_, rfl, rfl⟩) (.inr ⟨_, rfl, rfl⟩) hfri hil2 ?_; rw [HLN.out]) | (go_at_call 24; refine (wordsOf_any ln hll _).mono ?_; rintro e w1 ⟨v, rfl, hv, hb1⟩; have HP1 := Lib.hid (HP.out.call hb1); have HV := Lib.hid hv; clear hb1 hv HP))
            obtain ⟨ws, hws⟩ : ∃ ws, splitSp ln = ws := ⟨_, rfl⟩
            have hne : ws ≠ [] := by rw [← hws]; exact splitSp_ne ln
            have hsl := split_len ln
            rw [hws] at hsl
            have HWL := Lib.hid hsl.2
            have hm1 := hsl.1
            clear hsl
            have HWS := Lib.hid hws
            obtain ⟨m, hm⟩ : ∃ m, ws.length = m := ⟨_, rfl⟩
            have hm0 : 0 < m := by rw [← hm]; exact List.length_pos_iff.2 hne
            rw [hm] at hm1
            obtain ⟨w0, hw0⟩ : ∃ w0, ws.headD [] = w0 := ⟨_, rfl⟩
            obtain ⟨F1, A, ca, rfl, HP, HX⟩ : ∃ (F1 : Fro) (A : Addr) (ca : Nat), v = .slice (some A) m ca ∧ Hid (Hp w [G, F1, { w := w, S := Lt w.heap.size }] [.row cv 48 5 code.length (code.flatMap insR), .row pv 36 3 fs.length cells, .blk g5 24 [pv], .blk g2 24 [.slice none 0 0]] w1) ∧ Hid (∀ k, k < m → F1.w.cell? (A.add k) = some (.string (bstr (ws.getD k []))) ∧ F1.S A.block) := by
              obtain ⟨A, ca, rfl, hcell⟩ := rep_strs HV.out (by simpa using splitSp_ne ln)
              have hl2 : (List.map bstr (splitSp ln)).length = m := by rw [HWS.out, List.length_map, hm]
              refine ⟨⟨w1, fun b => wo.heap.size ≤ b ∧ b < w1.heap.size⟩, A, ca, by rw [hl2], Lib.hid (HP1.out.froSub (fun F hF => by simp only [List.mem_cons, List.not_mem_nil, or_false] at hF ⊢; rcases hF with h | h | h <;> simp [h])), Lib.hid fun k hk => ?_⟩
              obtain ⟨h1, h2⟩ := hcell k (by rw [hl2]; exact hk)
              refine ⟨?_, h2⟩
              rw [h1]
              congr 2
              rw [List.getElem_map]
              congr 1
              have hk2 : k < ws.length := by rw [hm]; exact hk
              simp only [HWS.out, List.getD_eq_getElem?_getD, List.getElem?_eq_getElem hk2, Option.getD_some]
            have HM9 := Lib.hid hm
            have HW0 := Lib.hid (show ws.getD 0 [] = w0 by rw [← hw0]; cases ws <;> rfl)
            have HWH := Lib.hid (show (splitSp ln).headD [] = w0 by rw [hws]; exact hw0)
            have hc0 := HP.out.cellOf (F := F1) (by simp) (HX.out 0 hm0).1 (by rw [block_of_add]; exact (HX.out 0 hm0).2)
            rw [HW0.out, show A.add 0 = A by simp [Addr.add]] at hc0
            clear HP1 HV hne hm hw0 hws
            have hfl := HRD.out.fk
            have hkl := HRD.out.kfr
            have hfrl := HRD.out.frl
            rw [HN.out] at hfrl
            obtain ⟨Ap, cp, rfl⟩ := HP.out.rowSlice (.tail _ (.head _))
            by_cases hf : w0 = funcW
            · have hfb : ((bstr w0).toList == [102, 117, 110, 99]) = true := by rw [bstr_toList, hf]; exact beq_self_eq_true funcW
              clear hf
              go_wp2_with (first | (refine wpList_alloc_hp (o := ⟨some 11, _, _, _, _, _⟩) rfl _ rfl HP.out (.agg #[.int .i64 0, .int .i64 0, .slice none 0 0]) (by kernel_rfl) [_, _, _] rfl ?_; clear HP; intro g11 w11 HP; replace HP := Lib.hid HP) | (refine wpList_ldR0 rfl 36 _ rfl HP.out rfl Tryd.underlying36 rfl (by kernel_rfl) ?_) | (refine wpList_ld0 rfl 22 _ rfl HP.out rfl rfl Tryd.underlying22 rfl ?_) | (refine wpList_ld1 rfl 22 _ rfl HP.out rfl rfl Tryd.underlying22 rfl ?_) | (refine wpList_ld2 rfl 22 _ rfl HP.out rfl rfl Tryd.underlying22 rfl ?_) | (refine wpList_ld3 rfl 22 _ rfl HP.out rfl rfl Tryd.underlying22 rfl ?_) | (refine wpList_slice_hp rfl 22 36 1 _ rfl HP.out Tryd.underlying22 #[.int .i64 0, .int .i64 0, .slice none 0 0] (by kernel_rfl) ?_; clear HP; intro gi wi HP; replace HP := Lib.hid HP) | (at_builtin; refine wpList_app2 rfl _ _ 22 rfl i_Fun (.agg #[.int .i64 0, .int .i64 0, .slice none 0 0]) Tryd.underlying22 hi_Fun hz_Fun hs_Fun rfl (by decide) hy_Fun (fs.length + 1) (by omega) HP.out rfl rfl rfl (by simp [Value.oneCell']) (by unfold maxLen; omega) (by omega) ?_; clear HP; intro A4 c4 wap HP; replace HP := Lib.hid HP) | (refine wpList_st0 rfl 22 _ _ rfl HP.out rfl rfl (by simp) rfl rfl (by kernel_rfl) ?_; clear HP; intro wst HP; replace HP := Lib.hid HP) | (refine wpList_st1 rfl 22 _ _ rfl HP.out rfl rfl (by simp) rfl rfl (by kernel_rfl) ?_; clear HP; intro wst HP; replace HP := Lib.hid HP) | (refine wpList_st2 rfl 22 _ _ rfl HP.out rfl rfl (by simp) rfl rfl (by kernel_rfl) ?_; clear HP; intro wst HP; replace HP := Lib.hid HP) | (refine wpList_st3 rfl 22 _ _ rfl HP.out rfl rfl (by simp) rfl rfl (by kernel_rfl) ?_; clear HP; intro wst HP; replace HP := Lib.hid HP) | (refine wpList_stR0 rfl 24 _ _ rfl HP.out rfl (cs' := [_]) rfl rfl (by simp [Value.oneCell']) (by kernel_rfl) ?_; clear HP; intro wst HP; replace HP := Lib.hid HP) | (refine wpList_stR1 rfl 24 _ _ rfl HP.out rfl (cs' := [_]) rfl rfl (by simp [Value.oneCell']) (by kernel_rfl) ?_; clear HP; intro wst HP; replace HP := Lib.hid HP) | (refine wpList_stR2 rfl 24 _ _ rfl HP.out rfl (cs' := [_]) rfl rfl (by simp [Value.oneCell']) (by kernel_rfl) ?_; clear HP; intro wst HP; replace HP := Lib.hid HP) | (refine wpList_stR3 rfl 24 _ _ rfl HP.out rfl (cs' := [_]) rfl rfl (by simp [Value.oneCell']) (by kernel_rfl) ?_; clear HP; intro wst HP; replace HP := Lib.hid HP) | (refine wpList_stR4 rfl 24 _ _ rfl HP.out rfl (cs' := [_]) rfl rfl (by simp [Value.oneCell']) (by kernel_rfl) ?_; clear HP; intro wst HP; replace HP := Lib.hid HP))
              (try simp only [Exit.inBlock, Exit.then])
              refine bodyPost_ret (results_row_tmp3R (by rfl) _ _ g2 24 #[.slice none 0 0] (0, 0) _ rfl (HP.out.blk (by simp)) Tryd.underlying24 rfl (by kernel_rfl)) (by rfl) ?_
              unfold RdR
              rw [HAN.out]
              exact ⟨_, rfl, rep_prg_nil3, HP.out.below⟩
            · have hfb : ((bstr w0).toList == [102, 117, 110, 99]) = false := by rw [bstr_toList]; exact beq_eq_false_iff_ne.2 hf
              clear hf
              obtain ⟨⟨x, is⟩, hr⟩ : ∃ p, refIns ln = p := ⟨_, rfl⟩
              have HI := Lib.hid (show ∀ w, Calls Tryd.prog 26 #[.string (bstr ln)] w fun e w' => e = .returned (.tuple #[.agg #[.int .i64 x.op, .int .i64 x.dst, .int .i64 x.a, .int .i64 x.b, .int .i64 x.imm], .bool is]) ∧ Below w.heap.size w w' from fun w5 => by
                have := instrOf_any ln hll w5
                rwa [hr] at this)
              clear hr
              go_wp2_with (first | (refine wpList_ssl rfl _ _ _ rfl l rfl fr i (.inr ⟨_, rfl, rfl⟩) (.inr ⟨_, rfl, rfl⟩) hfri hil2 ?_; rw [HLN.out]) | (go_at_call 26; refine (HI.out _).mono ?_; rintro e wio ⟨rfl, hb⟩; clear hc0; replace HP := Lib.hid (HP.out.call0 hb); clear hb) | (refine wpList_alloc_hp (o := ⟨some 16, _, _, _, _, _⟩) rfl _ rfl HP.out (.agg #[.int .i64 0, .int .i64 0, .int .i64 0, .int .i64 0, .int .i64 0]) (by kernel_rfl) [_, _, _, _, _] rfl ?_; clear HP; intro g16 w16 HP; replace HP := Lib.hid HP) | (refine wpList_stR0 rfl 48 _ _ rfl HP.out rfl (cs' := [_, _, _, _, _]) rfl rfl (by simp [Value.oneCell']) (by kernel_rfl) ?_; clear HP; intro wst HP; replace HP := Lib.hid HP) | (refine wpList_stR0 rfl 24 _ _ rfl HP.out rfl (cs' := [_]) rfl rfl (by simp [Value.oneCell']) (by kernel_rfl) ?_; clear HP; intro wst HP; replace HP := Lib.hid HP) | (refine wpList_stR1 rfl 24 _ _ rfl HP.out rfl (cs' := [_]) rfl rfl (by simp [Value.oneCell']) (by kernel_rfl) ?_; clear HP; intro wst HP; replace HP := Lib.hid HP) | (refine wpList_stR2 rfl 24 _ _ rfl HP.out rfl (cs' := [_]) rfl rfl (by simp [Value.oneCell']) (by kernel_rfl) ?_; clear HP; intro wst HP; replace HP := Lib.hid HP) | (refine wpList_stR3 rfl 24 _ _ rfl HP.out rfl (cs' := [_]) rfl rfl (by simp [Value.oneCell']) (by kernel_rfl) ?_; clear HP; intro wst HP; replace HP := Lib.hid HP) | (refine wpList_stR4 rfl 24 _ _ rfl HP.out rfl (cs' := [_]) rfl rfl (by simp [Value.oneCell']) (by kernel_rfl) ?_; clear HP; intro wst HP; replace HP := Lib.hid HP) | (refine wpList_stR5 rfl 24 _ _ rfl HP.out rfl (cs' := [_]) rfl rfl (by simp [Value.oneCell']) (by kernel_rfl) ?_; clear HP; intro wst HP; replace HP := Lib.hid HP))
              (try simp only [Exit.inBlock, Exit.then])
              refine bodyPost_ret (results_row_tmp3R (by rfl) _ _ g2 24 #[.slice none 0 0] (0, 0) _ rfl (HP.out.blk (by simp)) Tryd.underlying24 rfl (by kernel_rfl)) (by rfl) ?_
              unfold RdR
              rw [HAN.out]
              exact ⟨_, rfl, rep_prg_nil3, HP.out.below⟩
end Go.Proofs.YtpnapnmkjpolmaaDoor
