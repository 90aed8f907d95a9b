/- flow.ends, flow.heads: where blocks begin. -/
import Derived.Test.YtceilfmfidmfpaaDoorMgReadsWaySureLawSureRunProvenLawStateLawLiveLawBlkLawDomLawDo11
import Derived.Test.YtceilfmfidmfpaaDoorMgFlowNextBlkGoBlkRef3
import Derived.Test.YtceilfmfidmfpaaDoorSetI
import Derived.Test.YtceilfmfidmfpaaDoorMgPrNestNestBFind4
import Derived.Test.YtceilfmfidmfpaaDoorMgReadsOfStateNextLawBegLawNextAnsRunLawRunLawBBegRun8
set_option linter.unusedSimpArgs false
set_option linter.unusedVariables false
namespace Go.Proofs.YtceilfmfidmfpaaDoor
open Go.RowKit Plain64
attribute [local irreducible] wpList Code.wp Oper.wp
theorem flowEnds_any (op : Int) (w : World) : Calls Tryd.prog 27 #[.int .i64 op] w fun e w' => e = .returned (.bool (decide (15 ≤ op))) ∧ w = w' := by
  go_enter Tryd.func27, Tryd.ntmps27
  go_wp2
  go_ret
  exact ⟨rfl, rfl⟩
/-- What the first q instructions say. -/
def HeadQ (f : Fun) (q : Nat) (n : Int) : Prop := n = 0 ∨ ∃ (i : Nat) (x : Ins), i < q ∧ f.code[i]? = some x ∧ SureAt f i ∧ 15 ≤ x.op ∧ n ∈ nextZ x i
theorem headQ_no {f : Fun} {q : Nat} {x : Ins} (hx : f.code[q]? = some x) (h : ¬ (SureAt f q ∧ 15 ≤ x.op)) (n : Int) : HeadQ f (q + 1) n ↔ HeadQ f q n := by
  constructor
  · rintro (h1 | ⟨i, y, hi, hy, hs, ho, hn⟩)
    · exact .inl h1
    · refine .inr ⟨i, y, ?_, hy, hs, ho, hn⟩
      rcases Nat.lt_or_ge i q with h2 | h2
      · exact h2
      · obtain rfl : i = q := by omega
        rw [hx] at hy; cases hy; exact absurd ⟨hs, ho⟩ h
  · rintro (h1 | ⟨i, y, hi, r⟩)
    · exact .inl h1
    · exact .inr ⟨i, y, by omega, r⟩
theorem headQ_yes {f : Fun} {q : Nat} {x : Ins} (hx : f.code[q]? = some x) (hs : SureAt f q) (ho : 15 ≤ x.op) (n : Int) : HeadQ f (q + 1) n ↔ HeadQ f q n ∨ n ∈ nextZ x q := by
  constructor
  · rintro (h1 | ⟨i, y, hi, hy, hs, ho, hn⟩)
    · exact .inl (.inl h1)
    · rcases Nat.lt_or_ge i q with h2 | h2
      · exact .inl (.inr ⟨i, y, h2, hy, hs, ho, hn⟩)
      · obtain rfl : i = q := by omega
        rw [hx] at hy; cases hy; exact .inr hn
  · rintro ((h1 | ⟨i, y, hi, r⟩) | h1)
    · exact .inl h1
    · exact .inr ⟨i, y, by omega, r⟩
    · exact .inr ⟨q, x, by omega, hx, hs, ho, h1⟩
theorem headQ_all {f : Fun} {q : Nat} : HeadQ f f.code.length (q : Int) ↔ HeadP f q := by
  constructor
  · rintro (h1 | ⟨i, y, hi, r⟩)
    · exact .inl (by omega)
    · exact .inr ⟨i, y, r⟩
  · rintro (h1 | ⟨i, y, hy, r⟩)
    · exact .inl (by omega)
    · exact .inr ⟨i, y, (List.getElem?_eq_some_iff.1 hy).1, hy, r⟩
structure AccOk (f : Fun) (q : Nat) (acc : List Int) : Prop where
  mem : ∀ n, n ∈ acc ↔ HeadQ f q n
  len : acc.length ≤ 1 + 2 * q
theorem nxtS_le2 (x : Ins) (pc : Nat) : (nxtS x pc).length ≤ 2 := by
  unfold nxtS; repeat' split
  all_goals simp
theorem AccOk.no {f : Fun} {q : Nat} {acc : List Int} (h : AccOk f q acc) {x : Ins} (hx : f.code[q]? = some x) (hn : ¬ (SureAt f q ∧ 15 ≤ x.op)) : AccOk f (q + 1) acc := ⟨fun n => (h.mem n).trans (headQ_no hx hn n).symm, by have := h.len; omega⟩
theorem AccOk.yes {f : Fun} {q : Nat} {acc : List Int} (h : AccOk f q acc) {x : Ins} (hx : f.code[q]? = some x) (hs : SureAt f q) (ho : 15 ≤ x.op) : AccOk f (q + 1) (acc ++ nxtS x q) := by
  refine ⟨fun n => ?_, ?_⟩
  · rw [List.mem_append, headQ_yes hx hs ho, h.mem n, mem_nxtS]
  · have := h.len; have := nxtS_le2 x q; rw [List.length_append]; omega
noncomputable def hdsTo (f : Fun) (q : Nat) : List Int := ((List.range q).filter (headB f)).map fun k : Nat => (k : Int)
theorem hdsTo_succ (f : Fun) (q : Nat) : hdsTo f (q + 1) = hdsTo f q ++ if headB f q then [(q : Int)] else [] := by
  unfold hdsTo
  rw [List.range_succ, List.filter_append, List.map_append]
  congr 1
  by_cases h : headB f q = true
  · simp [h]
  · simp [h]
theorem hdsTo_len (f : Fun) (q : Nat) : (hdsTo f q).length ≤ q := by
  unfold hdsTo; rw [List.length_map]; have := List.length_filter_le (headB f) (List.range q); rwa [List.length_range] at this
set_option maxRecDepth 100000 in
set_option maxHeartbeats 4000000 in
theorem heads_any (f : Fun) (funcs : Nat) (ok : OkF f funcs) (v su : Value) (w : World) (hv : Lay.rep w (Lt w.heap.size) f.code [v]) (hs : Lay.rep w (Lt w.heap.size) ((sureL f).take f.code.length) [su]) :
    Calls Tryd.prog 26 #[.agg #[.int .i64 f.params, .int .i64 f.regs, v], su] w fun e w' => ∃ u, e = .returned u ∧ Lay.rep w' (Fresh w w') (hdsTo f f.code.length) [u] ∧ Below w.heap.size w w' := by
  obtain ⟨A, c, rfl, hc, hm, hx⟩ := rep_code_at hv
  obtain ⟨AS, cS, rfl, hcS, hmS, hxS⟩ := rep_ints_at hs
  unfold maxLen at hm hmS
  have hln : f.code.length ≤ 40 := ok.len.2
  have hsl : ((sureL f).take f.code.length).length = f.code.length := by rw [List.length_take, sureL_len]; omega
  have HV := Lib.hid hv
  have HX := Lib.hid hx
  have HXS := Lib.hid hxS
  have HOK := Lib.hid ok
  clear hv hs hx hxS ok
  have HP := Lib.hid (Hp.start w)
  have hmm := @run_makeMap Tryd.prog
  obtain ⟨i_int, hi_int, hz_int, hs_int, hy_int⟩ := info_parts info_int
  go_enter Tryd.func26, Tryd.ntmps26
  go_upto_region 2 with (first | (refine wpList_box_hp (o := ⟨some 2, _, _, _, _, _⟩) rfl _ _ rfl HP.out [_, _, _] rfl ?_; clear HP; intro g2 w2 HP; replace HP := Lib.hid HP))
  have hB0 := HP.out.size
  replace HP := Lib.hid (HP.out.mapMade (fun F hF b hb => (HP.out.fro F hF b hb).1))
  have HS := Lib.hid (setIn_made w2)
  obtain ⟨B, hB⟩ : ∃ B, w2.heap.size = B := ⟨_, rfl⟩
  rw [hB] at hB0 HP HS ⊢
  obtain ⟨wm, hwm⟩ : ∃ wm, w2.alloc (.map #[] 0) = wm := ⟨_, rfl⟩
  rw [hwm] at HP HS ⊢
  clear hB hwm hmm
  have hG2 : ∀ F ∈ [(⟨w, Lt w.heap.size⟩ : Fro)], ¬ F.S B := fun F hF hS => by rw [List.mem_singleton.1 hF] at hS; have hS : B < w.heap.size := hS; omega
  have HG2 := Lib.hid hG2
  clear hG2
  go_wp2_with (first | (refine wpList_ld0 rfl 45 _ rfl HP.out rfl rfl Tryd.underlying45 rfl ?_) | (at_mapUpdate; refine wpList_setPut rfl _ _ _ rfl HP.out HS.out hB0 HG2.out (by unfold maxLen; simp) rfl 0 rfl (by decide) rfl ?_; clear HP HS; intro wm2 HS HP; replace HP := Lib.hid HP; replace HS := Lib.hid HS))
  simp only [List.nil_append] at HS
  go_loopw [20] (fun i wr => ∃ (q : Nat) (wm : World) (acc : List Int), q ≤ f.code.length ∧ i = .int .i64 q ∧ Hid (AccOk f q acc) ∧ Hid (SetIn wm B acc) ∧ Hid (Hp w [⟨wm, onlyB B⟩, ⟨w, Lt w.heap.size⟩] [.blk g2 47 [.int .i64 f.params, .int .i64 f.regs, .slice A f.code.length c]] wr)) (fun i _ => f.code.length - (intOf i).toNat)
  case atStart => exact ⟨0, wm2, [0], by omega, rfl, Lib.hid ⟨fun n => ⟨fun h => .inl (List.mem_singleton.1 h), fun h => by rcases h with h | ⟨i, x, hi, _⟩; exact List.mem_singleton.2 h; omega⟩, by simp⟩, HS, HP⟩
  case round =>
    clear HP HS
    obtain ⟨q, wm3, acc, hq, rfl, HAC, HS, HP⟩ := hrel
    obtain ⟨wo, rfl⟩ : ∃ wo : World, wo = wr := ⟨_, rfl⟩
    by_cases hlt : q < f.code.length
    · have hlt2 : (q : Int) < (f.code.length : Int) := by omega
      obtain ⟨ad, rfl, hab, hat⟩ := HX.out q hlt
      obtain ⟨aS, rfl, habs, hcs⟩ := HXS.out q (by omega)
      obtain ⟨x, hxq⟩ : ∃ x, f.code[q] = x := ⟨_, rfl⟩
      rw [hxq] at hat
      have hxq2 : f.code[q]? = some x := by rw [List.getElem?_eq_getElem hlt, hxq]
      obtain ⟨y, hy⟩ : ∃ y, ((sureL f).take f.code.length)[q] = y := ⟨_, rfl⟩
      rw [hy] at hcs
      have hsu : SureAt f q ↔ 0 ≤ y := by rw [List.getElem_take] at hy; unfold SureAt; rw [List.getD_eq_getElem?_getD, List.getElem?_eq_getElem (by rw [sureL_len]; omega), hy]; rfl
      have HXQ := Lib.hid hxq2
      have HXE := Lib.hid hxq
      have HSU := Lib.hid hsu
      have HAT := Lib.hid hat
      have HCS := Lib.hid hcs
      have hacl := HAC.out.len
      clear hxq hxq2 hat hcs hy hsu
      go_upto_region 6 with (first | (refine wpList_ld0 rfl 45 _ rfl HP.out rfl rfl Tryd.underlying45 rfl ?_) | (refine wpList_load_at rfl 56 _ rfl _ rfl _ _ (HP.out.at_ (F := ⟨w, Lt w.heap.size⟩) (by simp) HAT.out (by rw [block_of_add]; exact hab)) Tryd.underlying56 rfl (by kernel_rfl) ?_) | (refine wpList_alloc_hp (o := ⟨some 7, _, _, _, _, _⟩) rfl _ rfl HP.out (.agg #[.int .i64 0, .int .i64 0, .int .i64 0, .int .i64 0, .int .i64 0]) (by kernel_rfl) [_, _, _, _, _] rfl ?_; clear HP; intro g7 w7 HP; replace HP := Lib.hid HP) | (refine wpList_stR0 rfl 56 _ _ rfl HP.out rfl (cs' := [_, _, _, _, _]) rfl rfl (by simp [Value.oneCell']) (by kernel_rfl) ?_; clear HP; intro wst HP; replace HP := Lib.hid HP))
      have qs := (HP.out.alike (F := ⟨w, Lt w.heap.size⟩) (by simp) (aS.add q) (by rw [block_of_add]; exact habs)).trans HCS.out
      by_cases h0 : 0 ≤ y
      · have t5 : decide (y < 0) = false := decide_eq_false (by omega)
        by_cases h15 : 15 ≤ x.op
        · have HAY := Lib.hid (HAC.out.yes HXQ.out (HSU.out.2 h0) h15)
          have HEN := Lib.hid (decide_eq_true h15)
          clear h15
          have HCG := Lib.hid (HP.out.cell (.head _) 0 _ rfl)
          have hcg := HCG.out
          go_upto_region 7 with (first | (go_at_call 27; refine (flowEnds_any _ _).mono ?_; rintro e w9 ⟨rfl, rfl⟩; rw [HEN.out]))
          clear hcg HCG qs
          have hBL := (HP.out.fro ⟨wm3, onlyB B⟩ (.head _) B rfl).1
          obtain ⟨ns, hns⟩ : ∃ ns, nxtS x q = ns := ⟨_, rfl⟩
          have HNB := Lib.hid (show ∀ n ∈ ns, 0 ≤ n ∧ n ≤ f.code.length from fun n hn => by
            rw [← hns, mem_nxtS] at hn
            exact nextZ_in (HXE.out ▸ HOK.out.ins _ (List.getElem_mem hlt)) hlt n hn)
          have hnl := nxtS_le2 x q
          rw [hns] at hnl HAY
          have HNS := Lib.hid hns
          clear hns
          go_upto_region 8 with (first | (refine wpList_ldR0 rfl 47 _ rfl HP.out rfl Tryd.underlying47 rfl (by kernel_rfl) ?_) | (refine wpList_ldR1 rfl 47 _ rfl HP.out rfl Tryd.underlying47 rfl (by kernel_rfl) ?_) | (go_at_call 29; refine (flowNext_any f _ q _ (HP.out.rep (F := ⟨w, Lt w.heap.size⟩) (by simp) HV.out) hlt).mono ?_; rintro e w9 ⟨u9, rfl, hu9, hb9⟩; rw [HXE.out, HNS.out] at hu9; replace HP := Lib.hid (HP.out.call hb9); have HU := Lib.hid hu9; clear hb9 hu9; obtain ⟨A9, c9, rfl, hc9, hm9, -⟩ := rep_ints_at HU.out; unfold maxLen at hm9))
          have hG3 : ∀ F ∈ [(⟨w9, fun b => wst.heap.size ≤ b ∧ b < w9.heap.size⟩ : Fro), ⟨w, Lt w.heap.size⟩], ¬ F.S B := fun F hF hS => by
            rcases List.mem_cons.1 hF with rfl | hF
            · have := hS.1; omega
            · rw [List.mem_singleton.1 hF] at hS; have hS : B < w.heap.size := hS; omega
          obtain ⟨Gn, HP, HU, HG3⟩ : ∃ G : Fro, Hid (Hp w [⟨wm3, onlyB B⟩, G, ⟨w, Lt w.heap.size⟩] [.blk g7 56 [.int .i64 x.op, .int .i64 x.dst, .int .i64 x.a, .int .i64 x.b, .int .i64 x.imm], .blk g2 47 [.int .i64 f.params, .int .i64 f.regs, .slice (some ad) f.code.length c]] w9) ∧ Hid (Lay.rep G.w G.S ns [.slice A9 ns.length c9]) ∧ Hid (∀ F ∈ [G, ⟨w, Lt w.heap.size⟩], ¬ F.S B) := ⟨_, Lib.hid (HP.out.froKeep (by intro F hF; rcases List.mem_cons.1 hF with rfl | hF; exact .tail _ (.head _); rcases List.mem_cons.1 hF with rfl | hF; exact .head _; exact .tail _ (.tail _ hF))), HU, Lib.hid hG3⟩
          clear hG3 hBL
          go_loopw [40] (fun i wr => ∃ (j : Nat) (wm : World), j ≤ ns.length ∧ i = .int .i64 j ∧ Hid (SetIn wm B (acc ++ ns.take j)) ∧ Hid (Hp w [⟨wm, onlyB B⟩, Gn, ⟨w, Lt w.heap.size⟩] [.blk g7 56 [.int .i64 x.op, .int .i64 x.dst, .int .i64 x.a, .int .i64 x.b, .int .i64 x.imm], .blk g2 47 [.int .i64 f.params, .int .i64 f.regs, .slice (some ad) f.code.length c]] wr)) (fun i _ => ns.length - (intOf i).toNat)
          case atStart => exact ⟨0, wm3, by omega, rfl, by rw [List.take_zero, List.append_nil]; exact HS, HP⟩
          case round =>
            clear HP HS
            obtain ⟨j, wm5, hj, rfl, HS, HP⟩ := hrel
            obtain ⟨wo2, rfl⟩ : ∃ wo : World, wo = wr := ⟨_, rfl⟩
            by_cases hjl : j < ns.length
            · have hjl2 : (j : Int) < (ns.length : Int) := by omega
              obtain ⟨A10, c10, e10, -, -, hx10⟩ := rep_ints_at (HP.out.rep (F := Gn) (by simp) HU.out)
              obtain ⟨a10, rfl, -, hcl⟩ := hx10 j hjl
              clear hx10
              obtain rfl : A9 = some a10 := (Value.slice.inj e10).1
              clear e10
              obtain ⟨n, hn⟩ : ∃ n, ns[j] = n := ⟨_, rfl⟩
              have hnb := HNB.out n (hn ▸ List.getElem_mem hjl)
              have HN := Lib.hid (show ns.take (j + 1) = ns.take j ++ [n] by rw [List.take_add_one, List.getElem?_eq_getElem hjl, hn]; rfl)
              rw [hn] at hcl
              clear hn
              have hal : (acc ++ ns.take j).length ≤ 100 := by rw [List.length_append, List.length_take]; omega
              go_wp2_with (first | (at_mapUpdate; refine wpList_setPut rfl _ _ _ rfl HP.out HS.out hB0 HG3.out (by unfold maxLen; omega) rfl n rfl (WalkArith.wf_i64 (by omega)) rfl ?_; clear HP HS; intro wm6 HS HP; replace HP := Lib.hid HP; replace HS := Lib.hid HS))
              go_roundw
              case rel => exact ⟨j + 1, wm6, by omega, by go_num, by rw [HN.out, ← List.append_assoc]; exact HS, HP⟩
              case measure => simp [intOf]; omega
            · obtain rfl : j = ns.length := by omega
              rw [List.take_length] at HS
              go_wp2
              replace HP := Lib.hid ((HP.out.drop (A := [])).froKeep (Fs' := [⟨wm5, onlyB B⟩, ⟨w, Lt w.heap.size⟩]) (by intro F hF; rcases List.mem_cons.1 hF with rfl | hF; exact .head _; exact .tail _ (.tail _ hF)))
              simp only [List.nil_append] at HP
              go_roundw
              case rel => exact ⟨q + 1, wm5, _, by omega, by go_num, HAY, HS, HP⟩
              case measure => simp [intOf]; omega
        · have HAY := Lib.hid (HAC.out.no HXQ.out (fun h => h15 h.2))
          have HEN := Lib.hid (decide_eq_false h15)
          clear h15
          have hcg := HP.out.cell (.head _) 0 _ rfl
          go_wp2_with (first | (go_at_call 27; refine (flowEnds_any _ _).mono ?_; rintro e w9 ⟨rfl, rfl⟩; rw [HEN.out]))
          replace HP := Lib.hid (HP.out.drop (A := []))
          simp only [List.nil_append] at HP
          go_roundw
          case rel => exact ⟨q + 1, wm3, acc, by omega, by go_num, HAY, HS, HP⟩
          case measure => simp [intOf]; omega
      · have t5 : decide (y < 0) = true := decide_eq_true (by omega)
        have HAY := Lib.hid (HAC.out.no HXQ.out (fun h => h0 (HSU.out.1 h.1)))
        go_wp2
        replace HP := Lib.hid (HP.out.drop (A := []))
        simp only [List.nil_append] at HP
        go_roundw
        case rel => exact ⟨q + 1, wm3, acc, by omega, by go_num, HAY, HS, HP⟩
        case measure => simp [intOf]; omega
    · obtain rfl : q = f.code.length := by omega
      replace HP := Lib.hid (HP.out.nil 3 1)
      go_wp2_with (first | (refine wpList_ld0 rfl 45 _ rfl HP.out rfl rfl Tryd.underlying45 rfl ?_) | (refine wpList_ld1 rfl 45 _ rfl HP.out rfl rfl Tryd.underlying45 rfl ?_))
      go_loopw [10, 52] (fun l i wr => ∃ (q : Nat) (lv : Value), q ≤ f.code.length ∧ i = .int .i64 q ∧ lv = l ∧ Hid (Hp w [⟨wm3, onlyB B⟩, ⟨w, Lt w.heap.size⟩] [.row lv 3 1 (hdsTo f q).length ((hdsTo f q).map (Value.int .i64)), .blk g2 47 [.int .i64 f.params, .int .i64 f.regs, .slice A f.code.length c]] wr)) (fun _ i _ => f.code.length - (intOf i).toNat)
      case atStart => exact ⟨0, _, by omega, rfl, rfl, HP⟩
      case round =>
        clear HP
        obtain ⟨q, lv, hq, rfl, rfl, HP⟩ := hrel
        obtain ⟨wo3, rfl⟩ : ∃ wo : World, wo = wr := ⟨_, rfl⟩
        by_cases hlt : q < f.code.length
        · have hlt2 : (q : Int) < (f.code.length : Int) := by omega
          have hwf : (Lit.int .i64 (q : Int)).wf = true := WalkArith.wf_i64 (by omega)
          have hdl := hdsTo_len f q
          obtain ⟨bt, hbt⟩ : ∃ bt, headB f q = bt := ⟨_, rfl⟩
          have HCON := Lib.hid (show acc.contains (q : Int) = bt by rw [← hbt, Bool.eq_iff_iff, List.contains_iff_mem, HAC.out.mem, headQ_all, headB_iff])
          have HSC := Lib.hid (hdsTo_succ f q)
          rw [hbt] at HSC
          clear hbt
          go_upto_region 18 with (first | (at_lookup; refine wpList_setHas rfl _ _ rfl HP.out (.head _) HS.out rfl _ rfl hwf ?_; rw [HCON.out]) | (refine wpList_alloc_hp (o := ⟨some 12, _, _, _, _, _⟩) rfl _ rfl HP.out (.agg #[]) (by kernel_rfl) [] rfl ?_; clear HP; intro g12 w12 HP; replace HP := Lib.hid HP) | (refine wpList_stR0 rfl 84 _ _ rfl HP.out rfl (cs' := []) rfl rfl (by simp) (by kernel_rfl) ?_; clear HP; intro wst9 HP; replace HP := Lib.hid HP))
          cases bt with
          | true =>
            go_wp2_with (first | (refine wpList_ints_hp rfl 27 3 1 _ rfl HP.out Tryd.underlying27 [_] rfl (by kernel_rfl) ?_; clear HP; intro gi wi HP; replace HP := Lib.hid HP) | (at_builtin; refine wpList_apg1 rfl _ _ 27 rfl i_int (.int .i64 0) Tryd.underlying27 hi_int hz_int hs_int rfl (by decide) hy_int ((hdsTo f q).length + 1) rfl HP.out rfl rfl rfl (by simp [Value.oneCell']) (by unfold maxLen; omega) (by omega) (by omega) ?_; clear HP; intro gap cap wap HP; replace HP := Lib.hid HP))
            replace HP := Lib.hid (HP.out.drop (A := []))
            simp only [List.nil_append] at HP
            rw [show (hdsTo f q).map (Value.int .i64) ++ List.map (Value.int .i64) [(q : Int)] = (hdsTo f (q + 1)).map (Value.int .i64) by rw [HSC.out, List.map_append]; rfl] at HP
            have hl1 : (hdsTo f q).length + 1 = (hdsTo f (q + 1)).length := by rw [HSC.out, List.length_append]; rfl
            rw [hl1] at HP ⊢
            go_roundw
            case rel => exact ⟨q + 1, _, by omega, by go_num, rfl, HP⟩
            case measure => simp [intOf]; omega
          | false =>
            go_wp2
            replace HP := Lib.hid (HP.out.drop (A := []))
            simp only [List.nil_append] at HP
            have hsame : hdsTo f (q + 1) = hdsTo f q := by rw [HSC.out]; simp
            go_roundw
            case rel => exact ⟨q + 1, _, by omega, by go_num, rfl, by rw [hsame]; exact HP⟩
            case measure => simp [intOf]; omega
        · obtain rfl : q = f.code.length := by omega
          go_wp2
          (try simp only [Exit.inBlock, Exit.then])
          refine bodyPost_ret (results_tmp (by rfl) _ _ _) (by rfl) ?_
          exact ⟨_, rfl, HP.out.rowInts (.head _) rfl, HP.out.below⟩
end Go.Proofs.YtceilfmfidmfpaaDoor
