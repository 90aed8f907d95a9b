/- ref.EndsBlock, ref.beginsBlock. -/
import Derived.Test.YtnabeibnaoahmaaDoorHeads
import Derived.Test.YtnabeibnaoahmaaDoorMgBehindWayTo2
import Derived.Test.YtnabeibnaoahmaaDoorMgCodeACodeB2
set_option linter.unusedSimpArgs false
set_option linter.unusedVariables false
namespace Go.Proofs.YtnabeibnaoahmaaDoor
open Go.RowKit Plain64
attribute [local irreducible] wpList Code.wp Oper.wp
theorem EndsBlock_any (op : Int) (w : World) : Calls Tryd.prog 40 #[.int .i64 op] w fun e w' => e = .returned (.bool (decide (15 ≤ op) && decide (op ≤ 19))) ∧ w = w' := by
  go_enter Tryd.func40, Tryd.ntmps40
  go_wp2_with (go_at_call 46; refine (In_any _ _ _ _).mono ?_; rintro e w2 ⟨rfl, rfl⟩)
  go_ret
  exact ⟨rfl, rfl⟩
theorem okI_op {f : Fun} {funcs : Nat} (ok : OkF f funcs) {q : Nat} {x : Ins} (hx : f.code[q]? = some x) : x.op ≤ 19 := (ok.ins x (List.mem_of_getElem? hx)).op.2
set_option maxRecDepth 100000 in
set_option maxHeartbeats 4000000 in
theorem beginsBlock_any (f : Fun) (funcs : Nat) (ok : OkF f funcs) (v su : Value) (pc : Nat) (w : World) (hv : Lay.rep w (Lt w.heap.size) f.code [v]) (hs : Lay.rep w (Lt w.heap.size) (sureL f) [su]) :
    Calls Tryd.prog 39 #[.agg #[.int .i64 f.params, .int .i64 f.regs, v], su, .int .i64 pc] w fun e w' => e = .returned (.bool (headB f pc)) ∧ Below w.heap.size w w' := by
  obtain ⟨A, c, rfl, hc, hm, hx⟩ := rep_code_at hv
  obtain ⟨AS, cS, rfl, hcS, hmS, hxS⟩ := rep_ints_at hs
  unfold maxLen at hm hmS
  have hln : f.code.length ≤ 40 := ok.len.2
  have hsl := sureL_len f
  have HV := Lib.hid hv
  have HX := Lib.hid hx
  have HXS := Lib.hid hxS
  have HOK := Lib.hid ok
  clear hv hs hx hxS ok
  have HP := Lib.hid (Hp.start w)
  by_cases hp0 : pc = 0
  · subst hp0
    have HB := Lib.hid (show headB f 0 = true from headB_iff.2 (.inl rfl))
    go_enter Tryd.func39, Tryd.ntmps39
    go_wp2_with (first | (refine wpList_box_hp (o := ⟨some 3, _, _, _, _, _⟩) rfl _ _ rfl HP.out [_, _, _] rfl ?_; clear HP; intro g3 w3 HP; replace HP := Lib.hid HP))
    go_ret
    exact ⟨by rw [HB.out]; rfl, HP.out.below⟩
  · have hpb : ((pc : Int) == 0) = false := by simp; omega
    have hpb2 : (pc == 0) = false := by simpa using hp0
    go_enter Tryd.func39, Tryd.ntmps39
    go_wp2_with (first | (refine wpList_box_hp (o := ⟨some 3, _, _, _, _, _⟩) rfl _ _ rfl HP.out [_, _, _] rfl ?_; clear HP; intro g3 w3 HP; replace HP := Lib.hid HP))
    go_loopw [7] (fun i wr => ∃ (q : Nat) (Gs : List Fro), q ≤ f.code.length ∧ i = .int .i64 q ∧ Hid (¬ HeadQ f q pc) ∧ Hid (⟨w, Lt w.heap.size⟩ ∈ Gs) ∧ Hid (Hp w Gs [.blk g3 57 [.int .i64 f.params, .int .i64 f.regs, .slice A f.code.length c]] wr)) (fun i _ => f.code.length - (intOf i).toNat)
    case atStart => exact ⟨0, _, by omega, rfl, Lib.hid (fun h => by rcases h with h | ⟨i, x, hi, _⟩ <;> omega), Lib.hid (.head _), HP⟩
    case round =>
      clear HP
      obtain ⟨q, Gs, hq, rfl, HN, HGS, HP⟩ := hrel
      replace HP := Lib.hid (HP.out.froKeep (Fs' := [⟨w, Lt w.heap.size⟩]) (fun F hF => List.mem_singleton.1 hF ▸ HGS.out))
      obtain ⟨wo, rfl⟩ : ∃ wo : World, wo = wr := ⟨_, rfl⟩
      by_cases hlt : q < f.code.length
      · have hlt2 : (q : Int) < (f.code.length : Int) := by omega
        obtain ⟨ad, rfl, hab, hat⟩ := HX.out q hlt
        obtain ⟨aS, rfl, habs, hcs⟩ := HXS.out q (by omega)
        obtain ⟨x, hxq⟩ : ∃ x, f.code[q] = x := ⟨_, rfl⟩
        rw [hxq] at hat
        have hxq2 : f.code[q]? = some x := by rw [List.getElem?_eq_getElem hlt, hxq]
        obtain ⟨y, hy⟩ : ∃ y, (sureL f)[q] = y := ⟨_, rfl⟩
        rw [hy] at hcs
        have hsu : SureAt f q ↔ 0 ≤ y := by unfold SureAt; rw [List.getD_eq_getElem?_getD, List.getElem?_eq_getElem (by omega), hy]; rfl
        have HXQ := Lib.hid hxq2
        have HXE := Lib.hid hxq
        have HSU := Lib.hid hsu
        have hop19 := okI_op HOK.out hxq2
        have qs := (HP.out.alike (F := ⟨w, Lt w.heap.size⟩) (by simp) (aS.add q) (by rw [block_of_add]; exact habs)).trans hcs
        have qop := At.fld0 (HP.out.at_ (F := ⟨w, Lt w.heap.size⟩) (by simp) hat (by rw [block_of_add]; exact hab)) rfl
        have qcd := HP.out.cell (.head _) 2 _ rfl
        clear hxq hxq2 hat hcs hy hsu habs hab
        by_cases h0 : 0 ≤ y
        · have t5 : decide (y < 0) = false := decide_eq_false (by omega)
          by_cases h15 : 15 ≤ x.op
          · have HEN := Lib.hid (show (decide (15 ≤ x.op) && decide (x.op ≤ 19)) = true by rw [decide_eq_true h15, decide_eq_true hop19]; rfl)
            have HQY := Lib.hid (headQ_yes HXQ.out (HSU.out.2 h0) h15 (pc : Int))
            clear h15
            go_upto_region 7 with (first | (go_at_call 40; refine (EndsBlock_any _ _).mono ?_; rintro e w9 ⟨rfl, rfl⟩; rw [HEN.out]))
            clear qs qop qcd
            obtain ⟨ns, hns⟩ : ∃ ns, nextZ x q = ns := ⟨_, rfl⟩
            have HNS := Lib.hid hns
            rw [hns] at HQY
            clear hns
            go_upto_region 8 with (first | (refine wpList_ldR0 rfl 57 _ rfl HP.out rfl Tryd.underlying57 rfl (by kernel_rfl) ?_) | (go_at_call 34; refine (Behind_any f _ q _ (HP.out.rep (F := ⟨w, Lt w.heap.size⟩) (by simp) HV.out) hlt).mono ?_; rintro e w9 ⟨u9, rfl, hu9, hb9⟩; rw [HXE.out, HNS.out] at hu9; replace HP := Lib.hid (HP.out.call hb9); have HU := Lib.hid hu9; clear hb9 hu9; obtain ⟨A9, c9, rfl, hc9, hm9, -⟩ := rep_ints_at HU.out; unfold maxLen at hm9))
            obtain ⟨Gn, HP, HU⟩ : ∃ G : Fro, Hid (Hp w [G, ⟨w, Lt w.heap.size⟩] [.blk g3 57 [.int .i64 f.params, .int .i64 f.regs, .slice (some ad) f.code.length c]] w9) ∧ Hid (Lay.rep G.w G.S ns [.slice A9 ns.length c9]) := ⟨_, HP, HU⟩
            go_wp2
            go_loopw [9] (fun i wr => ∃ j : Nat, j ≤ ns.length ∧ i = .int .i64 j ∧ Hid ((pc : Int) ∉ ns.take j) ∧ Hid (Hp w [Gn, ⟨w, Lt w.heap.size⟩] [.blk g3 57 [.int .i64 f.params, .int .i64 f.regs, .slice (some ad) f.code.length c]] wr)) (fun i _ => ns.length - (intOf i).toNat)
            case atStart => exact ⟨0, by omega, rfl, Lib.hid (by simp), HP⟩
            case round =>
              clear HP
              obtain ⟨j, hj, rfl, HNJ, HP⟩ := hrel
              obtain ⟨wo2, rfl⟩ : ∃ wo : World, wo = wr := ⟨_, rfl⟩
              by_cases hjl : j < ns.length
              · have hjl2 : (j : Int) < (ns.length : Int) := by omega
                obtain ⟨A10, c10, e10, -, -, hx10⟩ := rep_ints_at (HP.out.rep (F := Gn) (by simp) HU.out)
                obtain ⟨a9, rfl, -, hcl⟩ := hx10 j hjl
                clear hx10
                obtain rfl : A9 = some a9 := (Value.slice.inj e10).1
                clear e10
                obtain ⟨n, hn⟩ : ∃ n, ns[j] = n := ⟨_, rfl⟩
                rw [hn] at hcl
                have HNE := Lib.hid hn
                clear hn
                by_cases hnp : n = (pc : Int)
                · have hb : (n == (pc : Int)) = true := by simpa using hnp
                  have HB := Lib.hid (show headB f pc = true from headB_iff.2 (headQ_all.1 (by
                    have h1 : HeadQ f (q + 1) (pc : Int) := HQY.out.2 (.inr (by rw [← hnp, ← HNE.out]; exact List.getElem_mem hjl))
                    rcases h1 with h1 | ⟨i, z, hi, r⟩
                    · exact .inl h1
                    · exact .inr ⟨i, z, by omega, r⟩)))
                  clear hnp
                  go_wp2
                  go_ret
                  exact ⟨by rw [HB.out]; rfl, HP.out.below⟩
                · have hb : (n == (pc : Int)) = false := by simpa using hnp
                  have HM := Lib.hid (show (pc : Int) ∉ ns.take (j + 1) by
                    rw [List.take_add_one, List.getElem?_eq_getElem hjl, HNE.out]
                    intro h
                    rcases List.mem_append.1 h with h | h
                    · exact HNJ.out h
                    · simp at h; exact hnp h.symm)
                  clear hnp
                  go_wp2
                  go_roundw
                  case rel => exact ⟨j + 1, by omega, by go_num, HM, HP⟩
                  case measure => simp [intOf]; omega
              · obtain rfl : j = ns.length := by omega
                have HM := Lib.hid (show ¬ HeadQ f (q + 1) (pc : Int) by
                  intro h
                  rcases HQY.out.1 h with h | h
                  · exact HN.out h
                  · have h2 := HNJ.out; rw [List.take_length] at h2; exact h2 h)
                go_wp2
                go_roundw
                case rel => exact ⟨q + 1, _, by omega, by go_num, HM, Lib.hid (.tail _ (.head _)), HP⟩
                case measure => simp [intOf]; omega
          · have HEN := Lib.hid (show (decide (15 ≤ x.op) && decide (x.op ≤ 19)) = false by rw [decide_eq_false h15]; rfl)
            have HM := Lib.hid (show ¬ HeadQ f (q + 1) (pc : Int) from fun h => HN.out ((headQ_no HXQ.out (fun h => h15 h.2) (pc : Int)).1 h))
            clear h15
            go_wp2_with (first | (go_at_call 40; refine (EndsBlock_any _ _).mono ?_; rintro e w9 ⟨rfl, rfl⟩; rw [HEN.out]))
            go_roundw
            case rel => exact ⟨q + 1, _, by omega, by go_num, HM, Lib.hid (.head _), HP⟩
            case measure => simp [intOf]; omega
        · have t5 : decide (y < 0) = true := decide_eq_true (by omega)
          have HM := Lib.hid (show ¬ HeadQ f (q + 1) (pc : Int) from fun h => HN.out ((headQ_no HXQ.out (fun h => h0 (HSU.out.1 h.1)) (pc : Int)).1 h))
          go_wp2
          go_roundw
          case rel => exact ⟨q + 1, _, by omega, by go_num, HM, Lib.hid (.head _), HP⟩
          case measure => simp [intOf]; omega
      · obtain rfl : q = f.code.length := by omega
        have HB := Lib.hid (show headB f pc = false from by
          cases h : headB f pc with
          | false => rfl
          | true => exact absurd (headQ_all.2 (headB_iff.1 h)) HN.out)
        have qcd := HP.out.cell (.head _) 2 _ rfl
        go_wp2
        go_ret
        exact ⟨by rw [HB.out]; rfl, HP.out.below⟩
end Go.Proofs.YtnabeibnaoahmaaDoor
