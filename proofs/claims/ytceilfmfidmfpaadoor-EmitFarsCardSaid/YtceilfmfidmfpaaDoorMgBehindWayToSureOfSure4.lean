/- ref.Behind; truths in memory. ref.wayTo. ref.sureOf. proof.sure. -/
import Derived.Test.YtceilfmfidmfpaaDoorMgReadsWaySureLawSureRunProvenLawStateLawLiveLawBlkLawDomLawDo11
import Derived.Test.YtceilfmfidmfpaaDoorMgCodeACodeBCodeC3
import Derived.Deep.LoopGhost
import Derived.Test.YtceilfmfidmfpaaDoorMgHpOpsHpRowHpB3
import Derived.Test.YtceilfmfidmfpaaDoorMgReadsOfStateNextLawBegLawNextAnsRunLawRunLawBBegRun8
import Derived.Test.YtceilfmfidmfpaaDoorMgProfLawBlkMemReadsHReadsKTidyLaw5
set_option linter.unusedSimpArgs false
set_option linter.unusedVariables false
namespace Go.Proofs.YtceilfmfidmfpaaDoor
open Go.RowKit
attribute [local irreducible] wpList Code.wp Oper.wp
theorem rep_code2 {f : List Ins} {u : Value} {w : World} {S : Nat → Prop} (h : Lay.rep w S f [u]) : ∃ (A : Option Addr) (c : Nat), u = .slice A f.length c ∧ f.length ≤ c ∧ c ≤ maxLen ∧
    ∀ (k : Nat) (hk : k < f.length), ∃ (a : Addr), A = some a ∧ S a.block ∧ At w (a.add (k * 5)) [.int .i64 f[k].op, .int .i64 f[k].dst, .int .i64 f[k].a, .int .i64 f[k].b, .int .i64 f[k].imm] := rep_code_at h
set_option maxRecDepth 10000 in
set_option maxHeartbeats 400000 in
theorem Behind_any (f : Fun) (v : Value) (pc : Nat) (w : World) (hv : Lay.rep w (Lt w.heap.size) f.code [v]) (hpc : pc < f.code.length) :
    Calls Tryd.prog 38 #[.agg #[.int .i64 f.params, .int .i64 f.regs, v], .int .i64 pc] w fun e w' => ∃ u, e = .returned u ∧ Lay.rep w' (Fresh w w') (nextZ f.code[pc] pc) [u] ∧ Below w.heap.size w w' := by
  obtain ⟨A, c, rfl, hc, hm, hx⟩ := rep_code_at hv
  unfold maxLen at hm
  obtain ⟨a, rfl, hab, hat⟩ := hx pc hpc
  have HAT := Lib.hid hat
  clear hx hat
  have HP := Lib.hid (Hp.start w)
  go_enter Tryd.func38, Tryd.ntmps38
  go_wp2_with (first | (refine wpList_box_hp (o := ⟨some 2, _, _, _, _, _⟩) rfl _ _ rfl HP.out [_, _, _] rfl ?_; clear HP; intro g2 w2 HP; replace HP := Lib.hid HP) | (refine wpList_alloc_hp (o := ⟨some 5, _, _, _, _, _⟩) rfl _ rfl HP.out (.agg #[.int .i64 0, .int .i64 0, .int .i64 0, .int .i64 0, .int .i64 0]) (by kernel_rfl) [_, _, _, _, _] rfl ?_; clear HP; intro g5 w5 HP; replace HP := Lib.hid HP) | (refine wpList_ld0 rfl 45 _ rfl HP.out rfl rfl Tryd.underlying45 rfl ?_) | (refine wpList_ld0 rfl 3 _ rfl HP.out rfl rfl Tryd.underlying3 rfl ?_) | (refine wpList_load_at rfl 56 _ rfl _ rfl _ _ (HP.out.at_ (F := ⟨w, Lt w.heap.size⟩) (by simp) HAT.out (by rw [block_of_add]; exact hab)) Tryd.underlying56 rfl (by kernel_rfl) ?_) | (refine wpList_stR0 rfl 56 _ _ rfl HP.out rfl (cs' := [_, _, _, _, _]) rfl rfl (by simp [Value.oneCell']) (by kernel_rfl) ?_; clear HP; intro wst HP; replace HP := Lib.hid HP) | (refine wpList_ints_hp rfl 27 3 1 _ rfl HP.out Tryd.underlying27 [_] rfl (by kernel_rfl) ?_; clear HP; intro gi wi HP; replace HP := Lib.hid HP) | (refine wpList_ints_hp rfl 27 3 2 _ rfl HP.out Tryd.underlying27 [_, _] rfl (by kernel_rfl) ?_; clear HP; intro gi wi HP; replace HP := Lib.hid HP))
  all_goals
    go_ret
    refine ⟨_, rfl, ?_, HP.out.below⟩
    simp only [beq_iff_eq, beq_eq_false_iff_ne, ne_eq] at *
    unfold nextZ
    simp only [*, if_true, if_false]
    first | exact rep_ints_nil | exact HP.out.ints (.head _) rfl rfl (by unfold maxLen; decide)
theorem rep_bool_block {w : World} {B : Nat → Prop} {g cap : Nat} {t : TypeId} {fr : Nat × Nat} {xs : List Bool} (hg : w.heap[g]? = some (.cells (xs.map Value.bool).toArray t fr)) (hB : B g) (hc : xs.length ≤ cap) (hm : cap ≤ maxLen) :
    Lay.rep w B xs [.slice (some ⟨g, 0, none⟩) xs.length cap] := by
  refine ⟨_, _, rfl, hc, hm, fun k x hx => ⟨⟨g, 0, none⟩, [.bool x], rfl, hB, fun j v hv => ?_, rfl⟩⟩
  have hj : j = 0 := by have := (List.getElem?_eq_some_iff.1 hv).1; simpa using this
  subst hj
  simp at hv
  subst hv
  rw [add_of_add, Addr.add_lit, cell_of_row _ _ _ _ _ _ hg]
  show ((xs.map Value.bool).toArray)[0 + (k * 1 + 0)]? = _
  rw [Nat.mul_one, Nat.add_zero, Nat.zero_add]
  simp [hx]
theorem Hp.bools {w0 w : World} {Fs : List Fro} {L : List Res} {g : Nat} {t : TypeId} {cs : List Value} {n : Nat} {xs : List Bool} (h : Hp w0 Fs L w) (hm : Res.blk g t cs ∈ L) (hx : cs = xs.map Value.bool) (hn : n = xs.length) (hl : n ≤ maxLen) :
    Lay.rep w (Fresh w0 w) xs [.slice (some ⟨g, 0, none⟩) n n] := by
  subst hx hn
  exact rep_bool_block (h.blk hm) ⟨((h.own _ hm).2 g rfl).1, ((h.own _ hm).2 g rfl).2.1⟩ (Nat.le_refl _) hl
/-- A slice of truths. -/
theorem rep_bools_at {w : World} {B : Nat → Prop} {xs : List Bool} {v : Value} (h : Lay.rep w B xs [v]) : ∃ (A : Option Addr) (c : Nat), v = .slice A xs.length c ∧ xs.length ≤ c ∧ c ≤ maxLen ∧
    ∀ (k : Nat) (hk : k < xs.length), ∃ (a : Addr), A = some a ∧ B a.block ∧ w.cell? (a.add k) = some (.bool xs[k]) := by
  obtain ⟨A, c, e, h1, h2, h3⟩ := rep_list h
  injection e with e
  refine ⟨A, c, e, h1, h2, fun k hk => ?_⟩
  obtain ⟨a, ds, ha, hb, hat, hr⟩ := h3 k hk
  rw [rep_bool] at hr
  subst hr
  refine ⟨a, ha, hb, ?_⟩
  have := hat.cell 0 rfl
  rwa [add_of_add, show k * Lay.size Bool + 0 = k from Nat.mul_one k] at this
theorem info_bool : (Tryd.prog.info? 4).map (fun i => (i.zero, i.size, i.bytes)) = some (some (.bool false), 1, 1) := by kernel_rfl
end Go.Proofs.YtceilfmfidmfpaaDoor
namespace Go.Proofs.YtceilfmfidmfpaaDoor
open Go.RowKit
attribute [local irreducible] wpList Code.wp Oper.wp
theorem or_false2 {a b : Bool} (h : (!a || b) = false) : a = true ∧ b = false := by cases a <;> cases b <;> simp_all
set_option maxRecDepth 10000 in
set_option maxHeartbeats 4000000 in
theorem wayTo_any (f : Fun) (funcs : Nat) (v : Value) (r : Int) (w : World) (hv : Lay.rep w (Lt w.heap.size) f.code [v]) (ok : OkF f funcs) (hr : -1 ≤ r ∧ r ≤ 11) :
    Calls Tryd.prog 57 #[.agg #[.int .i64 f.params, .int .i64 f.regs, v], .int .i64 r] w fun e w' => ∃ u, e = .returned u ∧ Lay.rep w' (Fresh w w') (wayL f r) [u] ∧ Below w.heap.size w w' := by
  obtain ⟨A, c, rfl, hc, hm, hx⟩ := rep_code2 hv
  unfold maxLen at hm
  have HX := Lib.hid hx
  have HV := Lib.hid hv
  have HOK := Lib.hid ok
  obtain ⟨l1, l2⟩ := ok.len
  obtain ⟨r1, r2⟩ := hr
  obtain ⟨p1, p2, p3⟩ := ok.params
  clear hx hv ok
  obtain ⟨i_bool, hi_bool, hz_bool, hs_bool, hy_bool⟩ := info_parts info_bool
  have HP := Lib.hid (Hp.start w)
  go_enter Tryd.func57, Tryd.ntmps57
  go_upto_region 2 with (first | (refine wpList_box_hp (o := ⟨some 2, _, _, _, _, _⟩) rfl _ _ rfl HP.out [_, _, _] rfl ?_; clear HP; intro g2 w2 HP; replace HP := Lib.hid HP) | (refine wpList_ld0 rfl 45 _ rfl HP.out rfl rfl Tryd.underlying45 rfl ?_) | (refine wpList_make_hp (o := ⟨some 15, _, _, _, _, _⟩) rfl _ _ _ rfl _ i_bool (.bool false) Tryd.underlying94 hi_bool hz_bool rfl hs_bool (f.code.length + 1) rfl rfl (by rw [hy_bool]; omega) (by unfold maxLen; omega) HP.out ?_; clear HP; intro g15 w15 HP; replace HP := Lib.hid HP))
  by_cases hpr : 0 ≤ r ∧ r < f.params
  · obtain ⟨q1, q2⟩ := hpr
    have HN := Lib.hid (wayL_none (f := f) (r := r) ⟨q1, q2⟩)
    go_wp2_with (first | (refine wpList_ld0 rfl 3 _ rfl HP.out rfl rfl Tryd.underlying3 rfl ?_) | (refine wpList_ld1 rfl 3 _ rfl HP.out rfl rfl Tryd.underlying3 rfl ?_))
    go_ret
    exact ⟨_, rfl, HP.out.bools (.head _) (by rw [← HN.out, List.map_replicate]) (by rw [wayL_len]) (by unfold maxLen; omega), HP.out.below⟩
  · have HNP := Lib.hid hpr
    rw [← List.map_replicate] at HP
    have hcase : (f.params ≤ r) ∨ r < 0 := by omega
    go_cut [23] (fun v wx => v = .bool false ∧ Hid (Hp w [{ w := w, S := Lt w.heap.size }] [Res.blk g15 4 (List.map Value.bool (List.replicate (f.code.length + 1) false)), Res.blk g2 47 [Value.int IntKind.i64 f.params, Value.int IntKind.i64 f.regs, Value.slice A f.code.length c]] wx))
    case first =>
      rcases hcase with hcase | hcase
      · go_wp2_with (first | (refine wpList_ld0 rfl 3 _ rfl HP.out rfl rfl Tryd.underlying3 rfl ?_) | (refine wpList_ld1 rfl 3 _ rfl HP.out rfl rfl Tryd.underlying3 rfl ?_))
        go_meet
        exact ⟨rfl, HP⟩
      · have hlt : r < f.params := by omega
        go_wp2_with (first | (refine wpList_ld0 rfl 3 _ rfl HP.out rfl rfl Tryd.underlying3 rfl ?_) | (refine wpList_ld1 rfl 3 _ rfl HP.out rfl rfl Tryd.underlying3 rfl ?_))
        go_meet
        refine ⟨?_, HP⟩
        congr 1
        simp; omega
    case rest =>
      clear HP hcase
      obtain ⟨rfl, HP⟩ := hcut
      go_upto_region 5 with (first | (refine wpList_st0 rfl 4 _ _ rfl HP.out rfl rfl (by simp) rfl (List.map_set ..).symm (by kernel_rfl) ?_; clear HP; intro wst HP; replace HP := Lib.hid HP))
      obtain ⟨bs0, hbs0⟩ : ∃ bs0, (List.replicate (f.code.length + 1) false).set 0 true = bs0 := ⟨_, rfl⟩
      rw [hbs0] at HP
      have hb0 : bs0.length = f.code.length + 1 := by rw [← hbs0]; simp
      have hb1 : bs0[0]? = some true := by rw [← hbs0]; simp
      have hb2 : Sound f r bs0 := fun pc hp => by
        rw [← hbs0] at hp
        by_cases e : pc = 0
        · subst e; exact .start HNP.out
        · rw [List.getElem?_set_ne (Ne.symm e)] at hp
          have := List.getElem?_eq_some_iff.1 hp
          obtain ⟨h1, h2⟩ := this
          simp at h2
      have HB1 := Lib.hid hb1
      have HB2 := Lib.hid hb2
      have HLN := Lib.hid hb0
      clear hbs0 hb1 hb2 hb0
      go_wp2
      go_loopg [6] (2 * bs0.count false + 1) (fun k v wr => ∃ (b : Bool) (bs : List Bool), v = .bool b ∧ Hid (bs.length = f.code.length + 1 ∧ Sound f r bs ∧ bs[0]? = some true ∧ (b = false → ∀ pc, pc < f.code.length → ClosedAt f r bs pc) ∧ k = 2 * bs.count false + b.toNat) ∧ Hid (Hp w [{ w := w, S := Lt w.heap.size }] [Res.blk g15 4 (List.map Value.bool bs), Res.blk g2 47 [Value.int IntKind.i64 f.params, Value.int IntKind.i64 f.regs, Value.slice A f.code.length c]] wr))
      case atStart => exact ⟨true, bs0, rfl, Lib.hid ⟨HLN.out, HB2.out, HB1.out, fun e => (by cases e), rfl⟩, HP⟩
      case round =>
        clear HP HB1 HB2 HLN
        obtain ⟨b, bs, rfl, HB, HP⟩ := hrel
        obtain ⟨wo, rfl⟩ : ∃ wo : World, wo = wr := ⟨_, rfl⟩
        cases b
        · have hw : bs = wayL f r := way_closed HOK.out HB.out.1 (fun _ => HB.out.2.2.1) HB.out.2.1 (HB.out.2.2.2.1 rfl)
          have HW := Lib.hid hw
          clear hw
          go_wp2
          go_ret
          exact ⟨_, rfl, HP.out.bools (.head _) (by rw [HW.out]) (by rw [wayL_len]) (by unfold maxLen; omega), HP.out.below⟩
        · go_wp2
          go_hide hQ
          go_loopw [6, 7] (fun v i wr => ∃ (b' : Bool) (bs' : List Bool) (pc : Nat), pc ≤ f.code.length ∧ v = .bool b' ∧ i = .int .i64 pc ∧ Hid (Rnd f r bs bs' b') ∧ Hid (b' = false → ∀ q, q < pc → ClosedAt f r bs' q) ∧ Hid (Hp w [{ w := w, S := Lt w.heap.size }] [Res.blk g15 4 (List.map Value.bool bs'), Res.blk g2 47 [Value.int IntKind.i64 f.params, Value.int IntKind.i64 f.regs, Value.slice A f.code.length c]] wr)) (fun _ i _ => f.code.length - (intOf i).toNat)
          case atStart => exact ⟨false, bs, 0, by omega, rfl, rfl, Lib.hid ⟨HB.out.1, HB.out.2.1, fun _ => HB.out.2.2.1, fun _ => rfl, fun e => (by cases e)⟩, Lib.hid (fun _ q hq => by omega), HP⟩
          case round =>
            clear HP
            obtain ⟨b', bs', pc, hpc, rfl, rfl, HR, HC, HP⟩ := hrel
            obtain ⟨wi, rfl⟩ : ∃ wi : World, wi = wr := ⟨_, rfl⟩
            by_cases hlt : pc < f.code.length
            · obtain ⟨a, rfl, hab, hat⟩ := HX.out pc hlt
              obtain ⟨x, hx⟩ : ∃ x, f.code[pc] = x := ⟨_, rfl⟩
              rw [hx] at hat
              have hxs : f.code[pc]? = some x := by rw [← hx, List.getElem?_eq_getElem hlt]
              have HXX := Lib.hid hx
              have HXS := Lib.hid hxs
              have HOI := Lib.hid (HOK.out.ins x (hx ▸ List.getElem_mem hlt))
              have HAT := Lib.hid hat
              clear hx hxs hat
              have hlt2 : (pc : Int) < (f.code.length : Int) := by omega
              go_upto_region 12 with (first | (refine wpList_ld0 rfl 45 _ rfl HP.out rfl rfl Tryd.underlying45 rfl ?_) | (refine wpList_ld1 rfl 45 _ rfl HP.out rfl rfl Tryd.underlying45 rfl ?_) | (refine wpList_alloc_hp (o := ⟨some 8, _, _, _, _, _⟩) rfl _ rfl HP.out (.agg #[.int .i64 0, .int .i64 0, .int .i64 0, .int .i64 0, .int .i64 0]) (by kernel_rfl) [_, _, _, _, _] rfl ?_; clear HP; intro g8 w8 HP; replace HP := Lib.hid HP) | (refine wpList_load_at rfl 56 _ rfl _ rfl _ _ (HP.out.at_ (F := ⟨w, Lt w.heap.size⟩) (by simp) HAT.out (by rw [block_of_add]; exact hab)) Tryd.underlying56 rfl (by kernel_rfl) ?_) | (refine wpList_stR0 rfl 56 _ _ rfl HP.out rfl (cs' := [_, _, _, _, _]) rfl rfl (by simp [Value.oneCell']) (by kernel_rfl) ?_; clear HP; intro wst HP; replace HP := Lib.hid HP))
              obtain ⟨b0, hb0⟩ : ∃ b0, bs'[pc]? = some b0 := ⟨_, List.getElem?_eq_getElem (by rw [HR.out.len]; omega)⟩
              have HB0 := Lib.hid hb0
              have hsb := HP.out.cell (.tail _ (.head _)) pc (.bool b0) (by rw [List.getElem?_map, hb0]; rfl)
              have hop := HP.out.cell (.head _) 0 _ rfl
              have hdst := HP.out.cell (.head _) 1 _ rfl
              clear hb0
              (try simp only [Act.put, List.setIfInBounds_toArray, List.set_cons_zero, List.set_cons_succ])
              obtain ⟨kb, hkb⟩ : ∃ kb, Kill r x = kb := ⟨_, rfl⟩
              go_cut [59] (fun v wx => v = .bool (!b0 || kb) ∧ Hid (Hp w [{ w := w, S := Lt w.heap.size }] [Res.blk g8 56 [Value.int IntKind.i64 x.op, Value.int IntKind.i64 x.dst, Value.int IntKind.i64 x.a, Value.int IntKind.i64 x.b, Value.int IntKind.i64 x.imm], Res.blk g15 4 (List.map Value.bool bs'), Res.blk g2 47 [Value.int IntKind.i64 f.params, Value.int IntKind.i64 f.regs, Value.slice (some a) f.code.length c]] wx))
              case first =>
                unfold Kill at hkb
                cases b0
                · clear hkb
                  go_wp2_with fail
                  go_meet
                  exact ⟨rfl, HP⟩
                · by_cases h0 : 0 ≤ r
                  · have h0b : decide (0 ≤ r) = true := by simpa using h0
                    obtain ⟨sb, hsbb⟩ : ∃ sb, setsZ x.op = sb := ⟨_, rfl⟩
                    rw [hsbb] at hkb
                    have HSB := Lib.hid hsbb
                    clear hsbb
                    cases sb
                    · have HKB := Lib.hid hkb
                      clear hkb
                      go_wp2_with (go_at_call 72; refine (Sets_any _ _).mono ?_; rintro e w' ⟨rfl, rfl⟩; rw [HSB.out])
                      go_meet
                      refine ⟨?_, HP⟩
                      rw [← HKB.out]; simp
                    · have HKB := Lib.hid hkb
                      clear hkb
                      go_wp2_with (go_at_call 72; refine (Sets_any _ _).mono ?_; rintro e w' ⟨rfl, rfl⟩; rw [HSB.out])
                      go_meet
                      refine ⟨?_, HP⟩
                      rw [← HKB.out]
                      congr 1
                      rw [Bool.eq_iff_iff]
                      simp [h0]
                  · have h0b : decide (0 ≤ r) = false := by simpa using h0
                    have HKB := Lib.hid hkb
                    clear hkb h0
                    go_wp2_with fail
                    go_meet
                    refine ⟨?_, HP⟩
                    rw [← HKB.out, h0b]; simp
              case rest =>
                obtain ⟨rfl, HP⟩ := hcut
                have HKB := Lib.hid hkb
                clear hkb hsb hop hdst
                obtain ⟨sk, hsk⟩ : ∃ sk, (!b0 || kb) = sk := ⟨_, rfl⟩
                rw [hsk]
                have HSK := Lib.hid hsk
                clear hsk
                cases sk
                · have hb0 : b0 = true ∧ kb = false := or_false2 HSK.out
                  obtain ⟨rfl, rfl⟩ := hb0
                  have hin := nextZ_in HOI.out hlt
                  have HIN := Lib.hid hin
                  clear hin
                  go_upto_region 15 with (first | (refine wpList_ldR0 rfl 47 _ rfl HP.out rfl Tryd.underlying47 rfl (by kernel_rfl) ?_) | (refine wpList_ldR1 rfl 47 _ rfl HP.out rfl Tryd.underlying47 rfl (by kernel_rfl) ?_) | (refine wpList_ldR2 rfl 47 _ rfl HP.out rfl Tryd.underlying47 rfl (by kernel_rfl) ?_) | (go_at_call 38; refine (Behind_any f _ pc _ (HP.out.rep (F := ⟨w, Lt w.heap.size⟩) (by simp) HV.out) hlt).mono ?_; rintro e w6 ⟨u6, rfl, hu6, hb6⟩; replace HP := Lib.hid (HP.out.call hb6); rw [HXX.out] at hu6; obtain ⟨A6, c6, rfl, hc6, hm6, hx6⟩ := rep_ints_at hu6; unfold maxLen at hm6; have HX6 := Lib.hid hx6; clear hu6 hx6 hb6))
                  obtain ⟨l, hl⟩ : ∃ l, nextZ x pc = l := ⟨_, rfl⟩
                  have hl2 := nextZ_len x pc
                  rw [hl] at HIN HX6 hc6 hl2
                  simp only [hl]
                  have HL := Lib.hid hl
                  clear hl
                  (try simp only [Act.put, List.setIfInBounds_toArray, List.set_cons_zero, List.set_cons_succ])
                  go_hide hQ2
                  go_loopw [6, 10] (fun v i wr => ∃ (b2 : Bool) (bs2 : List Bool) (j : Nat), j ≤ l.length ∧ v = .bool b2 ∧ i = .int .i64 j ∧ Hid (Rnd f r bs bs2 b2) ∧ Hid (b2 = false → ∀ q, q < pc → ClosedAt f r bs2 q) ∧ Hid (bs2[pc]? = some true) ∧ Hid (∀ i' n, i' < j → l[i']? = some n → bs2[n.toNat]? = some true) ∧ Hid (Hp w [{ w := w6, S := Fresh wc w6 }, { w := w, S := Lt w.heap.size }] [Res.blk g8 56 [Value.int IntKind.i64 x.op, Value.int IntKind.i64 x.dst, Value.int IntKind.i64 x.a, Value.int IntKind.i64 x.b, Value.int IntKind.i64 x.imm], Res.blk g15 4 (List.map Value.bool bs2), Res.blk g2 47 [Value.int IntKind.i64 f.params, Value.int IntKind.i64 f.regs, Value.slice (some a) f.code.length c]] wr)) (fun _ i _ => l.length - (intOf i).toNat)
                  case atStart => exact ⟨b', bs', 0, by omega, rfl, rfl, HR, HC, HB0, Lib.hid (fun _ _ h => by omega), HP⟩
                  case round =>
                    clear HP HR HC HB0
                    obtain ⟨b2, bs2, j, hj, rfl, rfl, HR, HC, HB0, HD, HP⟩ := hrel
                    obtain ⟨wk, rfl⟩ : ∃ wk : World, wk = wr := ⟨_, rfl⟩
                    by_cases hjl : j < l.length
                    · obtain ⟨a6, rfl, hab6, hc6'⟩ := HX6.out j hjl
                      have hn := HIN.out _ (List.getElem_mem hjl)
                      obtain ⟨n, hn0⟩ : ∃ n, l[j] = n := ⟨_, rfl⟩
                      rw [hn0] at hc6' hn
                      obtain ⟨t, rfl⟩ := Int.eq_ofNat_of_zero_le hn.1
                      have htl : (t : Int) < (f.code.length : Int) + 1 := by omega
                      have htl2 : t < f.code.length + 1 := by omega
                      have hjl2 : (j : Int) < (l.length : Int) := by omega
                      have hcj := (HP.out.alike (F := ⟨w6, Fresh wc w6⟩) (.head _) (a6.add j) (by rw [block_of_add]; exact hab6)).trans hc6'
                      have HLJ := Lib.hid (show l[j]? = some (t : Int) by rw [← hn0, List.getElem?_eq_getElem hjl])
                      obtain ⟨b1, hb1⟩ : ∃ b1, bs2[t]? = some b1 := ⟨_, List.getElem?_eq_getElem (by rw [HR.out.len]; omega)⟩
                      have hbt := HP.out.cell (.tail _ (.head _)) t (.bool b1) (by rw [List.getElem?_map, hb1]; rfl)
                      have HB1 := Lib.hid hb1
                      have HBT := Lib.hid (show t < (List.map Value.bool bs2).length by rw [List.length_map, HR.out.len]; exact htl2)
                      have HTL := Lib.hid htl2
                      clear hn0 hc6' hb1
                      cases b1
                      · go_wp2_with (first | (refine wpList_st1 rfl 4 _ _ rfl HP.out rfl rfl HBT.out rfl (List.map_set ..).symm (by kernel_rfl) ?_; clear HP; intro wst HP; replace HP := Lib.hid HP))
                        go_roundw
                        case rel =>
                          refine ⟨true, bs2.set t true, j + 1, by omega, rfl, by go_num, Lib.hid (HR.out.set HB1.out ?_), Lib.hid (fun e => by cases e), Lib.hid ?_, Lib.hid fun i' n hi hn => ?_, HP⟩
                          · have := Way.step (HR.out.sound pc HB0.out) HXS.out HKB.out (n := (t : Int)) (by rw [HL.out]; exact List.mem_of_getElem? HLJ.out)
                            simpa using this
                          · by_cases e : t = pc
                            · rw [e, List.getElem?_set_self (show pc < bs2.length by rw [HR.out.len]; omega)]
                            · rw [List.getElem?_set_ne e]; exact HB0.out
                          · by_cases e : t = n.toNat
                            · rw [← e, List.getElem?_set_self (by rw [HR.out.len]; exact HTL.out)]
                            · rw [List.getElem?_set_ne e]
                              by_cases hij : i' < j
                              · exact HD.out i' n hij hn
                              · obtain rfl : i' = j := by omega
                                rw [HLJ.out] at hn
                                cases hn
                                exact absurd rfl e
                        case measure => simp [intOf]; omega
                      · go_wp2_with fail
                        go_roundw
                        case rel =>
                          refine ⟨b2, bs2, j + 1, by omega, rfl, by go_num, HR, HC, HB0, Lib.hid fun i' n hi hn => ?_, HP⟩
                          by_cases hij : i' < j
                          · exact HD.out i' n hij hn
                          · obtain rfl : i' = j := by omega
                            rw [HLJ.out] at hn
                            cases hn
                            exact HB1.out
                        case measure => simp [intOf]; omega
                    · obtain rfl : j = l.length := by omega
                      go_wp2_with fail
                      subst hQ2
                      go_wp2_with fail
                      go_roundw
                      case rel =>
                        refine ⟨b2, bs2, pc + 1, by omega, rfl, by go_num, HR, Lib.hid fun e q hq => ?_, Lib.hid (Hp.drop (A := []) HP.out.froDrop)⟩
                        by_cases hqp : q < pc
                        · exact HC.out e q hqp
                        · obtain rfl : q = pc := by omega
                          intro _ y hy _ n hn
                          rw [HXS.out] at hy
                          cases hy
                          rw [HL.out] at hn
                          obtain ⟨i', hi', rfl⟩ := List.getElem_of_mem hn
                          exact HD.out i' _ hi' (List.getElem?_eq_getElem hi')
                      case measure => simp [intOf]; omega
                · go_wp2_with fail
                  go_roundw
                  case rel =>
                    refine ⟨b', bs', pc + 1, by omega, rfl, by go_num, HR, Lib.hid fun e q hq => ?_, Lib.hid (Hp.drop (A := []) HP.out)⟩
                    by_cases hqp : q < pc
                    · exact HC.out e q hqp
                    · obtain rfl : q = pc := by omega
                      intro hb y hy hk n hn
                      have hskk := HSK.out
                      rw [HB0.out] at hb
                      rw [HXS.out] at hy
                      cases hy
                      cases hb
                      rw [HKB.out] at hk
                      subst hk
                      simp at hskk
                  case measure => simp [intOf]; omega
            · obtain rfl : pc = f.code.length := by omega
              go_wp2_with (first | (refine wpList_ld0 rfl 45 _ rfl HP.out rfl rfl Tryd.underlying45 rfl ?_) | (refine wpList_ld1 rfl 45 _ rfl HP.out rfl rfl Tryd.underlying45 rfl ?_))
              subst hQ
              go_wp2_with fail
              have HBB := HB.out
              go_roundg (2 * bs'.count false + b'.toNat)
              case measure =>
                have h1 := HBB.2.2.2.2
                rw [h1]
                cases b'
                · have := HR.out.no rfl
                  rw [this]; simp
                · have := HR.out.yes rfl
                  simp; omega
              case rel => exact ⟨b', bs', rfl, Lib.hid ⟨HR.out.len, HR.out.sound, HR.out.first HNP.out, fun e q hq => HC.out e q hq, rfl⟩, HP⟩
end Go.Proofs.YtceilfmfidmfpaaDoor
namespace Go.Proofs.YtceilfmfidmfpaaDoor
open Go.RowKit
attribute [local irreducible] wpList Code.wp Oper.wp
set_option maxRecDepth 10000 in
set_option maxHeartbeats 4000000 in
theorem sureOf_any (f : Fun) (funcs : Nat) (v : Value) (w : World) (hv : Lay.rep w (Lt w.heap.size) f.code [v]) (ok : OkF f funcs) :
    Calls Tryd.prog 35 #[.agg #[.int .i64 f.params, .int .i64 f.regs, v]] w fun e w' => ∃ u, e = .returned u ∧ Lay.rep w' (Fresh w w') (sureL f) [u] ∧ Below w.heap.size w w' := by
  obtain ⟨A, c, rfl, hc, hm, hx⟩ := rep_code2 hv
  clear hx
  unfold maxLen at hm
  have HV := Lib.hid hv
  have HOK := Lib.hid ok
  obtain ⟨l1, l2⟩ := ok.len
  clear hv ok
  obtain ⟨i_int, hi_int, hz_int, hs_int, hy_int⟩ := info_parts info_int
  have HP := Lib.hid ((Hp.start w).nil 3 1)
  go_enter Tryd.func35, Tryd.ntmps35
  go_upto_region 2 with (first | (refine wpList_box_hp (o := ⟨some 1, _, _, _, _, _⟩) rfl _ _ rfl HP.out [_, _, _] rfl ?_; clear HP; intro g1 w1 HP; replace HP := Lib.hid HP) | (refine wpList_ldR0 rfl 47 _ rfl HP.out rfl Tryd.underlying47 rfl (by kernel_rfl) ?_) | (go_at_call 57; refine (wayTo_any f funcs _ (-1) _ (HP.out.rep (F := ⟨w, Lt w.heap.size⟩) (.head _) HV.out) HOK.out ⟨by omega, by omega⟩).mono ?_; rintro e w3 ⟨u3, rfl, hu3, hb3⟩; replace HP := Lib.hid (HP.out.call hb3); obtain ⟨A3, c3, rfl, hc3, hm3, hx3⟩ := rep_bools_at hu3; unfold maxLen at hm3; have HX3 := Lib.hid hx3; clear hu3 hx3 hb3))
  obtain ⟨rs, hrs⟩ : ∃ rs, wayL f (-1) = rs := ⟨_, rfl⟩
  rw [hrs] at HX3 hc3
  simp only [hrs]
  have HRL := Lib.hid (show rs.length = f.code.length + 1 by rw [← hrs, wayL_len])
  have HRS := Lib.hid hrs
  clear hrs
  rw [HRL.out]
  go_wp2
  go_loopw [4, 5] (fun v i wr => ∃ (k : Nat) (A' : Option Addr) (c' : Nat) (os : List Int), k ≤ f.code.length + 1 ∧ v = .slice A' k c' ∧ i = .int .i64 k ∧ Hid (os.length = k ∧ ∀ q, q < k → os[q]? = some (sureUpto f 0 q)) ∧ Hid (Hp w [{ w := w3, S := Fresh w1 w3 }, { w := w, S := Lt w.heap.size }] [Res.blk g1 47 [Value.int IntKind.i64 f.params, Value.int IntKind.i64 f.regs, Value.slice A f.code.length c], Res.row (.slice A' k c') 3 1 (k) (List.map (Value.int IntKind.i64) os)] wr)) (fun _ i _ => f.code.length + 1 - (intOf i).toNat)
  case atStart => exact ⟨0, none, 0, [], by omega, rfl, rfl, Lib.hid ⟨rfl, fun q hq => by omega⟩, HP⟩
  case round =>
    clear HP
    obtain ⟨k, A', c', os, hk, rfl, rfl, HO, HP⟩ := hrel
    obtain ⟨wo, rfl⟩ : ∃ wo : World, wo = wr := ⟨_, rfl⟩
    by_cases hlt : k ≤ f.code.length
    · have hkr : k < rs.length := by rw [HRL.out]; omega
      obtain ⟨a3, rfl, hab3, hc3'⟩ := HX3.out k hkr
      have HC3 := Lib.hid hc3'
      obtain ⟨b, hb⟩ : ∃ b, rs[k] = b := ⟨_, rfl⟩
      rw [hb] at HC3
      have HB := Lib.hid (show rs.getD k false = b by rw [List.getD_eq_getElem?_getD, List.getElem?_eq_getElem hkr, hb]; rfl)
      have hk1 : (k : Int) < (f.code.length : Int) + 1 := by omega
      clear hc3' hb
      go_upto_region 7 with (first | (refine wpList_ld0 rfl 45 _ rfl HP.out rfl rfl Tryd.underlying45 rfl ?_) | (refine wpList_ints_hp rfl 27 3 1 _ rfl HP.out Tryd.underlying27 [_] rfl (by kernel_rfl) ?_; clear HP; intro gi wi HP; replace HP := Lib.hid HP) | (at_builtin; refine wpList_apg1 rfl _ _ 27 rfl i_int (.int .i64 0) Tryd.underlying27 hi_int hz_int hs_int rfl (by decide) hy_int (k + 1) rfl HP.out rfl rfl rfl (by simp [Value.oneCell']) (by unfold maxLen; omega) (by omega) (by omega) ?_; clear HP; intro gap cap wap HP; replace HP := Lib.hid HP))
      rw [← List.map_append] at HP
      have hcb := (HP.out.alike (F := ⟨w3, Fresh w1 w3⟩) (.head _) (a3.add k) (by rw [block_of_add]; exact hab3)).trans HC3.out
      have HBD := Lib.hid (show k < (List.map (Value.int IntKind.i64) (os ++ [-1])).length by rw [List.length_map, List.length_append, HO.out.1]; simp)
      (try simp only [Act.put, List.setIfInBounds_toArray, List.set_cons_zero, List.set_cons_succ])
      cases b
      · go_wp2_with fail
        go_roundw
        case rel =>
          refine ⟨k + 1, _, _, os ++ [-1], by omega, rfl, by go_num, Lib.hid ⟨by simp [HO.out.1], fun q hq => ?_⟩, HP⟩
          by_cases hqk : q < k
          · rw [List.getElem?_append_left (by rw [HO.out.1]; omega)]; exact HO.out.2 q hqk
          · obtain rfl : q = k := by omega
            rw [List.getElem?_append_right (by rw [HO.out.1]; omega), HO.out.1, Nat.sub_self]
            unfold sureUpto
            rw [HRS.out, HB.out]
            rfl
        case measure => simp [intOf]; omega
      · go_wp2_with (first | (refine wpList_stW1 rfl 3 _ _ rfl HP.out rfl rfl HBD.out rfl (List.map_set ..).symm (by kernel_rfl) ?_; clear HP; intro wst HP; replace HP := Lib.hid HP))
        go_roundw
        case rel =>
          refine ⟨k + 1, _, _, (os ++ [-1]).set k 0, by omega, rfl, by go_num, Lib.hid ⟨by simp [HO.out.1], fun q hq => ?_⟩, HP⟩
          by_cases hqk : q < k
          · rw [List.getElem?_set_ne (by omega), List.getElem?_append_left (by rw [HO.out.1]; omega)]; exact HO.out.2 q hqk
          · obtain rfl : q = k := by omega
            rw [List.getElem?_set_self (by simp [HO.out.1])]
            unfold sureUpto
            rw [HRS.out, HB.out]
            rfl
        case measure => simp [intOf]; omega
    · obtain rfl : k = f.code.length + 1 := by omega
      obtain ⟨g4, c4, hv4⟩ := HP.out.rowSome (.tail _ (.head _)) (by omega)
      cases hv4
      go_wp2_with (first | (refine wpList_ld0 rfl 45 _ rfl HP.out rfl rfl Tryd.underlying45 rfl ?_))
      go_hide hQ
      go_loopw [6, 7] (fun v i wr => ∃ (r : Nat) (m : Int) (os : List Int), r ≤ 12 ∧ v = .int .i64 m ∧ i = .int .i64 r ∧ Hid (m = 2 ^ r) ∧ 1 ≤ m ∧ m ≤ 4096 ∧ Hid (os.length = f.code.length + 1 ∧ ∀ q, q < f.code.length + 1 → os[q]? = some (sureUpto f r q)) ∧ Hid (Hp w [{ w := w3, S := Fresh w1 w3 }, { w := w, S := Lt w.heap.size }] [Res.blk g1 47 [Value.int IntKind.i64 f.params, Value.int IntKind.i64 f.regs, Value.slice A f.code.length c], Res.row (.slice (some ⟨g4, 0, none⟩) (f.code.length + 1) c') 3 1 (f.code.length + 1) (List.map (Value.int IntKind.i64) os)] wr)) (fun _ i _ => 12 - (intOf i).toNat)
      case atStart => exact ⟨0, 1, os, by omega, rfl, rfl, Lib.hid rfl, by omega, by omega, HO, HP⟩
      case round =>
        clear HP HO
        obtain ⟨r, m, os, hr, rfl, rfl, HM, m1, m2, HO, HP⟩ := hrel
        obtain ⟨wo, rfl⟩ : ∃ wo : World, wo = wr := ⟨_, rfl⟩
        by_cases hlt : r < 12
        · have hm3' : m ≤ 2048 := by
            have h := HM.out
            have h2 := Nat.pow_le_pow_right (n := 2) (show 0 < 2 by decide) (show r ≤ 11 by omega)
            have e : ((2 ^ r : Nat) : Int) = 2 ^ r := by simp
            rw [h, ← e]; omega
          have hlt2 : (r : Int) < 12 := by omega
          go_upto_region 15 with (first | (refine wpList_ldR0 rfl 47 _ rfl HP.out rfl Tryd.underlying47 rfl (by kernel_rfl) ?_) | (go_at_call 57; refine (wayTo_any f funcs _ (r : Int) _ (HP.out.rep (F := ⟨w, Lt w.heap.size⟩) (.tail _ (.head _)) HV.out) HOK.out ⟨by omega, by omega⟩).mono ?_; rintro e w8 ⟨u8, rfl, hu8, hb8⟩; replace HP := Lib.hid (HP.out.call hb8); obtain ⟨A8, c8, rfl, hc8, hm8, hx8⟩ := rep_bools_at hu8; unfold maxLen at hm8; have HX8 := Lib.hid hx8; clear hu8 hx8 hb8))
          obtain ⟨us, hus⟩ : ∃ us, wayL f (r : Int) = us := ⟨_, rfl⟩
          rw [hus] at HX8 hc8
          simp only [hus]
          have HUL := Lib.hid (show us.length = f.code.length + 1 by rw [← hus, wayL_len])
          have HUS := Lib.hid hus
          clear hus
          rw [HUL.out]
          (try simp only [Act.put, List.setIfInBounds_toArray, List.set_cons_zero, List.set_cons_succ])
          go_hide hQ2
          go_loopw [9] (fun i wr => ∃ (pc : Nat) (os2 : List Int), pc ≤ f.code.length + 1 ∧ i = .int .i64 pc ∧ Hid (os2.length = f.code.length + 1 ∧ ∀ q, q < f.code.length + 1 → os2[q]? = some (if q < pc then sureUpto f (r + 1) q else sureUpto f r q)) ∧ Hid (Hp w [{ w := w8, S := Fresh wo w8 }, { w := w3, S := Fresh w1 w3 }, { w := w, S := Lt w.heap.size }] [Res.blk g1 47 [Value.int IntKind.i64 f.params, Value.int IntKind.i64 f.regs, Value.slice A f.code.length c], Res.row (.slice (some ⟨g4, 0, none⟩) (f.code.length + 1) c') 3 1 (f.code.length + 1) (List.map (Value.int IntKind.i64) os2)] wr)) (fun i _ => f.code.length + 1 - (intOf i).toNat)
          case atStart => exact ⟨0, os, by omega, rfl, Lib.hid ⟨HO.out.1, fun q hq => by rw [if_neg (by omega)]; exact HO.out.2 q hq⟩, HP⟩
          case round =>
            clear HP HO
            obtain ⟨pc, os2, hpc, rfl, HO, HP⟩ := hrel
            obtain ⟨wk, rfl⟩ : ∃ wk : World, wk = wr := ⟨_, rfl⟩
            by_cases hple : pc ≤ f.code.length
            · have hkr : pc < rs.length := by rw [HRL.out]; omega
              have hku : pc < us.length := by rw [HUL.out]; omega
              obtain ⟨a3, rfl, hab3, hc3'⟩ := HX3.out pc hkr
              obtain ⟨a8, rfl, hab8, hc8'⟩ := HX8.out pc hku
              have hcb := (HP.out.alike (F := ⟨w3, Fresh w1 w3⟩) (.tail _ (.head _)) (a3.add pc) (by rw [block_of_add]; exact hab3)).trans hc3'
              have hub := (HP.out.alike (F := ⟨w8, Fresh wo w8⟩) (.head _) (a8.add pc) (by rw [block_of_add]; exact hab8)).trans hc8'
              obtain ⟨b, hb⟩ : ∃ b, rs[pc] = b := ⟨_, rfl⟩
              obtain ⟨ub, hub'⟩ : ∃ ub, us[pc] = ub := ⟨_, rfl⟩
              rw [hb] at hcb
              rw [hub'] at hub
              have HB := Lib.hid (show rs.getD pc false = b by rw [List.getD_eq_getElem?_getD, List.getElem?_eq_getElem hkr, hb]; rfl)
              have HUB := Lib.hid (show us.getD pc false = ub by rw [List.getD_eq_getElem?_getD, List.getElem?_eq_getElem hku, hub']; rfl)
              have ho := HO.out.2 pc (by omega)
              rw [if_neg (by omega)] at ho
              obtain ⟨o, ho'⟩ : ∃ o, sureUpto f r pc = o := ⟨_, rfl⟩
              have hor := sureUpto_range f r pc (by omega)
              rw [ho'] at ho hor
              obtain ⟨o1, o2⟩ := hor
              have hco := HP.out.rowCell (.tail _ (.head _)) pc (.int .i64 o) (by rw [List.getElem?_map, ho]; rfl)
              have HOV := Lib.hid ho'
              have HBD := Lib.hid (show pc < (List.map (Value.int IntKind.i64) os2).length by rw [List.length_map, HO.out.1]; omega)
              have hk1 : (pc : Int) < (f.code.length : Int) + 1 := by omega
              have HSS := Lib.hid (sureUpto_succ f r pc)
              have hrel' : ∀ os3 : List Int, os3.length = f.code.length + 1 → (∀ q, q ≠ pc → os3[q]? = os2[q]?) → os3[pc]? = some (sureUpto f (r + 1) pc) → (os3.length = f.code.length + 1 ∧ ∀ q, q < f.code.length + 1 → os3[q]? = some (if q < pc + 1 then sureUpto f (r + 1) q else sureUpto f r q)) := fun os3 h1 h2 h3 => ⟨h1, fun q hq => by
                by_cases e : q = pc
                · subst e; rw [if_pos (by omega)]; exact h3
                · rw [h2 q e, HO.out.2 q hq]
                  by_cases e2 : q < pc
                  · rw [if_pos e2, if_pos (by omega)]
                  · rw [if_neg e2, if_neg (by omega)]⟩
              have HREL := Lib.hid hrel'
              have HOO := Lib.hid ho
              clear hc3' hc8' hb hub' ho ho' hrel'
              cases b
              · go_wp2_with (first | (refine wpList_ld0 rfl 45 _ rfl HP.out rfl rfl Tryd.underlying45 rfl ?_))
                go_roundw
                case rel => exact ⟨pc + 1, os2, by omega, by go_num, Lib.hid (HREL.out os2 HO.out.1 (fun _ _ => rfl) (by rw [HOO.out, HSS.out, HRS.out, HB.out, HOV.out]; simp)), HP⟩
                case measure => simp [intOf]; omega
              · cases ub
                · go_wp2_with (first | (refine wpList_ld0 rfl 45 _ rfl HP.out rfl rfl Tryd.underlying45 rfl ?_) | (refine wpList_stW1 rfl 3 _ _ rfl HP.out rfl rfl HBD.out rfl (List.map_set ..).symm (by kernel_rfl) ?_; clear HP; intro wst HP; replace HP := Lib.hid HP))
                  go_roundw
                  case rel => exact ⟨pc + 1, os2.set pc (o + m), by omega, by go_num, Lib.hid (HREL.out _ (by simp [HO.out.1]) (fun q hq => List.getElem?_set_ne (Ne.symm hq)) (by rw [List.getElem?_set_self (by rw [HO.out.1]; omega), HSS.out, HRS.out, HB.out, HUS.out, HUB.out, HOV.out, HM.out]; rfl)), HP⟩
                  case measure => simp [intOf]; omega
                · go_wp2_with (first | (refine wpList_ld0 rfl 45 _ rfl HP.out rfl rfl Tryd.underlying45 rfl ?_))
                  go_roundw
                  case rel => exact ⟨pc + 1, os2, by omega, by go_num, Lib.hid (HREL.out os2 HO.out.1 (fun _ _ => rfl) (by rw [HOO.out, HSS.out, HRS.out, HB.out, HUS.out, HUB.out, HOV.out]; simp)), HP⟩
                  case measure => simp [intOf]; omega
            · obtain rfl : pc = f.code.length + 1 := by omega
              go_wp2_with (first | (refine wpList_ld0 rfl 45 _ rfl HP.out rfl rfl Tryd.underlying45 rfl ?_))
              subst hQ2
              go_wp2_with fail
              go_roundw
              case rel => exact ⟨r + 1, m * 2, os2, by omega, by go_num, by go_num, Lib.hid (by rw [HM.out, Int.pow_succ]), by omega, by omega, Lib.hid ⟨HO.out.1, fun q hq => by rw [HO.out.2 q hq, if_pos hq]⟩, Lib.hid HP.out.froDrop⟩
              case measure => simp [intOf]; omega
        · obtain rfl : r = 12 := by omega
          go_wp2_with fail
          subst hQ
          go_wp2_with fail
          go_ret
          exact ⟨_, rfl, HP.out.rowInts (.tail _ (.head _)) (congrArg (List.map (Value.int IntKind.i64)) (sureL_of HO.out.1 HO.out.2)), HP.out.below⟩
end Go.Proofs.YtceilfmfidmfpaaDoor
namespace Go.Proofs.YtceilfmfidmfpaaDoor
open Go.RowKit Plain64
attribute [local irreducible] wpList Code.wp Oper.wp
theorem low_bits : ∀ p : Fin 3, ∀ r : Fin 12, bitZ (2 ^ p.1 - 1) r.1 = decide (r.1 < p.1) := by decide +kernel
theorem inv_start {f : Fun} {funcs : Nat} (ok : OkF f funcs) : Inv f ((List.replicate (f.code.length + 1) (-1)).set 0 (2 ^ f.params.toNat - 1)) [0] := by
  obtain ⟨p1, p2, _⟩ := ok.params
  have hat : ∀ (q : Nat) u, ((List.replicate (f.code.length + 1) (-1 : Int)).set 0 (2 ^ f.params.toNat - 1))[q]? = some u → (q = 0 ∧ u = 2 ^ f.params.toNat - 1) ∨ (q ≠ 0 ∧ u = -1) := fun q u hu => by
    by_cases e : 0 = q
    · subst e; rw [List.getElem?_set_self (by simp)] at hu; cases hu; exact .inl ⟨rfl, rfl⟩
    · rw [List.getElem?_set_ne e] at hu
      have := List.getElem?_eq_some_iff.1 hu
      obtain ⟨h1, h2⟩ := this
      simp at h2
      exact .inr ⟨Ne.symm e, h2.symm⟩
  have hr : (0 : Int) ≤ 2 ^ f.params.toNat - 1 ∧ (2 : Int) ^ f.params.toNat - 1 ≤ 4095 := by
    have := pow_small f.params (by omega)
    have h3 : f.params = 0 ∨ f.params = 1 ∨ f.params = 2 := by omega
    rcases h3 with e | e | e <;> rw [e] <;> decide
  have hb : ∀ r : Nat, r < 12 → bitZ (2 ^ f.params.toNat - 1) r = decide ((r : Int) < f.params) := fun r hr' => by
    have := low_bits ⟨f.params.toNat, by omega⟩ ⟨r, hr'⟩
    simp only at this
    rw [this, decide_eq_decide]; omega
  refine ⟨⟨by simp, fun q u hu => ?_, fun q u hu h0 => ?_, fun q u hu h0 r hr' hb' => ?_, ⟨_, List.getElem?_set_self (by simp), hr.1, fun r hr' hp => ?_⟩, fun t ht => ?_⟩, fun q hq hqt u hu h0 => ?_⟩
  · rcases hat q u hu with ⟨_, rfl⟩ | ⟨_, rfl⟩
    · exact .inr hr
    · exact .inl rfl
  · rcases hat q u hu with ⟨rfl, _⟩ | ⟨_, rfl⟩
    · exact .start (by omega)
    · omega
  · rcases hat q u hu with ⟨rfl, rfl⟩ | ⟨_, rfl⟩
    · rw [hb r hr'] at hb'
      simp at hb'
      exact .start (by omega)
    · omega
  · rw [hb r hr']; simp; omega
  · obtain rfl := List.mem_singleton.1 ht
    exact ⟨by omega, _, List.getElem?_set_self (by simp), hr.1⟩
  · rcases hat q u hu with ⟨rfl, _⟩ | ⟨_, rfl⟩
    · exact absurd (List.mem_singleton.2 rfl) hqt
    · omega
abbrev tsV (ts : List Nat) : List Value := List.map (fun t : Nat => Value.int .i64 (t : Int)) ts
theorem Hp.rowTake {w0 w : World} {Fs : List Fro} {A B : List Res} {g n c : Nat} {e : TypeId} {cs : List Value} (h : Hp w0 Fs (A ++ .row (.slice (some ⟨g, 0, none⟩) n c) e 1 n cs :: B) w) (m : Nat) (hm : m ≤ n) :
    Hp w0 Fs (A ++ .row (.slice (some ⟨g, 0, none⟩) m c) e 1 m (cs.take m) :: B) w := by
  have ho := h.row (v := .slice (some ⟨g, 0, none⟩) n c) (e := e) (sz := 1) (n := n) (cs := cs) (by simp)
  refine h.chg ⟨rfl, rfl, rfl, Nat.le_refl _, fun _ _ _ => rfl⟩ ⟨by simp [ho.1]; omega, ?_⟩ (fun b hb => .inl hb)
  rcases ho.2 with ⟨h0, _⟩ | ⟨g', cap, cur, hv, h1, hg, h2, h3, h4, h5⟩
  · cases h0
  · cases hv
    refine .inr ⟨g, c, cur, rfl, h1, hg, by omega, h3, h4, ?_⟩
    rw [← h5, List.take_take]; congr 1; omega
theorem Hp.rowCap {w0 w : World} {Fs : List Fro} {L : List Res} {g n c sz : Nat} {e : TypeId} {cs : List Value} (h : Hp w0 Fs L w) (hm : Res.row (.slice (some ⟨g, 0, none⟩) n c) e sz n cs ∈ L) : n ≤ c ∧ c ≤ maxLen := by
  rcases (h.row hm).2 with ⟨h0, _⟩ | ⟨g', cap, cur, hv, h1, hg, h2, h3, h4, h5⟩
  · cases h0
  · cases hv; exact ⟨h2, h3⟩
theorem muZ_le (os : List Int) : muZ os ≤ 13 * os.length := by
  unfold muZ
  induction os with
  | nil => simp
  | cons a os ih =>
    have : wtZ a ≤ 13 := by
      unfold wtZ
      split
      · omega
      · have := List.countP_le_length (p := bitZ a) (l := List.range 12)
        simp only [List.length_range] at this; omega
    simp only [List.map_cons, List.sum_cons, List.length_cons]; omega
set_option maxRecDepth 10000 in
set_option maxHeartbeats 4000000 in
theorem sure_any (f : Fun) (funcs : Nat) (v : Value) (w : World) (hv : Lay.rep w (Lt w.heap.size) f.code [v]) (ok : OkF f funcs) :
    Calls Tryd.prog 44 #[.agg #[.int .i64 f.params, .int .i64 f.regs, v]] w fun e w' => ∃ u c, e = .returned (.slice (some u) (f.code.length + 1) c) ∧ Lay.rep w' (Fresh w w') (sureL f) [.slice (some u) (f.code.length + 1) c] ∧ Below w.heap.size w w' := by
  obtain ⟨A, c, rfl, hc, hm, hx⟩ := rep_code2 hv
  unfold maxLen at hm
  have HX := Lib.hid hx
  have HV := Lib.hid hv
  have HOK := Lib.hid ok
  obtain ⟨l1, l2⟩ := ok.len
  obtain ⟨p1, p2, p3⟩ := ok.params
  clear hx hv ok
  obtain ⟨i_int, hi_int, hz_int, hs_int, hy_int⟩ := info_parts info_int
  have HP := Lib.hid (Hp.start w)
  go_enter Tryd.func44, Tryd.ntmps44
  go_upto_region 2 with (first | (refine wpList_box_hp (o := ⟨some 1, _, _, _, _, _⟩) rfl _ _ rfl HP.out [_, _, _] rfl ?_; clear HP; intro g1 w1 HP; replace HP := Lib.hid HP) | (refine wpList_ld0 rfl 45 _ rfl HP.out rfl rfl Tryd.underlying45 rfl ?_) | (refine wpList_make_hp (o := ⟨some 15, _, _, _, _, _⟩) rfl _ _ _ rfl _ i_int (.int .i64 0) Tryd.underlying27 hi_int hz_int rfl hs_int (f.code.length + 1) rfl rfl (by rw [hy_int]; omega) (by unfold maxLen; omega) HP.out ?_; clear HP; intro g15 w15 HP; replace HP := Lib.hid HP))
  rw [← List.map_replicate] at HP
  go_wp2
  go_loopw [18] (fun i wr => ∃ (k : Nat) (os : List Int), k ≤ f.code.length + 1 ∧ i = .int .i64 k ∧ Hid (os.length = f.code.length + 1 ∧ ∀ q, q < k → os[q]? = some (-1)) ∧ Hid (Hp w [{ w := w, S := Lt w.heap.size }] [Res.blk g15 3 (List.map (Value.int IntKind.i64) os), Res.blk g1 47 [Value.int IntKind.i64 f.params, Value.int IntKind.i64 f.regs, Value.slice A f.code.length c]] wr)) (fun i _ => f.code.length + 1 - (intOf i).toNat)
  case atStart => exact ⟨0, _, by omega, rfl, Lib.hid ⟨by simp, fun q hq => by omega⟩, HP⟩
  case round =>
    clear HP
    obtain ⟨k, os, hk, rfl, HO, HP⟩ := hrel
    obtain ⟨wo, rfl⟩ : ∃ wo : World, wo = wr := ⟨_, rfl⟩
    by_cases hlt : k < f.code.length + 1
    · have HBD := Lib.hid (show k < (List.map (Value.int IntKind.i64) os).length by rw [List.length_map, HO.out.1]; exact hlt)
      have hlt2 : (k : Int) < (f.code.length : Int) + 1 := by omega
      go_wp2_with (first | (refine wpList_st0 rfl 3 _ _ rfl HP.out rfl rfl HBD.out rfl (List.map_set ..).symm (by kernel_rfl) ?_; clear HP; intro wst HP; replace HP := Lib.hid HP))
      go_roundw
      case rel =>
        refine ⟨k + 1, os.set k (-1), by omega, by go_num, Lib.hid ⟨by simp [HO.out.1], fun q hq => ?_⟩, HP⟩
        by_cases e : k = q
        · subst e; rw [List.getElem?_set_self (by rw [HO.out.1]; omega)]
        · rw [List.getElem?_set_ne e]; exact HO.out.2 q (by omega)
      case measure => simp [intOf]; omega
    · obtain rfl : k = f.code.length + 1 := by omega
      have hos : os = List.replicate (f.code.length + 1) (-1) := by
        apply List.ext_getElem?
        intro q
        by_cases hq : q < f.code.length + 1
        · rw [HO.out.2 q hq, List.getElem?_replicate, if_pos hq]
        · rw [List.getElem?_eq_none (by rw [HO.out.1]; omega), List.getElem?_eq_none (by simp; omega)]
      subst hos
      have hpow : wrap64 (2 ^ f.params.toNat) = 2 ^ f.params.toNat := by have := pow_small f.params ⟨by omega, by omega⟩; unfold wrap64; omega
      have hpow2 := pow_small f.params ⟨by omega, by omega⟩
      obtain ⟨q1, q2⟩ := hpow2
      have HST := Lib.hid (inv_start HOK.out)
      go_wp2_with (first | (refine wpList_ints_hp rfl 27 3 1 _ rfl HP.out Tryd.underlying27 [_] rfl (by kernel_rfl) ?_; clear HP; intro gi wi HP; replace HP := Lib.hid HP) | (refine wpList_ld0 rfl 3 _ rfl HP.out rfl rfl Tryd.underlying3 rfl ?_) | (refine wpList_ld1 rfl 3 _ rfl HP.out rfl rfl Tryd.underlying3 rfl ?_) | (refine wpList_ld2 rfl 3 _ rfl HP.out rfl rfl Tryd.underlying3 rfl ?_) | (refine wpList_st1 rfl 3 _ _ rfl HP.out rfl rfl (by simp) rfl (List.map_set ..).symm (by kernel_rfl) ?_; clear HP; intro wst HP; replace HP := Lib.hid HP))
      (try simp only [Act.put, List.setIfInBounds_toArray, List.set_cons_zero, List.set_cons_succ])
      clear HO hlt
      have HP2 : Hid (Hp w [{ w := w, S := Lt w.heap.size }] [Res.row (Value.slice (some ⟨gi, 0, none⟩) (1) 1) 3 1 (1) (tsV [0]), Res.blk g15 3 (List.map (Value.int IntKind.i64) ((List.replicate (f.code.length + 1) (-1)).set 0 (2 ^ f.params.toNat - 1))), Res.blk g1 47 [Value.int IntKind.i64 f.params, Value.int IntKind.i64 f.regs, Value.slice A f.code.length c]] wst) := Lib.hid (HP.out.rowOf (A := []) rfl (by unfold maxLen; decide))
      clear HP
      go_loopg [5] (2 * muZ ((List.replicate (f.code.length + 1) (-1)).set 0 (2 ^ f.params.toNat - 1)) + 1) (fun k v wr => ∃ (g cp : Nat) (os : List Int) (ts : List Nat), v = .slice (some ⟨g, 0, none⟩) ts.length cp ∧ Hid (Inv f os ts ∧ k = 2 * muZ os + ts.length ∧ k ≤ 1067) ∧ Hid (Hp w [{ w := w, S := Lt w.heap.size }] [Res.row (Value.slice (some ⟨g, 0, none⟩) (ts.length) cp) 3 1 (ts.length) (tsV ts), Res.blk g15 3 (List.map (Value.int IntKind.i64) os), Res.blk g1 47 [Value.int IntKind.i64 f.params, Value.int IntKind.i64 f.regs, Value.slice A f.code.length c]] wr))
      case atStart => exact ⟨gi, 1, _, [0], rfl, Lib.hid ⟨HST.out, rfl, by have := muZ_le ((List.replicate (f.code.length + 1) (-1)).set 0 (2 ^ f.params.toNat - 1)); simp at this; omega⟩, HP2⟩
      case round =>
        clear HP2 HST
        obtain ⟨g, cp, os, ts, rfl, HI, HP⟩ := hrel
        obtain ⟨wo, rfl⟩ : ∃ wo : World, wo = wr := ⟨_, rfl⟩
        by_cases hts : ts = []
        · subst hts
          have hdone := inv_done HOK.out HI.out.1
          subst hdone
          have HSL := Lib.hid (sureL_len f)
          go_wp2
          go_ret
          exact ⟨_, _, rfl, HP.out.ints (.tail _ (.head _)) rfl (by rw [sureL_len]) (by unfold maxLen; omega), HP.out.below⟩
        · obtain ⟨ts0, pc, rfl⟩ : ∃ ts0 pc, ts = ts0 ++ [pc] := ⟨ts.dropLast, ts.getLast hts, (List.dropLast_concat_getLast hts).symm⟩
          clear hts
          obtain ⟨hpcl, z, hz, hz0⟩ := HI.out.1.todo pc (by simp)
          have hzr := (HI.out.1.ent pc z hz).resolve_left (by omega)
          obtain ⟨z1, z2⟩ := hzr
          have HZ := Lib.hid hz
          have hlen : (ts0 ++ [pc]).length = ts0.length + 1 := by simp
          rw [hlen] at HP
          rw [hlen]
          obtain ⟨hcp1, hcp2⟩ := HP.out.rowCap (.head _)
          unfold maxLen at hcp2
          have hll : 2 * muZ os + (ts0.length + 1) ≤ 1067 := by have h1 := HI.out.2.1; have h2 := HI.out.2.2; rw [hlen] at h1; omega
          have htp : (tsV (ts0 ++ [pc]))[ts0.length]? = some (.int .i64 (pc : Int)) := by simp
          have HTP := Lib.hid htp
          clear hlen htp hz
          go_upto_region 12 with (first | (refine wpList_ldW0 rfl 3 _ rfl HP.out rfl HTP.out Tryd.underlying3 rfl ?_))
          have HP3 : Hid (Hp w [{ w := w, S := Lt w.heap.size }] [Res.row (Value.slice (some ⟨g, 0, none⟩) (ts0.length) cp) 3 1 (ts0.length) (tsV ts0), Res.blk g15 3 (List.map (Value.int IntKind.i64) os), Res.blk g1 47 [Value.int IntKind.i64 f.params, Value.int IntKind.i64 f.regs, Value.slice A f.code.length c]] wo) := Lib.hid (by
            have := Hp.rowTake (A := []) HP.out ts0.length (by omega)
            rwa [show (tsV (ts0 ++ [pc])).take ts0.length = tsV ts0 by simp [tsV]] at this)
          clear HP
          have HP := HP3
          clear HP3 HTP
          by_cases hlt : pc < f.code.length
          · obtain ⟨a, rfl, hab, hat⟩ := HX.out pc hlt
            obtain ⟨x, hx⟩ : ∃ x, f.code[pc] = x := ⟨_, rfl⟩
            rw [hx] at hat
            have hxs : f.code[pc]? = some x := by rw [← hx, List.getElem?_eq_getElem hlt]
            have hoi := HOK.out.ins x (hx ▸ List.getElem_mem hlt)
            have hd := pow_small x.dst hoi.dst
            have hed : wrap64 (2 ^ x.dst.toNat) = 2 ^ x.dst.toNat := by unfold wrap64; omega
            have hso := sets_ok x.op hoi.op.1
            obtain ⟨d1, d2⟩ := hoi.dst
            have HXX := Lib.hid hx
            have HXS := Lib.hid hxs
            have HOI := Lib.hid hoi
            have HAT := Lib.hid hat
            have HED := Lib.hid hed
            have HSO := Lib.hid hso
            have hne : ((pc : Int) == (f.code.length : Int)) = false := by simp; omega
            have hpc2 : (pc : Int) < (f.code.length : Int) := by omega
            have HZM := Lib.hid (show (List.map (Value.int IntKind.i64) os)[pc]? = some (.int .i64 z) by rw [List.getElem?_map, HZ.out]; rfl)
            clear hx hxs hat hoi hed hso
            go_upto_if 60 with (first | (refine wpList_ld1 rfl 3 _ rfl HP.out rfl HZM.out Tryd.underlying3 rfl ?_) | (refine wpList_ld0 rfl 45 _ rfl HP.out rfl rfl Tryd.underlying45 rfl ?_) | (refine wpList_ld1 rfl 45 _ rfl HP.out rfl rfl Tryd.underlying45 rfl ?_) | (refine wpList_ld2 rfl 45 _ rfl HP.out rfl rfl Tryd.underlying45 rfl ?_) | (refine wpList_load_at rfl 56 _ rfl _ rfl _ _ (HP.out.at_ (F := ⟨w, Lt w.heap.size⟩) (by simp) HAT.out (by rw [block_of_add]; exact hab)) Tryd.underlying56 rfl (by kernel_rfl) ?_) | (go_at_call 63; refine (sets_any x _).mono ?_; rintro e w5 ⟨rfl, hb5⟩; replace HP := Lib.hid (HP.out.call0 hb5); clear hb5; rw [HSO.out]))
            (try simp only [Act.put, List.setIfInBounds_toArray, List.set_cons_zero, List.set_cons_succ])
            go_cut [7] (fun v wx => v = .int .i64 (aftZ z x) ∧ Hid (Hp w [{ w := w, S := Lt w.heap.size }] [Res.row (Value.slice (some ⟨g, 0, none⟩) (ts0.length) cp) 3 1 (ts0.length) (tsV ts0), Res.blk g15 3 (List.map (Value.int IntKind.i64) os), Res.blk g1 47 [Value.int IntKind.i64 f.params, Value.int IntKind.i64 f.regs, Value.slice (some a) f.code.length c]] wx))
            case first =>
              obtain ⟨sb, hsb⟩ : ∃ sb, setsZ x.op = sb := ⟨_, rfl⟩
              rw [hsb]
              have HSB := Lib.hid hsb
              clear hsb
              have hcd := (HP.out.at_ (F := ⟨w, Lt w.heap.size⟩) (.head _) HAT.out (by rw [block_of_add]; exact hab)).fld 0 rfl
              cases sb
              · go_wp2_with fail
                go_meet
                refine ⟨?_, HP⟩
                unfold aftZ
                rw [HSB.out]; rfl
              · go_wp2_with (first | (refine wpList_ld0 rfl 45 _ rfl HP.out rfl rfl Tryd.underlying45 rfl ?_) | (refine wpList_ld1 rfl 45 _ rfl HP.out rfl rfl Tryd.underlying45 rfl ?_) | (refine wpList_ld2 rfl 45 _ rfl HP.out rfl rfl Tryd.underlying45 rfl ?_))
                go_meet
                refine ⟨?_, HP⟩
                unfold aftZ
                rw [HSB.out]
                simp [HED.out]
            case rest =>
              obtain ⟨rfl, HP⟩ := hcut
              have hbr := aftZ_range (z := z) (x := x) ⟨z1, z2⟩ ⟨d1, d2⟩
              obtain ⟨b, hb⟩ : ∃ b, aftZ z x = b := ⟨_, rfl⟩
              rw [hb] at hbr
              obtain ⟨b1, b2⟩ := hbr
              rw [hb]
              have HB := Lib.hid hb
              clear hb
              obtain ⟨wf, rfl⟩ : ∃ wf : World, wf = wc := ⟨_, rfl⟩
              go_wp2_with (first | (refine wpList_ldR0 rfl 47 _ rfl HP.out rfl Tryd.underlying47 rfl (by kernel_rfl) ?_) | (refine wpList_ldR1 rfl 47 _ rfl HP.out rfl Tryd.underlying47 rfl (by kernel_rfl) ?_) | (refine wpList_ldR2 rfl 47 _ rfl HP.out rfl Tryd.underlying47 rfl (by kernel_rfl) ?_) | (go_at_call 64; refine (next_any f _ pc _ (HP.out.rep (F := ⟨w, Lt w.heap.size⟩) (.head _) HV.out) hlt).mono ?_; rintro e w6 ⟨u6, rfl, hu6, hb6⟩; replace HP := Lib.hid (HP.out.call hb6); rw [HXX.out] at hu6; obtain ⟨A6, c6, rfl, hc6, hm6, hx6⟩ := rep_ints_at hu6; unfold maxLen at hm6; have HX6 := Lib.hid hx6; clear hu6 hx6 hb6))
              obtain ⟨l, hl⟩ : ∃ l, nextZ x pc = l := ⟨_, rfl⟩
              have hl2 := nextZ_len x pc
              have hin := nextZ_in HOI.out hlt
              rw [hl] at HX6 hc6 hl2 hin
              simp only [hl]
              have HL := Lib.hid hl
              have HIN := Lib.hid hin
              have HBEG := Lib.hid (InvIn.begin (l := l) HI.out.1 HZ.out HXS.out)
              rw [HB.out] at HBEG
              have HSW : Hid (∀ n : Nat, (n : Int) ∈ l → Way f (-1) n ∧ ∀ r : Nat, r < 12 → bitZ b r = false → Way f r n) := Lib.hid fun n hn => by
                rw [← HB.out]
                exact step_way HI.out.1.toInv0 HZ.out hz0 HXS.out ⟨d1, d2⟩ (by rw [HL.out]; exact hn)
              clear hl hin
              (try simp only [Act.put, List.setIfInBounds_toArray, List.set_cons_zero, List.set_cons_succ])
              go_hide hQ
              go_loopw [5, 74] (fun v i wr => ∃ (g2 cp2 : Nat) (os2 : List Int) (ts2 : List Nat) (j : Nat), j ≤ l.length ∧ v = .slice (some ⟨g2, 0, none⟩) ts2.length cp2 ∧ i = .int .i64 j ∧ Hid (InvIn f os2 ts2 pc b l j ∧ 2 * muZ os2 + ts2.length ≤ 2 * muZ os + ts0.length) ∧ Hid (Hp w [{ w := w6, S := Fresh wf w6 }, { w := w, S := Lt w.heap.size }] [Res.row (Value.slice (some ⟨g2, 0, none⟩) (ts2.length) cp2) 3 1 (ts2.length) (tsV ts2), Res.blk g15 3 (List.map (Value.int IntKind.i64) os2), Res.blk g1 47 [Value.int IntKind.i64 f.params, Value.int IntKind.i64 f.regs, Value.slice (some a) f.code.length c]] wr)) (fun _ i _ => l.length - (intOf i).toNat)
              case atStart => exact ⟨g, cp, os, ts0, 0, by omega, rfl, rfl, Lib.hid ⟨HBEG.out, Nat.le_refl _⟩, HP⟩
              case round =>
                clear HP HBEG
                obtain ⟨g2, cp2, os2, ts2, j, hj, rfl, rfl, HJ, HP⟩ := hrel
                obtain ⟨wk, rfl⟩ : ∃ wk : World, wk = wr := ⟨_, rfl⟩
                by_cases hjl : j < l.length
                · obtain ⟨a6, rfl, hab6, hc6'⟩ := HX6.out j hjl
                  have hn := HIN.out _ (List.getElem_mem hjl)
                  obtain ⟨n, hn0⟩ : ∃ n, l[j] = n := ⟨_, rfl⟩
                  rw [hn0] at hc6' hn
                  obtain ⟨t, rfl⟩ := Int.eq_ofNat_of_zero_le hn.1
                  have htl : (t : Int) < (f.code.length : Int) + 1 := by omega
                  have htl2 : t < f.code.length + 1 := by omega
                  have hjl2 : (j : Int) < (l.length : Int) := by omega
                  have hcj := (HP.out.alike (F := ⟨w6, Fresh wf w6⟩) (.head _) (a6.add j) (by rw [block_of_add]; exact hab6)).trans hc6'
                  have HLJ := Lib.hid (show l[j]? = some (t : Int) by rw [← hn0, List.getElem?_eq_getElem hjl])
                  obtain ⟨u, hu⟩ : ∃ u, os2[t]? = some u := ⟨_, List.getElem?_eq_getElem (by rw [HJ.out.1.len]; omega)⟩
                  have HU := Lib.hid hu
                  have HUM := Lib.hid (show (List.map (Value.int IntKind.i64) os2)[t]? = some (.int .i64 u) by rw [List.getElem?_map, hu]; rfl)
                  have HBD := Lib.hid (show t < (List.map (Value.int IntKind.i64) os2).length by rw [List.length_map, HJ.out.1.len]; exact htl2)
                  have hent := HJ.out.1.ent t u hu
                  have HJ2 := HJ.out.2
                  clear hn0 hc6' hu
                  by_cases hneg : u < 0
                  · have hu1 : u = -1 := by omega
                    subst hu1
                    have hq := HJ.out.1.upd HLJ.out HU.out ⟨b1, b2⟩ (Sub.refl b) (fun h => by omega) (HSW.out t (List.mem_of_getElem? HLJ.out)).1 (HSW.out t (List.mem_of_getElem? HLJ.out)).2 (by omega)
                    have hm2 := muZ_set HU.out (wtZ_new b1)
                    have HQ := Lib.hid hq
                    have hm3 : 2 * muZ (os2.set t b) + (ts2.length + 1) ≤ 2 * muZ os + ts0.length := by omega
                    clear hq hent
                    go_wp2_with (first | (refine wpList_ld1 rfl 3 _ rfl HP.out rfl HUM.out Tryd.underlying3 rfl ?_) | (refine wpList_st1 rfl 3 _ _ rfl HP.out rfl rfl HBD.out rfl (List.map_set ..).symm (by kernel_rfl) ?_; clear HP; intro wst HP; replace HP := Lib.hid HP) | (refine wpList_ints_hp rfl 27 3 1 _ rfl HP.out Tryd.underlying27 [_] rfl (by kernel_rfl) ?_; clear HP; intro gi wi HP; replace HP := Lib.hid HP) | (at_builtin; refine wpList_apg0 rfl _ _ 27 rfl i_int (.int .i64 0) Tryd.underlying27 hi_int hz_int hs_int rfl (by decide) hy_int (ts2.length + 1) rfl HP.out rfl rfl rfl (by simp [Value.oneCell']) (by unfold maxLen; omega) (by omega) (by omega) ?_; clear HP; intro gap cap wap HP; replace HP := Lib.hid HP))
                    go_roundw
                    case rel =>
                      refine ⟨gap, cap, os2.set t b, ts2 ++ [t], j + 1, by omega, by simp, by go_num, Lib.hid ⟨HQ.out, by simp; omega⟩, Lib.hid ?_⟩
                      have := HP.out
                      rw [show tsV ts2 ++ List.map (Value.int IntKind.i64) [(t : Int)] = tsV (ts2 ++ [t]) by simp [tsV]] at this
                      simpa using this
                    case measure => simp [intOf]; omega
                  · have hu0 : 0 ≤ u := by omega
                    have hur := hent.resolve_left (by omega)
                    obtain ⟨y, hy⟩ : ∃ y, bits .and .i64 u b = y := ⟨_, rfl⟩
                    have hyr := and_range u b hur
                    rw [hy] at hyr
                    by_cases hyu : y = u
                    · have hsub : Sub u b := fun r hr h => by
                        have h2 := bitZ_and u b r (by omega)
                        rw [hy, hyu, h] at h2
                        simpa using h2.symm
                      have hq := HJ.out.1.skip HLJ.out HU.out hu0 hsub
                      have HQ := Lib.hid hq
                      have hyb : (y != u) = false := by simpa using hyu
                      clear hq hsub hyu hent hneg
                      go_wp2_with (first | (refine wpList_ld1 rfl 3 _ rfl HP.out rfl HUM.out Tryd.underlying3 rfl ?_))
                      go_roundw
                      case rel => exact ⟨g2, cp2, os2, ts2, j + 1, by omega, rfl, by go_num, Lib.hid ⟨HQ.out, HJ2⟩, HP⟩
                      case measure => simp [intOf]; omega
                    · have hsu : Sub y u := fun r hr h => by
                        rw [← hy, bitZ_and u b r (by omega)] at h
                        simp at h; exact h.1
                      have hsb : Sub y b := fun r hr h => by
                        rw [← hy, bitZ_and u b r (by omega)] at h
                        simp at h; exact h.2
                      have hwr : ∀ r : Nat, r < 12 → bitZ y r = false → Way f r t := fun r hr h => by
                        rw [← hy, bitZ_and u b r (by omega)] at h
                        cases h1 : bitZ u r
                        · exact HJ.out.1.wayR t u HU.out hu0 r hr h1
                        · rw [h1, Bool.true_and] at h
                          exact (HSW.out t (List.mem_of_getElem? HLJ.out)).2 r hr h
                      have hq := HJ.out.1.upd HLJ.out HU.out hyr hsb (fun _ => hsu) (HSW.out t (List.mem_of_getElem? HLJ.out)).1 hwr (by omega)
                      have hm2 := muZ_set HU.out (y := y) (by rw [← hy]; exact wtZ_and hur (by rw [hy]; exact hyu))
                      have HQ := Lib.hid hq
                      have hm3 : 2 * muZ (os2.set t y) + (ts2.length + 1) ≤ 2 * muZ os + ts0.length := by omega
                      have hyb : (y != u) = true := by simpa using hyu
                      clear hq hent hsu hsb hwr hyu hneg
                      go_wp2_with (first | (refine wpList_ld1 rfl 3 _ rfl HP.out rfl HUM.out Tryd.underlying3 rfl ?_) | (refine wpList_st1 rfl 3 _ _ rfl HP.out rfl rfl HBD.out rfl (List.map_set ..).symm (by kernel_rfl) ?_; clear HP; intro wst HP; replace HP := Lib.hid HP) | (refine wpList_ints_hp rfl 27 3 1 _ rfl HP.out Tryd.underlying27 [_] rfl (by kernel_rfl) ?_; clear HP; intro gi wi HP; replace HP := Lib.hid HP) | (at_builtin; refine wpList_apg0 rfl _ _ 27 rfl i_int (.int .i64 0) Tryd.underlying27 hi_int hz_int hs_int rfl (by decide) hy_int (ts2.length + 1) rfl HP.out rfl rfl rfl (by simp [Value.oneCell']) (by unfold maxLen; omega) (by omega) (by omega) ?_; clear HP; intro gap cap wap HP; replace HP := Lib.hid HP))
                      go_roundw
                      case rel =>
                        refine ⟨gap, cap, os2.set t y, ts2 ++ [t], j + 1, by omega, by simp, by go_num, Lib.hid ⟨HQ.out, by simp; omega⟩, Lib.hid ?_⟩
                        have := HP.out
                        rw [show tsV ts2 ++ List.map (Value.int IntKind.i64) [(t : Int)] = tsV (ts2 ++ [t]) by simp [tsV]] at this
                        simpa using this
                      case measure => simp [intOf]; omega
                · obtain rfl : j = l.length := by omega
                  have hend : Inv f os2 ts2 := by
                    have h1 := HJ.out.1
                    rw [← HL.out] at h1
                    exact h1.ends HXS.out
                  have HEND := Lib.hid hend
                  have HJ2 := HJ.out.2
                  have HK := Lib.hid HI.out.2
                  clear hend
                  go_wp2_with fail
                  subst hQ
                  go_wp2_with fail
                  go_roundg (2 * muZ os2 + ts2.length)
                  case measure => have := HK.out.1; simp at this; omega
                  case rel => exact ⟨g2, cp2, os2, ts2, rfl, Lib.hid ⟨HEND.out, rfl, by omega⟩, Lib.hid HP.out.froDrop⟩
          · obtain rfl : pc = f.code.length := by omega
            have HK := Lib.hid HI.out.2
            go_wp2_with (first | (refine wpList_ld0 rfl 45 _ rfl HP.out rfl rfl Tryd.underlying45 rfl ?_) | (refine wpList_ld1 rfl 45 _ rfl HP.out rfl rfl Tryd.underlying45 rfl ?_) | (refine wpList_ld2 rfl 45 _ rfl HP.out rfl rfl Tryd.underlying45 rfl ?_))
            go_roundg (2 * muZ os + ts0.length)
            case measure => have := HK.out.1; simp at this; omega
            case rel => exact ⟨g, cp, os, ts0, rfl, Lib.hid ⟨HI.out.1.pop, rfl, by omega⟩, HP⟩
end Go.Proofs.YtceilfmfidmfpaaDoor
