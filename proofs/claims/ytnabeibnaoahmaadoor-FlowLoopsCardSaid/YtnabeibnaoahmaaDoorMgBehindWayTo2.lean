/- ref.Behind; truths in memory. ref.wayTo. -/
import Derived.Test.YtnabeibnaoahmaaDoorMgWaySureLawSureRun3
import Derived.Test.YtnabeibnaoahmaaDoorMgCodeACodeB2
import Derived.Deep.LoopGhost
set_option linter.unusedSimpArgs false
set_option linter.unusedVariables false
namespace Go.Proofs.YtnabeibnaoahmaaDoor
open Go.RowKit
attribute [local irreducible] wpList Code.wp Oper.wp
theorem rep_code2 {f : List Ins} {u : Value} {w : World} {S : Nat → Prop} (h : Lay.rep w S f [u]) : ∃ (A : Option Addr) (c : Nat), u = .slice A f.length c ∧ f.length ≤ c ∧ c ≤ maxLen ∧
    ∀ (k : Nat) (hk : k < f.length), ∃ (a : Addr), A = some a ∧ S a.block ∧ At w (a.add (k * 5)) [.int .i64 f[k].op, .int .i64 f[k].dst, .int .i64 f[k].a, .int .i64 f[k].b, .int .i64 f[k].imm] := rep_code_at h
set_option maxRecDepth 10000 in
set_option maxHeartbeats 400000 in
theorem Behind_any (f : Fun) (v : Value) (pc : Nat) (w : World) (hv : Lay.rep w (Lt w.heap.size) f.code [v]) (hpc : pc < f.code.length) :
    Calls Tryd.prog 34 #[.agg #[.int .i64 f.params, .int .i64 f.regs, v], .int .i64 pc] w fun e w' => ∃ u, e = .returned u ∧ Lay.rep w' (Fresh w w') (nextZ f.code[pc] pc) [u] ∧ Below w.heap.size w w' := by
  obtain ⟨A, c, rfl, hc, hm, hx⟩ := rep_code_at hv
  unfold maxLen at hm
  obtain ⟨a, rfl, hab, hat⟩ := hx pc hpc
  have HAT := Lib.hid hat
  clear hx hat
  have HP := Lib.hid (Hp.start w)
  go_enter Tryd.func34, Tryd.ntmps34
  go_wp2_with (first | (refine wpList_box_hp (o := ⟨some 2, _, _, _, _, _⟩) rfl _ _ rfl HP.out [_, _, _] rfl ?_; clear HP; intro g2 w2 HP; replace HP := Lib.hid HP) | (refine wpList_alloc_hp (o := ⟨some 5, _, _, _, _, _⟩) rfl _ rfl HP.out (.agg #[.int .i64 0, .int .i64 0, .int .i64 0, .int .i64 0, .int .i64 0]) (by kernel_rfl) [_, _, _, _, _] rfl ?_; clear HP; intro g5 w5 HP; replace HP := Lib.hid HP) | (refine wpList_ld0 rfl 55 _ rfl HP.out rfl rfl Tryd.underlying55 rfl ?_) | (refine wpList_ld0 rfl 3 _ rfl HP.out rfl rfl Tryd.underlying3 rfl ?_) | (refine wpList_load_at rfl 65 _ rfl _ rfl _ _ (HP.out.at_ (F := ⟨w, Lt w.heap.size⟩) (by simp) HAT.out (by rw [block_of_add]; exact hab)) Tryd.underlying65 rfl (by kernel_rfl) ?_) | (refine wpList_stR0 rfl 65 _ _ rfl HP.out rfl (cs' := [_, _, _, _, _]) rfl rfl (by simp [Value.oneCell']) (by kernel_rfl) ?_; clear HP; intro wst HP; replace HP := Lib.hid HP) | (refine wpList_ints_hp rfl 25 3 1 _ rfl HP.out Tryd.underlying25 [_] rfl (by kernel_rfl) ?_; clear HP; intro gi wi HP; replace HP := Lib.hid HP) | (refine wpList_ints_hp rfl 25 3 2 _ rfl HP.out Tryd.underlying25 [_, _] rfl (by kernel_rfl) ?_; clear HP; intro gi wi HP; replace HP := Lib.hid HP))
  all_goals
    go_ret
    refine ⟨_, rfl, ?_, HP.out.below⟩
    simp only [beq_iff_eq, beq_eq_false_iff_ne, ne_eq] at *
    unfold nextZ
    simp only [*, if_true, if_false]
    first | exact rep_ints_nil | exact HP.out.ints (.head _) rfl rfl (by unfold maxLen; decide)
theorem rep_bool_block {w : World} {B : Nat → Prop} {g cap : Nat} {t : TypeId} {fr : Nat × Nat} {xs : List Bool} (hg : w.heap[g]? = some (.cells (xs.map Value.bool).toArray t fr)) (hB : B g) (hc : xs.length ≤ cap) (hm : cap ≤ maxLen) :
    Lay.rep w B xs [.slice (some ⟨g, 0, none⟩) xs.length cap] := by
  refine ⟨_, _, rfl, hc, hm, fun k x hx => ⟨⟨g, 0, none⟩, [.bool x], rfl, hB, fun j v hv => ?_, rfl⟩⟩
  have hj : j = 0 := by have := (List.getElem?_eq_some_iff.1 hv).1; simpa using this
  subst hj
  simp at hv
  subst hv
  rw [add_of_add, Addr.add_lit, cell_of_row _ _ _ _ _ _ hg]
  show ((xs.map Value.bool).toArray)[0 + (k * 1 + 0)]? = _
  rw [Nat.mul_one, Nat.add_zero, Nat.zero_add]
  simp [hx]
theorem Hp.bools {w0 w : World} {Fs : List Fro} {L : List Res} {g : Nat} {t : TypeId} {cs : List Value} {n : Nat} {xs : List Bool} (h : Hp w0 Fs L w) (hm : Res.blk g t cs ∈ L) (hx : cs = xs.map Value.bool) (hn : n = xs.length) (hl : n ≤ maxLen) :
    Lay.rep w (Fresh w0 w) xs [.slice (some ⟨g, 0, none⟩) n n] := by
  subst hx hn
  exact rep_bool_block (h.blk hm) ⟨((h.own _ hm).2 g rfl).1, ((h.own _ hm).2 g rfl).2.1⟩ (Nat.le_refl _) hl
/-- A slice of truths. -/
theorem rep_bools_at {w : World} {B : Nat → Prop} {xs : List Bool} {v : Value} (h : Lay.rep w B xs [v]) : ∃ (A : Option Addr) (c : Nat), v = .slice A xs.length c ∧ xs.length ≤ c ∧ c ≤ maxLen ∧
    ∀ (k : Nat) (hk : k < xs.length), ∃ (a : Addr), A = some a ∧ B a.block ∧ w.cell? (a.add k) = some (.bool xs[k]) := by
  obtain ⟨A, c, e, h1, h2, h3⟩ := rep_list h
  injection e with e
  refine ⟨A, c, e, h1, h2, fun k hk => ?_⟩
  obtain ⟨a, ds, ha, hb, hat, hr⟩ := h3 k hk
  rw [rep_bool] at hr
  subst hr
  refine ⟨a, ha, hb, ?_⟩
  have := hat.cell 0 rfl
  rwa [add_of_add, show k * Lay.size Bool + 0 = k from Nat.mul_one k] at this
theorem info_bool : (Tryd.prog.info? 4).map (fun i => (i.zero, i.size, i.bytes)) = some (some (.bool false), 1, 1) := by kernel_rfl
end Go.Proofs.YtnabeibnaoahmaaDoor
namespace Go.Proofs.YtnabeibnaoahmaaDoor
open Go.RowKit
attribute [local irreducible] wpList Code.wp Oper.wp
theorem or_false2 {a b : Bool} (h : (!a || b) = false) : a = true ∧ b = false := by cases a <;> cases b <;> simp_all
set_option maxRecDepth 10000 in
set_option maxHeartbeats 4000000 in
theorem wayTo_any (f : Fun) (funcs : Nat) (v : Value) (r : Int) (w : World) (hv : Lay.rep w (Lt w.heap.size) f.code [v]) (ok : OkF f funcs) (hr : -1 ≤ r ∧ r ≤ 11) :
    Calls Tryd.prog 61 #[.agg #[.int .i64 f.params, .int .i64 f.regs, v], .int .i64 r] w fun e w' => ∃ u, e = .returned u ∧ Lay.rep w' (Fresh w w') (wayL f r) [u] ∧ Below w.heap.size w w' := by
  obtain ⟨A, c, rfl, hc, hm, hx⟩ := rep_code2 hv
  unfold maxLen at hm
  have HX := Lib.hid hx
  have HV := Lib.hid hv
  have HOK := Lib.hid ok
  obtain ⟨l1, l2⟩ := ok.len
  obtain ⟨r1, r2⟩ := hr
  obtain ⟨p1, p2, p3⟩ := ok.params
  clear hx hv ok
  obtain ⟨i_bool, hi_bool, hz_bool, hs_bool, hy_bool⟩ := info_parts info_bool
  have HP := Lib.hid (Hp.start w)
  go_enter Tryd.func61, Tryd.ntmps61
  go_upto_region 2 with (first | (refine wpList_box_hp (o := ⟨some 2, _, _, _, _, _⟩) rfl _ _ rfl HP.out [_, _, _] rfl ?_; clear HP; intro g2 w2 HP; replace HP := Lib.hid HP) | (refine wpList_ld0 rfl 55 _ rfl HP.out rfl rfl Tryd.underlying55 rfl ?_) | (refine wpList_make_hp (o := ⟨some 15, _, _, _, _, _⟩) rfl _ _ _ rfl _ i_bool (.bool false) Tryd.underlying63 hi_bool hz_bool rfl hs_bool (f.code.length + 1) rfl rfl (by rw [hy_bool]; omega) (by unfold maxLen; omega) HP.out ?_; clear HP; intro g15 w15 HP; replace HP := Lib.hid HP))
  by_cases hpr : 0 ≤ r ∧ r < f.params
  · obtain ⟨q1, q2⟩ := hpr
    have HN := Lib.hid (wayL_none (f := f) (r := r) ⟨q1, q2⟩)
    go_wp2_with (first | (refine wpList_ld0 rfl 3 _ rfl HP.out rfl rfl Tryd.underlying3 rfl ?_) | (refine wpList_ld1 rfl 3 _ rfl HP.out rfl rfl Tryd.underlying3 rfl ?_))
    go_ret
    exact ⟨_, rfl, HP.out.bools (.head _) (by rw [← HN.out, List.map_replicate]) (by rw [wayL_len]) (by unfold maxLen; omega), HP.out.below⟩
  · have HNP := Lib.hid hpr
    rw [← List.map_replicate] at HP
    have hcase : (f.params ≤ r) ∨ r < 0 := by omega
    go_cut [23] (fun v wx => v = .bool false ∧ Hid (Hp w [{ w := w, S := Lt w.heap.size }] [Res.blk g15 4 (List.map Value.bool (List.replicate (f.code.length + 1) false)), Res.blk g2 57 [Value.int IntKind.i64 f.params, Value.int IntKind.i64 f.regs, Value.slice A f.code.length c]] wx))
    case first =>
      rcases hcase with hcase | hcase
      · go_wp2_with (first | (refine wpList_ld0 rfl 3 _ rfl HP.out rfl rfl Tryd.underlying3 rfl ?_) | (refine wpList_ld1 rfl 3 _ rfl HP.out rfl rfl Tryd.underlying3 rfl ?_))
        go_meet
        exact ⟨rfl, HP⟩
      · have hlt : r < f.params := by omega
        go_wp2_with (first | (refine wpList_ld0 rfl 3 _ rfl HP.out rfl rfl Tryd.underlying3 rfl ?_) | (refine wpList_ld1 rfl 3 _ rfl HP.out rfl rfl Tryd.underlying3 rfl ?_))
        go_meet
        refine ⟨?_, HP⟩
        congr 1
        simp; omega
    case rest =>
      clear HP hcase
      obtain ⟨rfl, HP⟩ := hcut
      go_upto_region 5 with (first | (refine wpList_st0 rfl 4 _ _ rfl HP.out rfl rfl (by simp) rfl (List.map_set ..).symm (by kernel_rfl) ?_; clear HP; intro wst HP; replace HP := Lib.hid HP))
      obtain ⟨bs0, hbs0⟩ : ∃ bs0, (List.replicate (f.code.length + 1) false).set 0 true = bs0 := ⟨_, rfl⟩
      rw [hbs0] at HP
      have hb0 : bs0.length = f.code.length + 1 := by rw [← hbs0]; simp
      have hb1 : bs0[0]? = some true := by rw [← hbs0]; simp
      have hb2 : Sound f r bs0 := fun pc hp => by
        rw [← hbs0] at hp
        by_cases e : pc = 0
        · subst e; exact .start HNP.out
        · rw [List.getElem?_set_ne (Ne.symm e)] at hp
          have := List.getElem?_eq_some_iff.1 hp
          obtain ⟨h1, h2⟩ := this
          simp at h2
      have HB1 := Lib.hid hb1
      have HB2 := Lib.hid hb2
      have HLN := Lib.hid hb0
      clear hbs0 hb1 hb2 hb0
      go_wp2
      go_loopg [6] (2 * bs0.count false + 1) (fun k v wr => ∃ (b : Bool) (bs : List Bool), v = .bool b ∧ Hid (bs.length = f.code.length + 1 ∧ Sound f r bs ∧ bs[0]? = some true ∧ (b = false → ∀ pc, pc < f.code.length → ClosedAt f r bs pc) ∧ k = 2 * bs.count false + b.toNat) ∧ Hid (Hp w [{ w := w, S := Lt w.heap.size }] [Res.blk g15 4 (List.map Value.bool bs), Res.blk g2 57 [Value.int IntKind.i64 f.params, Value.int IntKind.i64 f.regs, Value.slice A f.code.length c]] wr))
      case atStart => exact ⟨true, bs0, rfl, Lib.hid ⟨HLN.out, HB2.out, HB1.out, fun e => (by cases e), rfl⟩, HP⟩
      case round =>
        clear HP HB1 HB2 HLN
        obtain ⟨b, bs, rfl, HB, HP⟩ := hrel
        obtain ⟨wo, rfl⟩ : ∃ wo : World, wo = wr := ⟨_, rfl⟩
        cases b
        · have hw : bs = wayL f r := way_closed HOK.out HB.out.1 (fun _ => HB.out.2.2.1) HB.out.2.1 (HB.out.2.2.2.1 rfl)
          have HW := Lib.hid hw
          clear hw
          go_wp2
          go_ret
          exact ⟨_, rfl, HP.out.bools (.head _) (by rw [HW.out]) (by rw [wayL_len]) (by unfold maxLen; omega), HP.out.below⟩
        · go_wp2
          go_hide hQ
          go_loopw [6, 7] (fun v i wr => ∃ (b' : Bool) (bs' : List Bool) (pc : Nat), pc ≤ f.code.length ∧ v = .bool b' ∧ i = .int .i64 pc ∧ Hid (Rnd f r bs bs' b') ∧ Hid (b' = false → ∀ q, q < pc → ClosedAt f r bs' q) ∧ Hid (Hp w [{ w := w, S := Lt w.heap.size }] [Res.blk g15 4 (List.map Value.bool bs'), Res.blk g2 57 [Value.int IntKind.i64 f.params, Value.int IntKind.i64 f.regs, Value.slice A f.code.length c]] wr)) (fun _ i _ => f.code.length - (intOf i).toNat)
          case atStart => exact ⟨false, bs, 0, by omega, rfl, rfl, Lib.hid ⟨HB.out.1, HB.out.2.1, fun _ => HB.out.2.2.1, fun _ => rfl, fun e => (by cases e)⟩, Lib.hid (fun _ q hq => by omega), HP⟩
          case round =>
            clear HP
            obtain ⟨b', bs', pc, hpc, rfl, rfl, HR, HC, HP⟩ := hrel
            obtain ⟨wi, rfl⟩ : ∃ wi : World, wi = wr := ⟨_, rfl⟩
            by_cases hlt : pc < f.code.length
            · obtain ⟨a, rfl, hab, hat⟩ := HX.out pc hlt
              obtain ⟨x, hx⟩ : ∃ x, f.code[pc] = x := ⟨_, rfl⟩
              rw [hx] at hat
              have hxs : f.code[pc]? = some x := by rw [← hx, List.getElem?_eq_getElem hlt]
              have HXX := Lib.hid hx
              have HXS := Lib.hid hxs
              have HOI := Lib.hid (HOK.out.ins x (hx ▸ List.getElem_mem hlt))
              have HAT := Lib.hid hat
              clear hx hxs hat
              have hlt2 : (pc : Int) < (f.code.length : Int) := by omega
              go_upto_region 12 with (first | (refine wpList_ld0 rfl 55 _ rfl HP.out rfl rfl Tryd.underlying55 rfl ?_) | (refine wpList_ld1 rfl 55 _ rfl HP.out rfl rfl Tryd.underlying55 rfl ?_) | (refine wpList_alloc_hp (o := ⟨some 8, _, _, _, _, _⟩) rfl _ rfl HP.out (.agg #[.int .i64 0, .int .i64 0, .int .i64 0, .int .i64 0, .int .i64 0]) (by kernel_rfl) [_, _, _, _, _] rfl ?_; clear HP; intro g8 w8 HP; replace HP := Lib.hid HP) | (refine wpList_load_at rfl 65 _ rfl _ rfl _ _ (HP.out.at_ (F := ⟨w, Lt w.heap.size⟩) (by simp) HAT.out (by rw [block_of_add]; exact hab)) Tryd.underlying65 rfl (by kernel_rfl) ?_) | (refine wpList_stR0 rfl 65 _ _ rfl HP.out rfl (cs' := [_, _, _, _, _]) rfl rfl (by simp [Value.oneCell']) (by kernel_rfl) ?_; clear HP; intro wst HP; replace HP := Lib.hid HP))
              obtain ⟨b0, hb0⟩ : ∃ b0, bs'[pc]? = some b0 := ⟨_, List.getElem?_eq_getElem (by rw [HR.out.len]; omega)⟩
              have HB0 := Lib.hid hb0
              have hsb := HP.out.cell (.tail _ (.head _)) pc (.bool b0) (by rw [List.getElem?_map, hb0]; rfl)
              have hop := HP.out.cell (.head _) 0 _ rfl
              have hdst := HP.out.cell (.head _) 1 _ rfl
              clear hb0
              (try simp only [Act.put, List.setIfInBounds_toArray, List.set_cons_zero, List.set_cons_succ])
              obtain ⟨kb, hkb⟩ : ∃ kb, Kill r x = kb := ⟨_, rfl⟩
              go_cut [59] (fun v wx => v = .bool (!b0 || kb) ∧ Hid (Hp w [{ w := w, S := Lt w.heap.size }] [Res.blk g8 65 [Value.int IntKind.i64 x.op, Value.int IntKind.i64 x.dst, Value.int IntKind.i64 x.a, Value.int IntKind.i64 x.b, Value.int IntKind.i64 x.imm], Res.blk g15 4 (List.map Value.bool bs'), Res.blk g2 57 [Value.int IntKind.i64 f.params, Value.int IntKind.i64 f.regs, Value.slice (some a) f.code.length c]] wx))
              case first =>
                unfold Kill at hkb
                cases b0
                · clear hkb
                  go_wp2_with fail
                  go_meet
                  exact ⟨rfl, HP⟩
                · by_cases h0 : 0 ≤ r
                  · have h0b : decide (0 ≤ r) = true := by simpa using h0
                    obtain ⟨sb, hsbb⟩ : ∃ sb, setsZ x.op = sb := ⟨_, rfl⟩
                    rw [hsbb] at hkb
                    have HSB := Lib.hid hsbb
                    clear hsbb
                    cases sb
                    · have HKB := Lib.hid hkb
                      clear hkb
                      go_wp2_with (go_at_call 33; refine (Sets_any _ _).mono ?_; rintro e w' ⟨rfl, rfl⟩; rw [HSB.out])
                      go_meet
                      refine ⟨?_, HP⟩
                      rw [← HKB.out]; simp
                    · have HKB := Lib.hid hkb
                      clear hkb
                      go_wp2_with (go_at_call 33; refine (Sets_any _ _).mono ?_; rintro e w' ⟨rfl, rfl⟩; rw [HSB.out])
                      go_meet
                      refine ⟨?_, HP⟩
                      rw [← HKB.out]
                      congr 1
                      rw [Bool.eq_iff_iff]
                      simp [h0]
                  · have h0b : decide (0 ≤ r) = false := by simpa using h0
                    have HKB := Lib.hid hkb
                    clear hkb h0
                    go_wp2_with fail
                    go_meet
                    refine ⟨?_, HP⟩
                    rw [← HKB.out, h0b]; simp
              case rest =>
                obtain ⟨rfl, HP⟩ := hcut
                have HKB := Lib.hid hkb
                clear hkb hsb hop hdst
                obtain ⟨sk, hsk⟩ : ∃ sk, (!b0 || kb) = sk := ⟨_, rfl⟩
                rw [hsk]
                have HSK := Lib.hid hsk
                clear hsk
                cases sk
                · have hb0 : b0 = true ∧ kb = false := or_false2 HSK.out
                  obtain ⟨rfl, rfl⟩ := hb0
                  have hin := nextZ_in HOI.out hlt
                  have HIN := Lib.hid hin
                  clear hin
                  go_upto_region 15 with (first | (refine wpList_ldR0 rfl 57 _ rfl HP.out rfl Tryd.underlying57 rfl (by kernel_rfl) ?_) | (refine wpList_ldR1 rfl 57 _ rfl HP.out rfl Tryd.underlying57 rfl (by kernel_rfl) ?_) | (refine wpList_ldR2 rfl 57 _ rfl HP.out rfl Tryd.underlying57 rfl (by kernel_rfl) ?_) | (go_at_call 34; refine (Behind_any f _ pc _ (HP.out.rep (F := ⟨w, Lt w.heap.size⟩) (by simp) HV.out) hlt).mono ?_; rintro e w6 ⟨u6, rfl, hu6, hb6⟩; replace HP := Lib.hid (HP.out.call hb6); rw [HXX.out] at hu6; obtain ⟨A6, c6, rfl, hc6, hm6, hx6⟩ := rep_ints_at hu6; unfold maxLen at hm6; have HX6 := Lib.hid hx6; clear hu6 hx6 hb6))
                  obtain ⟨l, hl⟩ : ∃ l, nextZ x pc = l := ⟨_, rfl⟩
                  have hl2 := nextZ_len x pc
                  rw [hl] at HIN HX6 hc6 hl2
                  simp only [hl]
                  have HL := Lib.hid hl
                  clear hl
                  (try simp only [Act.put, List.setIfInBounds_toArray, List.set_cons_zero, List.set_cons_succ])
                  go_hide hQ2
                  go_loopw [6, 10] (fun v i wr => ∃ (b2 : Bool) (bs2 : List Bool) (j : Nat), j ≤ l.length ∧ v = .bool b2 ∧ i = .int .i64 j ∧ Hid (Rnd f r bs bs2 b2) ∧ Hid (b2 = false → ∀ q, q < pc → ClosedAt f r bs2 q) ∧ Hid (bs2[pc]? = some true) ∧ Hid (∀ i' n, i' < j → l[i']? = some n → bs2[n.toNat]? = some true) ∧ Hid (Hp w [{ w := w6, S := Fresh wc w6 }, { w := w, S := Lt w.heap.size }] [Res.blk g8 65 [Value.int IntKind.i64 x.op, Value.int IntKind.i64 x.dst, Value.int IntKind.i64 x.a, Value.int IntKind.i64 x.b, Value.int IntKind.i64 x.imm], Res.blk g15 4 (List.map Value.bool bs2), Res.blk g2 57 [Value.int IntKind.i64 f.params, Value.int IntKind.i64 f.regs, Value.slice (some a) f.code.length c]] wr)) (fun _ i _ => l.length - (intOf i).toNat)
                  case atStart => exact ⟨b', bs', 0, by omega, rfl, rfl, HR, HC, HB0, Lib.hid (fun _ _ h => by omega), HP⟩
                  case round =>
                    clear HP HR HC HB0
                    obtain ⟨b2, bs2, j, hj, rfl, rfl, HR, HC, HB0, HD, HP⟩ := hrel
                    obtain ⟨wk, rfl⟩ : ∃ wk : World, wk = wr := ⟨_, rfl⟩
                    by_cases hjl : j < l.length
                    · obtain ⟨a6, rfl, hab6, hc6'⟩ := HX6.out j hjl
                      have hn := HIN.out _ (List.getElem_mem hjl)
                      obtain ⟨n, hn0⟩ : ∃ n, l[j] = n := ⟨_, rfl⟩
                      rw [hn0] at hc6' hn
                      obtain ⟨t, rfl⟩ := Int.eq_ofNat_of_zero_le hn.1
                      have htl : (t : Int) < (f.code.length : Int) + 1 := by omega
                      have htl2 : t < f.code.length + 1 := by omega
                      have hjl2 : (j : Int) < (l.length : Int) := by omega
                      have hcj := (HP.out.alike (F := ⟨w6, Fresh wc w6⟩) (.head _) (a6.add j) (by rw [block_of_add]; exact hab6)).trans hc6'
                      have HLJ := Lib.hid (show l[j]? = some (t : Int) by rw [← hn0, List.getElem?_eq_getElem hjl])
                      obtain ⟨b1, hb1⟩ : ∃ b1, bs2[t]? = some b1 := ⟨_, List.getElem?_eq_getElem (by rw [HR.out.len]; omega)⟩
                      have hbt := HP.out.cell (.tail _ (.head _)) t (.bool b1) (by rw [List.getElem?_map, hb1]; rfl)
                      have HB1 := Lib.hid hb1
                      have HBT := Lib.hid (show t < (List.map Value.bool bs2).length by rw [List.length_map, HR.out.len]; exact htl2)
                      have HTL := Lib.hid htl2
                      clear hn0 hc6' hb1
                      cases b1
                      · go_wp2_with (first | (refine wpList_st1 rfl 4 _ _ rfl HP.out rfl rfl HBT.out rfl (List.map_set ..).symm (by kernel_rfl) ?_; clear HP; intro wst HP; replace HP := Lib.hid HP))
                        go_roundw
                        case rel =>
                          refine ⟨true, bs2.set t true, j + 1, by omega, rfl, by go_num, Lib.hid (HR.out.set HB1.out ?_), Lib.hid (fun e => by cases e), Lib.hid ?_, Lib.hid fun i' n hi hn => ?_, HP⟩
                          · have := Way.step (HR.out.sound pc HB0.out) HXS.out HKB.out (n := (t : Int)) (by rw [HL.out]; exact List.mem_of_getElem? HLJ.out)
                            simpa using this
                          · by_cases e : t = pc
                            · rw [e, List.getElem?_set_self (show pc < bs2.length by rw [HR.out.len]; omega)]
                            · rw [List.getElem?_set_ne e]; exact HB0.out
                          · by_cases e : t = n.toNat
                            · rw [← e, List.getElem?_set_self (by rw [HR.out.len]; exact HTL.out)]
                            · rw [List.getElem?_set_ne e]
                              by_cases hij : i' < j
                              · exact HD.out i' n hij hn
                              · obtain rfl : i' = j := by omega
                                rw [HLJ.out] at hn
                                cases hn
                                exact absurd rfl e
                        case measure => simp [intOf]; omega
                      · go_wp2_with fail
                        go_roundw
                        case rel =>
                          refine ⟨b2, bs2, j + 1, by omega, rfl, by go_num, HR, HC, HB0, Lib.hid fun i' n hi hn => ?_, HP⟩
                          by_cases hij : i' < j
                          · exact HD.out i' n hij hn
                          · obtain rfl : i' = j := by omega
                            rw [HLJ.out] at hn
                            cases hn
                            exact HB1.out
                        case measure => simp [intOf]; omega
                    · obtain rfl : j = l.length := by omega
                      go_wp2_with fail
                      subst hQ2
                      go_wp2_with fail
                      go_roundw
                      case rel =>
                        refine ⟨b2, bs2, pc + 1, by omega, rfl, by go_num, HR, Lib.hid fun e q hq => ?_, Lib.hid (Hp.drop (A := []) HP.out.froDrop)⟩
                        by_cases hqp : q < pc
                        · exact HC.out e q hqp
                        · obtain rfl : q = pc := by omega
                          intro _ y hy _ n hn
                          rw [HXS.out] at hy
                          cases hy
                          rw [HL.out] at hn
                          obtain ⟨i', hi', rfl⟩ := List.getElem_of_mem hn
                          exact HD.out i' _ hi' (List.getElem?_eq_getElem hi')
                      case measure => simp [intOf]; omega
                · go_wp2_with fail
                  go_roundw
                  case rel =>
                    refine ⟨b', bs', pc + 1, by omega, rfl, by go_num, HR, Lib.hid fun e q hq => ?_, Lib.hid (Hp.drop (A := []) HP.out)⟩
                    by_cases hqp : q < pc
                    · exact HC.out e q hqp
                    · obtain rfl : q = pc := by omega
                      intro hb y hy hk n hn
                      have hskk := HSK.out
                      rw [HB0.out] at hb
                      rw [HXS.out] at hy
                      cases hy
                      cases hb
                      rw [HKB.out] at hk
                      subst hk
                      simp at hskk
                  case measure => simp [intOf]; omega
            · obtain rfl : pc = f.code.length := by omega
              go_wp2_with (first | (refine wpList_ld0 rfl 55 _ rfl HP.out rfl rfl Tryd.underlying55 rfl ?_) | (refine wpList_ld1 rfl 55 _ rfl HP.out rfl rfl Tryd.underlying55 rfl ?_))
              subst hQ
              go_wp2_with fail
              have HBB := HB.out
              go_roundg (2 * bs'.count false + b'.toNat)
              case measure =>
                have h1 := HBB.2.2.2.2
                rw [h1]
                cases b'
                · have := HR.out.no rfl
                  rw [this]; simp
                · have := HR.out.yes rfl
                  simp; omega
              case rel => exact ⟨b', bs', rfl, Lib.hid ⟨HR.out.len, HR.out.sound, HR.out.first HNP.out, fun e q hq => HC.out e q hq, rfl⟩, HP⟩
end Go.Proofs.YtnabeibnaoahmaaDoor
