/- proof.sure. -/
import Derived.Test.YtnabeibnaoahmaaDoorSureOf
import Derived.Test.YtnabeibnaoahmaaDoorMgWaySureLawSureRun3
import Derived.Test.YtnabeibnaoahmaaDoorMgReadsHReadsKReads23
set_option linter.unusedSimpArgs false
set_option linter.unusedVariables false
namespace Go.Proofs.YtnabeibnaoahmaaDoor
open Go.RowKit Plain64
attribute [local irreducible] wpList Code.wp Oper.wp
theorem low_bits : ∀ p : Fin 3, ∀ r : Fin 12, bitZ (2 ^ p.1 - 1) r.1 = decide (r.1 < p.1) := by decide +kernel
theorem inv_start {f : Fun} {funcs : Nat} (ok : OkF f funcs) : Inv f ((List.replicate (f.code.length + 1) (-1)).set 0 (2 ^ f.params.toNat - 1)) [0] := by
  obtain ⟨p1, p2, _⟩ := ok.params
  have hat : ∀ (q : Nat) u, ((List.replicate (f.code.length + 1) (-1 : Int)).set 0 (2 ^ f.params.toNat - 1))[q]? = some u → (q = 0 ∧ u = 2 ^ f.params.toNat - 1) ∨ (q ≠ 0 ∧ u = -1) := fun q u hu => by
    by_cases e : 0 = q
    · subst e; rw [List.getElem?_set_self (by simp)] at hu; cases hu; exact .inl ⟨rfl, rfl⟩
    · rw [List.getElem?_set_ne e] at hu
      have := List.getElem?_eq_some_iff.1 hu
      obtain ⟨h1, h2⟩ := this
      simp at h2
      exact .inr ⟨Ne.symm e, h2.symm⟩
  have hr : (0 : Int) ≤ 2 ^ f.params.toNat - 1 ∧ (2 : Int) ^ f.params.toNat - 1 ≤ 4095 := by
    have := pow_small f.params (by omega)
    have h3 : f.params = 0 ∨ f.params = 1 ∨ f.params = 2 := by omega
    rcases h3 with e | e | e <;> rw [e] <;> decide
  have hb : ∀ r : Nat, r < 12 → bitZ (2 ^ f.params.toNat - 1) r = decide ((r : Int) < f.params) := fun r hr' => by
    have := low_bits ⟨f.params.toNat, by omega⟩ ⟨r, hr'⟩
    simp only at this
    rw [this, decide_eq_decide]; omega
  refine ⟨⟨by simp, fun q u hu => ?_, fun q u hu h0 => ?_, fun q u hu h0 r hr' hb' => ?_, ⟨_, List.getElem?_set_self (by simp), hr.1, fun r hr' hp => ?_⟩, fun t ht => ?_⟩, fun q hq hqt u hu h0 => ?_⟩
  · rcases hat q u hu with ⟨_, rfl⟩ | ⟨_, rfl⟩
    · exact .inr hr
    · exact .inl rfl
  · rcases hat q u hu with ⟨rfl, _⟩ | ⟨_, rfl⟩
    · exact .start (by omega)
    · omega
  · rcases hat q u hu with ⟨rfl, rfl⟩ | ⟨_, rfl⟩
    · rw [hb r hr'] at hb'
      simp at hb'
      exact .start (by omega)
    · omega
  · rw [hb r hr']; simp; omega
  · obtain rfl := List.mem_singleton.1 ht
    exact ⟨by omega, _, List.getElem?_set_self (by simp), hr.1⟩
  · rcases hat q u hu with ⟨rfl, _⟩ | ⟨_, rfl⟩
    · exact absurd (List.mem_singleton.2 rfl) hqt
    · omega
abbrev tsV (ts : List Nat) : List Value := List.map (fun t : Nat => Value.int .i64 (t : Int)) ts
theorem Hp.rowTake {w0 w : World} {Fs : List Fro} {A B : List Res} {g n c : Nat} {e : TypeId} {cs : List Value} (h : Hp w0 Fs (A ++ .row (.slice (some ⟨g, 0, none⟩) n c) e 1 n cs :: B) w) (m : Nat) (hm : m ≤ n) :
    Hp w0 Fs (A ++ .row (.slice (some ⟨g, 0, none⟩) m c) e 1 m (cs.take m) :: B) w := by
  have ho := h.row (v := .slice (some ⟨g, 0, none⟩) n c) (e := e) (sz := 1) (n := n) (cs := cs) (by simp)
  refine h.chg ⟨rfl, rfl, rfl, Nat.le_refl _, fun _ _ _ => rfl⟩ ⟨by simp [ho.1]; omega, ?_⟩ (fun b hb => .inl hb)
  rcases ho.2 with ⟨h0, _⟩ | ⟨g', cap, cur, hv, h1, hg, h2, h3, h4, h5⟩
  · cases h0
  · cases hv
    refine .inr ⟨g, c, cur, rfl, h1, hg, by omega, h3, h4, ?_⟩
    rw [← h5, List.take_take]; congr 1; omega
theorem Hp.rowCap {w0 w : World} {Fs : List Fro} {L : List Res} {g n c sz : Nat} {e : TypeId} {cs : List Value} (h : Hp w0 Fs L w) (hm : Res.row (.slice (some ⟨g, 0, none⟩) n c) e sz n cs ∈ L) : n ≤ c ∧ c ≤ maxLen := by
  rcases (h.row hm).2 with ⟨h0, _⟩ | ⟨g', cap, cur, hv, h1, hg, h2, h3, h4, h5⟩
  · cases h0
  · cases hv; exact ⟨h2, h3⟩
theorem muZ_le (os : List Int) : muZ os ≤ 13 * os.length := by
  unfold muZ
  induction os with
  | nil => simp
  | cons a os ih =>
    have : wtZ a ≤ 13 := by
      unfold wtZ
      split
      · omega
      · have := List.countP_le_length (p := bitZ a) (l := List.range 12)
        simp only [List.length_range] at this; omega
    simp only [List.map_cons, List.sum_cons, List.length_cons]; omega
set_option maxRecDepth 10000 in
set_option maxHeartbeats 4000000 in
theorem sure_any (f : Fun) (funcs : Nat) (v : Value) (w : World) (hv : Lay.rep w (Lt w.heap.size) f.code [v]) (ok : OkF f funcs) :
    Calls Tryd.prog 56 #[.agg #[.int .i64 f.params, .int .i64 f.regs, v]] w fun e w' => ∃ u c, e = .returned (.slice (some u) (f.code.length + 1) c) ∧ Lay.rep w' (Fresh w w') (sureL f) [.slice (some u) (f.code.length + 1) c] ∧ Below w.heap.size w w' := by
  obtain ⟨A, c, rfl, hc, hm, hx⟩ := rep_code2 hv
  unfold maxLen at hm
  have HX := Lib.hid hx
  have HV := Lib.hid hv
  have HOK := Lib.hid ok
  obtain ⟨l1, l2⟩ := ok.len
  obtain ⟨p1, p2, p3⟩ := ok.params
  clear hx hv ok
  obtain ⟨i_int, hi_int, hz_int, hs_int, hy_int⟩ := info_parts info_int
  have HP := Lib.hid (Hp.start w)
  go_enter Tryd.func56, Tryd.ntmps56
  go_upto_region 2 with (first | (refine wpList_box_hp (o := ⟨some 1, _, _, _, _, _⟩) rfl _ _ rfl HP.out [_, _, _] rfl ?_; clear HP; intro g1 w1 HP; replace HP := Lib.hid HP) | (refine wpList_ld0 rfl 55 _ rfl HP.out rfl rfl Tryd.underlying55 rfl ?_) | (refine wpList_make_hp (o := ⟨some 15, _, _, _, _, _⟩) rfl _ _ _ rfl _ i_int (.int .i64 0) Tryd.underlying25 hi_int hz_int rfl hs_int (f.code.length + 1) rfl rfl (by rw [hy_int]; omega) (by unfold maxLen; omega) HP.out ?_; clear HP; intro g15 w15 HP; replace HP := Lib.hid HP))
  rw [← List.map_replicate] at HP
  go_wp2
  go_loopw [18] (fun i wr => ∃ (k : Nat) (os : List Int), k ≤ f.code.length + 1 ∧ i = .int .i64 k ∧ Hid (os.length = f.code.length + 1 ∧ ∀ q, q < k → os[q]? = some (-1)) ∧ Hid (Hp w [{ w := w, S := Lt w.heap.size }] [Res.blk g15 3 (List.map (Value.int IntKind.i64) os), Res.blk g1 57 [Value.int IntKind.i64 f.params, Value.int IntKind.i64 f.regs, Value.slice A f.code.length c]] wr)) (fun i _ => f.code.length + 1 - (intOf i).toNat)
  case atStart => exact ⟨0, _, by omega, rfl, Lib.hid ⟨by simp, fun q hq => by omega⟩, HP⟩
  case round =>
    clear HP
    obtain ⟨k, os, hk, rfl, HO, HP⟩ := hrel
    obtain ⟨wo, rfl⟩ : ∃ wo : World, wo = wr := ⟨_, rfl⟩
    by_cases hlt : k < f.code.length + 1
    · have HBD := Lib.hid (show k < (List.map (Value.int IntKind.i64) os).length by rw [List.length_map, HO.out.1]; exact hlt)
      have hlt2 : (k : Int) < (f.code.length : Int) + 1 := by omega
      go_wp2_with (first | (refine wpList_st0 rfl 3 _ _ rfl HP.out rfl rfl HBD.out rfl (List.map_set ..).symm (by kernel_rfl) ?_; clear HP; intro wst HP; replace HP := Lib.hid HP))
      go_roundw
      case rel =>
        refine ⟨k + 1, os.set k (-1), by omega, by go_num, Lib.hid ⟨by simp [HO.out.1], fun q hq => ?_⟩, HP⟩
        by_cases e : k = q
        · subst e; rw [List.getElem?_set_self (by rw [HO.out.1]; omega)]
        · rw [List.getElem?_set_ne e]; exact HO.out.2 q (by omega)
      case measure => simp [intOf]; omega
    · obtain rfl : k = f.code.length + 1 := by omega
      have hos : os = List.replicate (f.code.length + 1) (-1) := by
        apply List.ext_getElem?
        intro q
        by_cases hq : q < f.code.length + 1
        · rw [HO.out.2 q hq, List.getElem?_replicate, if_pos hq]
        · rw [List.getElem?_eq_none (by rw [HO.out.1]; omega), List.getElem?_eq_none (by simp; omega)]
      subst hos
      have hpow : wrap64 (2 ^ f.params.toNat) = 2 ^ f.params.toNat := by have := pow_small f.params ⟨by omega, by omega⟩; unfold wrap64; omega
      have hpow2 := pow_small f.params ⟨by omega, by omega⟩
      obtain ⟨q1, q2⟩ := hpow2
      have HST := Lib.hid (inv_start HOK.out)
      go_wp2_with (first | (refine wpList_ints_hp rfl 25 3 1 _ rfl HP.out Tryd.underlying25 [_] rfl (by kernel_rfl) ?_; clear HP; intro gi wi HP; replace HP := Lib.hid HP) | (refine wpList_ld0 rfl 3 _ rfl HP.out rfl rfl Tryd.underlying3 rfl ?_) | (refine wpList_ld1 rfl 3 _ rfl HP.out rfl rfl Tryd.underlying3 rfl ?_) | (refine wpList_ld2 rfl 3 _ rfl HP.out rfl rfl Tryd.underlying3 rfl ?_) | (refine wpList_st1 rfl 3 _ _ rfl HP.out rfl rfl (by simp) rfl (List.map_set ..).symm (by kernel_rfl) ?_; clear HP; intro wst HP; replace HP := Lib.hid HP))
      (try simp only [Act.put, List.setIfInBounds_toArray, List.set_cons_zero, List.set_cons_succ])
      clear HO hlt
      have HP2 : Hid (Hp w [{ w := w, S := Lt w.heap.size }] [Res.row (Value.slice (some ⟨gi, 0, none⟩) (1) 1) 3 1 (1) (tsV [0]), Res.blk g15 3 (List.map (Value.int IntKind.i64) ((List.replicate (f.code.length + 1) (-1)).set 0 (2 ^ f.params.toNat - 1))), Res.blk g1 57 [Value.int IntKind.i64 f.params, Value.int IntKind.i64 f.regs, Value.slice A f.code.length c]] wst) := Lib.hid (HP.out.rowOf (A := []) rfl (by unfold maxLen; decide))
      clear HP
      go_loopg [5] (2 * muZ ((List.replicate (f.code.length + 1) (-1)).set 0 (2 ^ f.params.toNat - 1)) + 1) (fun k v wr => ∃ (g cp : Nat) (os : List Int) (ts : List Nat), v = .slice (some ⟨g, 0, none⟩) ts.length cp ∧ Hid (Inv f os ts ∧ k = 2 * muZ os + ts.length ∧ k ≤ 1067) ∧ Hid (Hp w [{ w := w, S := Lt w.heap.size }] [Res.row (Value.slice (some ⟨g, 0, none⟩) (ts.length) cp) 3 1 (ts.length) (tsV ts), Res.blk g15 3 (List.map (Value.int IntKind.i64) os), Res.blk g1 57 [Value.int IntKind.i64 f.params, Value.int IntKind.i64 f.regs, Value.slice A f.code.length c]] wr))
      case atStart => exact ⟨gi, 1, _, [0], rfl, Lib.hid ⟨HST.out, rfl, by have := muZ_le ((List.replicate (f.code.length + 1) (-1)).set 0 (2 ^ f.params.toNat - 1)); simp at this; omega⟩, HP2⟩
      case round =>
        clear HP2 HST
        obtain ⟨g, cp, os, ts, rfl, HI, HP⟩ := hrel
        obtain ⟨wo, rfl⟩ : ∃ wo : World, wo = wr := ⟨_, rfl⟩
        by_cases hts : ts = []
        · subst hts
          have hdone := inv_done HOK.out HI.out.1
          subst hdone
          have HSL := Lib.hid (sureL_len f)
          go_wp2
          go_ret
          exact ⟨_, _, rfl, HP.out.ints (.tail _ (.head _)) rfl (by rw [sureL_len]) (by unfold maxLen; omega), HP.out.below⟩
        · obtain ⟨ts0, pc, rfl⟩ : ∃ ts0 pc, ts = ts0 ++ [pc] := ⟨ts.dropLast, ts.getLast hts, (List.dropLast_concat_getLast hts).symm⟩
          clear hts
          obtain ⟨hpcl, z, hz, hz0⟩ := HI.out.1.todo pc (by simp)
          have hzr := (HI.out.1.ent pc z hz).resolve_left (by omega)
          obtain ⟨z1, z2⟩ := hzr
          have HZ := Lib.hid hz
          have hlen : (ts0 ++ [pc]).length = ts0.length + 1 := by simp
          rw [hlen] at HP
          rw [hlen]
          obtain ⟨hcp1, hcp2⟩ := HP.out.rowCap (.head _)
          unfold maxLen at hcp2
          have hll : 2 * muZ os + (ts0.length + 1) ≤ 1067 := by have h1 := HI.out.2.1; have h2 := HI.out.2.2; rw [hlen] at h1; omega
          have htp : (tsV (ts0 ++ [pc]))[ts0.length]? = some (.int .i64 (pc : Int)) := by simp
          have HTP := Lib.hid htp
          clear hlen htp hz
          go_upto_region 12 with (first | (refine wpList_ldW0 rfl 3 _ rfl HP.out rfl HTP.out Tryd.underlying3 rfl ?_))
          have HP3 : Hid (Hp w [{ w := w, S := Lt w.heap.size }] [Res.row (Value.slice (some ⟨g, 0, none⟩) (ts0.length) cp) 3 1 (ts0.length) (tsV ts0), Res.blk g15 3 (List.map (Value.int IntKind.i64) os), Res.blk g1 57 [Value.int IntKind.i64 f.params, Value.int IntKind.i64 f.regs, Value.slice A f.code.length c]] wo) := Lib.hid (by
            have := Hp.rowTake (A := []) HP.out ts0.length (by omega)
            rwa [show (tsV (ts0 ++ [pc])).take ts0.length = tsV ts0 by simp [tsV]] at this)
          clear HP
          have HP := HP3
          clear HP3 HTP
          by_cases hlt : pc < f.code.length
          · obtain ⟨a, rfl, hab, hat⟩ := HX.out pc hlt
            obtain ⟨x, hx⟩ : ∃ x, f.code[pc] = x := ⟨_, rfl⟩
            rw [hx] at hat
            have hxs : f.code[pc]? = some x := by rw [← hx, List.getElem?_eq_getElem hlt]
            have hoi := HOK.out.ins x (hx ▸ List.getElem_mem hlt)
            have hd := pow_small x.dst hoi.dst
            have hed : wrap64 (2 ^ x.dst.toNat) = 2 ^ x.dst.toNat := by unfold wrap64; omega
            have hso := sets_ok x.op hoi.op.1
            obtain ⟨d1, d2⟩ := hoi.dst
            have HXX := Lib.hid hx
            have HXS := Lib.hid hxs
            have HOI := Lib.hid hoi
            have HAT := Lib.hid hat
            have HED := Lib.hid hed
            have HSO := Lib.hid hso
            have hne : ((pc : Int) == (f.code.length : Int)) = false := by simp; omega
            have hpc2 : (pc : Int) < (f.code.length : Int) := by omega
            have HZM := Lib.hid (show (List.map (Value.int IntKind.i64) os)[pc]? = some (.int .i64 z) by rw [List.getElem?_map, HZ.out]; rfl)
            clear hx hxs hat hoi hed hso
            go_upto_if 60 with (first | (refine wpList_ld1 rfl 3 _ rfl HP.out rfl HZM.out Tryd.underlying3 rfl ?_) | (refine wpList_ld0 rfl 55 _ rfl HP.out rfl rfl Tryd.underlying55 rfl ?_) | (refine wpList_ld1 rfl 55 _ rfl HP.out rfl rfl Tryd.underlying55 rfl ?_) | (refine wpList_ld2 rfl 55 _ rfl HP.out rfl rfl Tryd.underlying55 rfl ?_) | (refine wpList_load_at rfl 65 _ rfl _ rfl _ _ (HP.out.at_ (F := ⟨w, Lt w.heap.size⟩) (by simp) HAT.out (by rw [block_of_add]; exact hab)) Tryd.underlying65 rfl (by kernel_rfl) ?_) | (go_at_call 58; refine (sets_any x _).mono ?_; rintro e w5 ⟨rfl, hb5⟩; replace HP := Lib.hid (HP.out.call0 hb5); clear hb5; rw [HSO.out]))
            (try simp only [Act.put, List.setIfInBounds_toArray, List.set_cons_zero, List.set_cons_succ])
            go_cut [7] (fun v wx => v = .int .i64 (aftZ z x) ∧ Hid (Hp w [{ w := w, S := Lt w.heap.size }] [Res.row (Value.slice (some ⟨g, 0, none⟩) (ts0.length) cp) 3 1 (ts0.length) (tsV ts0), Res.blk g15 3 (List.map (Value.int IntKind.i64) os), Res.blk g1 57 [Value.int IntKind.i64 f.params, Value.int IntKind.i64 f.regs, Value.slice (some a) f.code.length c]] wx))
            case first =>
              obtain ⟨sb, hsb⟩ : ∃ sb, setsZ x.op = sb := ⟨_, rfl⟩
              rw [hsb]
              have HSB := Lib.hid hsb
              clear hsb
              have hcd := (HP.out.at_ (F := ⟨w, Lt w.heap.size⟩) (.head _) HAT.out (by rw [block_of_add]; exact hab)).fld 0 rfl
              cases sb
              · go_wp2_with fail
                go_meet
                refine ⟨?_, HP⟩
                unfold aftZ
                rw [HSB.out]; rfl
              · go_wp2_with (first | (refine wpList_ld0 rfl 55 _ rfl HP.out rfl rfl Tryd.underlying55 rfl ?_) | (refine wpList_ld1 rfl 55 _ rfl HP.out rfl rfl Tryd.underlying55 rfl ?_) | (refine wpList_ld2 rfl 55 _ rfl HP.out rfl rfl Tryd.underlying55 rfl ?_))
                go_meet
                refine ⟨?_, HP⟩
                unfold aftZ
                rw [HSB.out]
                simp [HED.out]
            case rest =>
              obtain ⟨rfl, HP⟩ := hcut
              have hbr := aftZ_range (z := z) (x := x) ⟨z1, z2⟩ ⟨d1, d2⟩
              obtain ⟨b, hb⟩ : ∃ b, aftZ z x = b := ⟨_, rfl⟩
              rw [hb] at hbr
              obtain ⟨b1, b2⟩ := hbr
              rw [hb]
              have HB := Lib.hid hb
              clear hb
              obtain ⟨wf, rfl⟩ : ∃ wf : World, wf = wc := ⟨_, rfl⟩
              go_wp2_with (first | (refine wpList_ldR0 rfl 57 _ rfl HP.out rfl Tryd.underlying57 rfl (by kernel_rfl) ?_) | (refine wpList_ldR1 rfl 57 _ rfl HP.out rfl Tryd.underlying57 rfl (by kernel_rfl) ?_) | (refine wpList_ldR2 rfl 57 _ rfl HP.out rfl Tryd.underlying57 rfl (by kernel_rfl) ?_) | (go_at_call 72; refine (next_any f _ pc _ (HP.out.rep (F := ⟨w, Lt w.heap.size⟩) (.head _) HV.out) hlt).mono ?_; rintro e w6 ⟨u6, rfl, hu6, hb6⟩; replace HP := Lib.hid (HP.out.call hb6); rw [HXX.out] at hu6; obtain ⟨A6, c6, rfl, hc6, hm6, hx6⟩ := rep_ints_at hu6; unfold maxLen at hm6; have HX6 := Lib.hid hx6; clear hu6 hx6 hb6))
              obtain ⟨l, hl⟩ : ∃ l, nextZ x pc = l := ⟨_, rfl⟩
              have hl2 := nextZ_len x pc
              have hin := nextZ_in HOI.out hlt
              rw [hl] at HX6 hc6 hl2 hin
              simp only [hl]
              have HL := Lib.hid hl
              have HIN := Lib.hid hin
              have HBEG := Lib.hid (InvIn.begin (l := l) HI.out.1 HZ.out HXS.out)
              rw [HB.out] at HBEG
              have HSW : Hid (∀ n : Nat, (n : Int) ∈ l → Way f (-1) n ∧ ∀ r : Nat, r < 12 → bitZ b r = false → Way f r n) := Lib.hid fun n hn => by
                rw [← HB.out]
                exact step_way HI.out.1.toInv0 HZ.out hz0 HXS.out ⟨d1, d2⟩ (by rw [HL.out]; exact hn)
              clear hl hin
              (try simp only [Act.put, List.setIfInBounds_toArray, List.set_cons_zero, List.set_cons_succ])
              go_hide hQ
              go_loopw [5, 74] (fun v i wr => ∃ (g2 cp2 : Nat) (os2 : List Int) (ts2 : List Nat) (j : Nat), j ≤ l.length ∧ v = .slice (some ⟨g2, 0, none⟩) ts2.length cp2 ∧ i = .int .i64 j ∧ Hid (InvIn f os2 ts2 pc b l j ∧ 2 * muZ os2 + ts2.length ≤ 2 * muZ os + ts0.length) ∧ Hid (Hp w [{ w := w6, S := Fresh wf w6 }, { w := w, S := Lt w.heap.size }] [Res.row (Value.slice (some ⟨g2, 0, none⟩) (ts2.length) cp2) 3 1 (ts2.length) (tsV ts2), Res.blk g15 3 (List.map (Value.int IntKind.i64) os2), Res.blk g1 57 [Value.int IntKind.i64 f.params, Value.int IntKind.i64 f.regs, Value.slice (some a) f.code.length c]] wr)) (fun _ i _ => l.length - (intOf i).toNat)
              case atStart => exact ⟨g, cp, os, ts0, 0, by omega, rfl, rfl, Lib.hid ⟨HBEG.out, Nat.le_refl _⟩, HP⟩
              case round =>
                clear HP HBEG
                obtain ⟨g2, cp2, os2, ts2, j, hj, rfl, rfl, HJ, HP⟩ := hrel
                obtain ⟨wk, rfl⟩ : ∃ wk : World, wk = wr := ⟨_, rfl⟩
                by_cases hjl : j < l.length
                · obtain ⟨a6, rfl, hab6, hc6'⟩ := HX6.out j hjl
                  have hn := HIN.out _ (List.getElem_mem hjl)
                  obtain ⟨n, hn0⟩ : ∃ n, l[j] = n := ⟨_, rfl⟩
                  rw [hn0] at hc6' hn
                  obtain ⟨t, rfl⟩ := Int.eq_ofNat_of_zero_le hn.1
                  have htl : (t : Int) < (f.code.length : Int) + 1 := by omega
                  have htl2 : t < f.code.length + 1 := by omega
                  have hjl2 : (j : Int) < (l.length : Int) := by omega
                  have hcj := (HP.out.alike (F := ⟨w6, Fresh wf w6⟩) (.head _) (a6.add j) (by rw [block_of_add]; exact hab6)).trans hc6'
                  have HLJ := Lib.hid (show l[j]? = some (t : Int) by rw [← hn0, List.getElem?_eq_getElem hjl])
                  obtain ⟨u, hu⟩ : ∃ u, os2[t]? = some u := ⟨_, List.getElem?_eq_getElem (by rw [HJ.out.1.len]; omega)⟩
                  have HU := Lib.hid hu
                  have HUM := Lib.hid (show (List.map (Value.int IntKind.i64) os2)[t]? = some (.int .i64 u) by rw [List.getElem?_map, hu]; rfl)
                  have HBD := Lib.hid (show t < (List.map (Value.int IntKind.i64) os2).length by rw [List.length_map, HJ.out.1.len]; exact htl2)
                  have hent := HJ.out.1.ent t u hu
                  have HJ2 := HJ.out.2
                  clear hn0 hc6' hu
                  by_cases hneg : u < 0
                  · have hu1 : u = -1 := by omega
                    subst hu1
                    have hq := HJ.out.1.upd HLJ.out HU.out ⟨b1, b2⟩ (Sub.refl b) (fun h => by omega) (HSW.out t (List.mem_of_getElem? HLJ.out)).1 (HSW.out t (List.mem_of_getElem? HLJ.out)).2 (by omega)
                    have hm2 := muZ_set HU.out (wtZ_new b1)
                    have HQ := Lib.hid hq
                    have hm3 : 2 * muZ (os2.set t b) + (ts2.length + 1) ≤ 2 * muZ os + ts0.length := by omega
                    clear hq hent
                    go_wp2_with (first | (refine wpList_ld1 rfl 3 _ rfl HP.out rfl HUM.out Tryd.underlying3 rfl ?_) | (refine wpList_st1 rfl 3 _ _ rfl HP.out rfl rfl HBD.out rfl (List.map_set ..).symm (by kernel_rfl) ?_; clear HP; intro wst HP; replace HP := Lib.hid HP) | (refine wpList_ints_hp rfl 25 3 1 _ rfl HP.out Tryd.underlying25 [_] rfl (by kernel_rfl) ?_; clear HP; intro gi wi HP; replace HP := Lib.hid HP) | (at_builtin; refine wpList_apg0 rfl _ _ 25 rfl i_int (.int .i64 0) Tryd.underlying25 hi_int hz_int hs_int rfl (by decide) hy_int (ts2.length + 1) rfl HP.out rfl rfl rfl (by simp [Value.oneCell']) (by unfold maxLen; omega) (by omega) (by omega) ?_; clear HP; intro gap cap wap HP; replace HP := Lib.hid HP))
                    go_roundw
                    case rel =>
                      refine ⟨gap, cap, os2.set t b, ts2 ++ [t], j + 1, by omega, by simp, by go_num, Lib.hid ⟨HQ.out, by simp; omega⟩, Lib.hid ?_⟩
                      have := HP.out
                      rw [show tsV ts2 ++ List.map (Value.int IntKind.i64) [(t : Int)] = tsV (ts2 ++ [t]) by simp [tsV]] at this
                      simpa using this
                    case measure => simp [intOf]; omega
                  · have hu0 : 0 ≤ u := by omega
                    have hur := hent.resolve_left (by omega)
                    obtain ⟨y, hy⟩ : ∃ y, bits .and .i64 u b = y := ⟨_, rfl⟩
                    have hyr := and_range u b hur
                    rw [hy] at hyr
                    by_cases hyu : y = u
                    · have hsub : Sub u b := fun r hr h => by
                        have h2 := bitZ_and u b r (by omega)
                        rw [hy, hyu, h] at h2
                        simpa using h2.symm
                      have hq := HJ.out.1.skip HLJ.out HU.out hu0 hsub
                      have HQ := Lib.hid hq
                      have hyb : (y != u) = false := by simpa using hyu
                      clear hq hsub hyu hent hneg
                      go_wp2_with (first | (refine wpList_ld1 rfl 3 _ rfl HP.out rfl HUM.out Tryd.underlying3 rfl ?_))
                      go_roundw
                      case rel => exact ⟨g2, cp2, os2, ts2, j + 1, by omega, rfl, by go_num, Lib.hid ⟨HQ.out, HJ2⟩, HP⟩
                      case measure => simp [intOf]; omega
                    · have hsu : Sub y u := fun r hr h => by
                        rw [← hy, bitZ_and u b r (by omega)] at h
                        simp at h; exact h.1
                      have hsb : Sub y b := fun r hr h => by
                        rw [← hy, bitZ_and u b r (by omega)] at h
                        simp at h; exact h.2
                      have hwr : ∀ r : Nat, r < 12 → bitZ y r = false → Way f r t := fun r hr h => by
                        rw [← hy, bitZ_and u b r (by omega)] at h
                        cases h1 : bitZ u r
                        · exact HJ.out.1.wayR t u HU.out hu0 r hr h1
                        · rw [h1, Bool.true_and] at h
                          exact (HSW.out t (List.mem_of_getElem? HLJ.out)).2 r hr h
                      have hq := HJ.out.1.upd HLJ.out HU.out hyr hsb (fun _ => hsu) (HSW.out t (List.mem_of_getElem? HLJ.out)).1 hwr (by omega)
                      have hm2 := muZ_set HU.out (y := y) (by rw [← hy]; exact wtZ_and hur (by rw [hy]; exact hyu))
                      have HQ := Lib.hid hq
                      have hm3 : 2 * muZ (os2.set t y) + (ts2.length + 1) ≤ 2 * muZ os + ts0.length := by omega
                      have hyb : (y != u) = true := by simpa using hyu
                      clear hq hent hsu hsb hwr hyu hneg
                      go_wp2_with (first | (refine wpList_ld1 rfl 3 _ rfl HP.out rfl HUM.out Tryd.underlying3 rfl ?_) | (refine wpList_st1 rfl 3 _ _ rfl HP.out rfl rfl HBD.out rfl (List.map_set ..).symm (by kernel_rfl) ?_; clear HP; intro wst HP; replace HP := Lib.hid HP) | (refine wpList_ints_hp rfl 25 3 1 _ rfl HP.out Tryd.underlying25 [_] rfl (by kernel_rfl) ?_; clear HP; intro gi wi HP; replace HP := Lib.hid HP) | (at_builtin; refine wpList_apg0 rfl _ _ 25 rfl i_int (.int .i64 0) Tryd.underlying25 hi_int hz_int hs_int rfl (by decide) hy_int (ts2.length + 1) rfl HP.out rfl rfl rfl (by simp [Value.oneCell']) (by unfold maxLen; omega) (by omega) (by omega) ?_; clear HP; intro gap cap wap HP; replace HP := Lib.hid HP))
                      go_roundw
                      case rel =>
                        refine ⟨gap, cap, os2.set t y, ts2 ++ [t], j + 1, by omega, by simp, by go_num, Lib.hid ⟨HQ.out, by simp; omega⟩, Lib.hid ?_⟩
                        have := HP.out
                        rw [show tsV ts2 ++ List.map (Value.int IntKind.i64) [(t : Int)] = tsV (ts2 ++ [t]) by simp [tsV]] at this
                        simpa using this
                      case measure => simp [intOf]; omega
                · obtain rfl : j = l.length := by omega
                  have hend : Inv f os2 ts2 := by
                    have h1 := HJ.out.1
                    rw [← HL.out] at h1
                    exact h1.ends HXS.out
                  have HEND := Lib.hid hend
                  have HJ2 := HJ.out.2
                  have HK := Lib.hid HI.out.2
                  clear hend
                  go_wp2_with fail
                  subst hQ
                  go_wp2_with fail
                  go_roundg (2 * muZ os2 + ts2.length)
                  case measure => have := HK.out.1; simp at this; omega
                  case rel => exact ⟨g2, cp2, os2, ts2, rfl, Lib.hid ⟨HEND.out, rfl, by omega⟩, Lib.hid HP.out.froDrop⟩
          · obtain rfl : pc = f.code.length := by omega
            have HK := Lib.hid HI.out.2
            go_wp2_with (first | (refine wpList_ld0 rfl 55 _ rfl HP.out rfl rfl Tryd.underlying55 rfl ?_) | (refine wpList_ld1 rfl 55 _ rfl HP.out rfl rfl Tryd.underlying55 rfl ?_) | (refine wpList_ld2 rfl 55 _ rfl HP.out rfl rfl Tryd.underlying55 rfl ?_))
            go_roundg (2 * muZ os + ts0.length)
            case measure => have := HK.out.1; simp at this; omega
            case rel => exact ⟨g, cp, os, ts0, rfl, Lib.hid ⟨HI.out.1.pop, rfl, by omega⟩, HP⟩
end Go.Proofs.YtnabeibnaoahmaaDoor
