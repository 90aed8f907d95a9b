/- tierline/emit.Far. -/
import Derived.Test.YtceilfmfidmfpaaDoorMgFarLawFarIdx2
import Derived.Test.YtceilfmfidmfpaaDoorRunning
import Derived.Test.YtceilfmfidmfpaaDoorWalk0
import Derived.Test.YtceilfmfidmfpaaDoorNext
import Derived.Test.YtceilfmfidmfpaaDoorMgBlocksBegins2
set_option linter.unusedSimpArgs false
set_option linter.unusedVariables false
namespace Go.Proofs.YtceilfmfidmfpaaDoor
open Go.RowKit Plain64
attribute [local irreducible] wpList Code.wp Oper.wp
theorem runF_ok {p : Prg} {s : Sta} (h : runFault p s = 0) {f : Frm} (hf : lastF s = f) : runningAns p s = (f, 0) := by unfold runningAns; rw [h, if_pos rfl, hf]
theorem runF_bad {p : Prg} {s : Sta} (h : runFault p s ≠ 0) : runningAns p s = (zeroF, runFault p s) := by unfold runningAns; rw [if_neg h]
theorem results_row_tmp3F {P : Program} {fn : Func} {p u v : Tmp} {ty : TypeId} (h : fn.results = #[.cell p ty, .tmp u, .tmp v]) (tmps : Array Value) (w : World) (g : Nat) (t : TypeId) (cs : Array Value) (fr : Nat × Nat) (d : TypeDesc)
    (hp : tmps.getD p undef = .pointer (some ⟨g, 0, none⟩)) (hg : w.heap[g]? = some (.cells cs t fr))
    (hu : P.underlying ty = some d) (hd : (match d with | .struct _ | .array _ _ => true | _ => false) = true) (hi : (P.info? ty).map (·.size) = some cs.size) :
    (results fn tmps).run P w = .ok (.tuple #[.agg cs, tmps.getD u undef, tmps.getD v undef]) w := by
  have e : (results fn tmps).run P w = ((asAddr (tmps.getD p undef)).run P w).andThen fun a w₁ => ((loadVar ty a).run P w₁).andThen fun x w₂ => .ok (.tuple #[x, tmps.getD u undef, tmps.getD v undef]) w₂ := by
    simp only [results, h]
    simp [Sem.run_bind, Result.andThen]
  rw [e, hp]
  simp [asAddr, run_loadVar_row w g t ty cs fr d hg hu hd hi, Result.andThen]
set_option maxRecDepth 100000 in
set_option maxHeartbeats 10000000 in
theorem Far_any (p : Prg) (v : Value) (s : Sta) (u e a : Value) (w : World) (hp : Lay.rep w (Lt w.heap.size) p [v]) (hf : Lay.rep w (Lt w.heap.size) s.frames [u]) (he : Lay.rep w (Lt w.heap.size) s.events [e]) (ha : Lay.rep w (Lt w.heap.size) s.answers [a]) (him : ∀ f ∈ p.funcs, ∀ x ∈ f.code, I64 x.imm) (hri : ∀ g ∈ s.frames, ∀ i, I64 (g.rg i)) (hmi : ∀ i, I64 (s.mm i)) (hle : s.events.length ≤ 17592186043999) (hh : Has w) :
    Calls Tryd.prog 5 #[.agg #[v], .agg (staCells s u e a).toArray] w fun r w' => ∃ u' e' a', r = .returned (.tuple #[.agg (staCells (farAns p s).1.1 u' e' a').toArray, .int .i64 (farAns p s).1.2, .int .i64 (farAns p s).2]) ∧ Lay.rep w' (Fresh w w') (farAns p s).1.1.frames [u'] ∧ Lay.rep w' (Fresh w w') (farAns p s).1.1.events [e'] ∧ Lay.rep w' (Fresh w w') (farAns p s).1.1.answers [a'] ∧ Below w.heap.size w w' := by
  have hmf : ∀ (fn : Fn) (first cap : Array Value) (w : World), (Instr.makeFunc fn first cap).run Tryd.prog w = .ok (.func fn first cap) w := fun _ _ _ _ => rfl
  obtain ⟨AP, cP, rfl, hc, hm, hxp⟩ := rep_prg_at hp
  obtain ⟨A2, c2, rfl, hc2, hm2, hx2⟩ := rep_frames_at hf
  obtain ⟨AE, ce, rfl, hce, hme, -⟩ := rep_ints_at he
  obtain ⟨AA, ca, rfl, hca, hma, -⟩ := rep_ints_at ha
  unfold maxLen at hm hm2 hme hma
  have HXP := Lib.hid hxp
  have HX2 := Lib.hid hx2
  have HR := Lib.hid hp
  have HF := Lib.hid hf
  have HE := Lib.hid he
  have HA := Lib.hid ha
  have HIM := Lib.hid him
  have hle0 : s.events.length ≤ 17592186044000 := by omega
  have HH := Lib.hid hh
  clear hp hf he ha hxp hx2 him hh
  have HP := Lib.hid (Hp.start w)
  by_cases hz : runFault p s = 0
  · have HZ := Lib.hid hz
    obtain ⟨hsf, hst⟩ := rf_zero hz
    obtain ⟨hpz, hhd, hfo⟩ := sf_zero hsf
    have hlf : s.frames.length ≤ 1256584717421 := by have := hhd.frames; omega
    have hla : s.answers.length ≤ 17592186044000 := by have := hhd.answers; omega
    obtain ⟨fs, g, hfr⟩ := frames_run hhd hst
    obtain ⟨ho1, ho2, ho3, ho4⟩ := hfo.own g (by rw [hfr]; simp)
    obtain ⟨i, hig⟩ := Int.eq_ofNat_of_zero_le ho1
    have hil : i < p.funcs.length := by omega
    obtain ⟨adP, vC, rfl, habP, hatP, hcode⟩ := HXP.out i hil
    obtain ⟨f, hfE⟩ : ∃ f, p.funcs[i] = f := ⟨_, rfl⟩
    rw [hfE] at hatP hcode
    have hfm : f ∈ p.funcs := hfE ▸ List.getElem_mem hil
    have hfk : p.funcs[i]? = some f := by rw [← hfE, List.getElem?_eq_getElem hil]
    have hok := (okP_of (proven_prg hpz)).fns f hfm
    have hen := proven_ends hpz hfm
    obtain ⟨AC, cC, rfl, hcC, hmC, hxC⟩ := rep_code_at hcode
    unfold maxLen at hmC
    have HXC := Lib.hid hxC
    have HATP := Lib.hid hatP
    have HFK := Lib.hid hfk
    have HOK := Lib.hid hok
    have HEN := Lib.hid hen
    obtain ⟨l1, l2⟩ := hok.len
    have HBA := Lib.hid (blocks_in hpz hfk)
    have HAN := Lib.hid (far_ok hz hfr hig hfk)
    have HFO := Lib.hid (show FarOk p s fs g from ⟨hfr, hsf, hst, hri g (by rw [hfr]; simp), hmi, hle⟩)
    have HSF := Lib.hid hsf
    have HPZ := Lib.hid hpz
    obtain ⟨q, hq⟩ : ∃ q, fs.length = q := ⟨_, rfl⟩
    have HQ := Lib.hid hq
    have hqe : q + 1 ≤ 8 := by have := hhd.frames; rw [hfr, List.length_append, hq] at this; exact this
    have hfu := hhd.fuel
    obtain ⟨BL, hBL⟩ : ∃ BL, blksL f = BL := ⟨_, rfl⟩
    have HBL := Lib.hid hBL
    have HBF := Lib.hid (show ∀ (k : Nat) b, BL[k]? = some b → ∃ c0 c1 : Nat, b.frm = c0 ∧ b.upto = c1 ∧ c0 < c1 ∧ c1 ≤ f.code.length ∧ SureAt f c0 ∧ ∀ q, c0 ≤ q → q + 1 < c1 → opAt f q < 15 from fun k b h => blk_facts hok hen (by rw [hBL]; exact h))
    have HFP := Lib.hid (show s.fuel < ((s.fuel.toNat + 1 : Nat) : Int) by omega)
    have hx3 : ∃ ad, A2 = some ad ∧ ad.block < w.heap.size ∧ At w (ad.add (q * 14)) (frmCells g) := by
      have hl : q < s.frames.length := by rw [hfr]; simp [hq]
      obtain ⟨ad, e1, e2, e3⟩ := HX2.out q hl
      have hlast : s.frames[q] = g := by simp [hfr, ← hq]
      exact ⟨ad, e1, e2, by rw [hlast] at e3; exact e3⟩
    obtain ⟨ad2, rfl, hab2, hat2⟩ := hx3
    have HAT2 := Lib.hid hat2
    have HLQ := Lib.hid (show s.frames.length = q + 1 by rw [hfr]; simp [hq])
    have hqc2 : q + 1 ≤ c2 := by have := HLQ.out; omega
    have HRA := Lib.hid (runF_ok hz (lastF_eq hfr))
    obtain ⟨fn0, pc0, rg0⟩ := g
    obtain rfl : fn0 = (i : Int) := hig
    rw [hBL] at HBA
    clear hz hsf hst hhd hfo hfr ho1 ho2 ho3 ho4 hfE hfm hfk hok hen hcode hatP hq hpz hxC hBL hri hmi hat2
    have hi2 : (i : Int) < (p.funcs.length : Int) := by omega
    go_enter Tryd.func5, Tryd.ntmps5
    go_upto_region 5 with (first | (refine wpList_box_hp (o := ⟨some 2, _, _, _, _, _⟩) rfl _ _ rfl HP.out [_] rfl ?_; clear HP; intro g2 w2 HP; replace HP := Lib.hid HP) | (refine wpList_box_hp (o := ⟨some 3, _, _, _, _, _⟩) rfl _ _ rfl HP.out (staCells s (.slice (some ad2) s.frames.length c2) (.slice AE s.events.length ce) (.slice AA s.answers.length ca)) rfl ?_; clear HP; intro g3 w3 HP; replace HP := Lib.hid HP) | (refine wpList_alloc_hp (o := ⟨some 4, _, _, _, _, _⟩) rfl _ rfl HP.out (.agg (staCells zeroS (.slice none 0 0) (.slice none 0 0) (.slice none 0 0)).toArray) (by kernel_rfl) (staCells zeroS (.slice none 0 0) (.slice none 0 0) (.slice none 0 0)) rfl ?_; clear HP; intro g4 w4 HP; replace HP := Lib.hid HP) | (refine wpList_ldR3 rfl 24 _ rfl HP.out rfl Tryd.underlying24 rfl (by kernel_rfl) ?_) | (refine wpList_ldR2 rfl 24 _ rfl HP.out rfl Tryd.underlying24 rfl (by kernel_rfl) ?_) | (refine wpList_ldR1 rfl 29 _ rfl HP.out rfl Tryd.underlying29 rfl (by kernel_rfl) ?_) | (go_at_call 10; refine (running_any p _ s _ _ _ _ (HP.out.rep (F := ⟨w, Lt w.heap.size⟩) (by simp) HR.out) (HP.out.rep (F := ⟨w, Lt w.heap.size⟩) (by simp) HF.out) (HP.out.rep (F := ⟨w, Lt w.heap.size⟩) (by simp) HE.out) (HP.out.rep (F := ⟨w, Lt w.heap.size⟩) (by simp) HA.out) (HH.out.keep HP.out.below rfl)).mono ?_; rintro r1 w5 ⟨rfl, hb⟩; replace HP := Lib.hid (HP.out.call0 hb); clear hb; rw [HRA.out]) | (refine wpList_alloc_hp (o := ⟨some 7, _, _, _, _, _⟩) rfl _ rfl HP.out (.agg (frmCells zeroF).toArray) (by kernel_rfl) (frmCells zeroF) rfl ?_; clear HP; intro g7 w7 HP; replace HP := Lib.hid HP) | (refine wpList_stR0 rfl 39 _ _ rfl HP.out rfl (cs' := frmCells ⟨(i : Int), pc0, rg0⟩) rfl rfl (by simp [frmCells, Value.oneCell']) (by kernel_rfl) ?_; clear HP; intro wst HP; replace HP := Lib.hid HP) | (refine wpList_ld0 rfl 3 _ rfl HP.out rfl rfl Tryd.underlying3 rfl ?_) | (go_at_call 11; refine (Blocks_any p _ (i : Int) _ (HP.out.rep (F := ⟨w, Lt w.heap.size⟩) (by simp) HR.out) (HH.out.keep HP.out.below rfl)).mono ?_; rintro r3 w7 hbk; rw [HBA.out] at hbk; obtain ⟨v7, rfl, hv7, hb⟩ := hbk; obtain ⟨A7, c7, rfl, -, -, -⟩ := rep_bks_at hv7; replace HP := Lib.hid (HP.out.call hb); have HV7 := Lib.hid hv7; clear hb hv7) | (refine wpList_alloc_hp (o := ⟨some 9, _, _, _, _, _⟩) rfl _ rfl HP.out (.slice none 0 0) (by kernel_rfl) [_] rfl ?_; clear HP; intro g9 w9 HP; replace HP := Lib.hid HP) | (refine wpList_st0 rfl 42 _ _ rfl HP.out rfl (v := .slice A7 BL.length c7) rfl (by simp) rfl rfl (by kernel_rfl) ?_; clear HP; intro wst HP; replace HP := Lib.hid HP))
    have cc4 := (HP.out.at_ (F := ⟨w, Lt w.heap.size⟩) (by simp) HATP.out (by rw [block_of_add]; exact habP)).fld 1 rfl
    go_upto_region 9 with (first | (refine wpList_ld4 rfl 22 _ rfl HP.out rfl rfl Tryd.underlying22 rfl ?_) | (refine wpList_ld1 rfl 3 _ rfl HP.out rfl rfl Tryd.underlying3 rfl ?_) | (refine wpList_ldR4 rfl 24 _ rfl HP.out rfl Tryd.underlying24 rfl (by kernel_rfl) ?_) | (refine wpList_ldR3 rfl 29 _ rfl HP.out rfl Tryd.underlying29 rfl (by kernel_rfl) ?_) | (go_at_call 15; have HSZ0 := Lib.hid HP.out.size; refine (Walk0_any p _ s _ _ _ _ (HP.out.rep (F := ⟨w, Lt w.heap.size⟩) (by simp) HR.out) (HP.out.rep (F := ⟨w, Lt w.heap.size⟩) (by simp) HF.out) (HP.out.rep (F := ⟨w, Lt w.heap.size⟩) (by simp) HE.out) (HP.out.rep (F := ⟨w, Lt w.heap.size⟩) (by simp) HA.out) HSF.out hle0 (HH.out.keep HP.out.below rfl)).mono ?_; rintro r2 w6 ⟨u5, e5, a5, rfl, hb5⟩; replace HP := Lib.hid (HP.out.call hb5.below); have HR5 := Lib.hid (And.intro (hb5.rowFrames (.head _) rfl) (And.intro (hb5.rowInts (.tail _ (.head _)) rfl) (hb5.rowInts (.tail _ (.tail _ (.head _))) rfl))); clear hb5; obtain ⟨Af5, cf5, rfl, -, -, -⟩ := rep_frames_at HR5.out.1; obtain ⟨Ae5, ce5, rfl, -, -, -⟩ := rep_ints_at HR5.out.2.1; obtain ⟨Aa5, ca5, rfl, -, -, -⟩ := rep_ints_at HR5.out.2.2) | (refine wpList_alloc_hp (o := ⟨some 14, _, _, _, _, _⟩) rfl _ rfl HP.out (.agg (staCells zeroS (.slice none 0 0) (.slice none 0 0) (.slice none 0 0)).toArray) (by kernel_rfl) (staCells zeroS (.slice none 0 0) (.slice none 0 0) (.slice none 0 0)) rfl ?_; clear HP; intro g14 w14 HP; replace HP := Lib.hid HP) | (refine wpList_stR0 rfl 29 _ _ rfl HP.out rfl (cs' := staCells s (.slice Af5 s.frames.length cf5) (.slice Ae5 s.events.length ce5) (.slice Aa5 s.answers.length ca5)) rfl rfl (sta_one0 rfl rfl rfl) (by kernel_rfl) ?_; clear HP; intro wst HP; replace HP := Lib.hid HP))
    obtain ⟨G0, GB, HP, HRP, HBR, HGS⟩ : ∃ G0 GB : Fro, Hid (Hp w [G0, GB, ⟨w, Lt w.heap.size⟩] [.blk g14 29 (staCells s (.slice Af5 s.frames.length cf5) (.slice Ae5 s.events.length ce5) (.slice Aa5 s.answers.length ca5)), .blk g9 42 [.slice A7 BL.length c7], .blk g7 39 (frmCells ⟨(i : Int), pc0, rg0⟩), .blk g4 29 (staCells zeroS (.slice none 0 0) (.slice none 0 0) (.slice none 0 0)), .blk g3 29 (staCells s (.slice (some ad2) s.frames.length c2) (.slice AE s.events.length ce) (.slice AA s.answers.length ca)), .blk g2 24 [.slice (some adP) p.funcs.length cP]] _) ∧ Hid (Lay.rep G0.w G0.S s.frames [.slice Af5 s.frames.length cf5] ∧ Lay.rep G0.w G0.S s.events [.slice Ae5 s.events.length ce5] ∧ Lay.rep G0.w G0.S s.answers [.slice Aa5 s.answers.length ca5]) ∧ Hid (Lay.rep GB.w GB.S BL [.slice A7 BL.length c7]) ∧ Hid (∀ b, G0.S b → w.heap.size ≤ b) := ⟨_, _, HP, HR5, HV7, Lib.hid (by exact fun b hb => Nat.le_trans HSZ0.out hb.1)⟩
    clear HR5 HV7 HSZ0
    go_wp2
    go_loopw [13] (fun nv wr => ∃ (K m : Nat) (t : Sta) (h : Frm) (F E A9 : Value) (G : Fro), nv = .int .i64 m ∧ Hid (FarOk p t fs h ∧ h.fn = (i : Int)) ∧ Hid (farK p f K t m = farK p f (s.fuel.toNat + 1) s 0 ∧ t.fuel < K) ∧ Hid ((m : Int) + t.fuel = s.fuel) ∧ Hid (Lay.rep G.w G.S t.frames [F] ∧ Lay.rep G.w G.S t.events [E] ∧ Lay.rep G.w G.S t.answers [A9]) ∧ Hid (∀ b, G.S b → w.heap.size ≤ b) ∧ Hid (Hp w [G, GB, ⟨w, Lt w.heap.size⟩] [.blk g14 29 (staCells t F E A9), .blk g9 42 [.slice A7 BL.length c7], .blk g7 39 (frmCells ⟨(i : Int), pc0, rg0⟩), .blk g4 29 (staCells zeroS (.slice none 0 0) (.slice none 0 0) (.slice none 0 0)), .blk g3 29 (staCells s (.slice (some ad2) s.frames.length c2) (.slice AE s.events.length ce) (.slice AA s.answers.length ca)), .blk g2 24 [.slice (some adP) p.funcs.length cP]] wr)) (fun nv _ => 10001 - (intOf nv).toNat)
    case atStart => exact ⟨s.fuel.toNat + 1, 0, s, _, _, _, _, G0, rfl, Lib.hid ⟨HFO.out, rfl⟩, Lib.hid ⟨rfl, HFP.out⟩, Lib.hid (by omega), HRP, HGS, HP⟩
    case round =>
      clear HP HRP HGS
      obtain ⟨K, m, t, h, F, E, A9, G, rfl, HI, HK, HMF, HRP, HGS, HP⟩ := hrel
      obtain ⟨wo, rfl⟩ : ∃ wo : World, wo = wr := ⟨_, rfl⟩
      obtain ⟨A3, c3, rfl, hc3, hm3, hx3⟩ := rep_frames_at HRP.out.1
      obtain ⟨Ae3, ce3, rfl, -, -, -⟩ := rep_ints_at HRP.out.2.1
      obtain ⟨Aa3, ca3, rfl, -, -, -⟩ := rep_ints_at HRP.out.2.2
      have hx3' : ∃ ad, A3 = some ad ∧ G.S ad.block ∧ At G.w (ad.add (q * 14)) (frmCells h) := by
        have hl : q < t.frames.length := by rw [HI.out.1.fr]; simp [HQ.out]
        obtain ⟨ad, e1, e2, e3⟩ := hx3 q hl
        have hlast : t.frames[q] = h := by simp [HI.out.1.fr, ← HQ.out]
        exact ⟨ad, e1, e2, by rw [hlast] at e3; exact e3⟩
      obtain ⟨ad3, rfl, hab3, hat3⟩ := hx3'
      have HAT3 := Lib.hid hat3
      have HLQ3 := Lib.hid (show t.frames.length = q + 1 by rw [HI.out.1.fr]; simp [HQ.out])
      clear hat3 hx3
      obtain ⟨hfu1, hfu2⟩ := (sf_zero HI.out.1.sf).2.1.fuel
      have hla3 : t.answers.length ≤ 100 := (sf_zero HI.out.1.sf).2.1.answers
      have hlf3 : t.frames.length ≤ 8 := (sf_zero HI.out.1.sf).2.1.frames
      have hmf := HMF.out
      obtain ⟨K', rfl⟩ : ∃ K', K = K' + 1 := ⟨K - 1, by have := HK.out.2; omega⟩
      obtain ⟨hfn, hpc, hrg⟩ := h
      obtain rfl : hfn = (i : Int) := HI.out.2
      have HLF := Lib.hid (show (lastF t).pc = hpc by rw [lastF_eq HI.out.1.fr])
      have hmc3 := hm3
      unfold maxLen at hmc3
      have hlq5 : IntKind.i64.wrap ((t.frames.length : Int) - 1) = (q : Int) := by rw [IntKind.wrap_i64, HLQ3.out]; omega
      have hlq6 : (t.frames.length : Int) - 1 = (q : Int) := by rw [HLQ3.out]; omega
      have hlq7 : (q : Int) < (t.frames.length : Int) := by rw [HLQ3.out]; omega
      have hlq8 : q < t.frames.length := by rw [HLQ3.out]; omega
      clear hm3
      have cf := (HP.out.at_ (F := G) (by simp) HAT3.out (by rw [block_of_add]; exact hab3)).fld 0 rfl
      have HBRX := Lib.hid (rep_bks_at HBR.out)
      have HBAT := Lib.hid (show ∀ (k : Nat) b, BL[k]? = some b → ∃ (a : Addr) (y z : Value), A7 = some a ∧ GB.S a.block ∧ At GB.w (a.add (k * 4)) [.int .i64 b.frm, .int .i64 b.upto, y, z] from fun k b hb => by
        obtain ⟨A8, c8, e8, -, -, h8⟩ := HBRX.out
        cases e8
        obtain ⟨hk1, hk2⟩ := List.getElem?_eq_some_iff.1 hb
        obtain ⟨a, y, z, g1, g2, g3, -, -⟩ := h8 k hk1
        rw [hk2] at g3
        exact ⟨a, y, z, g1, g2, g3⟩)
      clear HBRX
      rcases atZ_cases BL hpc with hat | ⟨k, bk, hat, hbk, hbf⟩
      · have HAT := Lib.hid hat
        have HFK0 := Lib.hid (show farK p f (K' + 1) t m = (t, m) from farK_none (by rw [HBL.out, HLF.out, HAT.out]; decide))
        clear hat
        have HEND := Lib.hid (show farAns p s = ((t, m), 0) by rw [HAN.out, ← HK.out.1, HFK0.out])
        go_wp2_with (first | (refine wpList_ldR0 rfl 29 _ rfl HP.out rfl Tryd.underlying29 rfl (by kernel_rfl) ?_) | (refine wpList_stR3 rfl 29 _ _ rfl HP.out rfl (cs' := staCells t (.slice (some ad3) t.frames.length c3) (.slice Ae3 t.events.length ce3) (.slice Aa3 t.answers.length ca3)) rfl rfl (sta_one0 rfl rfl rfl) (by kernel_rfl) ?_; clear HP; intro wst HP; replace HP := Lib.hid HP) | (refine wpList_ld0 rfl 25 _ rfl HP.out rfl rfl Tryd.underlying25 rfl ?_) | (go_at_call 12; refine (at_any BL _ hpc g9 _ (HP.out.rep (F := GB) (by simp) HBR.out) (HP.out.cell (.tail _ (.head _)) 0 _ rfl) (Blk.lt (HP.out.blk (.tail _ (.head _))))).mono ?_; rintro r8 w8 ⟨rfl, hb8⟩; replace HP := Lib.hid (HP.out.call0 hb8); clear hb8; rw [HAT.out]))
        rw [HEND.out]
        (try simp only [Exit.inBlock, Exit.then])
        refine bodyPost_ret (results_row_tmp3F (by rfl) _ _ g4 29 (staCells t (.slice (some ad3) t.frames.length c3) (.slice Ae3 t.events.length ce3) (.slice Aa3 t.answers.length ca3)).toArray (0, 0) _ rfl (HP.out.blk (.tail _ (.tail _ (.tail _ (.head _))))) Tryd.underlying29 rfl (by kernel_rfl)) (by rfl) ?_
        exact ⟨_, _, _, rfl, HP.out.repMore (.head _) HRP.out.1 (fun b hb => ⟨HGS.out b hb, (HP.out.fro _ (.head _) b hb).1⟩), HP.out.repMore (.head _) HRP.out.2.1 (fun b hb => ⟨HGS.out b hb, (HP.out.fro _ (.head _) b hb).1⟩), HP.out.repMore (.head _) HRP.out.2.2 (fun b hb => ⟨HGS.out b hb, (HP.out.fro _ (.head _) b hb).1⟩), HP.out.below⟩
      · have HAT := Lib.hid hat
        have HBK := Lib.hid hbk
        clear hat
        obtain ⟨c0, c1, hb0, hb1, h01, hcl, hsu, hop⟩ := HBF.out k bk hbk
        obtain ⟨ad7, y7, z7, rfl, hab7, hat7⟩ := HBAT.out k bk hbk
        rw [hb0, hb1] at hat7
        have HAT7 := Lib.hid hat7
        obtain rfl : hpc = (c0 : Int) := by rw [← hbf, hb0]
        obtain ⟨hcb, hcos1, hcos2⟩ := costB_eq (f := f) hb0 hb1
        have hkl : (k : Int) < (BL.length : Int) := by have := (List.getElem?_eq_some_iff.1 hbk).1; omega
        have HIB := Lib.hid (InB.start (i := i) HI.out.1 rfl HFK.out hcl h01 hsu rfl)
        have HOP := Lib.hid hop
        have hxl : c1 - 1 < f.code.length := by omega
        obtain ⟨adC, rfl, habC, hatC⟩ := HXC.out (c1 - 1) hxl
        have hxo : opAt f (c1 - 1) = f.code[c1 - 1].op := opAt_eq (List.getElem?_eq_getElem hxl)
        obtain ⟨x, hx⟩ : ∃ x, f.code[c1 - 1] = x := ⟨_, rfl⟩
        rw [hx] at hatC hxo
        rw [hxo] at hcb hcos1 hcos2
        have HATC := Lib.hid hatC
        have HXO := Lib.hid hxo
        obtain ⟨r, hr⟩ : ∃ r, c1 - 1 = r := ⟨_, rfl⟩
        rw [hr] at HATC
        obtain ⟨N, hN⟩ : ∃ N, c1 - c0 = N := ⟨_, rfl⟩
        have hwr : IntKind.i64.wrap ((c1 : Int) - 1) = (r : Int) := by rw [IntKind.wrap_i64]; omega
        have hwr2 : (c1 : Int) - 1 = (r : Int) := by omega
        have hwn : IntKind.i64.wrap ((c1 : Int) - (c0 : Int)) = (N : Int) := by rw [IntKind.wrap_i64]; omega
        have hwn2 : (c1 : Int) - (c0 : Int) = (N : Int) := by omega
        have hrl : (r : Int) < (f.code.length : Int) := by omega
        clear hat7 hbk hb0 hb1 hop hsu hatC hx hxl hxo hbf
        by_cases hcall : 17 ≤ x.op
        · have hcost : costB f bk = N - 1 := by rw [hcos1 hcall]; omega
          have hcall2 : decide ((17 : Int) ≤ x.op) = true := decide_eq_true (by omega)
          have hcall3 : decide ((16 : Int) < x.op) = true := decide_eq_true (by omega)
          clear hcos1 hcos2
          obtain ⟨NC, hNC⟩ : ∃ NC, N - 1 = NC := ⟨_, rfl⟩
          rw [hNC] at hcost
          have hwnc : IntKind.i64.wrap ((N : Int) - 1) = (NC : Int) := by rw [IntKind.wrap_i64]; omega
          have hwnc2 : (N : Int) - 1 = (NC : Int) := by omega
          go_upto_region 12 with (first | (refine wpList_ld0 rfl 25 _ rfl HP.out rfl rfl Tryd.underlying25 rfl ?_) | (go_at_call 12; refine (at_any BL _ (c0 : Int) g9 _ (HP.out.rep (F := GB) (by simp) HBR.out) (HP.out.cell (.tail _ (.head _)) 0 _ rfl) (Blk.lt (HP.out.blk (.tail _ (.head _))))).mono ?_; rintro r8 w8 ⟨rfl, hb8⟩; replace HP := Lib.hid (HP.out.call0 hb8); clear hb8; rw [HAT.out]))
          have cb1 := (HP.out.at_ (F := GB) (by simp) HAT7.out (by rw [block_of_add]; exact hab7)).fld0 rfl
          have cb2 := (HP.out.at_ (F := GB) (by simp) HAT7.out (by rw [block_of_add]; exact hab7)).fld 0 rfl
          have cc1 := (HP.out.at_ (F := ⟨w, Lt w.heap.size⟩) (by simp) HATC.out (by rw [block_of_add]; exact habC)).fld0 rfl
          have cg9 := HP.out.cell (.tail _ (.head _)) 0 _ rfl
          go_quiet (fail)
          replace HP := Lib.hid (HP.out.drewN nq)
          generalize w8.drewN nq = wq at HP ⊢
          clear cb1 cb2 cc1 cg9
          have cb1 := (HP.out.at_ (F := GB) (by simp) HAT7.out (by rw [block_of_add]; exact hab7)).fld0 rfl
          have cb2 := (HP.out.at_ (F := GB) (by simp) HAT7.out (by rw [block_of_add]; exact hab7)).fld 0 rfl
          have cc1 := (HP.out.at_ (F := ⟨w, Lt w.heap.size⟩) (by simp) HATC.out (by rw [block_of_add]; exact habC)).fld0 rfl
          by_cases hpo : t.fuel < (NC : Int)
          · have HEND := Lib.hid (show farAns p s = ((t, m), 0) by rw [HAN.out, ← HK.out.1, farK_poor (i := k) (by rw [HBL.out, HLF.out]; exact HAT.out) (by rw [HBL.out]; exact HBK.out) (by rw [hcost]; exact hpo)])
            skip
            go_wp2_with (first | (refine wpList_ldR0 rfl 29 _ rfl HP.out rfl Tryd.underlying29 rfl (by kernel_rfl) ?_) | (refine wpList_stR3 rfl 29 _ _ rfl HP.out rfl (cs' := staCells t (.slice (some ad3) t.frames.length c3) (.slice Ae3 t.events.length ce3) (.slice Aa3 t.answers.length ca3)) rfl rfl (sta_one0 rfl rfl rfl) (by kernel_rfl) ?_; clear HP; intro wst HP; replace HP := Lib.hid HP) | (refine wpList_ld0 rfl 3 _ rfl HP.out rfl rfl Tryd.underlying3 rfl ?_) | (refine wpList_ld1 rfl 42 _ rfl HP.out rfl rfl Tryd.underlying42 rfl ?_))
            rw [HEND.out]
            (try simp only [Exit.inBlock, Exit.then])
            refine bodyPost_ret (results_row_tmp3F (by rfl) _ _ g4 29 (staCells t (.slice (some ad3) t.frames.length c3) (.slice Ae3 t.events.length ce3) (.slice Aa3 t.answers.length ca3)).toArray (0, 0) _ rfl (HP.out.blk (.tail _ (.tail _ (.tail _ (.head _))))) Tryd.underlying29 rfl (by kernel_rfl)) (by rfl) ?_
            exact ⟨_, _, _, rfl, HP.out.repMore (.head _) HRP.out.1 (fun b hb => ⟨HGS.out b hb, (HP.out.fro _ (.head _) b hb).1⟩), HP.out.repMore (.head _) HRP.out.2.1 (fun b hb => ⟨HGS.out b hb, (HP.out.fro _ (.head _) b hb).1⟩), HP.out.repMore (.head _) HRP.out.2.2 (fun b hb => ⟨HGS.out b hb, (HP.out.fro _ (.head _) b hb).1⟩), HP.out.below⟩
          · have HRICH := Lib.hid (show (costB f bk : Int) ≤ t.fuel by rw [hcost]; omega)
            go_upto_region 18 with (first | (refine wpList_ld0 rfl 3 _ rfl HP.out rfl rfl Tryd.underlying3 rfl ?_) | (refine wpList_ld1 rfl 42 _ rfl HP.out rfl rfl Tryd.underlying42 rfl ?_))
            go_loopw [13, 97] (fun nv jv wr => ∃ (j m' : Nat) (t' : Sta) (h' : Frm) (F E A9 : Value) (G : Fro), j ≤ NC ∧ jv = .int .i64 j ∧ nv = .int .i64 m' ∧ Hid (InB p f i c0 c1 j t' fs h') ∧ Hid (inN p (NC - j) t' m' = inN p NC t m) ∧ Hid (m' = m + j ∧ t'.fuel + j = t.fuel) ∧ Hid (Lay.rep G.w G.S t'.frames [F] ∧ Lay.rep G.w G.S t'.events [E] ∧ Lay.rep G.w G.S t'.answers [A9]) ∧ Hid (∀ b, G.S b → w.heap.size ≤ b) ∧ Hid (Hp w [G, GB, ⟨w, Lt w.heap.size⟩] [.blk g14 29 (staCells t' F E A9), .blk g9 42 [.slice (some ad7) BL.length c7], .blk g7 39 (frmCells ⟨(i : Int), pc0, rg0⟩), .blk g4 29 (staCells zeroS (.slice none 0 0) (.slice none 0 0) (.slice none 0 0)), .blk g3 29 (staCells s (.slice (some ad2) s.frames.length c2) (.slice AE s.events.length ce) (.slice AA s.answers.length ca)), .blk g2 24 [.slice (some adP) p.funcs.length cP]] wr)) (fun _ jv _ => NC - (intOf jv).toNat)
            case atStart => exact ⟨0, m, t, _, _, _, _, G, by omega, rfl, rfl, HIB, Lib.hid rfl, Lib.hid ⟨rfl, by omega⟩, HRP, HGS, HP⟩
            case round =>
              clear HP HRP HGS HIB
              obtain ⟨j, m', t', h', F, E, A9, G5, hj9, rfl, rfl, HIB, HIN, HMJ, HRP, HGS, HP⟩ := hrel
              obtain ⟨wi, rfl⟩ : ∃ wo : World, wo = wr := ⟨_, rfl⟩
              by_cases hj : j < NC
              · have hj2 : (j : Int) < (NC : Int) := by omega
                obtain ⟨A5, c5, rfl, hc5, hm5, hx5⟩ := rep_frames_at HRP.out.1
                obtain ⟨Ae5, ce5, rfl, -, -, -⟩ := rep_ints_at HRP.out.2.1
                obtain ⟨Aa5, ca5, rfl, -, -, -⟩ := rep_ints_at HRP.out.2.2
                have HNS := Lib.hid (HIB.out.ok.nextS)
                have HNA := Lib.hid (nextAns_run HIB.out.ok.sf HIB.out.ok.st HIB.out.ok.fr)
                obtain ⟨hf51, hf52⟩ := (sf_zero HIB.out.ok.sf).2.1.fuel
                have HLM := Lib.hid (And.intro (show t'.frames.length ≤ 1256584717421 by have := (sf_zero HIB.out.ok.sf).2.1.frames; omega) (And.intro HIB.out.ok.ev (show t'.answers.length ≤ 17592186043999 by have := (sf_zero HIB.out.ok.sf).2.1.answers; omega)))
                have HNX := Lib.hid (fun hs => HIB.out.next HIM.out HFK.out hcl HOP.out (by omega) (fun _ => by have := HXO.out; omega) hs)
                have HOWN := Lib.hid (sf_zero HIB.out.ok.sf).2.2.own
                obtain ⟨T, hT⟩ : ∃ T, nextOf p t' fs h' = T := ⟨_, rfl⟩
                skip
                rw [hT] at HNS HNA HNX
                have HT := Lib.hid hT
                clear hT hx5 hm5 hc5
                by_cases hs : T.status = 0
                · obtain ⟨h5, HB5, hfu5⟩ : ∃ h5, Hid (InB p f i c0 c1 (j + 1) T fs h5) ∧ T.fuel = t'.fuel - 1 := by
                    obtain ⟨h5, g1, g2⟩ := HNX.out hs
                    exact ⟨h5, Lib.hid g1, g2⟩
                  have HIN2 := Lib.hid (show inN p (NC - (j + 1)) T (m' + 1) = inN p NC t m by
                    rw [← HIN.out, show NC - j = (NC - (j + 1)) + 1 by omega, inN_on (by rw [HNS.out]; exact hs), HNS.out])
                  have hs1 : (T.status != 0) = false := by simpa using hs
                  have hmj := HMJ.out
                  have hm10 : m' ≤ 10000 := by omega
                  clear hs
                  go_wp2_with (first | (refine wpList_ldR5 rfl 24 _ rfl HP.out rfl Tryd.underlying24 rfl (by kernel_rfl) ?_) | (refine wpList_ldR0 rfl 29 _ rfl HP.out rfl Tryd.underlying29 rfl (by kernel_rfl) ?_) | (go_at_call 16; have HSZ := Lib.hid HP.out.size; refine (Next_any p _ t' _ _ _ _ (HP.out.rep (F := ⟨w, Lt w.heap.size⟩) (by simp) HR.out) (HP.out.rep (.head _) HRP.out.1) (HP.out.rep (.head _) HRP.out.2.1) (HP.out.rep (.head _) HRP.out.2.2) HLM.out.1 HLM.out.2.1 HLM.out.2.2 (HH.out.keep HP.out.below rfl)).mono ?_; rintro r2 w6 hnx; rw [HNA.out] at hnx; dsimp only at hnx; obtain ⟨ub, eb, ab, rfl, hf, he, ha, hb⟩ := hnx; replace HP := Lib.hid (HP.out.call hb); have HR5 := Lib.hid (And.intro hf (And.intro he ha)); obtain ⟨Af2, cf2, rfl, -, -, -⟩ := rep_frames_at hf; obtain ⟨Ae2, ce2, rfl, -, -, -⟩ := rep_ints_at he; obtain ⟨Aa2, ca2, rfl, -, -, -⟩ := rep_ints_at ha; clear hb hf he ha) | (refine wpList_alloc_hp (o := ⟨some 18, _, _, _, _, _⟩) rfl _ rfl HP.out (.agg (staCells zeroS (.slice none 0 0) (.slice none 0 0) (.slice none 0 0)).toArray) (by kernel_rfl) (staCells zeroS (.slice none 0 0) (.slice none 0 0) (.slice none 0 0)) rfl ?_; clear HP; intro g18 w18 HP; replace HP := Lib.hid HP) | (refine wpList_stR0 rfl 29 _ _ rfl HP.out rfl (cs' := staCells T (.slice Af2 T.frames.length cf2) (.slice Ae2 T.events.length ce2) (.slice Aa2 T.answers.length ca2)) rfl rfl (sta_one0 rfl rfl rfl) (by kernel_rfl) ?_; clear HP; intro wst HP; replace HP := Lib.hid HP) | (refine wpList_ld0 rfl 3 _ rfl HP.out rfl rfl Tryd.underlying3 rfl ?_) | (refine wpList_stR1 rfl 29 _ _ rfl HP.out rfl (cs' := staCells T (.slice Af2 T.frames.length cf2) (.slice Ae2 T.events.length ce2) (.slice Aa2 T.answers.length ca2)) rfl rfl (sta_one0 rfl rfl rfl) (by kernel_rfl) ?_; clear HP; intro wst HP; replace HP := Lib.hid HP))
                  replace HP := Lib.hid (HP.out.froKeep (Fs' := [_, GB, ⟨w, Lt w.heap.size⟩]) (by intro F hF; rcases List.mem_cons.1 hF with h | h; exact h ▸ .head _; exact .tail _ (.tail _ h)))
                  go_roundw
                  case rel => exact ⟨j + 1, m' + 1, T, h5, _, _, _, _, by omega, by go_num, by go_num, HB5, HIN2, Lib.hid ⟨by omega, by omega⟩, HR5, Lib.hid (by exact fun b hb => Nat.le_trans HSZ.out hb.1), Lib.hid (Hp.drop (A := []) HP.out)⟩
                  case measure => simp [intOf]; omega
                · have hs1 : (T.status != 0) = true := by simpa using hs
                  have HEND := Lib.hid (show farAns p s = ((t', m'), 0) by
                    rw [HAN.out, ← HK.out.1, farK_stop (i := k) (t := t') (m := m') (c := false) (by rw [HBL.out, HLF.out]; exact HAT.out) (by rw [HBL.out]; exact HBK.out) (by have := HRICH.out; omega) (by
                      rw [hcost, ← HIN.out, show NC - j = (NC - (j + 1)) + 1 by omega, inN_stop (by rw [HNS.out]; exact hs)]) (.inl rfl)])
                  clear hs
                  skip
                  go_wp2_with (first | (refine wpList_ldR1 rfl 29 _ rfl HP.out rfl Tryd.underlying29 rfl (by kernel_rfl) ?_) | (refine wpList_stR4 rfl 29 _ _ rfl HP.out rfl (cs' := staCells t' (.slice A5 t'.frames.length c5) (.slice Ae5 t'.events.length ce5) (.slice Aa5 t'.answers.length ca5)) rfl rfl (sta_one0 rfl rfl rfl) (by kernel_rfl) ?_; clear HP; intro wst HP; replace HP := Lib.hid HP) | (refine wpList_ldR5 rfl 24 _ rfl HP.out rfl Tryd.underlying24 rfl (by kernel_rfl) ?_) | (refine wpList_ldR0 rfl 29 _ rfl HP.out rfl Tryd.underlying29 rfl (by kernel_rfl) ?_) | (go_at_call 16; have HSZ := Lib.hid HP.out.size; refine (Next_any p _ t' _ _ _ _ (HP.out.rep (F := ⟨w, Lt w.heap.size⟩) (by simp) HR.out) (HP.out.rep (.head _) HRP.out.1) (HP.out.rep (.head _) HRP.out.2.1) (HP.out.rep (.head _) HRP.out.2.2) HLM.out.1 HLM.out.2.1 HLM.out.2.2 (HH.out.keep HP.out.below rfl)).mono ?_; rintro r2 w6 hnx; rw [HNA.out] at hnx; dsimp only at hnx; obtain ⟨ub, eb, ab, rfl, hf, he, ha, hb⟩ := hnx; replace HP := Lib.hid (HP.out.call hb); have HR5 := Lib.hid (And.intro hf (And.intro he ha)); obtain ⟨Af2, cf2, rfl, -, -, -⟩ := rep_frames_at hf; obtain ⟨Ae2, ce2, rfl, -, -, -⟩ := rep_ints_at he; obtain ⟨Aa2, ca2, rfl, -, -, -⟩ := rep_ints_at ha; clear hb hf he ha) | (refine wpList_alloc_hp (o := ⟨some 18, _, _, _, _, _⟩) rfl _ rfl HP.out (.agg (staCells zeroS (.slice none 0 0) (.slice none 0 0) (.slice none 0 0)).toArray) (by kernel_rfl) (staCells zeroS (.slice none 0 0) (.slice none 0 0) (.slice none 0 0)) rfl ?_; clear HP; intro g18 w18 HP; replace HP := Lib.hid HP) | (refine wpList_stR0 rfl 29 _ _ rfl HP.out rfl (cs' := staCells T (.slice Af2 T.frames.length cf2) (.slice Ae2 T.events.length ce2) (.slice Aa2 T.answers.length ca2)) rfl rfl (sta_one0 rfl rfl rfl) (by kernel_rfl) ?_; clear HP; intro wst HP; replace HP := Lib.hid HP) | (refine wpList_ld0 rfl 3 _ rfl HP.out rfl rfl Tryd.underlying3 rfl ?_))
                  rw [HEND.out]
                  (try simp only [Exit.inBlock, Exit.then])
                  refine bodyPost_ret (results_row_tmp3F (by rfl) _ _ g4 29 (staCells t' (.slice A5 t'.frames.length c5) (.slice Ae5 t'.events.length ce5) (.slice Aa5 t'.answers.length ca5)).toArray (0, 0) _ rfl (HP.out.blk (.tail _ (.tail _ (.tail _ (.tail _ (.head _)))))) Tryd.underlying29 rfl (by kernel_rfl)) (by rfl) ?_
                  exact ⟨_, _, _, rfl, HP.out.repMore (.tail _ (.head _)) HRP.out.1 (fun b hb => ⟨HGS.out b hb, (HP.out.fro _ (.tail _ (.head _)) b hb).1⟩), HP.out.repMore (.tail _ (.head _)) HRP.out.2.1 (fun b hb => ⟨HGS.out b hb, (HP.out.fro _ (.tail _ (.head _)) b hb).1⟩), HP.out.repMore (.tail _ (.head _)) HRP.out.2.2 (fun b hb => ⟨HGS.out b hb, (HP.out.fro _ (.tail _ (.head _)) b hb).1⟩), HP.out.below⟩
              · obtain rfl : j = NC := by omega
                obtain ⟨A5, c5, rfl, hc5, hm5, hx5⟩ := rep_frames_at HRP.out.1
                obtain ⟨Ae5, ce5, rfl, -, -, -⟩ := rep_ints_at HRP.out.2.1
                obtain ⟨Aa5, ca5, rfl, -, -, -⟩ := rep_ints_at HRP.out.2.2
                have hin0 : inN p j t m = (t', m', true) := by rw [← HIN.out, Nat.sub_self]; rfl
                have hmj := HMJ.out
                obtain ⟨hf51, hf52⟩ := (sf_zero HIB.out.ok.sf).2.1.fuel
                have HEND := Lib.hid (show farAns p s = ((t', m'), 0) by
                  rw [HAN.out, ← HK.out.1, farK_stop (i := k) (t := t') (m := m') (c := true) (by rw [HBL.out, HLF.out]; exact HAT.out) (by rw [HBL.out]; exact HBK.out) (by have := HRICH.out; omega) (by rw [hcost]; exact hin0) (.inr (hcb.2 (by omega)))])
                clear hin0 hx5 hm5 hc5 hmj
                have cb1 := (HP.out.at_ (F := GB) (by simp) HAT7.out (by rw [block_of_add]; exact hab7)).fld0 rfl
                have cb2 := (HP.out.at_ (F := GB) (by simp) HAT7.out (by rw [block_of_add]; exact hab7)).fld 0 rfl
                have cc1 := (HP.out.at_ (F := ⟨w, Lt w.heap.size⟩) (by simp) HATC.out (by rw [block_of_add]; exact habC)).fld0 rfl
                skip
                go_wp2_with (first | (refine wpList_ldR0 rfl 29 _ rfl HP.out rfl Tryd.underlying29 rfl (by kernel_rfl) ?_) | (refine wpList_stR3 rfl 29 _ _ rfl HP.out rfl (cs' := staCells t' (.slice A5 t'.frames.length c5) (.slice Ae5 t'.events.length ce5) (.slice Aa5 t'.answers.length ca5)) rfl rfl (sta_one0 rfl rfl rfl) (by kernel_rfl) ?_; clear HP; intro wst HP; replace HP := Lib.hid HP) | (refine wpList_ld1 rfl 42 _ rfl HP.out rfl rfl Tryd.underlying42 rfl ?_))
                rw [HEND.out]
                (try simp only [Exit.inBlock, Exit.then])
                refine bodyPost_ret (results_row_tmp3F (by rfl) _ _ g4 29 (staCells t' (.slice A5 t'.frames.length c5) (.slice Ae5 t'.events.length ce5) (.slice Aa5 t'.answers.length ca5)).toArray (0, 0) _ rfl (HP.out.blk (.tail _ (.tail _ (.tail _ (.head _))))) Tryd.underlying29 rfl (by kernel_rfl)) (by rfl) ?_
                exact ⟨_, _, _, rfl, HP.out.repMore (.head _) HRP.out.1 (fun b hb => ⟨HGS.out b hb, (HP.out.fro _ (.head _) b hb).1⟩), HP.out.repMore (.head _) HRP.out.2.1 (fun b hb => ⟨HGS.out b hb, (HP.out.fro _ (.head _) b hb).1⟩), HP.out.repMore (.head _) HRP.out.2.2 (fun b hb => ⟨HGS.out b hb, (HP.out.fro _ (.head _) b hb).1⟩), HP.out.below⟩
        · have hcost : costB f bk = N := by rw [hcos2 hcall]; omega
          have hcall2 : decide ((17 : Int) ≤ x.op) = false := decide_eq_false (by omega)
          have hcall3 : decide ((16 : Int) < x.op) = false := decide_eq_false (by omega)
          clear hcos1 hcos2
          go_upto_region 12 with (first | (refine wpList_ld0 rfl 25 _ rfl HP.out rfl rfl Tryd.underlying25 rfl ?_) | (go_at_call 12; refine (at_any BL _ (c0 : Int) g9 _ (HP.out.rep (F := GB) (by simp) HBR.out) (HP.out.cell (.tail _ (.head _)) 0 _ rfl) (Blk.lt (HP.out.blk (.tail _ (.head _))))).mono ?_; rintro r8 w8 ⟨rfl, hb8⟩; replace HP := Lib.hid (HP.out.call0 hb8); clear hb8; rw [HAT.out]))
          have cb1 := (HP.out.at_ (F := GB) (by simp) HAT7.out (by rw [block_of_add]; exact hab7)).fld0 rfl
          have cb2 := (HP.out.at_ (F := GB) (by simp) HAT7.out (by rw [block_of_add]; exact hab7)).fld 0 rfl
          have cc1 := (HP.out.at_ (F := ⟨w, Lt w.heap.size⟩) (by simp) HATC.out (by rw [block_of_add]; exact habC)).fld0 rfl
          have cg9 := HP.out.cell (.tail _ (.head _)) 0 _ rfl
          go_quiet (fail)
          replace HP := Lib.hid (HP.out.drewN nq)
          generalize w8.drewN nq = wq at HP ⊢
          clear cb1 cb2 cc1 cg9
          have cb1 := (HP.out.at_ (F := GB) (by simp) HAT7.out (by rw [block_of_add]; exact hab7)).fld0 rfl
          have cb2 := (HP.out.at_ (F := GB) (by simp) HAT7.out (by rw [block_of_add]; exact hab7)).fld 0 rfl
          have cc1 := (HP.out.at_ (F := ⟨w, Lt w.heap.size⟩) (by simp) HATC.out (by rw [block_of_add]; exact habC)).fld0 rfl
          by_cases hpo : t.fuel < (N : Int)
          · have HEND := Lib.hid (show farAns p s = ((t, m), 0) by rw [HAN.out, ← HK.out.1, farK_poor (i := k) (by rw [HBL.out, HLF.out]; exact HAT.out) (by rw [HBL.out]; exact HBK.out) (by rw [hcost]; exact hpo)])
            skip
            go_wp2_with (first | (refine wpList_ldR0 rfl 29 _ rfl HP.out rfl Tryd.underlying29 rfl (by kernel_rfl) ?_) | (refine wpList_stR3 rfl 29 _ _ rfl HP.out rfl (cs' := staCells t (.slice (some ad3) t.frames.length c3) (.slice Ae3 t.events.length ce3) (.slice Aa3 t.answers.length ca3)) rfl rfl (sta_one0 rfl rfl rfl) (by kernel_rfl) ?_; clear HP; intro wst HP; replace HP := Lib.hid HP) | (refine wpList_ld0 rfl 3 _ rfl HP.out rfl rfl Tryd.underlying3 rfl ?_) | (refine wpList_ld1 rfl 42 _ rfl HP.out rfl rfl Tryd.underlying42 rfl ?_))
            rw [HEND.out]
            (try simp only [Exit.inBlock, Exit.then])
            refine bodyPost_ret (results_row_tmp3F (by rfl) _ _ g4 29 (staCells t (.slice (some ad3) t.frames.length c3) (.slice Ae3 t.events.length ce3) (.slice Aa3 t.answers.length ca3)).toArray (0, 0) _ rfl (HP.out.blk (.tail _ (.tail _ (.tail _ (.head _))))) Tryd.underlying29 rfl (by kernel_rfl)) (by rfl) ?_
            exact ⟨_, _, _, rfl, HP.out.repMore (.head _) HRP.out.1 (fun b hb => ⟨HGS.out b hb, (HP.out.fro _ (.head _) b hb).1⟩), HP.out.repMore (.head _) HRP.out.2.1 (fun b hb => ⟨HGS.out b hb, (HP.out.fro _ (.head _) b hb).1⟩), HP.out.repMore (.head _) HRP.out.2.2 (fun b hb => ⟨HGS.out b hb, (HP.out.fro _ (.head _) b hb).1⟩), HP.out.below⟩
          · have HRICH := Lib.hid (show (costB f bk : Int) ≤ t.fuel by rw [hcost]; omega)
            go_upto_region 18 with (first | (refine wpList_ld0 rfl 3 _ rfl HP.out rfl rfl Tryd.underlying3 rfl ?_) | (refine wpList_ld1 rfl 42 _ rfl HP.out rfl rfl Tryd.underlying42 rfl ?_))
            go_loopw [13, 97] (fun nv jv wr => ∃ (j m' : Nat) (t' : Sta) (h' : Frm) (F E A9 : Value) (G : Fro), j ≤ N ∧ jv = .int .i64 j ∧ nv = .int .i64 m' ∧ Hid (InB p f i c0 c1 j t' fs h') ∧ Hid (inN p (N - j) t' m' = inN p N t m) ∧ Hid (m' = m + j ∧ t'.fuel + j = t.fuel) ∧ Hid (Lay.rep G.w G.S t'.frames [F] ∧ Lay.rep G.w G.S t'.events [E] ∧ Lay.rep G.w G.S t'.answers [A9]) ∧ Hid (∀ b, G.S b → w.heap.size ≤ b) ∧ Hid (Hp w [G, GB, ⟨w, Lt w.heap.size⟩] [.blk g14 29 (staCells t' F E A9), .blk g9 42 [.slice (some ad7) BL.length c7], .blk g7 39 (frmCells ⟨(i : Int), pc0, rg0⟩), .blk g4 29 (staCells zeroS (.slice none 0 0) (.slice none 0 0) (.slice none 0 0)), .blk g3 29 (staCells s (.slice (some ad2) s.frames.length c2) (.slice AE s.events.length ce) (.slice AA s.answers.length ca)), .blk g2 24 [.slice (some adP) p.funcs.length cP]] wr)) (fun _ jv _ => N - (intOf jv).toNat)
            case atStart => exact ⟨0, m, t, _, _, _, _, G, by omega, rfl, rfl, HIB, Lib.hid rfl, Lib.hid ⟨rfl, by omega⟩, HRP, HGS, HP⟩
            case round =>
              clear HP HRP HGS HIB
              obtain ⟨j, m', t', h', F, E, A9, G5, hj9, rfl, rfl, HIB, HIN, HMJ, HRP, HGS, HP⟩ := hrel
              obtain ⟨wi, rfl⟩ : ∃ wo : World, wo = wr := ⟨_, rfl⟩
              by_cases hj : j < N
              · have hj2 : (j : Int) < (N : Int) := by omega
                obtain ⟨A5, c5, rfl, hc5, hm5, hx5⟩ := rep_frames_at HRP.out.1
                obtain ⟨Ae5, ce5, rfl, -, -, -⟩ := rep_ints_at HRP.out.2.1
                obtain ⟨Aa5, ca5, rfl, -, -, -⟩ := rep_ints_at HRP.out.2.2
                have HNS := Lib.hid (HIB.out.ok.nextS)
                have HNA := Lib.hid (nextAns_run HIB.out.ok.sf HIB.out.ok.st HIB.out.ok.fr)
                obtain ⟨hf51, hf52⟩ := (sf_zero HIB.out.ok.sf).2.1.fuel
                have HLM := Lib.hid (And.intro (show t'.frames.length ≤ 1256584717421 by have := (sf_zero HIB.out.ok.sf).2.1.frames; omega) (And.intro HIB.out.ok.ev (show t'.answers.length ≤ 17592186043999 by have := (sf_zero HIB.out.ok.sf).2.1.answers; omega)))
                have HNX := Lib.hid (fun hs => HIB.out.next HIM.out HFK.out hcl HOP.out (by omega) (fun _ => by have := HXO.out; omega) hs)
                have HOWN := Lib.hid (sf_zero HIB.out.ok.sf).2.2.own
                obtain ⟨T, hT⟩ : ∃ T, nextOf p t' fs h' = T := ⟨_, rfl⟩
                skip
                rw [hT] at HNS HNA HNX
                have HT := Lib.hid hT
                clear hT hx5 hm5 hc5
                by_cases hs : T.status = 0
                · obtain ⟨h5, HB5, hfu5⟩ : ∃ h5, Hid (InB p f i c0 c1 (j + 1) T fs h5) ∧ T.fuel = t'.fuel - 1 := by
                    obtain ⟨h5, g1, g2⟩ := HNX.out hs
                    exact ⟨h5, Lib.hid g1, g2⟩
                  have HIN2 := Lib.hid (show inN p (N - (j + 1)) T (m' + 1) = inN p N t m by
                    rw [← HIN.out, show N - j = (N - (j + 1)) + 1 by omega, inN_on (by rw [HNS.out]; exact hs), HNS.out])
                  have hs1 : (T.status != 0) = false := by simpa using hs
                  have hmj := HMJ.out
                  have hm10 : m' ≤ 10000 := by omega
                  clear hs
                  go_wp2_with (first | (refine wpList_ldR5 rfl 24 _ rfl HP.out rfl Tryd.underlying24 rfl (by kernel_rfl) ?_) | (refine wpList_ldR0 rfl 29 _ rfl HP.out rfl Tryd.underlying29 rfl (by kernel_rfl) ?_) | (go_at_call 16; have HSZ := Lib.hid HP.out.size; refine (Next_any p _ t' _ _ _ _ (HP.out.rep (F := ⟨w, Lt w.heap.size⟩) (by simp) HR.out) (HP.out.rep (.head _) HRP.out.1) (HP.out.rep (.head _) HRP.out.2.1) (HP.out.rep (.head _) HRP.out.2.2) HLM.out.1 HLM.out.2.1 HLM.out.2.2 (HH.out.keep HP.out.below rfl)).mono ?_; rintro r2 w6 hnx; rw [HNA.out] at hnx; dsimp only at hnx; obtain ⟨ub, eb, ab, rfl, hf, he, ha, hb⟩ := hnx; replace HP := Lib.hid (HP.out.call hb); have HR5 := Lib.hid (And.intro hf (And.intro he ha)); obtain ⟨Af2, cf2, rfl, -, -, -⟩ := rep_frames_at hf; obtain ⟨Ae2, ce2, rfl, -, -, -⟩ := rep_ints_at he; obtain ⟨Aa2, ca2, rfl, -, -, -⟩ := rep_ints_at ha; clear hb hf he ha) | (refine wpList_alloc_hp (o := ⟨some 18, _, _, _, _, _⟩) rfl _ rfl HP.out (.agg (staCells zeroS (.slice none 0 0) (.slice none 0 0) (.slice none 0 0)).toArray) (by kernel_rfl) (staCells zeroS (.slice none 0 0) (.slice none 0 0) (.slice none 0 0)) rfl ?_; clear HP; intro g18 w18 HP; replace HP := Lib.hid HP) | (refine wpList_stR0 rfl 29 _ _ rfl HP.out rfl (cs' := staCells T (.slice Af2 T.frames.length cf2) (.slice Ae2 T.events.length ce2) (.slice Aa2 T.answers.length ca2)) rfl rfl (sta_one0 rfl rfl rfl) (by kernel_rfl) ?_; clear HP; intro wst HP; replace HP := Lib.hid HP) | (refine wpList_ld0 rfl 3 _ rfl HP.out rfl rfl Tryd.underlying3 rfl ?_) | (refine wpList_stR1 rfl 29 _ _ rfl HP.out rfl (cs' := staCells T (.slice Af2 T.frames.length cf2) (.slice Ae2 T.events.length ce2) (.slice Aa2 T.answers.length ca2)) rfl rfl (sta_one0 rfl rfl rfl) (by kernel_rfl) ?_; clear HP; intro wst HP; replace HP := Lib.hid HP))
                  replace HP := Lib.hid (HP.out.froKeep (Fs' := [_, GB, ⟨w, Lt w.heap.size⟩]) (by intro F hF; rcases List.mem_cons.1 hF with h | h; exact h ▸ .head _; exact .tail _ (.tail _ h)))
                  go_roundw
                  case rel => exact ⟨j + 1, m' + 1, T, h5, _, _, _, _, by omega, by go_num, by go_num, HB5, HIN2, Lib.hid ⟨by omega, by omega⟩, HR5, Lib.hid (by exact fun b hb => Nat.le_trans HSZ.out hb.1), Lib.hid (Hp.drop (A := []) HP.out)⟩
                  case measure => simp [intOf]; omega
                · have hs1 : (T.status != 0) = true := by simpa using hs
                  have HEND := Lib.hid (show farAns p s = ((t', m'), 0) by
                    rw [HAN.out, ← HK.out.1, farK_stop (i := k) (t := t') (m := m') (c := false) (by rw [HBL.out, HLF.out]; exact HAT.out) (by rw [HBL.out]; exact HBK.out) (by have := HRICH.out; omega) (by
                      rw [hcost, ← HIN.out, show N - j = (N - (j + 1)) + 1 by omega, inN_stop (by rw [HNS.out]; exact hs)]) (.inl rfl)])
                  clear hs
                  skip
                  go_wp2_with (first | (refine wpList_ldR1 rfl 29 _ rfl HP.out rfl Tryd.underlying29 rfl (by kernel_rfl) ?_) | (refine wpList_stR4 rfl 29 _ _ rfl HP.out rfl (cs' := staCells t' (.slice A5 t'.frames.length c5) (.slice Ae5 t'.events.length ce5) (.slice Aa5 t'.answers.length ca5)) rfl rfl (sta_one0 rfl rfl rfl) (by kernel_rfl) ?_; clear HP; intro wst HP; replace HP := Lib.hid HP) | (refine wpList_ldR5 rfl 24 _ rfl HP.out rfl Tryd.underlying24 rfl (by kernel_rfl) ?_) | (refine wpList_ldR0 rfl 29 _ rfl HP.out rfl Tryd.underlying29 rfl (by kernel_rfl) ?_) | (go_at_call 16; have HSZ := Lib.hid HP.out.size; refine (Next_any p _ t' _ _ _ _ (HP.out.rep (F := ⟨w, Lt w.heap.size⟩) (by simp) HR.out) (HP.out.rep (.head _) HRP.out.1) (HP.out.rep (.head _) HRP.out.2.1) (HP.out.rep (.head _) HRP.out.2.2) HLM.out.1 HLM.out.2.1 HLM.out.2.2 (HH.out.keep HP.out.below rfl)).mono ?_; rintro r2 w6 hnx; rw [HNA.out] at hnx; dsimp only at hnx; obtain ⟨ub, eb, ab, rfl, hf, he, ha, hb⟩ := hnx; replace HP := Lib.hid (HP.out.call hb); have HR5 := Lib.hid (And.intro hf (And.intro he ha)); obtain ⟨Af2, cf2, rfl, -, -, -⟩ := rep_frames_at hf; obtain ⟨Ae2, ce2, rfl, -, -, -⟩ := rep_ints_at he; obtain ⟨Aa2, ca2, rfl, -, -, -⟩ := rep_ints_at ha; clear hb hf he ha) | (refine wpList_alloc_hp (o := ⟨some 18, _, _, _, _, _⟩) rfl _ rfl HP.out (.agg (staCells zeroS (.slice none 0 0) (.slice none 0 0) (.slice none 0 0)).toArray) (by kernel_rfl) (staCells zeroS (.slice none 0 0) (.slice none 0 0) (.slice none 0 0)) rfl ?_; clear HP; intro g18 w18 HP; replace HP := Lib.hid HP) | (refine wpList_stR0 rfl 29 _ _ rfl HP.out rfl (cs' := staCells T (.slice Af2 T.frames.length cf2) (.slice Ae2 T.events.length ce2) (.slice Aa2 T.answers.length ca2)) rfl rfl (sta_one0 rfl rfl rfl) (by kernel_rfl) ?_; clear HP; intro wst HP; replace HP := Lib.hid HP) | (refine wpList_ld0 rfl 3 _ rfl HP.out rfl rfl Tryd.underlying3 rfl ?_))
                  rw [HEND.out]
                  (try simp only [Exit.inBlock, Exit.then])
                  refine bodyPost_ret (results_row_tmp3F (by rfl) _ _ g4 29 (staCells t' (.slice A5 t'.frames.length c5) (.slice Ae5 t'.events.length ce5) (.slice Aa5 t'.answers.length ca5)).toArray (0, 0) _ rfl (HP.out.blk (.tail _ (.tail _ (.tail _ (.tail _ (.head _)))))) Tryd.underlying29 rfl (by kernel_rfl)) (by rfl) ?_
                  exact ⟨_, _, _, rfl, HP.out.repMore (.tail _ (.head _)) HRP.out.1 (fun b hb => ⟨HGS.out b hb, (HP.out.fro _ (.tail _ (.head _)) b hb).1⟩), HP.out.repMore (.tail _ (.head _)) HRP.out.2.1 (fun b hb => ⟨HGS.out b hb, (HP.out.fro _ (.tail _ (.head _)) b hb).1⟩), HP.out.repMore (.tail _ (.head _)) HRP.out.2.2 (fun b hb => ⟨HGS.out b hb, (HP.out.fro _ (.tail _ (.head _)) b hb).1⟩), HP.out.below⟩
              · obtain rfl : j = N := by omega
                obtain ⟨A5, c5, rfl, hc5, hm5, hx5⟩ := rep_frames_at HRP.out.1
                obtain ⟨Ae5, ce5, rfl, -, -, -⟩ := rep_ints_at HRP.out.2.1
                obtain ⟨Aa5, ca5, rfl, -, -, -⟩ := rep_ints_at HRP.out.2.2
                have hin0 : inN p j t m = (t', m', true) := by rw [← HIN.out, Nat.sub_self]; rfl
                have hmj := HMJ.out
                obtain ⟨hf51, hf52⟩ := (sf_zero HIB.out.ok.sf).2.1.fuel
                have HK2 := Lib.hid (show farK p f K' t' m' = farK p f (s.fuel.toNat + 1) s 0 ∧ t'.fuel < K' by
                  refine ⟨?_, by have := HK.out.2; omega⟩
                  rw [← HK.out.1]
                  exact (farK_on (i := k) (by rw [HBL.out, HLF.out]; exact HAT.out) (by rw [HBL.out]; exact HBK.out) (by have := HRICH.out; omega) (by rw [hcost]; exact hin0) (fun h => by have := hcb.1 h; omega)).symm)
                clear hin0 hx5 hm5 hc5 hmj
                have cb1 := (HP.out.at_ (F := GB) (by simp) HAT7.out (by rw [block_of_add]; exact hab7)).fld0 rfl
                have cb2 := (HP.out.at_ (F := GB) (by simp) HAT7.out (by rw [block_of_add]; exact hab7)).fld 0 rfl
                have cc1 := (HP.out.at_ (F := ⟨w, Lt w.heap.size⟩) (by simp) HATC.out (by rw [block_of_add]; exact habC)).fld0 rfl
                go_wp2_with (first | (refine wpList_ld1 rfl 42 _ rfl HP.out rfl rfl Tryd.underlying42 rfl ?_))
                go_roundw
                case rel => exact ⟨K', m', t', h', _, _, _, G5, by go_num, Lib.hid ⟨HIB.out.ok, HIB.out.fn⟩, HK2, Lib.hid (by have := HMJ.out; have := HMF.out; omega), HRP, HGS, HP⟩
                case measure => (have := HMJ.out; have := HMF.out; simp [intOf]; omega)
  · obtain ⟨e0, he0⟩ : ∃ e0, runFault p s = e0 := ⟨_, rfl⟩
    have HAN := Lib.hid (far_bad hz)
    have HRB := Lib.hid (runF_bad hz)
    rw [he0] at HAN hz HRB
    have HZ := Lib.hid he0
    have hzb : (e0 != 0) = true := by simpa using hz
    clear he0 hz
    go_enter Tryd.func5, Tryd.ntmps5
    go_wp2_with (first | (refine wpList_box_hp (o := ⟨some 2, _, _, _, _, _⟩) rfl _ _ rfl HP.out [_] rfl ?_; clear HP; intro g2 w2 HP; replace HP := Lib.hid HP) | (refine wpList_box_hp (o := ⟨some 3, _, _, _, _, _⟩) rfl _ _ rfl HP.out (staCells s (.slice A2 s.frames.length c2) (.slice AE s.events.length ce) (.slice AA s.answers.length ca)) rfl ?_; clear HP; intro g3 w3 HP; replace HP := Lib.hid HP) | (refine wpList_alloc_hp (o := ⟨some 4, _, _, _, _, _⟩) rfl _ rfl HP.out (.agg (staCells zeroS (.slice none 0 0) (.slice none 0 0) (.slice none 0 0)).toArray) (by kernel_rfl) (staCells zeroS (.slice none 0 0) (.slice none 0 0) (.slice none 0 0)) rfl ?_; clear HP; intro g4 w4 HP; replace HP := Lib.hid HP) | (refine wpList_ldR2 rfl 24 _ rfl HP.out rfl Tryd.underlying24 rfl (by kernel_rfl) ?_) | (refine wpList_ldR1 rfl 29 _ rfl HP.out rfl Tryd.underlying29 rfl (by kernel_rfl) ?_) | (go_at_call 10; refine (running_any p _ s _ _ _ _ (HP.out.rep (F := ⟨w, Lt w.heap.size⟩) (by simp) HR.out) (HP.out.rep (F := ⟨w, Lt w.heap.size⟩) (by simp) HF.out) (HP.out.rep (F := ⟨w, Lt w.heap.size⟩) (by simp) HE.out) (HP.out.rep (F := ⟨w, Lt w.heap.size⟩) (by simp) HA.out) (HH.out.keep HP.out.below rfl)).mono ?_; rintro r1 w5 ⟨rfl, hb⟩; replace HP := Lib.hid (HP.out.call0 hb); clear hb; rw [HRB.out]) | (refine wpList_alloc_hp (o := ⟨some 7, _, _, _, _, _⟩) rfl _ rfl HP.out (.agg (frmCells zeroF).toArray) (by kernel_rfl) (frmCells zeroF) rfl ?_; clear HP; intro g7 w7 HP; replace HP := Lib.hid HP) | (refine wpList_stR0 rfl 39 _ _ rfl HP.out rfl (cs' := frmCells zeroF) rfl rfl (by simp [frmCells, zeroF, Value.oneCell']) (by kernel_rfl) ?_; clear HP; intro wst HP; replace HP := Lib.hid HP) | (refine wpList_stR1 rfl 29 _ _ rfl HP.out rfl (cs' := (staCells zeroS (.slice none 0 0) (.slice none 0 0) (.slice none 0 0))) rfl rfl (by simp [staCells, Value.oneCell']) (by kernel_rfl) ?_; clear HP; intro wst HP; replace HP := Lib.hid HP))
    rw [HAN.out]
    (try simp only [Exit.inBlock, Exit.then])
    refine bodyPost_ret (results_row_tmp3F (by rfl) _ _ g4 29 (staCells zeroS (.slice none 0 0) (.slice none 0 0) (.slice none 0 0)).toArray (0, 0) _ rfl (HP.out.blk (.tail _ (.head _))) Tryd.underlying29 rfl (by kernel_rfl)) (by rfl) ?_
    exact ⟨_, _, _, rfl, rep_frames_nil0, rep_ints_nil, rep_ints_nil, HP.out.below⟩
end Go.Proofs.YtceilfmfidmfpaaDoor
