/- step.engine: ret. What the walk of ref.stepped needs besides. -/
import Derived.Test.YtfhoffpdodjfeaaDoorEng
import Derived.StillTailTactics
import Derived.Test.YtfhoffpdodjfeaaDoorMgBegLawNextAnsRunLawRunLawBBegRun5
set_option linter.unusedSimpArgs false
set_option linter.unusedVariables false
namespace Go.Proofs.YtfhoffpdodjfeaaDoor
open Go.RowKit
attribute [local irreducible] wpList Code.wp Oper.wp
/-- A run whose last function makes v. -/
def retS (p : Prg) (s : Sta) (fs : List Frm) (v : Int) : Sta := match fs.getLast? with
  | none => { s with frames := [], status := 1, value := v }
  | some g => { s with frames := fs.dropLast ++ [putF g (insAt p g).dst v] }
/-- Where an instruction lies. -/
theorem ins_at {w : World} {S : Nat → Prop} {p : Prg} {vP : Value} {f : Frm} (h : Lay.rep w S p [vP]) (ok : OkP p) (own : ownF p f) : ∃ (a ac : Addr) (c k j l cc : Nat) (x0 x1 : Value), vP = .slice (some a) p.funcs.length c ∧ f.fn = k ∧ f.pc = j ∧ k < p.funcs.length ∧ j < l ∧ S a.block ∧ S ac.block ∧
    At w (a.add (k * 3)) [x0, x1, .slice (some ac) l cc] ∧ At w (ac.add (j * 5)) [iV (insAt p f).op, iV (insAt p f).dst, iV (insAt p f).a, iV (insAt p f).b, iV (insAt p f).imm] ∧ l = (codeOf p f.fn).length ∧ l ≤ 40 ∧ OkI (insAt p f) l p.funcs.length := by
  obtain ⟨A, c, rfl, hc, hm, hx⟩ := rep_prg_at h
  obtain ⟨h1, h2, h3, h4⟩ := own
  obtain ⟨k, hk⟩ : ∃ k : Nat, f.fn = k := ⟨f.fn.toNat, by omega⟩
  obtain ⟨j, hj⟩ : ∃ j : Nat, f.pc = j := ⟨f.pc.toNat, by omega⟩
  have hkl : k < p.funcs.length := by omega
  obtain ⟨a, u, rfl, hab, hat, hcode⟩ := hx k hkl
  have hq := codeOf_eq (p := p) (k := k) (List.getElem?_eq_getElem hkl)
  rw [hk, hq, hj] at h4
  obtain ⟨A2, c2, rfl, hc2, hm2, hx2⟩ := rep_code_at hcode
  have hjl : j < p.funcs[k].code.length := by omega
  obtain ⟨a2, rfl, hab2, hat2⟩ := hx2 j hjl
  have hi := insAt_eq hk hj (List.getElem?_eq_getElem hkl) (List.getElem?_eq_getElem hjl)
  refine ⟨a, a2, c, k, j, _, c2, _, _, rfl, hk, hj, hkl, hjl, hab, hab2, hat, by rw [hi]; exact hat2, by rw [hk, hq], (ok.fns _ (List.getElem_mem hkl)).len.2, by rw [hi]; exact (ok.fns _ (List.getElem_mem hkl)).ins _ (List.getElem_mem hjl)⟩
theorem frms_put {gs : List Frm} {f : Frm} {q d k : Nat} (hq : gs.length = q) (hd : d < 12) (hk : k = q * 14 + (2 + d)) (v : Int) : (gs.flatMap frmCells ++ frmCells f).set k (iV v) = gs.flatMap frmCells ++ frmCells ⟨f.fn, f.pc, f.regs.setIfInBounds d v⟩ := by
  subst hk hq; rw [frms_set, frm_set _ _ hd]
theorem frms_pc {gs : List Frm} {f : Frm} {q k : Nat} (hq : gs.length = q) (hk : k = q * 14 + 1) (v : Int) : (gs.flatMap frmCells ++ frmCells f).set k (iV v) = gs.flatMap frmCells ++ frmCells ⟨f.fn, v, f.regs⟩ := by
  subst hk hq; rw [frms_set, frm_pc]
theorem frms_fn {gs : List Frm} {f : Frm} {q k : Nat} (hq : gs.length = q) (hk : k = q * 14) : (gs.flatMap frmCells ++ frmCells f)[k]? = some (iV f.fn) := by
  subst hk hq; exact (frms_at gs _ 0).trans rfl
theorem frms_pcAt {gs : List Frm} {f : Frm} {q k : Nat} (hq : gs.length = q) (hk : k = q * 14 + 1) : (gs.flatMap frmCells ++ frmCells f)[k]? = some (iV f.pc) := by
  subst hk hq; exact (frms_at gs _ 1).trans rfl
theorem frms_rg {gs : List Frm} {f : Frm} {q d k : Nat} (hq : gs.length = q) (hd : d < 12) (hk : k = q * 14 + (2 + d)) : (gs.flatMap frmCells ++ frmCells f)[k]? = some (iV (f.rg d)) := by
  subst hk hq; rw [frms_at, frm_reg _ _ hd]
theorem frms_lt {gs : List Frm} {f : Frm} {q k : Nat} (hq : gs.length = q) (hk : k < q * 14 + 14) : k < (gs.flatMap frmCells ++ frmCells f).length := by
  rw [List.length_append, frms_len, hq]; exact hk
set_option maxRecDepth 10000 in
set_option maxHeartbeats 1000000 in
theorem ret_any (s : Sta) (fs : List Frm) (f : Frm) (hfr : s.frames = fs ++ [f]) (F E A vP rE : Value) (tE : TypeId) (zE nE : Nat) (cE : List Value) (ge : Nat) (v : Int) (p : Prg) (w0 w : World) (Fs : List Fro) (L : List Res) (hl : s.frames.length ≤ 8) (ok : OkP p) (own : ∀ g ∈ s.frames, ownF p g) (G : Fro) (hG : G ∈ Fs) (hA : Lay.rep G.w G.S p [vP])
    (H : Hp w0 Fs (.blk ge 92 (engCells s F E A vP) :: .row F 75 14 s.frames.length (s.frames.flatMap frmCells) :: .row rE tE zE nE cE :: L) w) :
    Calls Tryd.prog 84 #[.pointer (some ⟨ge, 0, none⟩), iV v] w fun r w' => r = .returned (.tuple #[]) ∧ ∃ F', Hp w0 Fs (.blk ge 92 (engCells (retS p s fs v) F' E A vP) :: .row F' 75 14 (retS p s fs v).frames.length ((retS p s fs v).frames.flatMap frmCells) :: .row rE tE zE nE cE :: L) w' := by
  have HP := Lib.hid H
  have HA := Lib.hid hA
  obtain ⟨gF, c2, rfl⟩ := H.rowSome (v := F) (.tail _ (.head _)) (by rw [hfr]; simp)
  obtain ⟨_, _, e, hc2, hm2, -⟩ := rep_frames_at (H.rowFrames (.tail _ (.head _)) rfl)
  cases e
  unfold maxLen at hm2
  clear H
  unfold engCells at HP
  rcases List.eq_nil_or_concat fs with rfl | ⟨gs, g, hcat⟩
  · have hl1 : s.frames.length = 1 := by rw [hfr]; rfl
    rw [hl1] at HP hc2
    clear hA
    go_enter Tryd.func84, Tryd.ntmps84
    go_upto_region 0 with (fail)
    have hcf := HP.out.drew.cell (.head _) 2 _ rfl
    have hcf2 : ({ w with drawn := w.drawn + 1 } : World).cell? ⟨ge, 2, none⟩ = some (.slice (some ⟨gF, 0, none⟩) 1 c2) := hcf
    refine wp_region_still_tail 14 (by kernel_rfl) (by kernel_rfl) ?_
    simp only [List.take_succ_cons, List.take_zero, List.drop_succ_cons, List.drop_zero]
    repeat (first | still_step | simp only [show IntKind.i64.wrap 0 = 0 by decide])
    try refine wpStill_nil ?_
    clear hcf hcf2
    replace HP := Lib.hid HP.out.drew
    go_wp2_with (first | (refine wpList_ld0 rfl 26 _ rfl HP.out rfl rfl Tryd.underlying26 rfl ?_) | (refine wpList_ld1 rfl 26 _ rfl HP.out rfl rfl Tryd.underlying26 rfl ?_) | (refine wpList_st0 rfl 26 _ _ rfl HP.out rfl rfl (by simp) rfl rfl (by kernel_rfl) ?_; clear HP; intro wst HP; replace HP := Lib.hid HP) | (refine wpList_st1 rfl 26 _ _ rfl HP.out rfl rfl (by simp) rfl rfl (by kernel_rfl) ?_; clear HP; intro wst HP; replace HP := Lib.hid HP) | (refine wpList_st0 rfl 3 _ _ rfl HP.out rfl rfl (by simp) rfl rfl (by kernel_rfl) ?_; clear HP; intro wst HP; replace HP := Lib.hid HP) | (refine wpList_st1 rfl 3 _ _ rfl HP.out rfl rfl (by simp) rfl rfl (by kernel_rfl) ?_; clear HP; intro wst HP; replace HP := Lib.hid HP) | (go_at_call 80; refine (halt_any { s with value := v } _ _ _ _ _ _ _ _ _ _ HP.out).mono ?_; clear HP; rintro r w6 ⟨rfl, HP⟩; replace HP := Lib.hid HP))
    ((try simp only [Exit.inBlock, Exit.then]); first | refine bodyPost_end (results_none rfl _ _ _) rfl ?_ | refine bodyPost_ret (results_none rfl _ _ _) rfl ?_)
    have HH := HP.out.rowShrink (A := [_]) 0 (by omega)
    refine ⟨rfl, .slice (some ⟨gF, 0, none⟩) 0 c2, ?_⟩
    exact HH
  · rw [List.concat_eq_append] at hcat
    subst hcat
    have hl2 : s.frames.length = gs.length + 2 := by rw [hfr]; simp
    have hog : ownF p g := own g (by rw [hfr]; simp)
    obtain ⟨aP, ac, cP, k, j, l, cc, x0, x1, rfl, hgk, hgj, hkl, hjl, hSa, hSc, hat1, hat2, -, hl40, oki⟩ := ins_at hA ok hog
    obtain ⟨x, hx⟩ : ∃ x, insAt p g = x := ⟨_, rfl⟩
    rw [hx] at hat2 oki
    obtain ⟨d, hd⟩ : ∃ d : Nat, x.dst = d := ⟨x.dst.toNat, by have := oki.dst; omega⟩
    have hd11 : d ≤ 11 := by have := oki.dst; omega
    rw [hd] at hat2
    have hg0 : g = ⟨k, j, g.regs⟩ := by rw [← hgk, ← hgj]
    obtain ⟨rg, hrg⟩ : ∃ rg, g.regs = rg := ⟨_, rfl⟩
    rw [hrg] at hg0
    subst hg0
    have HRS := Lib.hid (show retS p s (gs ++ [⟨k, j, rg⟩]) v = { s with frames := gs ++ [⟨k, j + 1, rg.setIfInBounds d v⟩] } by unfold retS; simp [putF, hx, hd])
    obtain ⟨q, hq⟩ : ∃ q, gs.length = q := ⟨_, rfl⟩
    have HCS := Lib.hid (show s.frames.flatMap frmCells = (gs.flatMap frmCells ++ frmCells ⟨k, j, rg⟩) ++ frmCells f by rw [hfr, frms_snoc, frms_snoc])
    have HLN := Lib.hid (show (gs.flatMap frmCells).length = q * 14 by rw [frms_len, hq])
    have HQ := Lib.hid hq
    rw [hl2, hq] at HP hc2
    rw [hl2, hq] at hl
    rw [HCS.out] at HP
    have HAT1 := Lib.hid hat1
    have HAT2 := Lib.hid hat2
    clear hA hat1 hat2 hog hgk hgj hx hrg hl2 hq hfr own oki hd
    go_enter Tryd.func84, Tryd.ntmps84
    go_upto_region 0 with (fail)
    have hcf := HP.out.drew.cell (.head _) 2 _ rfl
    have hcf2 : ({ w with drawn := w.drawn + 1 } : World).cell? ⟨ge, 2, none⟩ = some (.slice (some ⟨gF, 0, none⟩) (q + 2) c2) := hcf
    refine wp_region_still_tail 14 (by kernel_rfl) (by kernel_rfl) ?_
    simp only [List.take_succ_cons, List.take_zero, List.drop_succ_cons, List.drop_zero]
    have hwr : IntKind.i64.wrap ((q : Int) + 2 - 1) = (q : Int) + 1 := by rw [IntKind.wrap_i64]; omega
    have hqc : q + 1 ≤ c2 := by omega
    have hqc2 : ((q : Int) + 1) ≤ (c2 : Int) := by omega
    have hqc3 : 0 ≤ ((q : Int) + 1) := by omega
    have hqc4 : ((q : Int) + 1).toNat = q + 1 := by omega
    repeat (first | still_step | fail)
    try refine wpStill_nil ?_
    clear hcf hcf2 hwr hqc2 hqc3 hqc4
    replace HP := Lib.hid HP.out.drew
    go_upto_region 1 with (first | (refine wpList_ld0 rfl 26 _ rfl HP.out rfl rfl Tryd.underlying26 rfl ?_) | (refine wpList_ld1 rfl 26 _ rfl HP.out rfl rfl Tryd.underlying26 rfl ?_) | (refine wpList_st0 rfl 26 _ _ rfl HP.out rfl rfl (by simp) rfl rfl (by kernel_rfl) ?_; clear HP; intro wst HP; replace HP := Lib.hid HP) | (refine wpList_st1 rfl 26 _ _ rfl HP.out rfl rfl (by simp) rfl rfl (by kernel_rfl) ?_; clear HP; intro wst HP; replace HP := Lib.hid HP))
    (try simp only [Act.put, List.setIfInBounds_toArray, List.set_cons_zero, List.set_cons_succ])
    have HTK : List.take ((q + 1) * 14) ((gs.flatMap frmCells ++ frmCells ⟨k, j, rg⟩) ++ frmCells f) = gs.flatMap frmCells ++ frmCells ⟨k, j, rg⟩ := List.take_left' (by rw [List.length_append, HLN.out]; show q * 14 + 14 = _; omega)
    have HH := HP.out.rowShrink (A := [_]) (q + 1) (by omega)
    rw [HTK] at HH
    replace HP := Lib.hid (show Hp w0 Fs (.blk ge 92 (engCells s (.slice (some ⟨gF, 0, none⟩) (q + 1) c2) E A (.slice (some aP) p.funcs.length cP)) :: .row (.slice (some ⟨gF, 0, none⟩) (q + 1) c2) 75 14 (q + 1) (gs.flatMap frmCells ++ frmCells ⟨k, j, rg⟩) :: .row rE tE zE nE cE :: L) _ from HH)
    unfold engCells at HP
    clear HH HTK
    have hqb : (((q : Int) + 1) == 0) = false := by rw [beq_eq_false_iff_ne]; omega
    go_upto_region 4 with (first | (refine wpList_ld0 rfl 26 _ rfl HP.out rfl rfl Tryd.underlying26 rfl ?_) | (refine wpList_ld1 rfl 26 _ rfl HP.out rfl rfl Tryd.underlying26 rfl ?_))
    have hwr : IntKind.i64.wrap ((q : Int) + 1 - 1) = (q : Int) := by rw [IntKind.wrap_i64]; omega
    have hqc3 : decide ((q : Int) < (q : Int) + 1) = true := decide_eq_true (by omega)
    have hcf := HP.out.cell (.head _) 2 _ rfl
    have hcf2 := HP.out.drew.cell (.head _) 2 _ rfl
    go_quiet (fail)
    replace HP := Lib.hid (HP.out.drewN nq)
    clear hcf hcf2 hwr hqc3
    go_upto_region 5 with (fail)
    generalize wst.drewN nq = wx at HP ⊢
    have HD := Lib.hid HP.out.drew
    have c1 : wx.cell? ⟨ge, 22, none⟩ = some (.slice (some aP) p.funcs.length cP) := HP.out.cell (.head _) 22 _ rfl
    have c2' : wx.cell? ⟨gF, q * 14, none⟩ = some (.int .i64 k) := HP.out.rowCell (g := gF) (.tail _ (.head _)) (q * 14 + 0) _ (by rw [← HQ.out, frms_at]; rfl)
    have c3 : wx.cell? ⟨gF, q * 14 + 1, none⟩ = some (.int .i64 j) := HP.out.rowCell (g := gF) (.tail _ (.head _)) (q * 14 + 1) _ (by rw [← HQ.out, frms_at]; rfl)
    have c4 : wx.cell? ⟨(aP.add (k * 3)).block, (aP.add (k * 3)).off + 2, none⟩ = some (.slice (some ac) l cc) := (HP.out.at_ hG HAT1.out (by rw [block_of_add]; exact hSa)).fld 1 rfl
    have c5 : wx.cell? ⟨(ac.add (j * 5)).block, (ac.add (j * 5)).off + 1, none⟩ = some (.int .i64 d) := (HP.out.at_ hG HAT2.out (by rw [block_of_add]; exact hSc)).fld 0 rfl
    refine wp_region_still_tail 23 (by kernel_rfl) (by kernel_rfl) ?_
    simp only [List.take_succ_cons, List.take_zero, List.drop_succ_cons, List.drop_zero]
    repeat still_step
    try refine wpStill_nil ?_
    clear c1 c2' c3 c4 c5
    replace HP := HD
    clear HD
    go_wp2_with (first | (refine wpList_stW1 rfl 3 _ _ rfl HP.out rfl rfl (frms_lt HQ.out (by omega)) rfl (frms_put (d := d) HQ.out (by omega) (by omega) _) (by kernel_rfl) ?_; clear HP; intro wst HP; replace HP := Lib.hid HP) | (refine wpList_stW1 rfl 3 _ _ rfl HP.out rfl rfl (frms_lt HQ.out (by omega)) rfl (frms_pc HQ.out (by omega) _) (by kernel_rfl) ?_; clear HP; intro wst HP; replace HP := Lib.hid HP) | (refine wpList_ldW1 rfl 3 _ rfl HP.out rfl (frms_pcAt HQ.out (by omega)) Tryd.underlying3 rfl ?_))
    ((try simp only [Exit.inBlock, Exit.then]); first | refine bodyPost_end (results_none rfl _ _ _) rfl ?_ | refine bodyPost_ret (results_none rfl _ _ _) rfl ?_)
    refine ⟨rfl, .slice (some ⟨gF, 0, none⟩) (q + 1) c2, ?_⟩
    rw [HRS.out]
    simp only
    rw [frms_snoc, List.length_append, HQ.out]
    exact HP.out
end Go.Proofs.YtfhoffpdodjfeaaDoor
namespace Go.Proofs.YtfhoffpdodjfeaaDoor
open Go.RowKit Plain64
theorem Hp.sub {w0 w : World} {Fs : List Fro} {L L' : List Res} (h : Hp w0 Fs L w) (hs : List.Sublist L' L) : Hp w0 Fs L' w := ⟨h.below, h.fro, fun r hr => h.own r (hs.subset hr), h.apart.sublist hs⟩
theorem Hp.pull {w0 w : World} {Fs : List Fro} {A B : List Res} {r : Res} (h : Hp w0 Fs (A ++ r :: B) w) : Hp w0 Fs (r :: (A ++ B)) w := h.perm List.perm_middle
theorem st_done {w0 w' : World} {Fs : List Fro} {F E A : Value} {t : Sta} {n m l : Nat} {cs ds es : List Value} (hn : t.frames.length = n) (hc : t.frames.flatMap frmCells = cs) (hm : t.events.length = m) (hd : t.events.map (Value.int .i64) = ds) (hl : t.answers.length = l) (he : t.answers.map (Value.int .i64) = es)
    (HP : Hp w0 Fs [.row F 75 14 n cs, .row E 3 1 m ds, .row A 3 1 l es] w') : Hp w0 Fs (ownS t F E A) w' := by
  subst hn hc hm hd hl he
  exact HP
theorem vset2 {n : Nat} (v : Vector Int n) (i : Nat) (a b : Int) : (v.setIfInBounds i a).setIfInBounds i b = v.setIfInBounds i b := by
  apply Vector.ext
  intro j hj
  simp only [Vector.getElem_setIfInBounds]
  split <;> rfl
end Go.Proofs.YtfhoffpdodjfeaaDoor
