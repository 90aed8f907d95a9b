/- ref.readsOf, ref.ReadsAndSets. States: their cells; rows of flat elements. No program is named here. P4.3: the next state. No program is named here. P4.1: how a run begins. No program is named here. P4.3, at every argument. No program is named here. A run, step by step: what holds of its states. No program is named here. A run's states stay right; how it ends. No program is named here. How a run begins, and that it goes on rightly. No program is named here. -/
import Derived.Test.YtceilfmfidmfpaaDoorMgReadsWaySureLawSureRunProvenLawStateLawLiveLawBlkLawDomLawDo11
import Derived.Test.YtceilfmfidmfpaaDoorMgCodeDCodeE2
import Derived.Test.YtceilfmfidmfpaaDoorMgHpOpsHpRowHpB3
import Derived.Test.YtceilfmfidmfpaaDoorMgValidPureLaw2
set_option linter.unusedSimpArgs false
set_option linter.unusedVariables false
namespace Go.Proofs.YtceilfmfidmfpaaDoor
open Go.RowKit Plain64
attribute [local irreducible] wpList Code.wp Oper.wp
theorem info_int : (Tryd.prog.info? 3).map (fun i => (i.zero, i.size, i.bytes)) = some (some (.int .i64 0), 1, 8) := by kernel_rfl
/-- A row of numbers reads as these numbers. -/
theorem Hp.rowInts {w0 w : World} {Fs : List Fro} {L : List Res} {v : Value} {e : TypeId} {n : Nat} {cs : List Value} {xs : List Int} (h : Hp w0 Fs L w) (hm : Res.row v e 1 n cs ∈ L) (hx : cs = xs.map (Value.int .i64)) : Lay.rep w (Fresh w0 w) xs [v] := by
  subst hx
  have ho := h.row hm
  have hf := (h.own _ hm).2
  rcases ho.2 with ⟨rfl, hn⟩ | ⟨g, cap, cur, rfl, hb, hg, hle, hmx, hs, ht⟩
  · have hl := ho.1
    subst hn
    have : xs = [] := by cases xs; rfl; simp at hl
    subst this
    exact rep_ints_nil
  · have hl : xs.length = n := by have := ho.1; simpa using this
    subst hl
    refine ⟨_, _, rfl, hle, hmx, fun k x hx => ⟨_, [.int .i64 x], rfl, ⟨(hf g rfl).1, (hf g rfl).2.1⟩, fun j u hu => ?_, rfl⟩⟩
    have hj : j = 0 := by have := (List.getElem?_eq_some_iff.1 hu).1; simpa using this
    subst hj
    simp at hu
    subst hu
    have := ho.cells (g := g) rfl k (.int .i64 x) (by simp [hx])
    rw [add_of_add]
    show w.cell? ((⟨g, 0, none⟩ : Addr).add (k * 1 + 0)) = _
    rwa [Nat.mul_one, Nat.add_zero]
set_option maxRecDepth 10000 in
set_option maxHeartbeats 1000000 in
theorem readsOf_any (p : Prg) (u : Value) (x : Ins) (len : Nat) (w : World) (hp : Lay.rep w (Lt w.heap.size) p [u]) (ok : OkP p) (okx : OkI x len p.funcs.length) :
    Calls Tryd.prog 70 #[.agg #[u], .agg #[.int .i64 x.op, .int .i64 x.dst, .int .i64 x.a, .int .i64 x.b, .int .i64 x.imm]] w fun e w' => ∃ v, e = .returned v ∧ Lay.rep w' (Fresh w w') (readsL p x) [v] ∧ Below w.heap.size w w' := by
  obtain ⟨A, c, rfl, hc, hm, hx⟩ := rep_prg_at hp
  unfold maxLen at hm
  have HX := Lib.hid hx
  have HO := Lib.hid okx
  have HK := Lib.hid ok
  obtain ⟨n1, n2⟩ := ok.len
  clear hx hp ok okx
  have HP := Lib.hid ((Hp.start w).nil 3 1)
  obtain ⟨i_int, hi_int, hz_int, hs_int, hy_int⟩ := info_parts info_int
  go_enter Tryd.func70, Tryd.ntmps70
  go_upto_region 2 with (first | (refine wpList_box_hp (o := ⟨some 2, _, _, _, _, _⟩) rfl _ _ rfl HP.out [_] rfl ?_; clear HP; intro g2 w2 HP; replace HP := Lib.hid HP) | (refine wpList_box_hp (o := ⟨some 3, _, _, _, _, _⟩) rfl _ _ rfl HP.out [_, _, _, _, _] rfl ?_; clear HP; intro g3 w3 HP; replace HP := Lib.hid HP))
  by_cases h17 : x.op = 17
  · obtain ⟨i1, i2⟩ := HO.out.cal h17
    obtain ⟨k, hk⟩ := Int.eq_ofNat_of_zero_le i1
    have hkl : k < p.funcs.length := by omega
    have hki : (k : Int) < (p.funcs.length : Int) := by omega
    obtain ⟨ad, v, rfl, hab, hat, _⟩ := HX.out k hkl
    have hpar : parZ p x.imm = p.funcs[k].params := by unfold parZ; rw [hk]; simp [hkl]
    have hq := (HK.out.fns _ (List.getElem_mem hkl)).params
    have e0 : (ad.add (k * 3)).add 0 = ad.add (k * 3) := by simp [Addr.add]
    have HAT := Lib.hid hat
    have HE0 := Lib.hid e0
    have HO17 := Lib.hid h17
    have HPAR := Lib.hid hpar
    have HKK := Lib.hid hk
    obtain ⟨r, hr⟩ : ∃ r, p.funcs[k].params = r := ⟨_, rfl⟩
    rw [hr] at hq HPAR HAT
    rw [h17, hk] at HP
    clear h17 hk hpar hat hr e0 i1 i2
    have hop := HP.out.cell (.head _) 0 _ rfl
    have himm := HP.out.cell (.head _) 4 _ rfl
    have hfs := HP.out.cell (.tail _ (.head _)) 0 _ rfl
    have hcp := (HP.out.at_ (F := ⟨w, Lt w.heap.size⟩) (by simp) HAT.out (by rw [block_of_add]; exact hab)).cell 0 rfl
    rw [HE0.out] at hcp
    have era : readsAZ 17 = true := rfl
    have erb : readsBZ 17 = true := rfl
    have hr3 : r = 0 ∨ r = 1 ∨ r = 2 := by omega
    clear hq
    rcases hr3 with rfl | rfl | rfl
    all_goals
      go_upto_region 4 with (first | (go_at_call 85; refine (ReadsA_any _ _).mono ?_; rintro e w' ⟨rfl, rfl⟩) | (refine wpList_ld0 rfl 3 _ rfl HP.out rfl rfl Tryd.underlying3 rfl ?_) | (refine wpList_ld1 rfl 3 _ rfl HP.out rfl rfl Tryd.underlying3 rfl ?_) | (refine wpList_ld2 rfl 3 _ rfl HP.out rfl rfl Tryd.underlying3 rfl ?_) | (refine wpList_ints_hp rfl 27 3 1 _ rfl HP.out Tryd.underlying27 [_] rfl (by kernel_rfl) ?_; clear HP; intro gi wi HP; replace HP := Lib.hid HP) | (at_builtin; refine wpList_app2 rfl _ _ 27 rfl i_int (.int .i64 0) Tryd.underlying27 hi_int hz_int hs_int rfl (by decide) hy_int (1) rfl HP.out rfl rfl rfl (by simp [Value.oneCell']) (by unfold maxLen; omega) (by omega) ?_; clear HP; intro A' c' wap HP; replace HP := Lib.hid HP))
      clear hop himm hfs hcp
      have hop := HP.out.cell (.head _) 0 _ rfl
      have himm := HP.out.cell (.head _) 4 _ rfl
      have hfs := HP.out.cell (.tail _ (.head _)) 0 _ rfl
      have hcp := (HP.out.at_ (F := ⟨w, Lt w.heap.size⟩) (by simp) HAT.out (by rw [block_of_add]; exact hab)).cell 0 rfl
      rw [HE0.out] at hcp
      go_wp2_with (first | (go_at_call 86; refine (ReadsB_any _ _).mono ?_; rintro e w' ⟨rfl, rfl⟩) | (refine wpList_ld0 rfl 3 _ rfl HP.out rfl rfl Tryd.underlying3 rfl ?_) | (refine wpList_ld1 rfl 3 _ rfl HP.out rfl rfl Tryd.underlying3 rfl ?_) | (refine wpList_ld2 rfl 3 _ rfl HP.out rfl rfl Tryd.underlying3 rfl ?_) | (refine wpList_ints_hp rfl 27 3 1 _ rfl HP.out Tryd.underlying27 [_] rfl (by kernel_rfl) ?_; clear HP; intro gi wi HP; replace HP := Lib.hid HP) | (at_builtin; refine wpList_app2 rfl _ _ 27 rfl i_int (.int .i64 0) Tryd.underlying27 hi_int hz_int hs_int rfl (by decide) hy_int (1) rfl HP.out rfl rfl rfl (by simp [Value.oneCell']) (by unfold maxLen; omega) (by omega) ?_; clear HP; intro A' c' wap HP; replace HP := Lib.hid HP) | (at_builtin; refine wpList_app2 rfl _ _ 27 rfl i_int (.int .i64 0) Tryd.underlying27 hi_int hz_int hs_int rfl (by decide) hy_int (2) rfl HP.out rfl rfl rfl (by simp [Value.oneCell']) (by unfold maxLen; omega) (by omega) ?_; clear HP; intro A' c' wap HP; replace HP := Lib.hid HP))
      go_ret
      refine ⟨_, rfl, ?_, HP.out.below⟩
      unfold readsL
      rw [HPAR.out, HO17.out]
      exact HP.out.rowInts (.tail _ (.tail _ (.head _))) rfl
  · have h17b : (x.op != 17) = true := by simpa using h17
    have HN := Lib.hid h17
    clear h17
    have hop := HP.out.cell (.head _) 0 _ rfl
    obtain ⟨ra, era⟩ : ∃ ra, readsAZ x.op = ra := ⟨_, rfl⟩
    obtain ⟨rb, erb⟩ : ∃ rb, readsBZ x.op = rb := ⟨_, rfl⟩
    have HRA := Lib.hid era
    have HRB := Lib.hid erb
    cases ra
    all_goals
      cases rb
      all_goals
        go_upto_region 4 with (first | (go_at_call 85; refine (ReadsA_any _ _).mono ?_; rintro e w' ⟨rfl, rfl⟩) | (refine wpList_ld0 rfl 3 _ rfl HP.out rfl rfl Tryd.underlying3 rfl ?_) | (refine wpList_ld1 rfl 3 _ rfl HP.out rfl rfl Tryd.underlying3 rfl ?_) | (refine wpList_ld2 rfl 3 _ rfl HP.out rfl rfl Tryd.underlying3 rfl ?_) | (refine wpList_ints_hp rfl 27 3 1 _ rfl HP.out Tryd.underlying27 [_] rfl (by kernel_rfl) ?_; clear HP; intro gi wi HP; replace HP := Lib.hid HP) | (at_builtin; refine wpList_app2 rfl _ _ 27 rfl i_int (.int .i64 0) Tryd.underlying27 hi_int hz_int hs_int rfl (by decide) hy_int (1) rfl HP.out rfl rfl rfl (by simp [Value.oneCell']) (by unfold maxLen; omega) (by omega) ?_; clear HP; intro A' c' wap HP; replace HP := Lib.hid HP))
        clear hop
        have hop := HP.out.cell (.head _) 0 _ rfl
        go_wp2_with (first | (go_at_call 86; refine (ReadsB_any _ _).mono ?_; rintro e w' ⟨rfl, rfl⟩) | (refine wpList_ld0 rfl 3 _ rfl HP.out rfl rfl Tryd.underlying3 rfl ?_) | (refine wpList_ld1 rfl 3 _ rfl HP.out rfl rfl Tryd.underlying3 rfl ?_) | (refine wpList_ld2 rfl 3 _ rfl HP.out rfl rfl Tryd.underlying3 rfl ?_) | (refine wpList_ints_hp rfl 27 3 1 _ rfl HP.out Tryd.underlying27 [_] rfl (by kernel_rfl) ?_; clear HP; intro gi wi HP; replace HP := Lib.hid HP) | (at_builtin; refine wpList_app2 rfl _ _ 27 rfl i_int (.int .i64 0) Tryd.underlying27 hi_int hz_int hs_int rfl (by decide) hy_int (1) rfl HP.out rfl rfl rfl (by simp [Value.oneCell']) (by unfold maxLen; omega) (by omega) ?_; clear HP; intro A' c' wap HP; replace HP := Lib.hid HP) | (at_builtin; refine wpList_app2 rfl _ _ 27 rfl i_int (.int .i64 0) Tryd.underlying27 hi_int hz_int hs_int rfl (by decide) hy_int (2) rfl HP.out rfl rfl rfl (by simp [Value.oneCell']) (by unfold maxLen; omega) (by omega) ?_; clear HP; intro A' c' wap HP; replace HP := Lib.hid HP))
        go_ret
        refine ⟨_, rfl, ?_, HP.out.below⟩
        unfold readsL
        rw [HRA.out, HRB.out, decide_eq_true HN.out]
        exact HP.out.rowInts (.tail _ (.tail _ (.head _))) rfl
end Go.Proofs.YtceilfmfidmfpaaDoor
namespace Go.Proofs.YtceilfmfidmfpaaDoor
open Go.RowKit
/-- A register of a frame. -/
def Frm.rg (x : Frm) (i : Nat) : Int := x.regs.toList.getD i 0
/-- A word of a state's memory. -/
def Sta.mm (x : Sta) (i : Nat) : Int := x.memory.toList.getD i 0
abbrev iV (n : Int) : Value := .int .i64 n
def frmCells (x : Frm) : List Value := [iV x.fn, iV x.pc, iV (x.rg 0), iV (x.rg 1), iV (x.rg 2), iV (x.rg 3), iV (x.rg 4), iV (x.rg 5), iV (x.rg 6), iV (x.rg 7), iV (x.rg 8), iV (x.rg 9), iV (x.rg 10), iV (x.rg 11)]
theorem vec12 (v : Vector Int 12) : v.toList = [v.toList.getD 0 0, v.toList.getD 1 0, v.toList.getD 2 0, v.toList.getD 3 0, v.toList.getD 4 0, v.toList.getD 5 0, v.toList.getD 6 0, v.toList.getD 7 0, v.toList.getD 8 0, v.toList.getD 9 0, v.toList.getD 10 0, v.toList.getD 11 0] := by
  have hl : v.toList.length = 12 := by simp
  generalize v.toList = l at *
  match l, hl with
  | [a0, a1, a2, a3, a4, a5, a6, a7, a8, a9, a10, a11], _ => rfl
theorem vec16 (v : Vector Int 16) : v.toList = [v.toList.getD 0 0, v.toList.getD 1 0, v.toList.getD 2 0, v.toList.getD 3 0, v.toList.getD 4 0, v.toList.getD 5 0, v.toList.getD 6 0, v.toList.getD 7 0, v.toList.getD 8 0, v.toList.getD 9 0, v.toList.getD 10 0, v.toList.getD 11 0, v.toList.getD 12 0, v.toList.getD 13 0, v.toList.getD 14 0, v.toList.getD 15 0] := by
  have hl : v.toList.length = 16 := by simp
  generalize v.toList = l at *
  match l, hl with
  | [a0, a1, a2, a3, a4, a5, a6, a7, a8, a9, a10, a11, a12, a13, a14, a15], _ => rfl
section
variable {w w' : World} {B : Nat → Prop} {cs : List Value}
theorem rep_frm' {x : Frm} : Lay.rep w B x cs ↔ cs = frmCells x := by
  rw [rep_frm, vec12]; rfl
def staCells (x : Sta) (u e a : Value) : List Value := [iV x.status, iV x.value, u, iV (x.mm 0), iV (x.mm 1), iV (x.mm 2), iV (x.mm 3), iV (x.mm 4), iV (x.mm 5), iV (x.mm 6), iV (x.mm 7), iV (x.mm 8), iV (x.mm 9), iV (x.mm 10), iV (x.mm 11), iV (x.mm 12), iV (x.mm 13), iV (x.mm 14), iV (x.mm 15), iV x.fuel, e, a]
theorem rep_sta {x : Sta} : Lay.rep w B x cs ↔ ∃ u e a, cs = staCells x u e a ∧ Lay.rep w B x.frames [u] ∧ Lay.rep w B x.events [e] ∧ Lay.rep w B x.answers [a] := by
  constructor
  · rintro ⟨_, _, rfl, rfl, _, _, rfl, rfl, c1, d1, rfl, hf, c2, d2, rfl, hm, _, _, rfl, rfl, c3, d3, rfl, he, ha⟩
    rw [rep_vec_int, vec16] at hm
    subst hm
    obtain ⟨A1, n1, rfl, h1⟩ := hf
    obtain ⟨A2, n2, rfl, h2⟩ := he
    obtain ⟨A3, n3, rfl, h3⟩ := ha
    exact ⟨_, _, _, rfl, ⟨A1, n1, rfl, h1⟩, ⟨A2, n2, rfl, h2⟩, ⟨A3, n3, rfl, h3⟩⟩
  · rintro ⟨u, e, a, rfl, hf, he, ha⟩
    exact ⟨_, _, rfl, rfl, _, _, rfl, rfl, [u], _, rfl, hf, _, _, rfl, rep_vec_int.2 (by rw [vec16]), _, _, rfl, rfl, [e], _, rfl, he, ha⟩
/-- An element of a slice of frames. -/
theorem rep_frames_at {xs : List Frm} {v : Value} (h : Lay.rep w B xs [v]) : ∃ (A : Option Addr) (c : Nat), v = .slice A xs.length c ∧ xs.length ≤ c ∧ c ≤ maxLen ∧
    ∀ (k : Nat) (hk : k < xs.length), ∃ (a : Addr), A = some a ∧ B a.block ∧ At w (a.add (k * 14)) (frmCells xs[k]) := by
  obtain ⟨A, c, e, h1, h2, h3⟩ := rep_list h
  injection e with e
  refine ⟨A, c, e, h1, h2, fun k hk => ?_⟩
  obtain ⟨a, ds, ha, hb, hat, hr⟩ := h3 k hk
  rw [rep_frm'] at hr
  subst hr
  exact ⟨a, ha, hb, hat⟩
theorem flat_at {α : Type} (enc : α → List Value) (sz : Nat) (henc : ∀ x, (enc x).length = sz) (xs : List α) (k : Nat) (x : α) (hx : xs[k]? = some x) (j : Nat) (v : Value) (hv : (enc x)[j]? = some v) : (xs.flatMap enc)[k * sz + j]? = some v := by
  induction xs generalizing k with
  | nil => simp at hx
  | cons y ys ih =>
    rw [List.flatMap_cons]
    cases k with
    | zero =>
      simp at hx; subst hx
      rw [Nat.zero_mul, Nat.zero_add, List.getElem?_append_left (List.getElem?_eq_some_iff.1 hv).1]; exact hv
    | succ k =>
      have := ih k (by simpa using hx)
      rw [List.getElem?_append_right (by rw [henc, Nat.succ_mul]; omega), henc, show (k + 1) * sz + j - sz = k * sz + j by rw [Nat.succ_mul]; omega]
      exact this
theorem flat_len {α : Type} (enc : α → List Value) (sz : Nat) (henc : ∀ x, (enc x).length = sz) (xs : List α) : (xs.flatMap enc).length = xs.length * sz := by
  induction xs with
  | nil => simp
  | cons y ys ih => rw [List.flatMap_cons, List.length_append, henc, ih, List.length_cons, Nat.succ_mul]; omega
/-- A row of flat elements reads as these. -/
theorem Hp.rowFlat {α : Type} [Lay α] (enc : α → List Value) (sz : Nat) (hsz : Lay.size α = sz) (hpos : 0 < sz) (henc : ∀ x, (enc x).length = sz) (hrep : ∀ (w : World) (S : Nat → Prop) (x : α), Lay.rep w S x (enc x))
    {w0 w : World} {Fs : List Fro} {L : List Res} {v : Value} {e : TypeId} {n : Nat} {cs : List Value} {xs : List α} (h : Hp w0 Fs L w) (hm : Res.row v e sz n cs ∈ L) (hx : cs = xs.flatMap enc) : Lay.rep w (Fresh w0 w) xs [v] := by
  subst hx
  have ho := h.row hm
  have hf := (h.own _ hm).2
  have hl : xs.length = n := by
    have := ho.1
    rw [flat_len enc sz henc] at this
    exact Nat.eq_of_mul_eq_mul_right hpos this
  rcases ho.2 with ⟨rfl, hn⟩ | ⟨g, cap, cur, rfl, hb, hg, hle, hmx, hs, ht⟩
  · subst hn
    have : xs = [] := by cases xs; rfl; simp at hl
    subst this
    exact ⟨none, 0, rfl, Nat.le_refl _, by unfold maxLen; omega, fun k x h => by simp at h⟩
  · subst hl
    refine ⟨_, _, rfl, hle, hmx, fun k x hx => ⟨_, enc x, rfl, ⟨(hf g rfl).1, (hf g rfl).2.1⟩, fun j u hu => ?_, hrep _ _ x⟩⟩
    have := ho.cells (g := g) rfl (k * sz + j) u (flat_at enc sz henc xs k x hx j u hu)
    rw [add_of_add, hsz]
    exact this
theorem Hp.rowFrames {w0 w : World} {Fs : List Fro} {L : List Res} {v : Value} {e : TypeId} {n : Nat} {cs : List Value} {xs : List Frm} (h : Hp w0 Fs L w) (hm : Res.row v e 14 n cs ∈ L) (hx : cs = xs.flatMap frmCells) : Lay.rep w (Fresh w0 w) xs [v] :=
  h.rowFlat frmCells 14 rfl (by decide) (fun _ => rfl) (fun _ _ _ => rep_frm'.2 rfl) hm hx
end
end Go.Proofs.YtceilfmfidmfpaaDoor
namespace Go.Proofs.YtceilfmfidmfpaaDoor
open Go.RowKit Plain64
def putF (f : Frm) (i n : Int) : Frm := ⟨f.fn, f.pc + 1, f.regs.setIfInBounds i.toNat n⟩
def goF (f : Frm) (pc : Int) : Frm := ⟨f.fn, pc, f.regs⟩
def callF (fn par a b : Int) : Frm := ⟨fn, 0, #v[if 0 < par then a else 0, if 1 < par then b else 0, 0, 0, 0, 0, 0, 0, 0, 0, 0, 0]⟩
/-- P4.3: of a state that runs, whose frames are fs and then f. -/
def nextOf (p : Prg) (s : Sta) (fs : List Frm) (f : Frm) : Sta :=
  if s.fuel = 0 then { s with status := 2 } else
  if pureB (insAt p f).op (f.rg (insAt p f).b.toNat) = true then { s with frames := fs ++ [putF f (insAt p f).dst (pureV (insAt p f).op (f.rg (insAt p f).a.toNat) (f.rg (insAt p f).b.toNat) (insAt p f).imm)], fuel := s.fuel - 1 } else
  if (insAt p f).op = 5 then { s with status := 3 } else
  if ((insAt p f).op = 13 ∨ (insAt p f).op = 14) ∧ (f.rg (insAt p f).a.toNat < 0 ∨ 15 < f.rg (insAt p f).a.toNat) then { s with status := 4 } else
  if (insAt p f).op = 13 then { s with frames := fs ++ [putF f (insAt p f).dst (s.mm (f.rg (insAt p f).a.toNat).toNat)], fuel := s.fuel - 1 } else
  if (insAt p f).op = 14 then { s with frames := fs ++ [goF f (f.pc + 1)], memory := s.memory.setIfInBounds (f.rg (insAt p f).a.toNat).toNat (f.rg (insAt p f).b.toNat), fuel := s.fuel - 1 } else
  if (insAt p f).op = 15 then { s with frames := fs ++ [goF f (insAt p f).imm], fuel := s.fuel - 1 } else
  if (insAt p f).op = 16 then { s with frames := fs ++ [goF f (if f.rg (insAt p f).a.toNat = 0 then f.pc + 1 else (insAt p f).imm)], fuel := s.fuel - 1 } else
  if (insAt p f).op = 17 then
    if fs.length = 7 then { s with status := 5, fuel := s.fuel - 1 }
    else { s with frames := fs ++ [f] ++ [callF (insAt p f).imm (parZ p (insAt p f).imm) (f.rg (insAt p f).a.toNat) (f.rg (insAt p f).b.toNat)], fuel := s.fuel - 1 } else
  if (insAt p f).op = 18 then { s with frames := fs ++ [putF f (insAt p f).dst (s.answers.headD 0)], events := s.events ++ [f.rg (insAt p f).a.toNat], answers := s.answers.tail, fuel := s.fuel - 1 } else
  match fs.getLast? with
  | none => { s with frames := [], status := 1, value := f.rg (insAt p f).a.toNat, fuel := s.fuel - 1 }
  | some g => { s with frames := fs.dropLast ++ [putF g (insAt p g).dst (f.rg (insAt p f).a.toNat)], fuel := s.fuel - 1 }
def nextS (p : Prg) (s : Sta) : Sta := match s.frames.getLast? with
  | none => s
  | some f => nextOf p s s.frames.dropLast f
theorem nextS_eq {p : Prg} {s : Sta} {fs : List Frm} {f : Frm} (h : s.frames = fs ++ [f]) : nextS p s = nextOf p s fs f := by
  unfold nextS; rw [h]; simp
theorem frames_last {s : Sta} (h : s.frames ≠ []) : ∃ fs f, s.frames = fs ++ [f] := ⟨s.frames.dropLast, s.frames.getLast h, (List.dropLast_concat_getLast h).symm⟩
theorem rg_put (f : Frm) (i : Nat) (n : Int) (k : Nat) : (Frm.rg ⟨f.fn, f.pc, f.regs.setIfInBounds i n⟩ k) = if i = k ∧ k < 12 then n else f.rg k := by
  unfold Frm.rg
  simp only [Vector.toList_setIfInBounds, List.getD_eq_getElem?_getD, List.getElem?_set]
  by_cases h : i = k
  · subst h
    by_cases h2 : i < 12
    · simp [h2]
    · simp [h2]
  · simp [h]
theorem frm_set (f : Frm) (i : Nat) (hi : i < 12) (n : Int) : (frmCells f).set (2 + i) (iV n) = frmCells ⟨f.fn, f.pc, f.regs.setIfInBounds i n⟩ := by
  unfold frmCells
  simp only [rg_put]
  have : i = 0 ∨ i = 1 ∨ i = 2 ∨ i = 3 ∨ i = 4 ∨ i = 5 ∨ i = 6 ∨ i = 7 ∨ i = 8 ∨ i = 9 ∨ i = 10 ∨ i = 11 := by omega
  rcases this with rfl | rfl | rfl | rfl | rfl | rfl | rfl | rfl | rfl | rfl | rfl | rfl <;> rfl
theorem frm_pc (f : Frm) (n : Int) : (frmCells f).set 1 (iV n) = frmCells ⟨f.fn, n, f.regs⟩ := rfl
theorem frm_reg (f : Frm) (i : Nat) (hi : i < 12) : (frmCells f)[2 + i]? = some (iV (f.rg i)) := by
  have : i = 0 ∨ i = 1 ∨ i = 2 ∨ i = 3 ∨ i = 4 ∨ i = 5 ∨ i = 6 ∨ i = 7 ∨ i = 8 ∨ i = 9 ∨ i = 10 ∨ i = 11 := by omega
  rcases this with rfl | rfl | rfl | rfl | rfl | rfl | rfl | rfl | rfl | rfl | rfl | rfl <;> rfl
theorem frms_len (fs : List Frm) : (fs.flatMap frmCells).length = fs.length * 14 := flat_len frmCells 14 (fun _ => rfl) fs
theorem frms_at (fs : List Frm) (cs : List Value) (j : Nat) : (fs.flatMap frmCells ++ cs)[fs.length * 14 + j]? = cs[j]? := by
  rw [List.getElem?_append_right (by rw [frms_len]; omega), frms_len]; congr 1; omega
theorem frms_set (fs : List Frm) (cs : List Value) (j : Nat) (v : Value) : (fs.flatMap frmCells ++ cs).set (fs.length * 14 + j) v = fs.flatMap frmCells ++ cs.set j v := by
  rw [List.set_append_right _ _ (by rw [frms_len]; omega), frms_len]; congr 2; omega
theorem frms_snoc (fs : List Frm) (f : Frm) : (fs ++ [f]).flatMap frmCells = fs.flatMap frmCells ++ frmCells f := by simp
theorem mm_set (s : Sta) (i : Nat) (n : Int) (k : Nat) : Sta.mm { s with memory := s.memory.setIfInBounds i n } k = if i = k ∧ k < 16 then n else s.mm k := by
  unfold Sta.mm
  simp only [Vector.toList_setIfInBounds, List.getD_eq_getElem?_getD, List.getElem?_set]
  by_cases h : i = k
  · subst h
    by_cases h2 : i < 16
    · simp [h2]
    · simp [h2]
  · simp [h]
theorem sta_mem (s : Sta) (u e a : Value) (i : Nat) (hi : i < 16) : (staCells s u e a)[3 + i]? = some (iV (s.mm i)) := by
  have : i = 0 ∨ i = 1 ∨ i = 2 ∨ i = 3 ∨ i = 4 ∨ i = 5 ∨ i = 6 ∨ i = 7 ∨ i = 8 ∨ i = 9 ∨ i = 10 ∨ i = 11 ∨ i = 12 ∨ i = 13 ∨ i = 14 ∨ i = 15 := by omega
  rcases this with rfl | rfl | rfl | rfl | rfl | rfl | rfl | rfl | rfl | rfl | rfl | rfl | rfl | rfl | rfl | rfl <;> rfl
theorem sta_store (s : Sta) (u e a : Value) (i : Nat) (hi : i < 16) (n : Int) : (staCells s u e a).set (3 + i) (iV n) = staCells { s with memory := s.memory.setIfInBounds i n } u e a := by
  unfold staCells
  simp only [mm_set]
  have : i = 0 ∨ i = 1 ∨ i = 2 ∨ i = 3 ∨ i = 4 ∨ i = 5 ∨ i = 6 ∨ i = 7 ∨ i = 8 ∨ i = 9 ∨ i = 10 ∨ i = 11 ∨ i = 12 ∨ i = 13 ∨ i = 14 ∨ i = 15 := by omega
  rcases this with rfl | rfl | rfl | rfl | rfl | rfl | rfl | rfl | rfl | rfl | rfl | rfl | rfl | rfl | rfl | rfl <;> rfl
end Go.Proofs.YtceilfmfidmfpaaDoor
namespace Go.Proofs.YtceilfmfidmfpaaDoor
open Go.RowKit
/-- The first frame. -/
def begF (xs : List Int) : Frm := ⟨0, 0, #v[xs.getD 0 0, xs.getD 1 0, 0, 0, 0, 0, 0, 0, 0, 0, 0, 0]⟩
def begS (xs ys : List Int) (fuel : Int) : Sta := ⟨0, 0, [begF xs], #v[0, 0, 0, 0, 0, 0, 0, 0, 0, 0, 0, 0, 0, 0, 0, 0], fuel, [], ys⟩
def zeroS : Sta := ⟨0, 0, [], #v[0, 0, 0, 0, 0, 0, 0, 0, 0, 0, 0, 0, 0, 0, 0, 0], 0, [], []⟩
theorem beg_cells (xs : List Int) (h : xs.length ≤ 2) : List.take 2 [iV 0, iV 0, iV 0, iV 0, iV 0, iV 0, iV 0, iV 0, iV 0, iV 0, iV 0, iV 0, iV 0, iV 0] ++ (List.map (Value.int .i64) xs ++ List.drop (2 + (List.map (Value.int .i64) xs).length) [iV 0, iV 0, iV 0, iV 0, iV 0, iV 0, iV 0, iV 0, iV 0, iV 0, iV 0, iV 0, iV 0, iV 0]) = frmCells (begF xs) := by
  match xs, h with
  | [], _ => rfl
  | [x0], _ => rfl
  | [x0, x1], _ => rfl
/-- P4.1, at every argument. -/
noncomputable def begunAns (p : Prg) (xs ys : List Int) (fuel : Int) : Sta × Int :=
  if proven p ≠ 0 then (zeroS, proven p) else
  if (xs.length : Int) ≠ ((p.funcs[0]?).map Fun.params).getD 0 ∨ 100 < ys.length then (zeroS, 1) else
  if fuel < 0 ∨ 10000 < fuel then (zeroS, 2) else (begS xs ys fuel, 0)
end Go.Proofs.YtceilfmfidmfpaaDoor
namespace Go.Proofs.YtceilfmfidmfpaaDoor
open Go.RowKit Plain64
theorem sf_zero {p : Prg} {s : Sta} (h : stateFault p s = 0) : proven p = 0 ∧ HeadOk s ∧ FramesOk p s.frames := by
  unfold stateFault at h
  by_cases h1 : proven p = 0
  · rw [if_neg (by simpa using h1)] at h
    by_cases h2 : HeadOk s ∧ FramesOk p s.frames
    · exact ⟨h1, h2.1, h2.2⟩
    · rw [if_neg h2] at h; cases h
  · rw [if_pos h1] at h; exact absurd h h1
noncomputable def nextAns (p : Prg) (s : Sta) : Sta × Int := if stateFault p s ≠ 0 then (zeroS, stateFault p s) else if s.status ≠ 0 then (s, 0) else (nextS p s, 0)
theorem frames_run {s : Sta} (h : HeadOk s) (hs : s.status = 0) : ∃ fs f, s.frames = fs ++ [f] := frames_last (fun e => by
  have := h.done.1 (by rw [e]; rfl)
  omega)
/-- What nextOf may be. -/
theorem nextOf_ind {p : Prg} {s : Sta} {fs : List Frm} {f : Frm} {P : Sta → Prop}
    (h0 : s.fuel = 0 → P { s with status := 2 })
    (h1 : s.fuel ≠ 0 → pureB (insAt p f).op (f.rg (insAt p f).b.toNat) = true → P { s with frames := fs ++ [putF f (insAt p f).dst (pureV (insAt p f).op (f.rg (insAt p f).a.toNat) (f.rg (insAt p f).b.toNat) (insAt p f).imm)], fuel := s.fuel - 1 })
    (h2 : s.fuel ≠ 0 → pureB (insAt p f).op (f.rg (insAt p f).b.toNat) ≠ true → (insAt p f).op = 5 → P { s with status := 3 })
    (h3 : s.fuel ≠ 0 → pureB (insAt p f).op (f.rg (insAt p f).b.toNat) ≠ true → (insAt p f).op ≠ 5 → ((insAt p f).op = 13 ∨ (insAt p f).op = 14) → P { s with status := 4 })
    (h4 : s.fuel ≠ 0 → (insAt p f).op = 13 → P { s with frames := fs ++ [putF f (insAt p f).dst (s.mm (f.rg (insAt p f).a.toNat).toNat)], fuel := s.fuel - 1 })
    (h5 : s.fuel ≠ 0 → (insAt p f).op = 14 → P { s with frames := fs ++ [goF f (f.pc + 1)], memory := s.memory.setIfInBounds (f.rg (insAt p f).a.toNat).toNat (f.rg (insAt p f).b.toNat), fuel := s.fuel - 1 })
    (h6 : s.fuel ≠ 0 → (insAt p f).op = 15 → P { s with frames := fs ++ [goF f (insAt p f).imm], fuel := s.fuel - 1 })
    (h7 : s.fuel ≠ 0 → (insAt p f).op = 16 → P { s with frames := fs ++ [goF f (if f.rg (insAt p f).a.toNat = 0 then f.pc + 1 else (insAt p f).imm)], fuel := s.fuel - 1 })
    (h8 : s.fuel ≠ 0 → (insAt p f).op = 17 → fs.length = 7 → P { s with status := 5, fuel := s.fuel - 1 })
    (h9 : s.fuel ≠ 0 → (insAt p f).op = 17 → fs.length ≠ 7 → P { s with frames := fs ++ [f] ++ [callF (insAt p f).imm (parZ p (insAt p f).imm) (f.rg (insAt p f).a.toNat) (f.rg (insAt p f).b.toNat)], fuel := s.fuel - 1 })
    (h10 : s.fuel ≠ 0 → (insAt p f).op = 18 → P { s with frames := fs ++ [putF f (insAt p f).dst (s.answers.headD 0)], events := s.events ++ [f.rg (insAt p f).a.toNat], answers := s.answers.tail, fuel := s.fuel - 1 })
    (h11 : s.fuel ≠ 0 → pureB (insAt p f).op (f.rg (insAt p f).b.toNat) ≠ true → (insAt p f).op ≠ 5 ∧ (insAt p f).op ≠ 13 ∧ (insAt p f).op ≠ 14 ∧ (insAt p f).op ≠ 15 ∧ (insAt p f).op ≠ 16 ∧ (insAt p f).op ≠ 17 ∧ (insAt p f).op ≠ 18 → fs.getLast? = none → P { s with frames := [], status := 1, value := f.rg (insAt p f).a.toNat, fuel := s.fuel - 1 })
    (h12 : s.fuel ≠ 0 → pureB (insAt p f).op (f.rg (insAt p f).b.toNat) ≠ true → (insAt p f).op ≠ 5 ∧ (insAt p f).op ≠ 13 ∧ (insAt p f).op ≠ 14 ∧ (insAt p f).op ≠ 15 ∧ (insAt p f).op ≠ 16 ∧ (insAt p f).op ≠ 17 ∧ (insAt p f).op ≠ 18 → ∀ g, fs.getLast? = some g → P { s with frames := fs.dropLast ++ [putF g (insAt p g).dst (f.rg (insAt p f).a.toNat)], fuel := s.fuel - 1 }) :
    P (nextOf p s fs f) := by
  unfold nextOf
  by_cases e0 : s.fuel = 0
  · rw [if_pos e0]; exact h0 e0
  rw [if_neg e0]
  by_cases e1 : pureB (insAt p f).op (f.rg (insAt p f).b.toNat) = true
  · rw [if_pos e1]; exact h1 e0 e1
  rw [if_neg e1]
  by_cases e2 : (insAt p f).op = 5
  · rw [if_pos e2]; exact h2 e0 e1 e2
  rw [if_neg e2]
  by_cases e3 : ((insAt p f).op = 13 ∨ (insAt p f).op = 14) ∧ (f.rg (insAt p f).a.toNat < 0 ∨ 15 < f.rg (insAt p f).a.toNat)
  · rw [if_pos e3]; exact h3 e0 e1 e2 e3.1
  rw [if_neg e3]
  by_cases e4 : (insAt p f).op = 13
  · rw [if_pos e4]; exact h4 e0 e4
  rw [if_neg e4]
  by_cases e5 : (insAt p f).op = 14
  · rw [if_pos e5]; exact h5 e0 e5
  rw [if_neg e5]
  by_cases e6 : (insAt p f).op = 15
  · rw [if_pos e6]; exact h6 e0 e6
  rw [if_neg e6]
  by_cases e7 : (insAt p f).op = 16
  · rw [if_pos e7]; exact h7 e0 e7
  rw [if_neg e7]
  by_cases e8 : (insAt p f).op = 17
  · rw [if_pos e8]
    by_cases e9 : fs.length = 7
    · rw [if_pos e9]; exact h8 e0 e8 e9
    · rw [if_neg e9]; exact h9 e0 e8 e9
  rw [if_neg e8]
  by_cases e10 : (insAt p f).op = 18
  · rw [if_pos e10]; exact h10 e0 e10
  rw [if_neg e10]
  cases hl : fs.getLast? with
  | none => exact h11 e0 e1 ⟨e2, e4, e5, e6, e7, e8, e10⟩ hl
  | some g => exact h12 e0 e1 ⟨e2, e4, e5, e6, e7, e8, e10⟩ g hl
end Go.Proofs.YtceilfmfidmfpaaDoor
namespace Go.Proofs.YtceilfmfidmfpaaDoor
open Go.RowKit Plain64
/-- A frame stands where a way leads. -/
def Rch (p : Prg) (g : Frm) : Prop := ∃ (k j : Nat) (fn : Fun), g.fn = k ∧ p.funcs[k]? = some fn ∧ g.pc = j ∧ j < fn.code.length ∧ Way fn (-1) j
structure RunOk (p : Prg) (s : Sta) : Prop where
  rch : ∀ f ∈ s.frames, Rch p f
  top : s.status = 0 → s.frames ≠ []
  link : ∀ fs f, s.frames = fs ++ [f] → ∀ g ∈ fs, (insAt p g).op = 17
  len : s.frames.length ≤ 8
  fuel : 0 ≤ s.fuel ∧ s.fuel ≤ 10000
  ans : s.answers.length ≤ 100
  ev : (s.events.length : Int) + s.fuel ≤ 10000
  regs : ∀ f ∈ s.frames, ∀ i, I64 (f.rg i)
  mem : ∀ i, I64 (s.mm i)
  answers : ∀ a ∈ s.answers, I64 a
theorem i64_zero : I64 0 := ⟨by decide, by decide⟩
theorem i64_wrap (n : Int) : I64 (wrap64 n) := by unfold I64 wrap64; omega
theorem i64_div (a : Int) (h : I64 a) (k : Nat) : I64 (a / 2 ^ k) := by
  unfold I64 at *
  have h1 : (0 : Int) < 2 ^ k := Int.pow_pos (by decide)
  constructor
  · rcases Int.le_total 0 a with h0 | h0
    · have := Int.ediv_nonneg h0 (Int.le_of_lt h1); omega
    · have : a ≤ a / 2 ^ k := by
        rw [Int.le_ediv_iff_mul_le h1]
        have : a * 2 ^ k ≤ a * 1 := Int.mul_le_mul_of_nonpos_left h0 (show (1 : Int) ≤ 2 ^ k by omega)
        omega
      omega
  · have : a / 2 ^ k ≤ 9223372036854775807 := by
      apply Int.le_of_lt_add_one
      rw [Int.ediv_lt_iff_lt_mul h1]
      have : (9223372036854775807 + 1) * 1 ≤ (9223372036854775807 + 1) * (2 : Int) ^ k := Int.mul_le_mul_of_nonneg_left (by omega) (by decide)
      omega
    exact this
theorem i64_toInt (x : BitVec 64) : I64 x.toInt := by rw [← wrap64_toNat]; exact i64_wrap _
theorem i64_ite {c : Prop} [Decidable c] {a b : Int} (ha : I64 a) (hb : I64 b) : I64 (if c then a else b) := by by_cases h : c <;> simp [h, ha, hb]
theorem i64_one : I64 1 := ⟨by decide, by decide⟩
theorem i64_pure {op a b imm : Int} (ha : I64 a) (hi : I64 imm) : I64 (pureV op a b imm) := by
  unfold pureV
  exact i64_ite hi (i64_ite (i64_wrap _) (i64_ite (i64_wrap _) (i64_ite (i64_wrap _) (i64_ite (i64_ite i64_zero (i64_wrap _)) (i64_ite (by rw [bits_and]; exact i64_toInt _) (i64_ite (by rw [bits_or]; exact i64_toInt _) (i64_ite (by rw [bits_xor]; exact i64_toInt _) (i64_ite (i64_wrap _) (i64_ite (i64_div _ ha _) (i64_ite (i64_ite i64_one i64_zero) (i64_ite (i64_ite i64_one i64_zero) i64_zero)))))))))))
theorem rg_range {f : Frm} (h : ∀ i, I64 (f.rg i)) (i : Nat) {n : Int} (hn : I64 n) : ∀ k, I64 (Frm.rg ⟨f.fn, f.pc, f.regs.setIfInBounds i n⟩ k) := fun k => by rw [rg_put]; exact i64_ite hn (h k)
theorem rg_pc {f : Frm} {fn pc fn' pc' : Int} {v : Vector Int 12} (k : Nat) : Frm.rg ⟨fn, pc, v⟩ k = Frm.rg ⟨fn', pc', v⟩ k := rfl
/-- Where a frame's instruction is: what a way on needs. -/
theorem rch_ins {p : Prg} {g : Frm} (h : Rch p g) : ∃ (k j : Nat) (fn : Fun) (x : Ins), g.fn = k ∧ p.funcs[k]? = some fn ∧ g.pc = j ∧ fn.code[j]? = some x ∧ insAt p g = x ∧ Way fn (-1) j := by
  obtain ⟨k, j, fn, h1, h2, h3, h4, h5⟩ := h
  exact ⟨k, j, fn, fn.code[j], h1, h2, h3, List.getElem?_eq_getElem h4, insAt_eq h1 h3 h2 (List.getElem?_eq_getElem h4), h5⟩
theorem ends_no {p : Prg} (hp : proven p = 0) {k : Nat} {fn : Fun} (hk : p.funcs[k]? = some fn) : ¬ Way fn (-1) fn.code.length := by
  have h0 : provenF p fn = 0 := by
    unfold proven at hp
    rw [if_neg (by rw [proven_prg (by unfold proven; exact hp)]; simp)] at hp
    exact firstZ_eq_zero.1 hp _ (List.mem_map.2 ⟨fn, List.mem_of_getElem? hk, rfl⟩)
  intro hw
  unfold provenF at h0
  by_cases h1 : ((List.range fn.code.length).any (unsetAt p fn)) = true
  · rw [if_pos h1] at h0; cases h0
  · rw [if_neg h1] at h0
    by_cases h2 : endsAt fn = true
    · rw [if_pos h2] at h0; cases h0
    · apply h2
      have hl : (wayL fn (-1))[fn.code.length]? = some true := (wayL_at fn (-1) _ (Nat.le_refl _)).2 hw
      unfold endsAt
      rw [List.getD_eq_getElem?_getD, sureL, List.getElem?_map, List.getElem?_range (by omega)]
      simp only [Option.map_some, Option.getD_some, decide_eq_true_eq]
      unfold sureUpto
      rw [List.getD_eq_getElem?_getD, hl]
      exact (mskZ_range _ _).1
/-- A step on. -/
theorem rch_step {p : Prg} (hp : proven p = 0) {g : Frm} (h : Rch p g) {n : Int} {v : Vector Int 12} (hn : n ∈ nextZ (insAt p g) g.pc.toNat) : Rch p ⟨g.fn, n, v⟩ := by
  obtain ⟨k, j, fn, x, h1, h2, h3, h4, h5, h6⟩ := rch_ins h
  have ok := (okP_of (proven_prg hp)).fns fn (List.mem_of_getElem? h2)
  obtain ⟨hj, hx⟩ := List.getElem?_eq_some_iff.1 h4
  have oki := ok.ins x (List.mem_of_getElem? h4)
  rw [h5, h3, Int.toNat_natCast] at hn
  have hin := nextZ_in oki hj n hn
  have hw : Way fn (-1) n.toNat := .step h6 h4 (by simp [Kill]) hn
  have hne : n.toNat ≠ fn.code.length := fun e => ends_no hp h2 (e ▸ hw)
  exact ⟨k, n.toNat, fn, h1, h2, by show n = _; omega, by omega, hw⟩
theorem rch_own {p : Prg} {g : Frm} (h : Rch p g) : ownF p g := by
  obtain ⟨k, j, fn, h1, h2, h3, h4, h5⟩ := h
  have hk := (List.getElem?_eq_some_iff.1 h2).1
  refine ⟨by omega, by omega, by omega, ?_⟩
  rw [h1, codeOf_eq h2, h3]; omega
theorem rch_imm {p : Prg} (hi : ∀ f ∈ p.funcs, ∀ x ∈ f.code, I64 x.imm) {g : Frm} (h : Rch p g) : I64 (insAt p g).imm := by
  obtain ⟨k, j, fn, x, h1, h2, h3, h4, h5, h6⟩ := rch_ins h
  rw [h5]; exact hi fn (List.mem_of_getElem? h2) x (List.mem_of_getElem? h4)
theorem rch_oki {p : Prg} (hp : proven p = 0) {g : Frm} (h : Rch p g) : ∃ len, OkI (insAt p g) len p.funcs.length := by
  obtain ⟨k, j, fn, x, h1, h2, h3, h4, h5, h6⟩ := rch_ins h
  rw [h5]; exact ⟨_, ((okP_of (proven_prg hp)).fns fn (List.mem_of_getElem? h2)).ins x (List.mem_of_getElem? h4)⟩
/-- What a function begins with. -/
theorem rch_start {p : Prg} (hp : proven p = 0) {k : Nat} (hk : k < p.funcs.length) {v : Vector Int 12} : Rch p ⟨k, 0, v⟩ := by
  have ok := (okP_of (proven_prg hp)).fns p.funcs[k] (List.getElem_mem hk)
  exact ⟨k, 0, p.funcs[k], rfl, List.getElem?_eq_getElem hk, rfl, by have := ok.len; omega, .start (by omega)⟩
end Go.Proofs.YtceilfmfidmfpaaDoor
namespace Go.Proofs.YtceilfmfidmfpaaDoor
open Go.RowKit Plain64
theorem nextZ_on {x : Ins} {pc : Nat} (h1 : x.op ≠ 19) (h2 : x.op ≠ 15) : (pc : Int) + 1 ∈ nextZ x pc := by
  unfold nextZ
  rw [if_neg h1, if_neg h2]
  split <;> simp
theorem rch_on {p : Prg} (hp : proven p = 0) {g : Frm} (h : Rch p g) (h1 : (insAt p g).op ≠ 19) (h2 : (insAt p g).op ≠ 15) {v : Vector Int 12} : Rch p ⟨g.fn, g.pc + 1, v⟩ := by
  have h0 := (rch_own h).2.2.1
  have := rch_step hp h (n := g.pc + 1) (v := v) (by have := nextZ_on (pc := g.pc.toNat) h1 h2; rwa [Int.toNat_of_nonneg h0] at this)
  exact this
theorem snoc_inj {α : Type} {fs gs : List α} {f g : α} (h : fs ++ [f] = gs ++ [g]) : gs = fs ∧ g = f := by
  have := List.append_inj' h rfl
  exact ⟨this.1.symm, by have := this.2; simp at this; exact this.symm⟩
theorem RunOk.upd {p : Prg} {s s' : Sta} {fs : List Frm} {f f' : Frm} (h : RunOk p s) (hfr : s.frames = fs ++ [f]) (hr : Rch p f') (hg : ∀ i, I64 (f'.rg i)) (hf' : s'.frames = fs ++ [f']) (h0 : s.fuel ≠ 0) (hfu : s'.fuel = s.fuel - 1)
    (hev : s'.events.length ≤ s.events.length + 1) (han : s'.answers.length ≤ s.answers.length) (hm : ∀ i, I64 (s'.mm i)) (ha : ∀ a ∈ s'.answers, I64 a) : RunOk p s' := by
  have h1 := h.len
  have h2 := h.fuel
  have h3 := h.ans
  have h4 := h.ev
  rw [hfr, List.length_append] at h1
  refine ⟨fun g hg' => ?_, fun _ e => ?_, fun gs g e x hx => ?_, ?_, by omega, by omega, by omega, fun g hg' => ?_, hm, ha⟩
  · rw [hf'] at hg'
    rcases List.mem_append.1 hg' with h5 | h5
    · exact h.rch g (by rw [hfr]; simp [h5])
    · rw [List.mem_singleton.1 h5]; exact hr
  · rw [hf'] at e; simp at e
  · rw [hf'] at e
    obtain ⟨rfl, -⟩ := snoc_inj e
    exact h.link gs f hfr x hx
  · rw [hf', List.length_append]; exact h1
  · rw [hf'] at hg'
    rcases List.mem_append.1 hg' with h5 | h5
    · exact h.regs g (by rw [hfr]; simp [h5])
    · rw [List.mem_singleton.1 h5]; exact hg
theorem RunOk.halt {p : Prg} {s s' : Sta} (h : RunOk p s) (hs : s'.status ≠ 0) (hf : s'.frames = s.frames) (hfu : s'.fuel = s.fuel ∨ s.fuel ≠ 0 ∧ s'.fuel = s.fuel - 1) (hev : s'.events = s.events) (han : s'.answers = s.answers) (hm : s'.memory = s.memory) : RunOk p s' := by
  have h2 := h.fuel
  have h4 := h.ev
  refine ⟨by rw [hf]; exact h.rch, fun e => absurd e hs, by rw [hf]; exact h.link, by rw [hf]; exact h.len, by omega, by rw [han]; exact h.ans, by rw [hev]; omega, by rw [hf]; exact h.regs, fun i => ?_, by rw [han]; exact h.answers⟩
  have := h.mem i
  unfold Sta.mm at this ⊢
  rw [hm]; exact this
theorem call_rg (fn par a b : Int) (i : Nat) : (callF fn par a b).rg i = if i = 0 then (if 0 < par then a else 0) else if i = 1 then (if 1 < par then b else 0) else 0 := by
  match i with
  | 0 | 1 | 2 | 3 | 4 | 5 | 6 | 7 | 8 | 9 | 10 | 11 => rfl
  | n + 12 => rw [if_neg (by omega), if_neg (by omega)]; rfl
theorem RunOk.nextOf {p : Prg} (hp : proven p = 0) (hi : ∀ f ∈ p.funcs, ∀ x ∈ f.code, I64 x.imm) {s : Sta} {fs : List Frm} {f : Frm} (h : RunOk p s) (hfr : s.frames = fs ++ [f]) : RunOk p (nextOf p s fs f) := by
  have hf : Rch p f := h.rch f (by rw [hfr]; simp)
  have hr : ∀ i, I64 (f.rg i) := h.regs f (by rw [hfr]; simp)
  have him := rch_imm hi hf
  obtain ⟨len, oki⟩ := rch_oki hp hf
  have h1 := h.len
  have h2 := h.fuel
  have h3 := h.ans
  have h4 := h.ev
  rw [hfr, List.length_append] at h1
  have hsame : ∀ {s' : Sta}, s'.memory = s.memory → ∀ i, I64 (s'.mm i) := fun e i => by
    have := h.mem i
    unfold Sta.mm at this ⊢
    rw [e]; exact this
  have hput : ∀ (i : Nat) {n : Int}, I64 n → ∀ k, I64 (Frm.rg ⟨f.fn, f.pc + 1, f.regs.setIfInBounds i n⟩ k) := fun i n hn k => rg_range hr i hn k
  apply nextOf_ind (P := RunOk p)
  · intro h0
    exact h.halt (show (2 : Int) ≠ 0 by decide) rfl (.inl rfl) rfl rfl rfl
  · intro h0 hpb
    have hop : (insAt p f).op ≤ 12 := by
      unfold pureB at hpb
      simp only [Bool.and_eq_true, decide_eq_true_eq] at hpb
      exact hpb.1.2
    exact h.upd hfr (rch_on hp hf (by omega) (by omega)) (hput _ (i64_pure (hr _) him)) rfl h0 rfl (by simp) (by simp) (hsame rfl) h.answers
  · intro h0 _ _
    exact h.halt (show (3 : Int) ≠ 0 by decide) rfl (.inl rfl) rfl rfl rfl
  · intro h0 _ _ _
    exact h.halt (show (4 : Int) ≠ 0 by decide) rfl (.inl rfl) rfl rfl rfl
  · intro h0 hop
    exact h.upd hfr (rch_on hp hf (by omega) (by omega)) (hput _ (h.mem _)) rfl h0 rfl (by simp) (by simp) (hsame rfl) h.answers
  · intro h0 hop
    exact h.upd hfr (rch_on hp hf (by omega) (by omega)) (fun k => hr k) rfl h0 rfl (by simp) (by simp) (fun i => (show I64 (Sta.mm { s with memory := s.memory.setIfInBounds (f.rg (insAt p f).a.toNat).toNat (f.rg (insAt p f).b.toNat) } i) by rw [mm_set]; exact i64_ite (hr _) (h.mem i))) h.answers
  · intro h0 hop
    refine h.upd (f' := goF f (insAt p f).imm) hfr (rch_step hp hf ?_) (fun k => hr k) rfl h0 rfl (by simp) (by simp) (hsame rfl) h.answers
    unfold nextZ
    rw [if_neg (by omega), if_pos hop]; simp
  · intro h0 hop
    refine h.upd (f' := goF f (if f.rg (insAt p f).a.toNat = 0 then f.pc + 1 else (insAt p f).imm)) hfr ?_ (fun k => hr k) rfl h0 rfl (by simp) (by simp) (hsame rfl) h.answers
    split
    · exact rch_on hp hf (by omega) (by omega)
    · refine rch_step hp hf ?_
      unfold nextZ
      rw [if_neg (by omega), if_neg (by omega), if_pos hop]; simp
  · intro h0 hop _
    exact h.halt (show (5 : Int) ≠ 0 by decide) rfl (.inr ⟨h0, rfl⟩) rfl rfl rfl
  · intro h0 hop h7
    have hc := oki.cal hop
    obtain ⟨k, hk⟩ : ∃ k : Nat, (insAt p f).imm = k := ⟨(insAt p f).imm.toNat, by omega⟩
    have hkl : k < p.funcs.length := by omega
    have hlen : fs.length + 1 ≤ 8 := h1
    refine ⟨fun g hg => ?_, fun _ e => ?_, fun gs g e x hx => ?_, ?_, ?_, h3, ?_, fun g hg => ?_, hsame rfl, h.answers⟩
    · rcases List.mem_append.1 hg with h5 | h5
      · exact h.rch g (by rw [hfr]; exact h5)
      · rw [List.mem_singleton.1 h5, hk]; exact rch_start hp hkl
    · simp at e
    · obtain ⟨rfl, -⟩ := snoc_inj e
      rcases List.mem_append.1 hx with h5 | h5
      · exact h.link fs f hfr x h5
      · rw [List.mem_singleton.1 h5]; exact hop
    · show (fs ++ [f] ++ [_]).length ≤ 8
      simp only [List.length_append, List.length_cons, List.length_nil]; omega
    · show 0 ≤ s.fuel - 1 ∧ s.fuel - 1 ≤ 10000; omega
    · show (s.events.length : Int) + (s.fuel - 1) ≤ 10000; omega
    · rcases List.mem_append.1 hg with h5 | h5
      · exact h.regs g (by rw [hfr]; exact h5)
      · rw [List.mem_singleton.1 h5]
        intro i
        rw [call_rg]
        exact i64_ite (i64_ite (hr _) i64_zero) (i64_ite (i64_ite (hr _) i64_zero) i64_zero)
  · intro h0 hop
    refine h.upd hfr (rch_on hp hf (by omega) (by omega)) (hput _ ?_) rfl h0 rfl (by simp) (by simp) (hsame rfl) (fun a ha => h.answers a (List.mem_of_mem_tail ha))
    cases hs : s.answers with
    | nil => exact i64_zero
    | cons y ys => exact h.answers y (by rw [hs]; simp)
  · intro h0 _ _ _
    refine ⟨fun g hg => (by cases hg), fun e => (by cases e), fun gs g e => (by simp at e), by simp, ?_, h3, ?_, fun g hg => (by cases hg), hsame rfl, h.answers⟩
    · show 0 ≤ s.fuel - 1 ∧ s.fuel - 1 ≤ 10000; omega
    · show (s.events.length : Int) + (s.fuel - 1) ≤ 10000; omega
  · intro h0 _ _ g hg
    have hfs : fs = fs.dropLast ++ [g] := by
      rcases List.eq_nil_or_concat fs with rfl | ⟨l, y, rfl⟩
      · simp at hg
      · simp at hg; subst hg; simp
    have hgr : Rch p g := h.rch g (by rw [hfr, hfs]; simp)
    have hgg : ∀ i, I64 (g.rg i) := h.regs g (by rw [hfr, hfs]; simp)
    have hgo := h.link fs f hfr g (by rw [hfs]; simp)
    have hll : fs.dropLast.length + 1 = fs.length := by
      have := congrArg List.length hfs
      rw [List.length_append] at this; exact this.symm
    refine ⟨fun x hx => ?_, fun _ e => ?_, fun gs y e x hx => ?_, ?_, ?_, h3, ?_, fun x hx => ?_, hsame rfl, h.answers⟩
    · rcases List.mem_append.1 hx with h5 | h5
      · exact h.rch x (by rw [hfr]; exact List.mem_append_left _ ((List.dropLast_sublist fs).subset h5))
      · rw [List.mem_singleton.1 h5]; exact rch_on hp hgr (by omega) (by omega)
    · simp at e
    · obtain ⟨rfl, -⟩ := snoc_inj e
      exact h.link fs f hfr x ((List.dropLast_sublist fs).subset hx)
    · show (fs.dropLast ++ [_]).length ≤ 8
      rw [List.length_append]; simp only [List.length_cons, List.length_nil] at h1 ⊢; omega
    · show 0 ≤ s.fuel - 1 ∧ s.fuel - 1 ≤ 10000; omega
    · show (s.events.length : Int) + (s.fuel - 1) ≤ 10000; omega
    · rcases List.mem_append.1 hx with h5 | h5
      · exact h.regs x (by rw [hfr]; exact List.mem_append_left _ ((List.dropLast_sublist fs).subset h5))
      · rw [List.mem_singleton.1 h5]
        exact fun k => rg_range hgg _ (hr _) k
theorem next_fuel {p : Prg} {s : Sta} {fs : List Frm} {f : Frm} (hs : (nextOf p s fs f).status = 0) : s.fuel ≠ 0 ∧ (nextOf p s fs f).fuel = s.fuel - 1 := by
  revert hs
  apply nextOf_ind (P := fun t => t.status = 0 → s.fuel ≠ 0 ∧ t.fuel = s.fuel - 1)
  · intro _ h; cases h
  · intro h0 _ _; exact ⟨h0, rfl⟩
  · intro _ _ _ h; cases h
  · intro _ _ _ _ h; cases h
  · intro h0 _ _; exact ⟨h0, rfl⟩
  · intro h0 _ _; exact ⟨h0, rfl⟩
  · intro h0 _ _; exact ⟨h0, rfl⟩
  · intro h0 _ _; exact ⟨h0, rfl⟩
  · intro _ _ _ h; cases h
  · intro h0 _ _ _; exact ⟨h0, rfl⟩
  · intro h0 _ _; exact ⟨h0, rfl⟩
  · intro _ _ _ _ h; cases h
  · intro h0 _ _ _ _ _; exact ⟨h0, rfl⟩
/-- So many steps at most. -/
noncomputable def runTo (p : Prg) : Nat → Sta → Sta
  | 0, s => s
  | n + 1, s => if s.status = 0 then runTo p n (nextS p s) else s
/-- A run's end. -/
noncomputable def endS (p : Prg) (s : Sta) : Sta := runTo p (s.fuel.toNat + 1) s
theorem runTo_done (p : Prg) {s : Sta} (h : s.status ≠ 0) : ∀ n, runTo p n s = s
  | 0 => rfl
  | n + 1 => by rw [runTo, if_neg h]
theorem endS_done (p : Prg) {s : Sta} (h : s.status ≠ 0) : endS p s = s := runTo_done p h _
theorem endS_next {p : Prg} {s : Sta} {fs : List Frm} {f : Frm} (hfr : s.frames = fs ++ [f]) (hs : s.status = 0) (hf : 0 ≤ s.fuel) : endS p s = endS p (nextOf p s fs f) := by
  unfold endS
  rw [runTo, if_pos hs, nextS_eq hfr]
  by_cases h : (nextOf p s fs f).status = 0
  · obtain ⟨h1, h2⟩ := next_fuel h
    rw [h2]; congr 1; omega
  · rw [runTo_done p h, runTo_done p h]
end Go.Proofs.YtceilfmfidmfpaaDoor
namespace Go.Proofs.YtceilfmfidmfpaaDoor
open Go.RowKit Plain64
theorem begun_ok {p : Prg} {xs ys : List Int} {fuel : Int} (h : (begunAns p xs ys fuel).2 = 0) : (begunAns p xs ys fuel).1 = begS xs ys fuel ∧ proven p = 0 ∧ ys.length ≤ 100 ∧ 0 ≤ fuel ∧ fuel ≤ 10000 := by
  unfold begunAns at h ⊢
  by_cases h1 : proven p = 0
  · rw [if_neg (by simpa using h1)] at h ⊢
    by_cases h2 : (xs.length : Int) ≠ ((p.funcs[0]?).map Fun.params).getD 0 ∨ 100 < ys.length
    · rw [if_pos h2] at h; cases h
    · rw [if_neg h2] at h ⊢
      by_cases h3 : fuel < 0 ∨ 10000 < fuel
      · rw [if_pos h3] at h; cases h
      · rw [if_neg h3]
        have h4 : ¬ 100 < ys.length := fun h => h2 (.inr h)
        exact ⟨rfl, h1, by omega, by omega, by omega⟩
  · rw [if_pos h1] at h; exact absurd h h1
theorem i64_getD {xs : List Int} (h : ∀ x ∈ xs, I64 x) (i : Nat) : I64 (xs.getD i 0) := by
  rw [List.getD_eq_getElem?_getD]
  cases hi : xs[i]? with
  | none => exact i64_zero
  | some x => exact h x (List.mem_of_getElem? hi)
theorem beg_rg (xs : List Int) (i : Nat) : (begF xs).rg i = if i = 0 then xs.getD 0 0 else if i = 1 then xs.getD 1 0 else 0 := by
  match i with
  | 0 | 1 | 2 | 3 | 4 | 5 | 6 | 7 | 8 | 9 | 10 | 11 => rfl
  | n + 12 => rw [if_neg (by omega), if_neg (by omega)]; rfl
theorem beg_mm (xs ys : List Int) (fuel : Int) (i : Nat) : (begS xs ys fuel).mm i = 0 := by
  match i with
  | 0 | 1 | 2 | 3 | 4 | 5 | 6 | 7 | 8 | 9 | 10 | 11 | 12 | 13 | 14 | 15 => rfl
  | n + 16 => rfl
theorem beg_rch {p : Prg} (hp : proven p = 0) (xs : List Int) : Rch p (begF xs) := rch_start hp (k := 0) (okP_of (proven_prg hp)).len.1
theorem beg_run {p : Prg} {xs ys : List Int} {fuel : Int} (hp : proven p = 0) (hx : ∀ x ∈ xs, I64 x) (hy : ∀ y ∈ ys, I64 y) (hl : ys.length ≤ 100) (hf : 0 ≤ fuel ∧ fuel ≤ 10000) : RunOk p (begS xs ys fuel) := by
  refine ⟨fun f h => ?_, fun _ e => (by cases e), fun fs f e g hg => ?_, by show 1 ≤ 8; omega, hf, hl, ?_, fun f h i => ?_, fun i => by rw [beg_mm]; exact i64_zero, hy⟩
  · rw [List.mem_singleton.1 h]; exact beg_rch hp xs
  · have h0 : fs = [] := (snoc_inj (fs := []) (f := begF xs) e).1
    rw [h0] at hg; cases hg
  · show ((0 : Nat) : Int) + fuel ≤ 10000; omega
  · rw [List.mem_singleton.1 h, beg_rg]
    exact i64_ite (i64_getD hx 0) (i64_ite (i64_getD hx 1) i64_zero)
theorem beg_fault {p : Prg} {xs ys : List Int} {fuel : Int} (hp : proven p = 0) (hl : ys.length ≤ 100) (hf : 0 ≤ fuel ∧ fuel ≤ 10000) : stateFault p (begS xs ys fuel) = 0 := by
  refine sf_ok hp ⟨by show (0 : Int) ≤ 0 ∧ (0 : Int) ≤ 5; omega, hf, by show 1 ≤ 8; omega, hl, fun _ => rfl, ?_⟩ ⟨fun f h => ?_, fun i f g _ hg => ?_⟩
  · exact ⟨fun h => (by cases h), fun h => (by cases h)⟩
  · rw [List.mem_singleton.1 h]; exact rch_own (beg_rch hp xs)
  · exact absurd hg (by simp [begS])
/-- P4.6, at every argument. -/
noncomputable def runAns (p : Prg) (xs ys : List Int) (fuel : Int) : Sta × Int := if (begunAns p xs ys fuel).2 ≠ 0 then (zeroS, (begunAns p xs ys fuel).2) else (endS p (begunAns p xs ys fuel).1, 0)
theorem begun_zero {p : Prg} {xs ys : List Int} {fuel : Int} (h : (begunAns p xs ys fuel).2 ≠ 0) : (begunAns p xs ys fuel).1 = zeroS := by
  unfold begunAns at h ⊢
  by_cases h1 : proven p = 0
  · rw [if_neg (by simpa using h1)] at h ⊢
    by_cases h2 : (xs.length : Int) ≠ ((p.funcs[0]?).map Fun.params).getD 0 ∨ 100 < ys.length
    · rw [if_pos h2]
    · rw [if_neg h2] at h ⊢
      by_cases h3 : fuel < 0 ∨ 10000 < fuel
      · rw [if_pos h3]
      · rw [if_neg h3] at h; exact absurd rfl h
  · rw [if_pos h1]
theorem ok_prg_imm {p : Prg} (h : Lay.ok p) : ∀ f ∈ p.funcs, ∀ x ∈ f.code, I64 x.imm := fun f hf x hx => ((h.2 f hf).2.2.2 x hx).2.2.2.2
theorem ok_ints {xs : List Int} (h : Lay.ok xs) : ∀ x ∈ xs, I64 x := h.2
end Go.Proofs.YtceilfmfidmfpaaDoor
