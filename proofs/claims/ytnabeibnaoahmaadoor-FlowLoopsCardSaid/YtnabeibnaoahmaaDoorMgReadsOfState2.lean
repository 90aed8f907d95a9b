/- ref.readsOf, ref.ReadsAndSets. States: their cells; rows of flat elements. No program is named here. -/
import Derived.Test.YtnabeibnaoahmaaDoorMgDomBlkBitsReads3
import Derived.Test.YtnabeibnaoahmaaDoorCodeD
import Derived.Test.YtnabeibnaoahmaaDoorHpRow
set_option linter.unusedSimpArgs false
set_option linter.unusedVariables false
namespace Go.Proofs.YtnabeibnaoahmaaDoor
open Go.RowKit Plain64
attribute [local irreducible] wpList Code.wp Oper.wp
theorem info_int : (Tryd.prog.info? 3).map (fun i => (i.zero, i.size, i.bytes)) = some (some (.int .i64 0), 1, 8) := by kernel_rfl
/-- A row of numbers reads as these numbers. -/
theorem Hp.rowInts {w0 w : World} {Fs : List Fro} {L : List Res} {v : Value} {e : TypeId} {n : Nat} {cs : List Value} {xs : List Int} (h : Hp w0 Fs L w) (hm : Res.row v e 1 n cs ∈ L) (hx : cs = xs.map (Value.int .i64)) : Lay.rep w (Fresh w0 w) xs [v] := by
  subst hx
  have ho := h.row hm
  have hf := (h.own _ hm).2
  rcases ho.2 with ⟨rfl, hn⟩ | ⟨g, cap, cur, rfl, hb, hg, hle, hmx, hs, ht⟩
  · have hl := ho.1
    subst hn
    have : xs = [] := by cases xs; rfl; simp at hl
    subst this
    exact rep_ints_nil
  · have hl : xs.length = n := by have := ho.1; simpa using this
    subst hl
    refine ⟨_, _, rfl, hle, hmx, fun k x hx => ⟨_, [.int .i64 x], rfl, ⟨(hf g rfl).1, (hf g rfl).2.1⟩, fun j u hu => ?_, rfl⟩⟩
    have hj : j = 0 := by have := (List.getElem?_eq_some_iff.1 hu).1; simpa using this
    subst hj
    simp at hu
    subst hu
    have := ho.cells (g := g) rfl k (.int .i64 x) (by simp [hx])
    rw [add_of_add]
    show w.cell? ((⟨g, 0, none⟩ : Addr).add (k * 1 + 0)) = _
    rwa [Nat.mul_one, Nat.add_zero]
set_option maxRecDepth 10000 in
set_option maxHeartbeats 1000000 in
theorem readsOf_any (p : Prg) (u : Value) (x : Ins) (len : Nat) (w : World) (hp : Lay.rep w (Lt w.heap.size) p [u]) (ok : OkP p) (okx : OkI x len p.funcs.length) :
    Calls Tryd.prog 31 #[.agg #[u], .agg #[.int .i64 x.op, .int .i64 x.dst, .int .i64 x.a, .int .i64 x.b, .int .i64 x.imm]] w fun e w' => ∃ v, e = .returned v ∧ Lay.rep w' (Fresh w w') (readsL p x) [v] ∧ Below w.heap.size w w' := by
  obtain ⟨A, c, rfl, hc, hm, hx⟩ := rep_prg_at hp
  unfold maxLen at hm
  have HX := Lib.hid hx
  have HO := Lib.hid okx
  have HK := Lib.hid ok
  obtain ⟨n1, n2⟩ := ok.len
  clear hx hp ok okx
  have HP := Lib.hid ((Hp.start w).nil 3 1)
  obtain ⟨i_int, hi_int, hz_int, hs_int, hy_int⟩ := info_parts info_int
  go_enter Tryd.func31, Tryd.ntmps31
  go_upto_region 2 with (first | (refine wpList_box_hp (o := ⟨some 2, _, _, _, _, _⟩) rfl _ _ rfl HP.out [_] rfl ?_; clear HP; intro g2 w2 HP; replace HP := Lib.hid HP) | (refine wpList_box_hp (o := ⟨some 3, _, _, _, _, _⟩) rfl _ _ rfl HP.out [_, _, _, _, _] rfl ?_; clear HP; intro g3 w3 HP; replace HP := Lib.hid HP))
  by_cases h17 : x.op = 17
  · obtain ⟨i1, i2⟩ := HO.out.cal h17
    obtain ⟨k, hk⟩ := Int.eq_ofNat_of_zero_le i1
    have hkl : k < p.funcs.length := by omega
    have hki : (k : Int) < (p.funcs.length : Int) := by omega
    obtain ⟨ad, v, rfl, hab, hat, _⟩ := HX.out k hkl
    have hpar : parZ p x.imm = p.funcs[k].params := by unfold parZ; rw [hk]; simp [hkl]
    have hq := (HK.out.fns _ (List.getElem_mem hkl)).params
    have e0 : (ad.add (k * 3)).add 0 = ad.add (k * 3) := by simp [Addr.add]
    have HAT := Lib.hid hat
    have HE0 := Lib.hid e0
    have HO17 := Lib.hid h17
    have HPAR := Lib.hid hpar
    have HKK := Lib.hid hk
    obtain ⟨r, hr⟩ : ∃ r, p.funcs[k].params = r := ⟨_, rfl⟩
    rw [hr] at hq HPAR HAT
    rw [h17, hk] at HP
    clear h17 hk hpar hat hr e0 i1 i2
    have hop := HP.out.cell (.head _) 0 _ rfl
    have himm := HP.out.cell (.head _) 4 _ rfl
    have hfs := HP.out.cell (.tail _ (.head _)) 0 _ rfl
    have hcp := (HP.out.at_ (F := ⟨w, Lt w.heap.size⟩) (by simp) HAT.out (by rw [block_of_add]; exact hab)).cell 0 rfl
    rw [HE0.out] at hcp
    have era : readsAZ 17 = true := rfl
    have erb : readsBZ 17 = true := rfl
    have hr3 : r = 0 ∨ r = 1 ∨ r = 2 := by omega
    clear hq
    rcases hr3 with rfl | rfl | rfl
    all_goals
      go_upto_region 4 with (first | (go_at_call 62; refine (ReadsA_any _ _).mono ?_; rintro e w' ⟨rfl, rfl⟩) | (refine wpList_ld0 rfl 3 _ rfl HP.out rfl rfl Tryd.underlying3 rfl ?_) | (refine wpList_ld1 rfl 3 _ rfl HP.out rfl rfl Tryd.underlying3 rfl ?_) | (refine wpList_ld2 rfl 3 _ rfl HP.out rfl rfl Tryd.underlying3 rfl ?_) | (refine wpList_ints_hp rfl 25 3 1 _ rfl HP.out Tryd.underlying25 [_] rfl (by kernel_rfl) ?_; clear HP; intro gi wi HP; replace HP := Lib.hid HP) | (at_builtin; refine wpList_app2 rfl _ _ 25 rfl i_int (.int .i64 0) Tryd.underlying25 hi_int hz_int hs_int rfl (by decide) hy_int (1) rfl HP.out rfl rfl rfl (by simp [Value.oneCell']) (by unfold maxLen; omega) (by omega) ?_; clear HP; intro A' c' wap HP; replace HP := Lib.hid HP))
      clear hop himm hfs hcp
      have hop := HP.out.cell (.head _) 0 _ rfl
      have himm := HP.out.cell (.head _) 4 _ rfl
      have hfs := HP.out.cell (.tail _ (.head _)) 0 _ rfl
      have hcp := (HP.out.at_ (F := ⟨w, Lt w.heap.size⟩) (by simp) HAT.out (by rw [block_of_add]; exact hab)).cell 0 rfl
      rw [HE0.out] at hcp
      go_wp2_with (first | (go_at_call 63; refine (ReadsB_any _ _).mono ?_; rintro e w' ⟨rfl, rfl⟩) | (refine wpList_ld0 rfl 3 _ rfl HP.out rfl rfl Tryd.underlying3 rfl ?_) | (refine wpList_ld1 rfl 3 _ rfl HP.out rfl rfl Tryd.underlying3 rfl ?_) | (refine wpList_ld2 rfl 3 _ rfl HP.out rfl rfl Tryd.underlying3 rfl ?_) | (refine wpList_ints_hp rfl 25 3 1 _ rfl HP.out Tryd.underlying25 [_] rfl (by kernel_rfl) ?_; clear HP; intro gi wi HP; replace HP := Lib.hid HP) | (at_builtin; refine wpList_app2 rfl _ _ 25 rfl i_int (.int .i64 0) Tryd.underlying25 hi_int hz_int hs_int rfl (by decide) hy_int (1) rfl HP.out rfl rfl rfl (by simp [Value.oneCell']) (by unfold maxLen; omega) (by omega) ?_; clear HP; intro A' c' wap HP; replace HP := Lib.hid HP) | (at_builtin; refine wpList_app2 rfl _ _ 25 rfl i_int (.int .i64 0) Tryd.underlying25 hi_int hz_int hs_int rfl (by decide) hy_int (2) rfl HP.out rfl rfl rfl (by simp [Value.oneCell']) (by unfold maxLen; omega) (by omega) ?_; clear HP; intro A' c' wap HP; replace HP := Lib.hid HP))
      go_ret
      refine ⟨_, rfl, ?_, HP.out.below⟩
      unfold readsL
      rw [HPAR.out, HO17.out]
      exact HP.out.rowInts (.tail _ (.tail _ (.head _))) rfl
  · have h17b : (x.op != 17) = true := by simpa using h17
    have HN := Lib.hid h17
    clear h17
    have hop := HP.out.cell (.head _) 0 _ rfl
    obtain ⟨ra, era⟩ : ∃ ra, readsAZ x.op = ra := ⟨_, rfl⟩
    obtain ⟨rb, erb⟩ : ∃ rb, readsBZ x.op = rb := ⟨_, rfl⟩
    have HRA := Lib.hid era
    have HRB := Lib.hid erb
    cases ra
    all_goals
      cases rb
      all_goals
        go_upto_region 4 with (first | (go_at_call 62; refine (ReadsA_any _ _).mono ?_; rintro e w' ⟨rfl, rfl⟩) | (refine wpList_ld0 rfl 3 _ rfl HP.out rfl rfl Tryd.underlying3 rfl ?_) | (refine wpList_ld1 rfl 3 _ rfl HP.out rfl rfl Tryd.underlying3 rfl ?_) | (refine wpList_ld2 rfl 3 _ rfl HP.out rfl rfl Tryd.underlying3 rfl ?_) | (refine wpList_ints_hp rfl 25 3 1 _ rfl HP.out Tryd.underlying25 [_] rfl (by kernel_rfl) ?_; clear HP; intro gi wi HP; replace HP := Lib.hid HP) | (at_builtin; refine wpList_app2 rfl _ _ 25 rfl i_int (.int .i64 0) Tryd.underlying25 hi_int hz_int hs_int rfl (by decide) hy_int (1) rfl HP.out rfl rfl rfl (by simp [Value.oneCell']) (by unfold maxLen; omega) (by omega) ?_; clear HP; intro A' c' wap HP; replace HP := Lib.hid HP))
        clear hop
        have hop := HP.out.cell (.head _) 0 _ rfl
        go_wp2_with (first | (go_at_call 63; refine (ReadsB_any _ _).mono ?_; rintro e w' ⟨rfl, rfl⟩) | (refine wpList_ld0 rfl 3 _ rfl HP.out rfl rfl Tryd.underlying3 rfl ?_) | (refine wpList_ld1 rfl 3 _ rfl HP.out rfl rfl Tryd.underlying3 rfl ?_) | (refine wpList_ld2 rfl 3 _ rfl HP.out rfl rfl Tryd.underlying3 rfl ?_) | (refine wpList_ints_hp rfl 25 3 1 _ rfl HP.out Tryd.underlying25 [_] rfl (by kernel_rfl) ?_; clear HP; intro gi wi HP; replace HP := Lib.hid HP) | (at_builtin; refine wpList_app2 rfl _ _ 25 rfl i_int (.int .i64 0) Tryd.underlying25 hi_int hz_int hs_int rfl (by decide) hy_int (1) rfl HP.out rfl rfl rfl (by simp [Value.oneCell']) (by unfold maxLen; omega) (by omega) ?_; clear HP; intro A' c' wap HP; replace HP := Lib.hid HP) | (at_builtin; refine wpList_app2 rfl _ _ 25 rfl i_int (.int .i64 0) Tryd.underlying25 hi_int hz_int hs_int rfl (by decide) hy_int (2) rfl HP.out rfl rfl rfl (by simp [Value.oneCell']) (by unfold maxLen; omega) (by omega) ?_; clear HP; intro A' c' wap HP; replace HP := Lib.hid HP))
        go_ret
        refine ⟨_, rfl, ?_, HP.out.below⟩
        unfold readsL
        rw [HRA.out, HRB.out, decide_eq_true HN.out]
        exact HP.out.rowInts (.tail _ (.tail _ (.head _))) rfl
end Go.Proofs.YtnabeibnaoahmaaDoor
namespace Go.Proofs.YtnabeibnaoahmaaDoor
open Go.RowKit
/-- A register of a frame. -/
def Frm.rg (x : Frm) (i : Nat) : Int := x.regs.toList.getD i 0
/-- A word of a state's memory. -/
def Sta.mm (x : Sta) (i : Nat) : Int := x.memory.toList.getD i 0
abbrev iV (n : Int) : Value := .int .i64 n
def frmCells (x : Frm) : List Value := [iV x.fn, iV x.pc, iV (x.rg 0), iV (x.rg 1), iV (x.rg 2), iV (x.rg 3), iV (x.rg 4), iV (x.rg 5), iV (x.rg 6), iV (x.rg 7), iV (x.rg 8), iV (x.rg 9), iV (x.rg 10), iV (x.rg 11)]
theorem vec12 (v : Vector Int 12) : v.toList = [v.toList.getD 0 0, v.toList.getD 1 0, v.toList.getD 2 0, v.toList.getD 3 0, v.toList.getD 4 0, v.toList.getD 5 0, v.toList.getD 6 0, v.toList.getD 7 0, v.toList.getD 8 0, v.toList.getD 9 0, v.toList.getD 10 0, v.toList.getD 11 0] := by
  have hl : v.toList.length = 12 := by simp
  generalize v.toList = l at *
  match l, hl with
  | [a0, a1, a2, a3, a4, a5, a6, a7, a8, a9, a10, a11], _ => rfl
theorem vec16 (v : Vector Int 16) : v.toList = [v.toList.getD 0 0, v.toList.getD 1 0, v.toList.getD 2 0, v.toList.getD 3 0, v.toList.getD 4 0, v.toList.getD 5 0, v.toList.getD 6 0, v.toList.getD 7 0, v.toList.getD 8 0, v.toList.getD 9 0, v.toList.getD 10 0, v.toList.getD 11 0, v.toList.getD 12 0, v.toList.getD 13 0, v.toList.getD 14 0, v.toList.getD 15 0] := by
  have hl : v.toList.length = 16 := by simp
  generalize v.toList = l at *
  match l, hl with
  | [a0, a1, a2, a3, a4, a5, a6, a7, a8, a9, a10, a11, a12, a13, a14, a15], _ => rfl
section
variable {w w' : World} {B : Nat → Prop} {cs : List Value}
theorem rep_frm' {x : Frm} : Lay.rep w B x cs ↔ cs = frmCells x := by
  rw [rep_frm, vec12]; rfl
def staCells (x : Sta) (u e a : Value) : List Value := [iV x.status, iV x.value, u, iV (x.mm 0), iV (x.mm 1), iV (x.mm 2), iV (x.mm 3), iV (x.mm 4), iV (x.mm 5), iV (x.mm 6), iV (x.mm 7), iV (x.mm 8), iV (x.mm 9), iV (x.mm 10), iV (x.mm 11), iV (x.mm 12), iV (x.mm 13), iV (x.mm 14), iV (x.mm 15), iV x.fuel, e, a]
theorem rep_sta {x : Sta} : Lay.rep w B x cs ↔ ∃ u e a, cs = staCells x u e a ∧ Lay.rep w B x.frames [u] ∧ Lay.rep w B x.events [e] ∧ Lay.rep w B x.answers [a] := by
  constructor
  · rintro ⟨_, _, rfl, rfl, _, _, rfl, rfl, c1, d1, rfl, hf, c2, d2, rfl, hm, _, _, rfl, rfl, c3, d3, rfl, he, ha⟩
    rw [rep_vec_int, vec16] at hm
    subst hm
    obtain ⟨A1, n1, rfl, h1⟩ := hf
    obtain ⟨A2, n2, rfl, h2⟩ := he
    obtain ⟨A3, n3, rfl, h3⟩ := ha
    exact ⟨_, _, _, rfl, ⟨A1, n1, rfl, h1⟩, ⟨A2, n2, rfl, h2⟩, ⟨A3, n3, rfl, h3⟩⟩
  · rintro ⟨u, e, a, rfl, hf, he, ha⟩
    exact ⟨_, _, rfl, rfl, _, _, rfl, rfl, [u], _, rfl, hf, _, _, rfl, rep_vec_int.2 (by rw [vec16]), _, _, rfl, rfl, [e], _, rfl, he, ha⟩
/-- An element of a slice of frames. -/
theorem rep_frames_at {xs : List Frm} {v : Value} (h : Lay.rep w B xs [v]) : ∃ (A : Option Addr) (c : Nat), v = .slice A xs.length c ∧ xs.length ≤ c ∧ c ≤ maxLen ∧
    ∀ (k : Nat) (hk : k < xs.length), ∃ (a : Addr), A = some a ∧ B a.block ∧ At w (a.add (k * 14)) (frmCells xs[k]) := by
  obtain ⟨A, c, e, h1, h2, h3⟩ := rep_list h
  injection e with e
  refine ⟨A, c, e, h1, h2, fun k hk => ?_⟩
  obtain ⟨a, ds, ha, hb, hat, hr⟩ := h3 k hk
  rw [rep_frm'] at hr
  subst hr
  exact ⟨a, ha, hb, hat⟩
theorem flat_at {α : Type} (enc : α → List Value) (sz : Nat) (henc : ∀ x, (enc x).length = sz) (xs : List α) (k : Nat) (x : α) (hx : xs[k]? = some x) (j : Nat) (v : Value) (hv : (enc x)[j]? = some v) : (xs.flatMap enc)[k * sz + j]? = some v := by
  induction xs generalizing k with
  | nil => simp at hx
  | cons y ys ih =>
    rw [List.flatMap_cons]
    cases k with
    | zero =>
      simp at hx; subst hx
      rw [Nat.zero_mul, Nat.zero_add, List.getElem?_append_left (List.getElem?_eq_some_iff.1 hv).1]; exact hv
    | succ k =>
      have := ih k (by simpa using hx)
      rw [List.getElem?_append_right (by rw [henc, Nat.succ_mul]; omega), henc, show (k + 1) * sz + j - sz = k * sz + j by rw [Nat.succ_mul]; omega]
      exact this
theorem flat_len {α : Type} (enc : α → List Value) (sz : Nat) (henc : ∀ x, (enc x).length = sz) (xs : List α) : (xs.flatMap enc).length = xs.length * sz := by
  induction xs with
  | nil => simp
  | cons y ys ih => rw [List.flatMap_cons, List.length_append, henc, ih, List.length_cons, Nat.succ_mul]; omega
/-- A row of flat elements reads as these. -/
theorem Hp.rowFlat {α : Type} [Lay α] (enc : α → List Value) (sz : Nat) (hsz : Lay.size α = sz) (hpos : 0 < sz) (henc : ∀ x, (enc x).length = sz) (hrep : ∀ (w : World) (S : Nat → Prop) (x : α), Lay.rep w S x (enc x))
    {w0 w : World} {Fs : List Fro} {L : List Res} {v : Value} {e : TypeId} {n : Nat} {cs : List Value} {xs : List α} (h : Hp w0 Fs L w) (hm : Res.row v e sz n cs ∈ L) (hx : cs = xs.flatMap enc) : Lay.rep w (Fresh w0 w) xs [v] := by
  subst hx
  have ho := h.row hm
  have hf := (h.own _ hm).2
  have hl : xs.length = n := by
    have := ho.1
    rw [flat_len enc sz henc] at this
    exact Nat.eq_of_mul_eq_mul_right hpos this
  rcases ho.2 with ⟨rfl, hn⟩ | ⟨g, cap, cur, rfl, hb, hg, hle, hmx, hs, ht⟩
  · subst hn
    have : xs = [] := by cases xs; rfl; simp at hl
    subst this
    exact ⟨none, 0, rfl, Nat.le_refl _, by unfold maxLen; omega, fun k x h => by simp at h⟩
  · subst hl
    refine ⟨_, _, rfl, hle, hmx, fun k x hx => ⟨_, enc x, rfl, ⟨(hf g rfl).1, (hf g rfl).2.1⟩, fun j u hu => ?_, hrep _ _ x⟩⟩
    have := ho.cells (g := g) rfl (k * sz + j) u (flat_at enc sz henc xs k x hx j u hu)
    rw [add_of_add, hsz]
    exact this
theorem Hp.rowFrames {w0 w : World} {Fs : List Fro} {L : List Res} {v : Value} {e : TypeId} {n : Nat} {cs : List Value} {xs : List Frm} (h : Hp w0 Fs L w) (hm : Res.row v e 14 n cs ∈ L) (hx : cs = xs.flatMap frmCells) : Lay.rep w (Fresh w0 w) xs [v] :=
  h.rowFlat frmCells 14 rfl (by decide) (fun _ => rfl) (fun _ _ _ => rep_frm'.2 rfl) hm hx
end
end Go.Proofs.YtnabeibnaoahmaaDoor
