/- trim.Program. -/
import Derived.Test.YtfhoffpdodjfeaaDoorCallLaw
import Derived.Test.YtfhoffpdodjfeaaDoorCallA
import Derived.Test.YtfhoffpdodjfeaaDoorState
import Derived.Test.YtfhoffpdodjfeaaDoorCodeF
import Derived.Laws.ResultCell
set_option linter.unusedSimpArgs false
set_option linter.unusedVariables false
namespace Go.Proofs.YtfhoffpdodjfeaaDoor
open Go.RowKit Plain64
noncomputable def calledB (p : Prg) (k : Nat) : Bool := (calledL p).getD k false
/-- How many functions ahead of this one are called. -/
noncomputable def numC (p : Prg) : Nat → Nat
  | 0 => 0
  | k + 1 => numC p k + (calledB p k).toNat
theorem numC_le (p : Prg) : ∀ k, numC p k ≤ k
  | 0 => Nat.le_refl _
  | k + 1 => by
    have := numC_le p k
    rw [numC]; cases calledB p k <;> simp <;> omega
theorem calledB_at {p : Prg} {k : Nat} (h : k < p.funcs.length) : (calledL p)[k]? = some (calledB p k) := by
  unfold calledB
  rw [List.getD_eq_getElem?_getD, List.getElem?_eq_getElem (by rw [calledL_len]; exact h)]
  rfl
theorem calledB_iff {p : Prg} {k : Nat} (h : k < p.funcs.length) : calledB p k = true ↔ CalledP p k := by
  rw [← calledL_at p k h, calledB_at h]
  simp
/-- An instruction, its places as they are then. -/
noncomputable def trimI (p : Prg) (f : Fun) (x : Ins) : Ins :=
  if x.op = 15 ∨ x.op = 16 then { x with imm := whereZ f x.imm.toNat } else if x.op = 17 then { x with imm := (numC p x.imm.toNat : Int) } else x
noncomputable def trimC (p : Prg) (f : Fun) : Nat → List Ins
  | 0 => []
  | k + 1 => trimC p f k ++ if wayB f k then [trimI p f (f.code.getD k default)] else []
noncomputable def trimF (p : Prg) (f : Fun) : Fun := ⟨f.params, f.regs, trimC p f f.code.length⟩
noncomputable def trimL (p : Prg) : Nat → List Fun
  | 0 => []
  | k + 1 => trimL p k ++ if calledB p k then [trimF p (p.funcs.getD k default)] else []
/-- P5.3, at every argument. -/
noncomputable def trimAns (p : Prg) : Prg × Int := if proven p ≠ 0 then (⟨[]⟩, proven p) else (⟨trimL p p.funcs.length⟩, 0)
theorem trimC_yes {p : Prg} {f : Fun} {k : Nat} {x : Ins} (h : wayB f k = true) (hx : f.code[k]? = some x) : trimC p f (k + 1) = trimC p f k ++ [trimI p f x] := by
  rw [trimC, h, List.getD_eq_getElem?_getD, hx]; rfl
theorem trimC_no {p : Prg} {f : Fun} {k : Nat} (h : wayB f k = false) : trimC p f (k + 1) = trimC p f k := by
  rw [trimC, h]; simp
theorem trimC_len (p : Prg) (f : Fun) : ∀ k, (trimC p f k).length ≤ k
  | 0 => Nat.le_refl _
  | k + 1 => by
    have := trimC_len p f k
    rw [trimC, List.length_append]; split <;> simp <;> omega
theorem trimL_yes {p : Prg} {k : Nat} {f : Fun} (h : calledB p k = true) (hf : p.funcs[k]? = some f) : trimL p (k + 1) = trimL p k ++ [trimF p f] := by
  rw [trimL, h, List.getD_eq_getElem?_getD, hf]; rfl
theorem trimL_no {p : Prg} {k : Nat} (h : calledB p k = false) : trimL p (k + 1) = trimL p k := by
  rw [trimL, h]; simp
theorem trimL_len (p : Prg) : ∀ k, (trimL p k).length ≤ k
  | 0 => Nat.le_refl _
  | k + 1 => by
    have := trimL_len p k
    rw [trimL, List.length_append]; split <;> simp <;> omega
/-- What a call that is come to calls is called. -/
theorem callee_called {p : Prg} {k pc n : Nat} {f : Fun} {x : Ins} (hc : calledB p k = true) (hk : k < p.funcs.length) (hf : p.funcs[k]? = some f) (hx : f.code[pc]? = some x) (hw : wayB f pc = true) (ho : x.op = 17) (hn : x.imm = n) (hl : n < p.funcs.length) : calledB p n = true := by
  rw [calledB_iff hl]
  have := CalledP.call ((calledB_iff hk).1 hc) hf hx hw ho
  rwa [hn, Int.toNat_natCast] at this
section
variable {w0 w : World} {Fs : List Fro} {L : List Res}
theorem Hp.froNone (h : Hp w0 Fs L w) : Hp w0 (⟨w, fun _ => False⟩ :: Fs) L w :=
  ⟨h.below, fun F hF b hb => by
    rcases List.mem_cons.1 hF with rfl | hF
    · exact hb.elim
    · exact h.fro F hF b hb, fun r hr => ⟨(h.own r hr).1, fun b hb => ⟨((h.own r hr).2 b hb).1, ((h.own r hr).2 b hb).2.1, fun F hF hS => by
      rcases List.mem_cons.1 hF with rfl | hF
      · exact hS
      · exact ((h.own r hr).2 b hb).2.2 F hF hS⟩⟩, h.apart⟩
/-- A row of flat elements reads as these, in its own block. -/
theorem Hp.rowOwn {α : Type} [Lay α] (enc : α → List Value) (sz : Nat) (hsz : Lay.size α = sz) (hpos : 0 < sz) (henc : ∀ x, (enc x).length = sz) (hrep : ∀ (w : World) (S : Nat → Prop) (x : α), Lay.rep w S x (enc x))
    {v : Value} {e : TypeId} {n : Nat} {cs : List Value} {xs : List α} (h : Hp w0 Fs L w) (hm : Res.row v e sz n cs ∈ L) (hx : cs = xs.flatMap enc) : Lay.rep w (fun b => (Res.row v e sz n cs).foot = some b) xs [v] := by
  subst hx
  have ho := h.row hm
  have hl : xs.length = n := by
    have := ho.1
    rw [flat_len enc sz henc] at this
    exact Nat.eq_of_mul_eq_mul_right hpos this
  rcases ho.2 with ⟨rfl, hn⟩ | ⟨g, cap, cur, rfl, hb, hg, hle, hmx, hs, ht⟩
  · subst hn
    have : xs = [] := by cases xs; rfl; simp at hl
    subst this
    exact ⟨none, 0, rfl, Nat.le_refl _, by unfold maxLen; omega, fun k x h => by simp at h⟩
  · subst hl
    refine ⟨_, _, rfl, hle, hmx, fun k x hx => ⟨_, enc x, rfl, rfl, fun j u hu => ?_, hrep _ _ x⟩⟩
    have := ho.cells (g := g) rfl (k * sz + j) u (flat_at enc sz henc xs k x hx j u hu)
    rw [add_of_add, hsz]
    exact this
def funEnc (x : Fun × Value) : List Value := [.int .i64 x.1.params, .int .i64 x.1.regs, x.2]
/-- Functions whose code lies in memory that stays. -/
structure FunsAt (F : Fro) (fs : List Fun) (vs : List Value) : Prop where
  len : vs.length = fs.length
  rep : ∀ (i : Nat) f u, fs[i]? = some f → vs[i]? = some u → Lay.rep F.w F.S f.code [u]
theorem FunsAt.nil (F : Fro) : FunsAt F [] [] := ⟨rfl, fun i f u h => by simp at h⟩
/-- One more: its row stays from now on. -/
theorem FunsAt.snoc {F : Fro} {fs : List Fun} {vs : List Value} (h : FunsAt F fs vs) {A B : List Res} {r : Res} (H : Hp w0 (F :: Fs) (A ++ r :: B) w) {f : Fun} {u : Value} (hr : Lay.rep w (fun b => r.foot = some b) f.code [u]) :
    FunsAt ⟨w, fun b => F.S b ∨ r.foot = some b⟩ (fs ++ [f]) (vs ++ [u]) := by
  refine ⟨by simp [h.len], fun i f' u' hf hu => ?_⟩
  by_cases hi : i < fs.length
  · rw [List.getElem?_append_left hi] at hf
    rw [List.getElem?_append_left (by rw [h.len]; exact hi)] at hu
    exact H.repMore (.head _) (h.rep i f' u' hf hu) (fun b hb => .inl hb)
  · rw [List.getElem?_append_right (by omega)] at hf
    rw [List.getElem?_append_right (by rw [h.len]; omega), h.len] at hu
    obtain ⟨h1, h2⟩ := List.getElem?_eq_some_iff.1 hf
    have hi0 : i - fs.length = 0 := by simp at h1; omega
    rw [hi0] at hf hu
    simp at hf hu
    subst hf hu
    exact Lay.more (fun b hb => .inr hb) hr
theorem Hp.rowFuns {F : Fro} {v : Value} {e : TypeId} {n : Nat} {cs : List Value} {fs : List Fun} {vs : List Value} (h : Hp w0 (F :: Fs) L w) (hm : Res.row v e 3 n cs ∈ L) (hx : cs = (fs.zip vs).flatMap funEnc) (ha : FunsAt F fs vs) (hS : ∀ b, F.S b → w0.heap.size ≤ b) : Lay.rep w (Fresh w0 w) fs [v] := by
  subst hx
  have ho := h.row hm
  have hf := (h.own _ hm).2
  have hz : (fs.zip vs).length = fs.length := by rw [List.length_zip, ha.len]; exact Nat.min_self _
  have hl : fs.length = n := by
    have := ho.1
    rw [flat_len funEnc 3 (fun _ => rfl), hz] at this
    omega
  rcases ho.2 with ⟨rfl, hn⟩ | ⟨g, cap, cur, rfl, hb, hg, hle, hmx, hs, ht⟩
  · subst hn
    have : fs = [] := by cases fs; rfl; simp at hl
    subst this
    exact ⟨none, 0, rfl, Nat.le_refl _, by unfold maxLen; omega, fun k x h => by simp at h⟩
  · subst hl
    refine ⟨_, _, rfl, hle, hmx, fun k x hx => ?_⟩
    have hk := (List.getElem?_eq_some_iff.1 hx).1
    obtain ⟨u, hu⟩ : ∃ u, vs[k]? = some u := ⟨_, List.getElem?_eq_getElem (by rw [ha.len]; exact hk)⟩
    have hzk : (fs.zip vs)[k]? = some (x, u) := by rw [List.getElem?_zip_eq_some]; exact ⟨hx, hu⟩
    refine ⟨_, funEnc (x, u), rfl, ⟨(hf g rfl).1, (hf g rfl).2.1⟩, fun j y hy => ?_, ?_⟩
    · have := ho.cells (g := g) rfl (k * 3 + j) y (flat_at funEnc 3 (fun _ => rfl) _ k _ hzk j y hy)
      rw [add_of_add]
      exact this
    · refine rep_fun.2 ⟨u, rfl, ?_⟩
      exact h.repMore (.head _) (ha.rep k x u hx hu) (fun b hb => ⟨hS b hb, (h.fro F (.head _) b hb).1⟩)
end
attribute [local irreducible] wpList Code.wp Oper.wp
theorem results_cell_two {P : Program} {fn : Func} {p u : Tmp} {ty : TypeId} (h : fn.results = #[.cell p ty, .tmp u]) (tmps : Array Value) (w : World) (g : Nat) (t : TypeId) (cs : Array Value) (fr : Nat × Nat) (d : TypeDesc)
    (hp : tmps.getD p undef = .pointer (some ⟨g, 0, none⟩)) (hg : w.heap[g]? = some (.cells cs t fr))
    (hu : P.underlying ty = some d) (hd : (match d with | .struct _ | .array _ _ => true | _ => false) = true) (hi : (P.info? ty).map (·.size) = some cs.size) :
    (results fn tmps).run P w = .ok (.tuple #[.agg cs, tmps.getD u undef]) w := by
  rw [results_cell_tmp h, hp]
  simp [asAddr, run_loadVar_row w g t ty cs fr d hg hu hd hi, Result.andThen]
def insEnc (x : Ins) : List Value := [.int .i64 x.op, .int .i64 x.dst, .int .i64 x.a, .int .i64 x.b, .int .i64 x.imm]
set_option maxRecDepth 10000 in
set_option maxHeartbeats 4000000 in
theorem tProgram_any (p : Prg) (u : Value) (w : World) (hp : Lay.rep w (Lt w.heap.size) p [u]) (hh : Has w) :
    Calls Tryd.prog 28 #[.agg #[u]] w fun r w' => ∃ v, r = .returned (.tuple #[.agg #[v], .int .i64 (trimAns p).2]) ∧ Lay.rep w' (Fresh w w') (trimAns p).1 [v] ∧ Below w.heap.size w w' := by
  obtain ⟨A, c, rfl, hc, hm, hx⟩ := rep_prg_at hp
  unfold maxLen at hm
  have HX := Lib.hid hx
  have HR := Lib.hid hp
  have HH := Lib.hid hh
  clear hx hp hh
  obtain ⟨i_int, hi_int, hz_int, hs_int, hy_int⟩ := info_parts info_int
  have HP := Lib.hid (Hp.start w)
  by_cases hz : proven p = 0
  · have HZ := Lib.hid hz
    have HZ1 := Lib.hid (proven_prg' hz)
    obtain ⟨n1, n2⟩ := (okP_of HZ1.out).len
    have HANS := Lib.hid (show trimAns p = (⟨trimL p p.funcs.length⟩, 0) by unfold trimAns; rw [if_neg (by simpa using hz)])
    clear hz
    go_enter Tryd.func28, Tryd.ntmps28
    go_wp2_with (first | (refine wpList_box_hp (o := ⟨some 1, _, _, _, _, _⟩) rfl _ _ rfl HP.out [_] rfl ?_; clear HP; intro g1 w1 HP; replace HP := Lib.hid HP) | (refine wpList_alloc_hp (o := ⟨some 2, _, _, _, _, _⟩) rfl _ rfl HP.out (.agg #[.slice none 0 0]) (by kernel_rfl) [_] rfl ?_; clear HP; intro g2 w2 HP; replace HP := Lib.hid HP) | (refine wpList_alloc_hp (o := ⟨some 3, _, _, _, _, _⟩) rfl _ rfl HP.out (.agg #[.slice none 0 0]) (by kernel_rfl) [_] rfl ?_; clear HP; intro g3 w3 HP; replace HP := Lib.hid HP) | (refine wpList_ldR0 rfl 24 _ rfl HP.out rfl Tryd.underlying24 rfl (by kernel_rfl) ?_) | (refine wpList_ldR1 rfl 24 _ rfl HP.out rfl Tryd.underlying24 rfl (by kernel_rfl) ?_) | (refine wpList_ldR2 rfl 24 _ rfl HP.out rfl Tryd.underlying24 rfl (by kernel_rfl) ?_) | (refine wpList_ld0 rfl 22 _ rfl HP.out rfl rfl Tryd.underlying22 rfl ?_) | (refine wpList_ld1 rfl 22 _ rfl HP.out rfl rfl Tryd.underlying22 rfl ?_) | (refine wpList_make_hp (o := ⟨some 28, _, _, _, _, _⟩) rfl _ _ _ rfl _ i_int (.int .i64 0) Tryd.underlying25 hi_int hz_int rfl hs_int p.funcs.length rfl rfl (by rw [hy_int]; omega) (by unfold maxLen; omega) HP.out ?_; clear HP; intro gm wm HP; replace HP := Lib.hid HP) | (go_at_call 44; refine (proofCheck_any p _ _ (HP.out.rep (F := ⟨w, Lt w.heap.size⟩) (by simp) HR.out) (HH.out.keep HP.out.below rfl)).mono ?_; rintro e w4 ⟨rfl, hb⟩; replace HP := Lib.hid (HP.out.call0 hb); clear hb; rw [HZ.out]) | (go_at_call 55; refine (calls_any p _ _ (HP.out.rep (F := ⟨w, Lt w.heap.size⟩) (by simp) HR.out) HZ1.out (HH.out.keep HP.out.below rfl)).mono ?_; rintro e w5 ⟨v5, rfl, hv5, hb5⟩; replace HP := Lib.hid (HP.out.call hb5); obtain ⟨A5, c5, rfl, hc5, hm5, hx5⟩ := rep_bools_at hv5; unfold maxLen at hm5; have HX5 := Lib.hid hx5; clear hv5 hx5 hb5))
    rw [← List.map_replicate] at HP
    have HC : Hid (∀ q, q < p.funcs.length → ∃ a : Addr, A5 = some a ∧ Fresh w4 w5 a.block ∧ w5.cell? (a.add q) = some (.bool (calledB p q))) := Lib.hid (fun q hq => by
      obtain ⟨a, h1, h2, h3⟩ := HX5.out q (by rw [calledL_len]; exact hq)
      refine ⟨a, h1, h2, ?_⟩
      rw [h3]
      congr 2
      have := calledB_at hq
      exact (List.getElem?_eq_some_iff.1 this).2)
    rw [calledL_len] at hc5
    rw [calledL_len]
    clear HX5
    go_loopw [7, 31] (fun n i wr => ∃ (q : Nat) (os : List Int), q ≤ p.funcs.length ∧ i = .int .i64 q ∧ n = .int .i64 (numC p q : Nat) ∧ Hid (os.length = p.funcs.length ∧ ∀ r, r < q → calledB p r = true → os[r]? = some (numC p r : Int)) ∧ Hid (Hp w [{ w := w5, S := Fresh w4 w5 }, { w := w, S := Lt w.heap.size }] [Res.blk gm 3 (List.map (Value.int .i64) os), Res.blk g2 24 [.slice none 0 0], Res.blk g1 24 [.slice A p.funcs.length c]] wr)) (fun _ i _ => p.funcs.length - (intOf i).toNat)
    case atStart => exact ⟨0, _, by omega, rfl, rfl, Lib.hid ⟨by simp, fun r hr => by omega⟩, HP⟩
    case round =>
      clear HP
      obtain ⟨q, os, hq, rfl, rfl, HO, HP⟩ := hrel
      obtain ⟨wo, rfl⟩ : ∃ wo : World, wo = wr := ⟨_, rfl⟩
      have hcl := numC_le p q
      have HCS := Lib.hid (show numC p (q + 1) = numC p q + (calledB p q).toNat from rfl)
      by_cases hlt : q < p.funcs.length
      · obtain ⟨a, rfl, hab, hca⟩ := HC.out q hlt
        have hcw := (HP.out.alike (F := ⟨w5, Fresh w4 w5⟩) (.head _) (a.add q) (by rw [block_of_add]; exact hab)).trans hca
        have HBD := Lib.hid (show q < (List.map (Value.int IntKind.i64) os).length by rw [List.length_map, HO.out.1]; exact hlt)
        have hlt2 : (q : Int) < (p.funcs.length : Int) := by omega
        obtain ⟨n, hn⟩ : ∃ n, numC p q = n := ⟨_, rfl⟩
        rw [hn] at hcl HCS
        rw [hn]
        have HN := Lib.hid hn
        obtain ⟨b, hb⟩ : ∃ b, calledB p q = b := ⟨_, rfl⟩
        rw [hb] at hcw HCS
        have HB := Lib.hid hb
        clear hca hab hn hb
        cases b
        · go_wp2_with fail
          go_roundw
          case rel => exact ⟨q + 1, os, by omega, by go_num, by rw [HCS.out]; rfl, Lib.hid ⟨HO.out.1, fun r hr h => by
            by_cases e : r = q
            · subst e; rw [HB.out] at h; cases h
            · exact HO.out.2 r (by omega) h⟩, HP⟩
          case measure => simp [intOf]; omega
        · go_wp2_with (first | (refine wpList_st0 rfl 3 _ _ rfl HP.out rfl rfl HBD.out rfl (List.map_set ..).symm (by kernel_rfl) ?_; clear HP; intro wst HP; replace HP := Lib.hid HP))
          go_roundw
          case rel => exact ⟨q + 1, os.set q (n : Int), by omega, by go_num, by rw [HCS.out]; rfl, Lib.hid ⟨by simp [HO.out.1], fun r hr h => by
            by_cases e : q = r
            · subst e; rw [List.getElem?_set_self (by rw [HO.out.1]; exact hlt), HN.out]
            · rw [List.getElem?_set_ne e]; exact HO.out.2 r (by omega) h⟩, HP⟩
          case measure => simp [intOf]; omega
      obtain rfl : q = p.funcs.length := by omega
      go_wp2_with (first | (refine wpList_alloc_hp (o := ⟨some 10, _, _, _, _, _⟩) rfl _ rfl HP.out (.agg #[.slice none 0 0]) (by kernel_rfl) [_] rfl ?_; clear HP; intro g10 w10 HP; replace HP := Lib.hid HP) | (refine wpList_ld0 rfl 22 _ rfl HP.out rfl rfl Tryd.underlying22 rfl ?_) | (refine wpList_ld1 rfl 22 _ rfl HP.out rfl rfl Tryd.underlying22 rfl ?_) | (refine wpList_ld2 rfl 22 _ rfl HP.out rfl rfl Tryd.underlying22 rfl ?_) | (refine wpList_ld3 rfl 22 _ rfl HP.out rfl rfl Tryd.underlying22 rfl ?_))
      have HPn := Lib.hid ((HP.out.froNone).nil 72 3)
      clear HP
      have HOS := Lib.hid HO.out
      go_loopw [47] (fun i wr => ∃ (q2 : Nat) (A' : Option Addr) (c' : Nat) (vs : List Value) (wf : World) (Sf : Nat → Prop), q2 ≤ p.funcs.length ∧ i = .int .i64 q2 ∧ Hid (FunsAt ⟨wf, Sf⟩ (trimL p q2) vs ∧ ∀ b, Sf b → w.heap.size ≤ b) ∧ Hid (Hp w [{ w := wf, S := Sf }, { w := w5, S := Fresh w4 w5 }, { w := w, S := Lt w.heap.size }] [Res.row (.slice A' (trimL p q2).length c') 72 3 (trimL p q2).length (((trimL p q2).zip vs).flatMap funEnc), Res.blk g10 24 [.slice A' (trimL p q2).length c'], Res.blk gm 3 (List.map (Value.int .i64) os), Res.blk g2 24 [.slice none 0 0], Res.blk g1 24 [.slice A p.funcs.length c]] wr)) (fun i _ => p.funcs.length - (intOf i).toNat)
      case atStart => exact ⟨0, none, 0, [], _, fun _ => False, by omega, rfl, Lib.hid ⟨FunsAt.nil _, fun b hb => hb.elim⟩, HPn⟩
      case round =>
        clear HPn
        obtain ⟨q2, A', c', vs, wf, Sf, hq2, rfl, HV, HP⟩ := hrel
        obtain ⟨wq, rfl⟩ : ∃ wq : World, wq = wr := ⟨_, rfl⟩
        obtain ⟨m, hm⟩ : ∃ m, (trimL p q2).length = m := ⟨_, rfl⟩
        have hml := trimL_len p q2
        rw [hm] at hml HP
        have HM := Lib.hid hm
        clear hm
        by_cases hlt2 : q2 < p.funcs.length
        · obtain ⟨ad, v, rfl, hab, hat, hcode⟩ := HX.out q2 hlt2
          obtain ⟨f, hf⟩ : ∃ f, p.funcs[q2] = f := ⟨_, rfl⟩
          rw [hf] at hat hcode
          have HFK := Lib.hid (show p.funcs[q2]? = some f by rw [← hf, List.getElem?_eq_getElem hlt2])
          have HOF := Lib.hid ((okP_of HZ1.out).fns f (List.mem_of_getElem? HFK.out))
          obtain ⟨l1, l2⟩ := HOF.out.len
          obtain ⟨A2, c2, rfl, hc2, hm2, hx2⟩ := rep_code hcode
          unfold maxLen at hm2
          have HX2 := Lib.hid hx2
          have HAT := Lib.hid hat
          have hlt3 : (q2 : Int) < (p.funcs.length : Int) := by omega
          clear hf hat hcode hx2
          go_upto_region 18 with (first | (refine wpList_load_at rfl 72 _ rfl _ rfl _ _ (HP.out.at_ (F := ⟨w, Lt w.heap.size⟩) (by simp) HAT.out (by rw [block_of_add]; exact hab)) Tryd.underlying72 rfl (by kernel_rfl) ?_) | (refine wpList_alloc_hp (o := ⟨some 12, _, _, _, _, _⟩) rfl _ rfl HP.out (.agg #[.int .i64 0, .int .i64 0, .slice none 0 0]) (by kernel_rfl) [_, _, _] rfl ?_; clear HP; intro g12 w12 HP; replace HP := Lib.hid HP) | (refine wpList_stR0 rfl 72 _ _ rfl HP.out rfl (cs' := [_, _, _]) rfl rfl (by simp [Value.oneCell']) (by kernel_rfl) ?_; clear HP; intro wh HP; replace HP := Lib.hid HP))
          (try simp only [Act.put, List.setIfInBounds_toArray, List.set_cons_zero, List.set_cons_succ])
          obtain ⟨a5, rfl, hab5, hc5'⟩ := HC.out q2 hlt2
          have hcb := (HP.out.alike (F := ⟨w5, Fresh w4 w5⟩) (by simp) (a5.add q2) (by rw [block_of_add]; exact hab5)).trans hc5'
          obtain ⟨b, hb⟩ : ∃ b, calledB p q2 = b := ⟨_, rfl⟩
          rw [hb] at hcb
          have HB := Lib.hid hb
          clear hb hab5 hc5'
          cases b
          · go_wp2_with fail
            go_roundw
            case rel => exact ⟨q2 + 1, A', c', vs, wf, Sf, by omega, by go_num, Lib.hid (by rw [trimL_no HB.out]; exact HV.out), Lib.hid (by rw [trimL_no HB.out, HM.out]; exact Hp.drop (A := []) HP.out)⟩
            case measure => simp [intOf]; omega
          · go_wp2_with (first | (refine wpList_ldR0 rfl 24 _ rfl HP.out rfl Tryd.underlying24 rfl (by kernel_rfl) ?_) | (refine wpList_ldR1 rfl 24 _ rfl HP.out rfl Tryd.underlying24 rfl (by kernel_rfl) ?_) | (refine wpList_ldR2 rfl 24 _ rfl HP.out rfl Tryd.underlying24 rfl (by kernel_rfl) ?_) | (refine wpList_ldR3 rfl 24 _ rfl HP.out rfl Tryd.underlying24 rfl (by kernel_rfl) ?_) | (refine wpList_ldR4 rfl 24 _ rfl HP.out rfl Tryd.underlying24 rfl (by kernel_rfl) ?_) | (refine wpList_ldR5 rfl 24 _ rfl HP.out rfl Tryd.underlying24 rfl (by kernel_rfl) ?_) | (refine wpList_alloc_hp (o := ⟨some 14, _, _, _, _, _⟩) rfl _ rfl HP.out (.agg #[.int .i64 0, .int .i64 0, .slice none 0 0]) (by kernel_rfl) [_, _, _] rfl ?_; clear HP; intro g14 w14 HP; replace HP := Lib.hid HP) | (refine wpList_ld0 rfl 3 _ rfl HP.out rfl rfl Tryd.underlying3 rfl ?_) | (refine wpList_ld0 rfl 70 _ rfl HP.out rfl rfl Tryd.underlying70 rfl ?_) | (refine wpList_ld1 rfl 70 _ rfl HP.out rfl rfl Tryd.underlying70 rfl ?_) | (refine wpList_stR0 rfl 72 _ _ rfl HP.out rfl (cs' := [_, _, _]) rfl rfl (by simp [Value.oneCell']) (by kernel_rfl) ?_; clear HP; intro wst HP; replace HP := Lib.hid HP) | (go_at_call 49; refine (twhere_any p _ q2 f HFK.out _ (HP.out.rep (F := ⟨w, Lt w.heap.size⟩) (by simp) HR.out) HZ1.out (HH.out.keep HP.out.below rfl)).mono ?_; rintro e w6 ⟨v6, rfl, hv6, hb6⟩; replace HP := Lib.hid (HP.out.call hb6); obtain ⟨A6, c6, rfl, hc6, hm6, hx6⟩ := rep_ints_at hv6; unfold maxLen at hm6; have HX6 := Lib.hid hx6; clear hv6 hx6 hb6))
            (try simp only [Act.put, List.setIfInBounds_toArray, List.set_cons_zero, List.set_cons_succ])
            rw [whereL_len] at hc6
            rw [whereL_len]
            have HW6 : Hid (∀ q, q < f.code.length → ∃ a : Addr, A6 = some a ∧ Fresh wh w6 a.block ∧ w6.cell? (a.add q) = some (.int .i64 (whereZ f q))) := Lib.hid (fun q hq => by
              obtain ⟨a, h1, h2, h3⟩ := HX6.out q (by rw [whereL_len]; exact hq)
              refine ⟨a, h1, h2, ?_⟩
              rw [h3]
              congr 2
              simp [whereL])
            clear HX6 hcb
            have HPn := Lib.hid (HP.out.nil 85 5)
            clear HP
            obtain ⟨i_Ins, hi_Ins, hz_Ins, hs_Ins, hy_Ins⟩ := info_parts info_ins
            go_hide hQ
            go_loopw [68] (fun i wr => ∃ (j : Nat) (A3 : Option Addr) (c3 : Nat), j ≤ f.code.length ∧ i = .int .i64 j ∧ Hid (Hp w [{ w := w6, S := Fresh wh w6 }, { w := wf, S := Sf }, { w := w5, S := Fresh w4 w5 }, { w := w, S := Lt w.heap.size }] [Res.row (.slice A3 (trimC p f j).length c3) 85 5 (trimC p f j).length ((trimC p f j).flatMap insEnc), Res.blk g14 72 [.int .i64 f.params, .int .i64 f.regs, .slice A3 (trimC p f j).length c3], Res.blk g12 72 [.int .i64 f.params, .int .i64 f.regs, .slice A2 f.code.length c2], Res.row (.slice A' m c') 72 3 m (((trimL p q2).zip vs).flatMap funEnc), Res.blk g10 24 [.slice A' m c'], Res.blk gm 3 (List.map (Value.int .i64) os), Res.blk g2 24 [.slice none 0 0], Res.blk g1 24 [.slice (some ad) p.funcs.length c]] wr)) (fun i _ => f.code.length - (intOf i).toNat)
            case atStart => exact ⟨0, none, 0, by omega, rfl, HPn⟩
            case round =>
              clear HPn
              obtain ⟨j, A3, c3, hj, rfl, HP⟩ := hrel
              obtain ⟨wk, rfl⟩ : ∃ wk : World, wk = wr := ⟨_, rfl⟩
              obtain ⟨n, hnl⟩ : ∃ n, (trimC p f j).length = n := ⟨_, rfl⟩
              have hnj := trimC_len p f j
              rw [hnl] at hnj HP
              have HNL := Lib.hid hnl
              clear hnl
              by_cases hjl : j < f.code.length
              · obtain ⟨a4, rfl, hab4, hat4⟩ := HX2.out j hjl
                obtain ⟨x, hx⟩ : ∃ x, f.code[j] = x := ⟨_, rfl⟩
                rw [hx] at hat4
                have HXS := Lib.hid (show f.code[j]? = some x by rw [← hx, List.getElem?_eq_getElem hjl])
                have HOI := Lib.hid (HOF.out.ins x (hx ▸ List.getElem_mem hjl))
                have HAT4 := Lib.hid hat4
                have hjl2 : (j : Int) < (f.code.length : Int) := by omega
                clear hx hat4
                go_upto_region 24 with (first | (refine wpList_load_at rfl 85 _ rfl _ rfl _ _ (HP.out.at_ (F := ⟨w, Lt w.heap.size⟩) (by simp) HAT4.out (by rw [block_of_add]; exact hab4)) Tryd.underlying85 rfl (by kernel_rfl) ?_) | (refine wpList_alloc_hp (o := ⟨some 16, _, _, _, _, _⟩) rfl _ rfl HP.out (.agg #[.int .i64 0, .int .i64 0, .int .i64 0, .int .i64 0, .int .i64 0]) (by kernel_rfl) [_, _, _, _, _] rfl ?_; clear HP; intro g16 w16 HP; replace HP := Lib.hid HP) | (refine wpList_stR0 rfl 85 _ _ rfl HP.out rfl (cs' := [_, _, _, _, _]) rfl rfl (by simp [Value.oneCell']) (by kernel_rfl) ?_; clear HP; intro wst HP; replace HP := Lib.hid HP))
                (try simp only [Act.put, List.setIfInBounds_toArray, List.set_cons_zero, List.set_cons_succ])
                obtain ⟨a6, rfl, hab6, hc6'⟩ := HW6.out j hjl
                have hcw := (HP.out.alike (F := ⟨w6, Fresh wh w6⟩) (.head _) (a6.add j) (by rw [block_of_add]; exact hab6)).trans hc6'
                obtain ⟨b, hb⟩ : ∃ b, wayB f j = b := ⟨_, rfl⟩
                have HWB := Lib.hid hb
                clear hc6' hab6 hb
                cases b
                · rw [whereZ_no HWB.out] at hcw
                  go_wp2_with fail
                  go_roundw
                  case rel => exact ⟨j + 1, A3, c3, by omega, by go_num, Lib.hid (by rw [trimC_no HWB.out, HNL.out]; exact Hp.drop (A := []) HP.out)⟩
                  case measure => simp [intOf]; omega
                · rw [whereZ_yes HWB.out] at hcw
                  have hop := HP.out.cell (.head _) 0 _ rfl
                  by_cases h15 : x.op = 15 ∨ x.op = 16
                  · obtain ⟨t0, t1⟩ := HOI.out.tgt h15
                    obtain ⟨t, ht⟩ := Int.eq_ofNat_of_zero_le t0
                    have HTI := Lib.hid (show trimI p f x = { x with imm := whereZ f t } by unfold trimI; rw [if_pos h15, ht, Int.toNat_natCast])
                    rw [ht] at HP t0 t1
                    obtain ⟨a7, ha7, hab7, hc7⟩ := HW6.out t (by omega)
                    cases ha7
                    have hct := (HP.out.alike (F := ⟨w6, Fresh wh w6⟩) (.head _) (a6.add t) (by rw [block_of_add]; exact hab7)).trans hc7
                    obtain ⟨z, hz⟩ : ∃ z, whereZ f t = z := ⟨_, rfl⟩
                    rw [hz] at hct HTI
                    have him := HP.out.cell (.head _) 4 _ rfl
                    clear hc7 hab7 hz ht
                    rcases h15 with h15 | h15
                    all_goals
                      rw [h15] at hop
                      go_wp2_with (first | (refine wpList_st0 rfl 3 _ _ rfl HP.out rfl rfl (by simp) rfl rfl (by kernel_rfl) ?_; clear HP; intro wst HP; replace HP := Lib.hid HP) | (refine wpList_ld0 rfl 70 _ rfl HP.out rfl rfl Tryd.underlying70 rfl ?_) | (refine wpList_ld1 rfl 70 _ rfl HP.out rfl rfl Tryd.underlying70 rfl ?_) | (refine wpList_ld2 rfl 70 _ rfl HP.out rfl rfl Tryd.underlying70 rfl ?_) | (refine wpList_ldR0 rfl 85 _ rfl HP.out rfl Tryd.underlying85 rfl (by kernel_rfl) ?_) | (refine wpList_slice_hp rfl 70 85 1 _ rfl HP.out Tryd.underlying70 #[.int .i64 x.op, .int .i64 x.dst, .int .i64 x.a, .int .i64 x.b, .int .i64 z] (by kernel_rfl) ?_; clear HP; intro gi wi HP; replace HP := Lib.hid HP) | (at_builtin; refine wpList_app1 rfl _ _ 70 rfl i_Ins (.agg #[.int .i64 0, .int .i64 0, .int .i64 0, .int .i64 0, .int .i64 0]) Tryd.underlying70 hi_Ins hz_Ins hs_Ins rfl (by decide) hy_Ins (n + 1) (by omega) HP.out rfl rfl rfl (by simp [Value.oneCell']) (by unfold maxLen; omega) (by omega) ?_; clear HP; intro A4 c4 wap HP; replace HP := Lib.hid HP) | (refine wpList_st0 rfl 70 _ _ rfl HP.out rfl rfl (by simp) rfl rfl (by kernel_rfl) ?_; clear HP; intro wst HP; replace HP := Lib.hid HP) | (refine wpList_st1 rfl 70 _ _ rfl HP.out rfl rfl (by simp) rfl rfl (by kernel_rfl) ?_; clear HP; intro wst HP; replace HP := Lib.hid HP) | (refine wpList_st2 rfl 70 _ _ rfl HP.out rfl rfl (by simp) rfl rfl (by kernel_rfl) ?_; clear HP; intro wst HP; replace HP := Lib.hid HP))
                      go_roundw
                      case rel => exact ⟨j + 1, A4, c4, by omega, by go_num, Lib.hid (by
                          rw [trimC_yes HWB.out HXS.out, HTI.out, List.length_append, HNL.out, List.flatMap_append]
                          exact Hp.drop (A := []) HP.out)⟩
                      case measure => simp [intOf]; omega

                  · by_cases h17 : x.op = 17
                    · obtain ⟨t0, t1⟩ := HOI.out.cal h17
                      obtain ⟨t, ht⟩ := Int.eq_ofNat_of_zero_le t0
                      have HTI := Lib.hid (show trimI p f x = { x with imm := (numC p t : Int) } by unfold trimI; rw [if_neg h15, if_pos h17, ht, Int.toNat_natCast])
                      have hcal := callee_called HB.out hlt2 HFK.out HXS.out HWB.out h17 ht (by omega)
                      have hos := HOS.out.2 t (by omega) hcal
                      rw [ht] at HP t0 t1
                      obtain ⟨z, hz⟩ : ∃ z, (numC p t : Int) = z := ⟨_, rfl⟩
                      rw [hz] at hos HTI
                      have hct := HP.out.cell (.tail _ (.tail _ (.tail _ (.tail _ (.tail _ (.tail _ (.head _))))))) t (.int .i64 z) (by rw [List.getElem?_map, hos]; rfl)
                      have him := HP.out.cell (.head _) 4 _ rfl
                      clear hz ht hcal hos
                      rw [h17] at hop
                      go_wp2_with (first | (refine wpList_st0 rfl 3 _ _ rfl HP.out rfl rfl (by simp) rfl rfl (by kernel_rfl) ?_; clear HP; intro wst HP; replace HP := Lib.hid HP) | (refine wpList_ld0 rfl 70 _ rfl HP.out rfl rfl Tryd.underlying70 rfl ?_) | (refine wpList_ld1 rfl 70 _ rfl HP.out rfl rfl Tryd.underlying70 rfl ?_) | (refine wpList_ld2 rfl 70 _ rfl HP.out rfl rfl Tryd.underlying70 rfl ?_) | (refine wpList_ldR0 rfl 85 _ rfl HP.out rfl Tryd.underlying85 rfl (by kernel_rfl) ?_) | (refine wpList_slice_hp rfl 70 85 1 _ rfl HP.out Tryd.underlying70 #[.int .i64 x.op, .int .i64 x.dst, .int .i64 x.a, .int .i64 x.b, .int .i64 z] (by kernel_rfl) ?_; clear HP; intro gi wi HP; replace HP := Lib.hid HP) | (at_builtin; refine wpList_app1 rfl _ _ 70 rfl i_Ins (.agg #[.int .i64 0, .int .i64 0, .int .i64 0, .int .i64 0, .int .i64 0]) Tryd.underlying70 hi_Ins hz_Ins hs_Ins rfl (by decide) hy_Ins (n + 1) (by omega) HP.out rfl rfl rfl (by simp [Value.oneCell']) (by unfold maxLen; omega) (by omega) ?_; clear HP; intro A4 c4 wap HP; replace HP := Lib.hid HP) | (refine wpList_st0 rfl 70 _ _ rfl HP.out rfl rfl (by simp) rfl rfl (by kernel_rfl) ?_; clear HP; intro wst HP; replace HP := Lib.hid HP) | (refine wpList_st1 rfl 70 _ _ rfl HP.out rfl rfl (by simp) rfl rfl (by kernel_rfl) ?_; clear HP; intro wst HP; replace HP := Lib.hid HP) | (refine wpList_st2 rfl 70 _ _ rfl HP.out rfl rfl (by simp) rfl rfl (by kernel_rfl) ?_; clear HP; intro wst HP; replace HP := Lib.hid HP))
                      go_roundw
                      case rel => exact ⟨j + 1, A4, c4, by omega, by go_num, Lib.hid (by
                          rw [trimC_yes HWB.out HXS.out, HTI.out, List.length_append, HNL.out, List.flatMap_append]
                          exact Hp.drop (A := []) HP.out)⟩
                      case measure => simp [intOf]; omega

                    · have HTI := Lib.hid (show trimI p f x = x by unfold trimI; rw [if_neg h15, if_neg h17])
                      have b15 : (x.op == 15) = false := by rw [beq_eq_false_iff_ne]; exact fun h => h15 (.inl h)
                      have b16 : (x.op == 16) = false := by rw [beq_eq_false_iff_ne]; exact fun h => h15 (.inr h)
                      have b17 : (x.op == 17) = false := by rw [beq_eq_false_iff_ne]; exact h17
                      clear h15 h17
                      go_wp2_with (first | (refine wpList_ld0 rfl 70 _ rfl HP.out rfl rfl Tryd.underlying70 rfl ?_) | (refine wpList_ld1 rfl 70 _ rfl HP.out rfl rfl Tryd.underlying70 rfl ?_) | (refine wpList_ld2 rfl 70 _ rfl HP.out rfl rfl Tryd.underlying70 rfl ?_) | (refine wpList_ldR0 rfl 85 _ rfl HP.out rfl Tryd.underlying85 rfl (by kernel_rfl) ?_) | (refine wpList_slice_hp rfl 70 85 1 _ rfl HP.out Tryd.underlying70 #[.int .i64 x.op, .int .i64 x.dst, .int .i64 x.a, .int .i64 x.b, .int .i64 x.imm] (by kernel_rfl) ?_; clear HP; intro gi wi HP; replace HP := Lib.hid HP) | (at_builtin; refine wpList_app1 rfl _ _ 70 rfl i_Ins (.agg #[.int .i64 0, .int .i64 0, .int .i64 0, .int .i64 0, .int .i64 0]) Tryd.underlying70 hi_Ins hz_Ins hs_Ins rfl (by decide) hy_Ins (n + 1) (by omega) HP.out rfl rfl rfl (by simp [Value.oneCell']) (by unfold maxLen; omega) (by omega) ?_; clear HP; intro A4 c4 wap HP; replace HP := Lib.hid HP) | (refine wpList_st0 rfl 70 _ _ rfl HP.out rfl rfl (by simp) rfl rfl (by kernel_rfl) ?_; clear HP; intro wst HP; replace HP := Lib.hid HP) | (refine wpList_st1 rfl 70 _ _ rfl HP.out rfl rfl (by simp) rfl rfl (by kernel_rfl) ?_; clear HP; intro wst HP; replace HP := Lib.hid HP) | (refine wpList_st2 rfl 70 _ _ rfl HP.out rfl rfl (by simp) rfl rfl (by kernel_rfl) ?_; clear HP; intro wst HP; replace HP := Lib.hid HP))
                      go_roundw
                      case rel => exact ⟨j + 1, A4, c4, by omega, by go_num, Lib.hid (by
                          rw [trimC_yes HWB.out HXS.out, HTI.out, List.length_append, HNL.out, List.flatMap_append]
                          exact Hp.drop (A := []) HP.out)⟩
                      case measure => simp [intOf]; omega

              · obtain rfl : j = f.code.length := by omega
                have HLV := Lib.hid HV.out.1.len
                have HZIP := Lib.hid (show ((trimL p q2 ++ [trimF p f]).zip (vs ++ [.slice A3 n c3])).flatMap funEnc = ((trimL p q2).zip vs).flatMap funEnc ++ [.int .i64 f.params, .int .i64 f.regs, .slice A3 n c3] by
                  rw [List.zip_append HLV.out.symm, List.flatMap_append]; rfl)
                go_wp2_with fail
                subst hQ
                obtain ⟨i_Fun, hi_Fun, hz_Fun, hs_Fun, hy_Fun⟩ := info_parts info_fun
                go_wp2_with (first | (refine wpList_ld0 rfl 22 _ rfl HP.out rfl rfl Tryd.underlying22 rfl ?_) | (refine wpList_ld1 rfl 22 _ rfl HP.out rfl rfl Tryd.underlying22 rfl ?_) | (refine wpList_ld2 rfl 22 _ rfl HP.out rfl rfl Tryd.underlying22 rfl ?_) | (refine wpList_ld3 rfl 22 _ rfl HP.out rfl rfl Tryd.underlying22 rfl ?_) | (refine wpList_ld4 rfl 22 _ rfl HP.out rfl rfl Tryd.underlying22 rfl ?_) | (refine wpList_ldR0 rfl 72 _ rfl HP.out rfl Tryd.underlying72 rfl (by kernel_rfl) ?_) | (refine wpList_ldR1 rfl 72 _ rfl HP.out rfl Tryd.underlying72 rfl (by kernel_rfl) ?_) | (refine wpList_slice_hp rfl 22 72 1 _ rfl HP.out Tryd.underlying22 #[.int .i64 f.params, .int .i64 f.regs, .slice A3 n c3] (by kernel_rfl) ?_; clear HP; intro gi wi HP; replace HP := Lib.hid HP) | (at_builtin; refine wpList_app3 rfl _ _ 22 rfl i_Fun (.agg #[.int .i64 0, .int .i64 0, .slice none 0 0]) Tryd.underlying22 hi_Fun hz_Fun hs_Fun rfl (by decide) hy_Fun (m + 1) (by omega) HP.out rfl rfl rfl (by simp [Value.oneCell']) (by unfold maxLen; omega) (by omega) ?_; clear HP; intro A4 c4 wap HP; replace HP := Lib.hid HP) | (refine wpList_st0 rfl 22 _ _ rfl HP.out rfl rfl (by simp) rfl rfl (by kernel_rfl) ?_; clear HP; intro wst HP; replace HP := Lib.hid HP) | (refine wpList_st1 rfl 22 _ _ rfl HP.out rfl rfl (by simp) rfl rfl (by kernel_rfl) ?_; clear HP; intro wst HP; replace HP := Lib.hid HP) | (refine wpList_st2 rfl 22 _ _ rfl HP.out rfl rfl (by simp) rfl rfl (by kernel_rfl) ?_; clear HP; intro wst HP; replace HP := Lib.hid HP) | (refine wpList_st3 rfl 22 _ _ rfl HP.out rfl rfl (by simp) rfl rfl (by kernel_rfl) ?_; clear HP; intro wst HP; replace HP := Lib.hid HP) | (refine wpList_st4 rfl 22 _ _ rfl HP.out rfl rfl (by simp) rfl rfl (by kernel_rfl) ?_; clear HP; intro wst HP; replace HP := Lib.hid HP))
                go_roundw
                case rel =>
                  have H := HP.out.froDrop
                  have hr := Hp.rowOwn insEnc 5 rfl (by decide) (fun _ => rfl) (fun _ _ _ => rep_ins.2 rfl) H (.head _) rfl
                  have hs := FunsAt.snoc (A := []) HV.out.1 H (f := trimF p f) hr
                  have hz := Hp.drop (A := []) (Hp.drop (A := []) (Hp.freeze (A := []) H))
                  have hS : ∀ b, (Sf b ∨ (Res.row (.slice A3 n c3) 85 5 n ((trimC p f f.code.length).flatMap insEnc)).foot = some b) → w.heap.size ≤ b := fun b hb => Or.elim hb (HV.out.2 b) (fun h => ((H.own _ (.head _)).2 b h).1)
                  refine ⟨q2 + 1, A4, c4, vs ++ [.slice A3 n c3], _, fun b => Sf b ∨ (Res.row (.slice A3 n c3) 85 5 n ((trimC p f f.code.length).flatMap insEnc)).foot = some b, by omega, by go_num, Lib.hid ⟨by rw [trimL_yes HB.out HFK.out]; exact hs, hS⟩, Lib.hid ?_⟩
                  rw [trimL_yes HB.out HFK.out, List.length_append, HM.out, HZIP.out]
                  exact hz
                case measure => simp [intOf]; omega
        · obtain rfl : q2 = p.funcs.length := by omega
          go_wp2_with (first | (refine wpList_ldR0 rfl 24 _ rfl HP.out rfl Tryd.underlying24 rfl (by kernel_rfl) ?_) | (refine wpList_ldR1 rfl 24 _ rfl HP.out rfl Tryd.underlying24 rfl (by kernel_rfl) ?_) | (refine wpList_ldR2 rfl 24 _ rfl HP.out rfl Tryd.underlying24 rfl (by kernel_rfl) ?_) | (refine wpList_ldR3 rfl 24 _ rfl HP.out rfl Tryd.underlying24 rfl (by kernel_rfl) ?_) | (refine wpList_ldR4 rfl 24 _ rfl HP.out rfl Tryd.underlying24 rfl (by kernel_rfl) ?_) | (refine wpList_ldR5 rfl 24 _ rfl HP.out rfl Tryd.underlying24 rfl (by kernel_rfl) ?_) | (refine wpList_stR0 rfl 24 _ _ rfl HP.out rfl (cs' := [_]) rfl rfl (by simp [Value.oneCell']) (by kernel_rfl) ?_; clear HP; intro wst HP; replace HP := Lib.hid HP) | (refine wpList_stR1 rfl 24 _ _ rfl HP.out rfl (cs' := [_]) rfl rfl (by simp [Value.oneCell']) (by kernel_rfl) ?_; clear HP; intro wst HP; replace HP := Lib.hid HP) | (refine wpList_stR2 rfl 24 _ _ rfl HP.out rfl (cs' := [_]) rfl rfl (by simp [Value.oneCell']) (by kernel_rfl) ?_; clear HP; intro wst HP; replace HP := Lib.hid HP) | (refine wpList_stR3 rfl 24 _ _ rfl HP.out rfl (cs' := [_]) rfl rfl (by simp [Value.oneCell']) (by kernel_rfl) ?_; clear HP; intro wst HP; replace HP := Lib.hid HP) | (refine wpList_stR4 rfl 24 _ _ rfl HP.out rfl (cs' := [_]) rfl rfl (by simp [Value.oneCell']) (by kernel_rfl) ?_; clear HP; intro wst HP; replace HP := Lib.hid HP) | (refine wpList_stR5 rfl 24 _ _ rfl HP.out rfl (cs' := [_]) rfl rfl (by simp [Value.oneCell']) (by kernel_rfl) ?_; clear HP; intro wst HP; replace HP := Lib.hid HP))
          refine bodyPost_ret (results_cell_two rfl _ _ g2 24 #[.slice A' m c'] (0, 0) _ rfl (HP.out.blk (.tail _ (.tail _ (.tail _ (.head _))))) Tryd.underlying24 rfl (by kernel_rfl)) rfl ⟨_, by rw [HANS.out]; rfl, ?_, HP.out.below⟩
          rw [HANS.out]
          exact rep_prg.2 (HP.out.rowFuns (.head _) rfl HV.out.1 HV.out.2)
  · have hans : trimAns p = (⟨[]⟩, proven p) := by unfold trimAns; rw [if_pos hz]
    obtain ⟨e0, he0⟩ : ∃ e0, proven p = e0 := ⟨_, rfl⟩
    rw [he0] at hz hans
    have HANS := Lib.hid hans
    have HE0 := Lib.hid he0
    have hzb : (e0 != 0) = true := by simpa using hz
    clear he0 hz hans
    go_enter Tryd.func28, Tryd.ntmps28
    go_wp2_with (first | (refine wpList_box_hp (o := ⟨some 1, _, _, _, _, _⟩) rfl _ _ rfl HP.out [_] rfl ?_; clear HP; intro g1 w1 HP; replace HP := Lib.hid HP) | (refine wpList_alloc_hp (o := ⟨some 2, _, _, _, _, _⟩) rfl _ rfl HP.out (.agg #[.slice none 0 0]) (by kernel_rfl) [_] rfl ?_; clear HP; intro g2 w2 HP; replace HP := Lib.hid HP) | (refine wpList_ldR0 rfl 24 _ rfl HP.out rfl Tryd.underlying24 rfl (by kernel_rfl) ?_) | (refine wpList_ldR1 rfl 24 _ rfl HP.out rfl Tryd.underlying24 rfl (by kernel_rfl) ?_) | (refine wpList_ldR2 rfl 24 _ rfl HP.out rfl Tryd.underlying24 rfl (by kernel_rfl) ?_) | (refine wpList_stR0 rfl 24 _ _ rfl HP.out rfl (cs' := [_]) rfl rfl (by simp [Value.oneCell']) (by kernel_rfl) ?_; clear HP; intro wst HP; replace HP := Lib.hid HP) | (refine wpList_stR1 rfl 24 _ _ rfl HP.out rfl (cs' := [_]) rfl rfl (by simp [Value.oneCell']) (by kernel_rfl) ?_; clear HP; intro wst HP; replace HP := Lib.hid HP) | (refine wpList_stR2 rfl 24 _ _ rfl HP.out rfl (cs' := [_]) rfl rfl (by simp [Value.oneCell']) (by kernel_rfl) ?_; clear HP; intro wst HP; replace HP := Lib.hid HP) | (go_at_call 44; refine (proofCheck_any p _ _ (HP.out.rep (F := ⟨w, Lt w.heap.size⟩) (by simp) HR.out) (HH.out.keep HP.out.below rfl)).mono ?_; rintro e w4 ⟨rfl, hb⟩; replace HP := Lib.hid (HP.out.call0 hb); clear hb; rw [HE0.out]))
    refine bodyPost_ret (results_cell_two rfl _ _ g2 24 #[.slice none 0 0] (0, 0) _ rfl (HP.out.blk (.head _)) Tryd.underlying24 rfl (by kernel_rfl)) rfl ⟨_, by rw [HANS.out]; rfl, ?_, HP.out.below⟩
    rw [HANS.out]
    exact rep_prg.2 ⟨none, 0, rfl, Nat.le_refl _, by unfold maxLen; omega, fun k x h => by simp at h⟩
end Go.Proofs.YtfhoffpdodjfeaaDoor
