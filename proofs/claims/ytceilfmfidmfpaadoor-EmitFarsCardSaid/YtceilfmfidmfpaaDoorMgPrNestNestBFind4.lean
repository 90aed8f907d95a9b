/- proof.next, proof.sets. Rows of numbers that a row leads to: all owned. No program is named here. Rows of rows: closed facts; the shape of a row. slices.Contains, slices.BinarySearch: of numbers. -/
import Derived.Test.YtceilfmfidmfpaaDoorMgHpOpsHpRowHpB3
import Derived.Test.YtceilfmfidmfpaaDoorRows
import Derived.Test.YtceilfmfidmfpaaDoorMgMemData2
set_option linter.unusedSimpArgs false
set_option linter.unusedVariables false
namespace Go.Proofs.YtceilfmfidmfpaaDoor
open Go.RowKit
attribute [local irreducible] wpList Code.wp Oper.wp
def nextZ (x : Ins) (pc : Nat) : List Int := if x.op = 19 then [] else if x.op = 15 then [x.imm] else if x.op = 16 then [(pc : Int) + 1, x.imm] else [(pc : Int) + 1]
/-- What a call has made. -/
abbrev Fresh (w w' : World) : Nat → Prop := fun b => w.heap.size ≤ b ∧ b < w'.heap.size
theorem rep_ints_nil {w : World} {S : Nat → Prop} : Lay.rep w S ([] : List Int) [.slice none 0 0] := ⟨none, 0, rfl, Nat.le_refl _, by unfold maxLen; omega, fun k x h => by simp at h⟩
theorem Hp.ints {w0 w : World} {Fs : List Fro} {L : List Res} {g : Nat} {t : TypeId} {cs : List Value} {n : Nat} {xs : List Int} (h : Hp w0 Fs L w) (hm : Res.blk g t cs ∈ L) (hx : cs = xs.map (Value.int .i64)) (hn : n = xs.length) (hl : n ≤ maxLen) :
    Lay.rep w (Fresh w0 w) xs [.slice (some ⟨g, 0, none⟩) n n] := by
  subst hx hn
  exact rep_of_block (h.blk hm) ⟨((h.own _ hm).2 g rfl).1, ((h.own _ hm).2 g rfl).2.1⟩ (Nat.le_refl _) hl
set_option maxRecDepth 10000 in
set_option maxHeartbeats 400000 in
theorem next_any (f : Fun) (v : Value) (pc : Nat) (w : World) (hv : Lay.rep w (Lt w.heap.size) f.code [v]) (hpc : pc < f.code.length) :
    Calls Tryd.prog 64 #[.agg #[.int .i64 f.params, .int .i64 f.regs, v], .int .i64 pc] w fun e w' => ∃ u, e = .returned u ∧ Lay.rep w' (Fresh w w') (nextZ f.code[pc] pc) [u] ∧ Below w.heap.size w w' := by
  obtain ⟨A, c, rfl, hc, hm, hx⟩ := rep_code_at hv
  unfold maxLen at hm
  obtain ⟨a, rfl, hab, hat⟩ := hx pc hpc
  have HAT := Lib.hid hat
  clear hx hat
  have HP := Lib.hid (Hp.start w)
  go_enter Tryd.func64, Tryd.ntmps64
  go_wp2_with (first
    | (refine wpList_box_hp (o := ⟨some 2, _, _, _, _, _⟩) rfl _ _ rfl HP.out [_, _, _] rfl ?_; clear HP; intro g2 w1 HP; replace HP := Lib.hid HP)
    | (refine wpList_alloc_hp (o := ⟨some 5, _, _, _, _, _⟩) rfl _ rfl HP.out (.agg #[.int .i64 0, .int .i64 0, .int .i64 0, .int .i64 0, .int .i64 0]) (by kernel_rfl) [_, _, _, _, _] rfl ?_; clear HP; intro g5 w2 HP; replace HP := Lib.hid HP)
    | (refine wpList_ld0 rfl 45 _ rfl HP.out rfl rfl Tryd.underlying45 rfl ?_)
    | (refine wpList_ld0 rfl 3 _ rfl HP.out rfl rfl Tryd.underlying3 rfl ?_)
    | (refine wpList_load_at rfl 56 _ rfl _ rfl _ _ (HP.out.at_ (F := ⟨w, Lt w.heap.size⟩) (by simp) HAT.out (by rw [block_of_add]; exact hab)) Tryd.underlying56 rfl (by kernel_rfl) ?_)
    | (refine wpList_stR0 rfl 56 _ _ rfl HP.out rfl (cs' := [_, _, _, _, _]) rfl rfl (by simp [Value.oneCell']) (by kernel_rfl) ?_; clear HP; intro w3 HP; replace HP := Lib.hid HP)
    | (go_loud (refine wpList_ints_hp rfl 27 3 1 _ rfl HP.out Tryd.underlying27 [_] rfl (by kernel_rfl) ?_); clear HP; intro g8 w4 HP; replace HP := Lib.hid HP)
    | (refine wpList_ints_hp rfl 27 3 2 _ rfl HP.out Tryd.underlying27 [_, _] rfl (by kernel_rfl) ?_; clear HP; intro g8 w4 HP; replace HP := Lib.hid HP))
  all_goals
    go_ret
    refine ⟨_, rfl, ?_, HP.out.below⟩
    simp only [beq_iff_eq, beq_eq_false_iff_ne, ne_eq] at *
    unfold nextZ
    simp only [*, if_true, if_false]
    first | exact rep_ints_nil | exact HP.out.ints (.head _) rfl rfl (by unfold maxLen; decide)
set_option maxHeartbeats 400000 in
theorem sets_any (x : Ins) (w : World) :
    Calls Tryd.prog 63 #[.agg #[.int .i64 x.op, .int .i64 x.dst, .int .i64 x.a, .int .i64 x.b, .int .i64 x.imm]] w fun e w' => e = .returned (.bool (decide (x.op ≤ 13) || decide (x.op = 17) || decide (x.op = 18))) ∧ Below w.heap.size w w' := by
  have HP := Lib.hid (Hp.start w)
  go_enter Tryd.func63, Tryd.ntmps63
  go_wp2
  all_goals
    go_ret
    refine ⟨ret_bool ?_, HP.out.below.alloc (Nat.le_refl _) _⟩
    (try rw [Bool.eq_iff_iff]); (try simp [*]); (try omega)
end Go.Proofs.YtceilfmfidmfpaaDoor
namespace Go.Proofs.YtceilfmfidmfpaaDoor
open Go.RowKit
def nestB (t : TypeId) (gs : List Nat) (xss : List (List Int)) : List Res := (gs.zip xss).map fun x => .blk x.1 t (x.2.map (Value.int .i64))
def nestV (gs : List Nat) (xss : List (List Int)) : List Value := (gs.zip xss).map fun x => .slice (some ⟨x.1, 0, none⟩) x.2.length x.2.length
theorem nestV_len {gs : List Nat} {xss : List (List Int)} (h : gs.length = xss.length) : (nestV gs xss).length = xss.length := by
  unfold nestV; rw [List.length_map, List.length_zip, h]; exact Nat.min_self _
theorem nestV_get {gs : List Nat} {xss : List (List Int)} {k g : Nat} {xs : List Int} (h1 : gs[k]? = some g) (h2 : xss[k]? = some xs) : (nestV gs xss)[k]? = some (.slice (some ⟨g, 0, none⟩) xs.length xs.length) := by
  unfold nestV
  rw [List.getElem?_map, List.getElem?_zip_eq_some (z := (g, xs)) |>.2 ⟨h1, h2⟩]; rfl
theorem nestV_snoc {gs : List Nat} {xss : List (List Int)} (h : gs.length = xss.length) (g : Nat) (xs : List Int) : nestV (gs ++ [g]) (xss ++ [xs]) = nestV gs xss ++ [.slice (some ⟨g, 0, none⟩) xs.length xs.length] := by
  unfold nestV; rw [List.zip_append h, List.map_append]; rfl
theorem nestB_snoc {t : TypeId} {gs : List Nat} {xss : List (List Int)} (h : gs.length = xss.length) (g : Nat) (xs : List Int) : nestB t (gs ++ [g]) (xss ++ [xs]) = nestB t gs xss ++ [.blk g t (xs.map (Value.int .i64))] := by
  unfold nestB; rw [List.zip_append h, List.map_append]; rfl
theorem nestV_set {xs xs' : List Int} (hl : xs'.length = xs.length) : ∀ {gs : List Nat} {xss : List (List Int)} {k : Nat}, xss[k]? = some xs → nestV gs (xss.set k xs') = nestV gs xss
  | [], xss, k, h => by simp [nestV]
  | g :: gs, [], k, h => by simp at h
  | g :: gs, x :: xss, 0, h => by
    simp only [List.getElem?_cons_zero, Option.some.injEq] at h
    subst h
    simp [nestV, hl]
  | g :: gs, x :: xss, k + 1, h => by
    simp only [List.getElem?_cons_succ] at h
    have := nestV_set hl (gs := gs) h
    unfold nestV at this ⊢
    simp only [List.set_cons_succ, List.zip_cons_cons, List.map_cons, this]
theorem nestB_take {t : TypeId} {g : Nat} {xs : List Int} : ∀ {gs : List Nat} {xss : List (List Int)} {k : Nat}, gs[k]? = some g → xss[k]? = some xs →
    ∃ R : List Res, (nestB t gs xss).Perm (.blk g t (xs.map (Value.int .i64)) :: R) ∧ ∀ xs' : List Int, (nestB t gs (xss.set k xs')).Perm (.blk g t (xs'.map (Value.int .i64)) :: R)
  | [], xss, k, h1, h => by simp at h1
  | g0 :: gs, [], k, h1, h => by simp at h
  | g0 :: gs, x :: xss, 0, h1, h => by
    simp only [List.getElem?_cons_zero, Option.some.injEq] at h1 h
    subst h1 h
    exact ⟨nestB t gs xss, .refl _, fun xs' => .refl _⟩
  | g0 :: gs, x :: xss, k + 1, h1, h => by
    simp only [List.getElem?_cons_succ] at h1 h
    obtain ⟨R, e1, e2⟩ := nestB_take (t := t) h1 h
    exact ⟨.blk g0 t (x.map (Value.int .i64)) :: R, (e1.cons _).trans (.swap _ _ _), fun xs' => ((e2 xs').cons _).trans (.swap _ _ _)⟩
/-- A row is put where none was yet. -/
theorem nest_put {gs : List Nat} {xss : List (List Int)} {q n m g : Nat} {xs : List Int} (hg : gs.length = q) (hx : xss.length = q) (hq : q < n) (hm : xs.length = m) :
    (nestV gs xss ++ List.replicate (n - q) (Value.slice none 0 0)).set q (.slice (some ⟨g, 0, none⟩) m m) = nestV (gs ++ [g]) (xss ++ [xs]) ++ List.replicate (n - (q + 1)) (Value.slice none 0 0) := by
  subst hx hm
  have h1 := nestV_len hg
  rw [nestV_snoc hg, List.set_append_right _ _ (by omega), h1, Nat.sub_self, show n - xss.length = (n - (xss.length + 1)) + 1 by omega, List.replicate_succ, List.set_cons_zero]
  simp
theorem nest_putLen {gs : List Nat} {xss : List (List Int)} {q n : Nat} (hg : gs.length = q) (hx : xss.length = q) (hq : q < n) : q < (nestV gs xss ++ List.replicate (n - q) (Value.slice none 0 0)).length := by
  rw [List.length_append, nestV_len (by rw [hg, hx]), hx, List.length_replicate]; omega
theorem Hp.froKeep {w0 w : World} {Fs Fs' : List Fro} {L : List Res} (h : Hp w0 Fs L w) (hs : ∀ F ∈ Fs', F ∈ Fs) : Hp w0 Fs' L w :=
  ⟨h.below, fun F hF => h.fro F (hs F hF), fun r hr => ⟨(h.own r hr).1, fun b hb => ⟨((h.own r hr).2 b hb).1, ((h.own r hr).2 b hb).2.1, fun F hF => ((h.own r hr).2 b hb).2.2 F (hs F hF)⟩⟩, h.apart⟩
/-- A loop's measure that lies in a state's cells. -/
def profMu (g : Nat) (wr : World) : Nat := 2 * (intOf ((wr.cell? ⟨g, 19, none⟩).getD undef)).toNat + (if intOf ((wr.cell? ⟨g, 0, none⟩).getD undef) = 0 then 1 else 0)
theorem profMu_of {g : Nat} {wr : World} {n m : Int} (h1 : wr.cell? ⟨g, 19, none⟩ = some (.int .i64 n)) (h2 : wr.cell? ⟨g, 0, none⟩ = some (.int .i64 m)) : profMu g wr = 2 * n.toNat + (if m = 0 then 1 else 0) := by
  unfold profMu; rw [h1, h2]; rfl
section
variable {w0 w : World} {Fs : List Fro} {L : List Res}
/-- The k-th row comes to the front; and goes back. -/
theorem Hp.nestTake {t : TypeId} {gs : List Nat} {xss : List (List Int)} {k g : Nat} {xs : List Int} (h : Hp w0 Fs (L ++ nestB t gs xss) w) (h1 : gs[k]? = some g) (h2 : xss[k]? = some xs) :
    ∃ R, Hp w0 Fs (.blk g t (xs.map (Value.int .i64)) :: (L ++ R)) w ∧ ∀ (w' : World) (L' : List Res) (xs' : List Int), Hp w0 Fs (.blk g t (xs'.map (Value.int .i64)) :: (L' ++ R)) w' → Hp w0 Fs (L' ++ nestB t gs (xss.set k xs')) w' := by
  obtain ⟨R, e1, e2⟩ := nestB_take (t := t) h1 h2
  exact ⟨R, h.perm ((List.Perm.append_left L e1).trans List.perm_middle), fun w' L' xs' H => H.perm ((List.perm_middle.symm).trans (List.Perm.append_left L' (e2 xs').symm))⟩
/-- A new row, made in front, goes behind the others. -/
theorem Hp.nestSnoc {t : TypeId} {gs : List Nat} {xss : List (List Int)} {g : Nat} {xs : List Int} (hl : gs.length = xss.length) (h : Hp w0 Fs (.blk g t (xs.map (Value.int .i64)) :: (L ++ nestB t gs xss)) w) : Hp w0 Fs (L ++ nestB t (gs ++ [g]) (xss ++ [xs])) w := by
  rw [nestB_snoc hl, ← List.append_assoc]
  exact h.perm (List.perm_append_comm (l₁ := [_]))
theorem Hp.blkInts {t : TypeId} {g : Nat} {xs : List Int} (h : Hp w0 Fs L w) (hm : Res.blk g t (xs.map (Value.int .i64)) ∈ L) (hl : xs.length ≤ maxLen) : Lay.rep w (Fresh w0 w) xs [.slice (some ⟨g, 0, none⟩) xs.length xs.length] := h.ints hm rfl rfl hl
/-- The row of rows, as data. -/
theorem Hp.nestRep {t e : TypeId} {v : Value} {n : Nat} {gs : List Nat} {xss : List (List Int)} (h : Hp w0 Fs L w) (hm : Res.row v e 1 n (nestV gs xss) ∈ L) (hl : gs.length = xss.length) (hin : ∀ r ∈ nestB t gs xss, r ∈ L) (hmx : ∀ xs ∈ xss, xs.length ≤ maxLen) :
    Lay.rep w (Fresh w0 w) xss [v] := by
  have ho := h.row hm
  have hf := (h.own _ hm).2
  have hn : xss.length = n := by have := ho.1; rwa [nestV_len hl, Nat.mul_one] at this
  subst hn
  rcases ho.2 with ⟨rfl, hn⟩ | ⟨g, cap, cur, rfl, hb, hg, hle, hx, hs, ht⟩
  · have : xss = [] := List.length_eq_zero_iff.1 hn
    subst this
    exact ⟨none, 0, rfl, Nat.le_refl _, by unfold maxLen; omega, fun k x h => by simp at h⟩
  · refine ⟨_, _, rfl, hle, hx, fun k xs hk => ?_⟩
    have hkl : k < xss.length := (List.getElem?_eq_some_iff.1 hk).1
    obtain ⟨gk, hgk⟩ : ∃ gk, gs[k]? = some gk := ⟨gs[k]'(by omega), List.getElem?_eq_getElem _⟩
    refine ⟨_, [.slice (some ⟨gk, 0, none⟩) xs.length xs.length], rfl, ⟨(hf g rfl).1, (hf g rfl).2.1⟩, fun j u hu => ?_, h.blkInts (t := t) (hin _ ?_) (hmx _ (List.mem_of_getElem? hk))⟩
    · have hj : j = 0 := by have := (List.getElem?_eq_some_iff.1 hu).1; simpa using this
      subst hj
      simp only [List.getElem?_cons_zero, Option.some.injEq] at hu
      subst hu
      have := ho.cells (g := g) rfl k _ (nestV_get hgk hk)
      rw [add_of_add]
      show w.cell? ((⟨g, 0, none⟩ : Addr).add (k * 1 + 0)) = _
      rwa [Nat.mul_one, Nat.add_zero]
    · unfold nestB
      exact List.mem_map.2 ⟨(gk, xs), List.mem_of_getElem? (List.getElem?_zip_eq_some.2 ⟨hgk, hk⟩), rfl⟩
end
end Go.Proofs.YtceilfmfidmfpaaDoor
namespace Go.Proofs.YtceilfmfidmfpaaDoor
open Go.RowKit
theorem info_ints : (Tryd.prog.info? 27).map (fun i => (i.zero, i.size, i.bytes)) = some (some (.slice none 0 0), 1, 24) := by kernel_rfl
theorem rep_rows_nil {w : World} {S : Nat → Prop} : Lay.rep w S ([] : List (List Int)) [.slice none 0 0] := ⟨none, 0, rfl, Nat.le_refl _, by unfold maxLen; omega, fun k x h => by simp at h⟩
theorem Hp.rowShape {w0 w : World} {Fs : List Fro} {L : List Res} {v : Value} {e : TypeId} {sz n : Nat} {cs : List Value} (h : Hp w0 Fs L w) (hm : Res.row v e sz n cs ∈ L) : ∃ A c, v = .slice A n c ∧ (0 < n → ∃ g, A = some ⟨g, 0, none⟩) := by
  rcases (h.row hm).2 with ⟨rfl, hn⟩ | ⟨g, cap, cur, rfl, _⟩
  · subst hn; exact ⟨none, 0, rfl, fun h => absurd h (by omega)⟩
  · exact ⟨_, cap, rfl, fun _ => ⟨g, rfl⟩⟩
theorem nestB_len {t : TypeId} {gs : List Nat} {xss : List (List Int)} : nestB t gs xss = (gs.zip xss).map fun x => .blk x.1 t (x.2.map (Value.int .i64)) := rfl
end Go.Proofs.YtceilfmfidmfpaaDoor
namespace Go.Proofs.YtceilfmfidmfpaaDoor
open Go.RowKit
attribute [local irreducible] wpList Code.wp Oper.wp
set_option maxRecDepth 10000 in
set_option maxHeartbeats 1000000 in
theorem Index_any (l : List Int) (v : Value) (n : Int) (w : World) (hv : Lay.rep w (Lt w.heap.size) l [v]) :
    Calls Tryd.prog 45 #[v, .int .i64 n] w fun e w' => (∃ k : Int, e = .returned (.int .i64 k) ∧ (0 ≤ k ↔ n ∈ l)) ∧ w = w' := by
  obtain ⟨A, c, rfl, hc, hm, hx⟩ := rep_ints_at hv
  unfold maxLen at hm
  have HX := Lib.hid hx
  clear hx hv
  go_enter Tryd.func45, Tryd.ntmps45
  go_wp2
  go_loop [8] (fun i => ∃ (k : Nat), k ≤ l.length ∧ i = .int .i64 k ∧ Hid (n ∉ l.take k)) (fun i => l.length - (intOf i).toNat)
  case atStart => exact ⟨0, by omega, rfl, Lib.hid (by simp)⟩
  case round =>
    obtain ⟨k, hk, rfl, HN⟩ := hrel
    by_cases hlt : k < l.length
    · have hlt2 : (k : Int) < (l.length : Int) := by omega
      obtain ⟨a, rfl, hab, hca⟩ := HX.out k hlt
      obtain ⟨x, hx⟩ : ∃ x, l[k] = x := ⟨_, rfl⟩
      replace hca := hca.trans (congrArg (fun z => some (Value.int IntKind.i64 z)) hx)
      have HXK := Lib.hid hx
      clear hx
      by_cases hxn : n = x
      · have hb : (n == x) = true := by simpa using hxn
        have HM := Lib.hid (show n ∈ l by rw [hxn, ← HXK.out]; exact List.getElem_mem hlt)
        clear hxn
        go_wp2
        go_ret
        exact ⟨⟨k, rfl, ⟨fun _ => HM.out, fun _ => by omega⟩⟩, rfl⟩
      · have hb : (n == x) = false := by simpa using hxn
        have HM := Lib.hid (show n ∉ l.take (k + 1) by
          rw [List.take_add_one, List.getElem?_eq_getElem hlt, HXK.out]
          intro h
          rcases List.mem_append.1 h with h | h
          · exact HN.out h
          · simp at h; exact hxn h)
        clear hxn
        go_wp2
        go_round
        case rel => exact ⟨k + 1, by omega, by go_num, HM⟩
        case measure => simp [intOf]; omega
    · obtain rfl : k = l.length := by omega
      have HM := Lib.hid (show n ∉ l by have h := HN.out; rw [List.take_length] at h; exact h)
      go_wp2
      go_ret
      exact ⟨⟨-1, rfl, ⟨fun h => absurd h (by decide), fun h => absurd h HM.out⟩⟩, rfl⟩
set_option maxRecDepth 10000 in
set_option maxHeartbeats 1000000 in
theorem Contains_any (l : List Int) (v : Value) (n : Int) (w : World) (hv : Lay.rep w (Lt w.heap.size) l [v]) :
    Calls Tryd.prog 28 #[v, .int .i64 n] w fun e w' => e = .returned (.bool (decide (n ∈ l))) ∧ w = w' := by
  have HV := Lib.hid hv
  clear hv
  go_enter Tryd.func28, Tryd.ntmps28
  go_wp2_with (go_at_call 45; refine (Index_any l _ n _ HV.out).mono ?_; rintro e w2 ⟨⟨k, rfl, hk⟩, rfl⟩)
  go_ret
  exact ⟨by rw [show decide (n ∈ l) = decide (0 ≤ k) from decide_eq_decide.2 hk.symm]; rfl, rfl⟩
theorem isNaNs_any (a : Int) (w : World) : Calls Tryd.prog 48 #[.int .i64 a] w fun e w' => e = .returned (.bool false) ∧ w = w' := by
  go_enter Tryd.func48, Tryd.ntmps48
  go_wp2
  go_ret
  exact ⟨rfl, rfl⟩
theorem isNaNc_any (a : Int) (w : World) : Calls Tryd.prog 67 #[.int .i64 a] w fun e w' => e = .returned (.bool false) ∧ w = w' := by
  go_enter Tryd.func67, Tryd.ntmps67
  go_wp2
  go_ret
  exact ⟨rfl, rfl⟩
theorem cmpLess_any (a b : Int) (w : World) : Calls Tryd.prog 47 #[.int .i64 a, .int .i64 b] w fun e w' => e = .returned (.bool (decide (a < b))) ∧ w = w' := by
  go_enter Tryd.func47, Tryd.ntmps47
  go_wp2_with (go_at_call 67; refine (isNaNc_any _ _).mono ?_; rintro e w2 ⟨rfl, rfl⟩)
  go_ret
  exact ⟨by simp, rfl⟩
set_option maxRecDepth 10000 in
set_option maxHeartbeats 1000000 in
theorem BinarySearch_any (l : List Int) (v : Value) (n : Int) (k : Nat) (hk : l[k]? = some n) (hs : l.Pairwise (· < ·)) (hl : l.length ≤ 1000) (w : World) (hv : Lay.rep w (Lt w.heap.size) l [v]) :
    Calls Tryd.prog 30 #[v, .int .i64 n] w fun e w' => e = .returned (.tuple #[.int .i64 k, .bool true]) ∧ w = w' := by
  obtain ⟨A, c, rfl, hc, hm, hx⟩ := rep_ints_at hv
  unfold maxLen at hm
  have HX := Lib.hid hx
  have HS := Lib.hid (List.pairwise_iff_getElem.1 hs)
  obtain ⟨hkl, hkn⟩ := List.getElem?_eq_some_iff.1 hk
  have HKN := Lib.hid hkn
  clear hx hv hs hk hkn
  go_enter Tryd.func30, Tryd.ntmps30
  go_wp2
  go_loop [7, 8] (fun i j => ∃ (a b : Nat), a ≤ k ∧ k ≤ b ∧ b ≤ l.length ∧ i = .int .i64 a ∧ j = .int .i64 b) (fun i j => (intOf j - intOf i).toNat)
  case atStart => exact ⟨0, l.length, by omega, by omega, by omega, rfl, rfl⟩
  case round =>
    obtain ⟨a, b, ha, hb, hbl, rfl, rfl⟩ := hrel
    by_cases hab : a < b
    · have hab2 : (a : Int) < (b : Int) := by omega
      obtain ⟨h, hh⟩ : ∃ h : Nat, (a + b) / 2 = h := ⟨_, rfl⟩
      have hhl : h < l.length := by omega
      have hhl2 : (h : Int) < (l.length : Int) := by omega
      obtain ⟨ad, rfl, hab3, hca⟩ := HX.out h hhl
      obtain ⟨x, hx⟩ : ∃ x, l[h] = x := ⟨_, rfl⟩
      replace hca := hca.trans (congrArg (fun z => some (Value.int IntKind.i64 z)) hx)
      have HXE := Lib.hid hx
      have HH := Lib.hid hh
      have hmid : ((a : Int) + (b : Int)) / 2 = (h : Int) := by omega
      clear hx
      by_cases hlk : h < k
      · have HXN := Lib.hid (show decide (x < n) = true from decide_eq_true (by rw [← HXE.out, ← HKN.out]; exact HS.out h k hhl hkl hlk))
        go_wp2_with (go_at_call 47; refine (cmpLess_any _ _ _).mono ?_; rintro e w2 ⟨rfl, rfl⟩; rw [HXN.out])
        go_round
        case rel => exact ⟨h + 1, b, by omega, hb, hbl, by go_num, rfl⟩
        case measure => simp [intOf]; omega
      · have HXN := Lib.hid (show decide (x < n) = false from decide_eq_false (by
          rw [← HXE.out, ← HKN.out]
          rcases Nat.lt_or_ge k h with h1 | h1
          · have := HS.out k h hkl hhl h1; omega
          · obtain rfl : h = k := by omega
            omega))
        go_wp2_with (go_at_call 47; refine (cmpLess_any _ _ _).mono ?_; rintro e w2 ⟨rfl, rfl⟩; rw [HXN.out])
        go_round
        case rel => exact ⟨a, h, ha, by omega, by omega, rfl, by go_num⟩
        case measure => simp [intOf]; omega
    · obtain rfl : a = k := by omega
      obtain rfl : a = b := by omega
      have hkl2 : (a : Int) < (l.length : Int) := by omega
      obtain ⟨ad, rfl, hab3, hca⟩ := HX.out a hkl
      replace hca := hca.trans (congrArg (fun z => some (Value.int IntKind.i64 z)) HKN.out)
      go_wp2_with (go_at_call 48; refine (isNaNs_any _ _).mono ?_; rintro e w2 ⟨rfl, rfl⟩)
      (try simp only [Exit.inBlock, Exit.then])
      refine bodyPost_ret (results_tmp2 (by rfl) _ _ _) (by rfl) ⟨rfl, rfl⟩
end Go.Proofs.YtceilfmfidmfpaaDoor
