/- P6.2: the function that did most, the first one of several. No program is named here. ref.Numbers, ref.StateCopy; the law's states. -/
import Derived.Test.YtfhoffpdodjfeaaDoorProfLaw
import Derived.Test.YtfhoffpdodjfeaaDoorMgReadsOfStateNextLaw3
set_option linter.unusedSimpArgs false
set_option linter.unusedVariables false
namespace Go.Proofs.YtfhoffpdodjfeaaDoor
open Go.RowKit Plain64
/-- The first place of the largest number. -/
structure TopAt (l : List Int) (b : Nat) (m : Int) : Prop where
  here : l[b]? = some m
  most : ∀ (j : Nat) x, l[j]? = some x → x ≤ m
  first : ∀ (j : Nat) x, j < b → l[j]? = some x → x < m
theorem TopAt.unique {l : List Int} {b c : Nat} {m n : Int} (h : TopAt l b m) (k : TopAt l c n) : b = c ∧ m = n := by
  have e : m = n := Int.le_antisymm (k.most b m h.here) (h.most c n k.here)
  subst e
  refine ⟨?_, rfl⟩
  rcases Nat.lt_trichotomy b c with h1 | h1 | h1
  · have := k.first b m h1 h.here; omega
  · exact h1
  · have := h.first c m h1 k.here; omega
/-- What the first i numbers gave. -/
def HotUp (l : List Int) (i : Nat) (b m : Int) : Prop := (i = 0 ∧ b = 0 ∧ m = -1) ∨ ∃ k : Nat, b = k ∧ TopAt (l.take i) k m
theorem HotUp.start (l : List Int) : HotUp l 0 0 (-1) := .inl ⟨rfl, rfl, rfl⟩
theorem take_get {l : List Int} {i j : Nat} {x : Int} (h : (l.take i)[j]? = some x) : j < i ∧ l[j]? = some x := by
  rw [List.getElem?_take] at h
  by_cases h1 : j < i
  · rw [if_pos h1] at h; exact ⟨h1, h⟩
  · rw [if_neg h1] at h; cases h
theorem get_take {l : List Int} {i j : Nat} {x : Int} (h1 : j < i) (h : l[j]? = some x) : (l.take i)[j]? = some x := by
  rw [List.getElem?_take, if_pos h1]; exact h
theorem HotUp.yes {l : List Int} {i : Nat} {b m n : Int} (h : HotUp l i b m) (hn : l[i]? = some n) (h0 : 0 ≤ n) (hm : m < n) : HotUp l (i + 1) i n := by
  refine .inr ⟨i, rfl, get_take (by omega) hn, fun j x hx => ?_, fun j x hj hx => ?_⟩
  · obtain ⟨h1, h2⟩ := take_get hx
    rcases Nat.lt_or_ge j i with h3 | h3
    · rcases h with ⟨rfl, _, _⟩ | ⟨k, _, hk⟩
      · omega
      · have := hk.most j x (get_take h3 h2); omega
    · obtain rfl : j = i := by omega
      rw [hn] at h2; cases h2; exact Int.le_refl _
  · obtain ⟨h1, h2⟩ := take_get hx
    rcases h with ⟨rfl, _, _⟩ | ⟨k, _, hk⟩
    · omega
    · have := hk.most j x (get_take hj h2); omega
theorem HotUp.no {l : List Int} {i : Nat} {b m n : Int} (h : HotUp l i b m) (hn : l[i]? = some n) (h0 : 0 ≤ n) (hm : ¬ m < n) : HotUp l (i + 1) b m := by
  rcases h with ⟨rfl, _, rfl⟩ | ⟨k, rfl, hk⟩
  · omega
  · have hki := take_get hk.here
    refine .inr ⟨k, rfl, get_take (by omega) hki.2, fun j x hx => ?_, fun j x hj hx => ?_⟩
    · obtain ⟨h1, h2⟩ := take_get hx
      rcases Nat.lt_or_ge j i with h3 | h3
      · exact hk.most j x (get_take h3 h2)
      · obtain rfl : j = i := by omega
        rw [hn] at h2; cases h2; omega
    · obtain ⟨h1, h2⟩ := take_get hx
      exact hk.first j x hj (get_take (by omega) h2)
theorem HotUp.done {l : List Int} {b m : Int} (h : HotUp l l.length b m) (hl : 0 < l.length) : ∃ k : Nat, b = k ∧ TopAt l k m := by
  rcases h with ⟨h, _, _⟩ | ⟨k, e, hk⟩
  · omega
  · rw [List.take_length] at hk; exact ⟨k, e, hk⟩
/-- What the numbers from i on gave. -/
def HotDn (l : List Int) (i : Nat) (b m : Int) : Prop := (i = l.length ∧ b = l.length - 1 ∧ m = 0) ∨ ∃ k : Nat, i ≤ k ∧ b = k ∧ l[k]? = some m ∧ (∀ (j : Nat) x, i ≤ j → l[j]? = some x → x ≤ m) ∧ ∀ (j : Nat) x, i ≤ j → j < k → l[j]? = some x → x < m
theorem HotDn.start (l : List Int) : HotDn l l.length (l.length - 1) 0 := .inl ⟨rfl, rfl, rfl⟩
theorem HotDn.yes {l : List Int} {i : Nat} {b m n : Int} (h : HotDn l (i + 1) b m) (hn : l[i]? = some n) (hm : m ≤ n) : HotDn l i i n := by
  refine .inr ⟨i, Nat.le_refl _, rfl, hn, fun j x hj hx => ?_, fun j x h1 h2 _ => by omega⟩
  rcases Nat.lt_or_ge i j with h3 | h3
  · rcases h with ⟨h4, _, _⟩ | ⟨k, _, _, _, h5, _⟩
    · have := (List.getElem?_eq_some_iff.1 hx).1; omega
    · have := h5 j x h3 hx; omega
  · obtain rfl : j = i := by omega
    rw [hn] at hx; cases hx; exact Int.le_refl _
theorem HotDn.no {l : List Int} {i : Nat} {b m n : Int} (h : HotDn l (i + 1) b m) (hn : l[i]? = some n) (h0 : 0 ≤ n) (hm : ¬ m ≤ n) : HotDn l i b m := by
  rcases h with ⟨h4, _, rfl⟩ | ⟨k, h1, rfl, h2, h5, h6⟩
  · omega
  · refine .inr ⟨k, by omega, rfl, h2, fun j x hj hx => ?_, fun j x h1 h2 hx => ?_⟩
    · rcases Nat.lt_or_ge i j with h3 | h3
      · exact h5 j x h3 hx
      · obtain rfl : j = i := by omega
        rw [hn] at hx; cases hx; omega
    · rcases Nat.lt_or_ge i j with h3 | h3
      · exact h6 j x h3 h2 hx
      · obtain rfl : j = i := by omega
        rw [hn] at hx; cases hx; omega
theorem HotDn.done {l : List Int} {b m : Int} (h : HotDn l 0 b m) (hl : 0 < l.length) : ∃ k : Nat, b = k ∧ TopAt l k m := by
  rcases h with ⟨h, _, _⟩ | ⟨k, _, e, h2, h5, h6⟩
  · omega
  · exact ⟨k, e, h2, fun j x hx => h5 j x (Nat.zero_le _) hx, fun j x hj hx => h6 j x (Nat.zero_le _) hj hx⟩
/-- Rows of small numbers, none of them long. -/
def SmallR (xs : List Int) : Prop := xs.length ≤ 1000 ∧ ∀ x ∈ xs, 0 ≤ x ∧ x ≤ 10001
theorem sum_snoc {xs : List Int} {k : Nat} {x : Int} (h : xs[k]? = some x) : (xs.take (k + 1)).sum = (xs.take k).sum + x := by
  rw [List.take_add_one, h, List.sum_append]; simp
theorem sum_bound : ∀ {xs : List Int}, (∀ x ∈ xs, 0 ≤ x ∧ x ≤ 10001) → 0 ≤ xs.sum ∧ xs.sum ≤ 10001 * xs.length
  | [], _ => by simp
  | x :: xs, h => by
    have h1 := h x (by simp)
    have h2 := sum_bound (xs := xs) (fun y hy => h y (by simp [hy]))
    rw [List.sum_cons, List.length_cons]
    omega
theorem SmallR.sum {xs : List Int} (h : SmallR xs) (k : Nat) : 0 ≤ (xs.take k).sum ∧ (xs.take k).sum ≤ 10001000 := by
  have h1 := sum_bound (xs := xs.take k) (fun x hx => h.2 x (List.mem_of_mem_take hx))
  have h2 : (xs.take k).length ≤ 1000 := Nat.le_trans (by rw [List.length_take]; exact Nat.min_le_right _ _) h.1
  omega
def sumsL (l : List (List Int)) : List Int := l.map List.sum
theorem sumsL_get {l : List (List Int)} {i : Nat} {xs : List Int} (h : l[i]? = some xs) : (sumsL l)[i]? = some xs.sum := by unfold sumsL; rw [List.getElem?_map, h]; rfl
theorem cntL_small {p : Prg} {T : List (Nat × Nat)} (hT : T.length ≤ 10001) (hc : ∀ i, i < p.funcs.length → codeN p i ≤ 1000) : ∀ xs ∈ cntL p T, SmallR xs := fun xs hxs => by
  obtain ⟨i, hi, rfl⟩ := List.mem_map.1 hxs
  refine ⟨by rw [cntR_len]; exact hc i (List.mem_range.1 hi), fun x hx => ?_⟩
  obtain ⟨j, _, rfl⟩ := List.mem_map.1 hx
  have := count_le T (i, j)
  omega
theorem counts_ok {p : Prg} {xs ys : List Int} {fuel : Int} (h : (countsAns p xs ys fuel).2 = 0) : 0 < (countsAns p xs ys fuel).1.length ∧ (countsAns p xs ys fuel).1.length ≤ 4 ∧ ∀ r ∈ (countsAns p xs ys fuel).1, SmallR r := by
  unfold countsAns at h ⊢
  by_cases hz : (begunAns p xs ys fuel).2 ≠ 0
  · rw [if_pos hz] at h; exact absurd h hz
  · rw [if_neg hz]
    have hz : (begunAns p xs ys fuel).2 = 0 := by simpa using hz
    obtain ⟨hb1, hpz, hyl, hfu⟩ := begun_ok hz
    have ok := okP_of (proven_prg hpz)
    obtain ⟨n1, n2⟩ := ok.len
    refine ⟨by show 0 < (cntL _ _).length; rw [cntL_len]; omega, by show (cntL _ _).length ≤ 4; rw [cntL_len]; exact n2, cntL_small ?_ ?_⟩
    · have h1 := trS_len p (begunAns p xs ys fuel).1
      have h2 : (begunAns p xs ys fuel).1.fuel = fuel := by rw [hb1]; rfl
      rw [h2] at h1
      omega
    · intro i hi
      rw [codeN_eq (List.getElem?_eq_getElem hi)]
      have := (ok.fns _ (List.getElem_mem hi)).len.2
      omega
theorem counts_bad {p : Prg} {xs ys : List Int} {fuel : Int} (h : (countsAns p xs ys fuel).2 ≠ 0) : (countsAns p xs ys fuel).1 = [] := by
  unfold countsAns at h ⊢
  by_cases hz : (begunAns p xs ys fuel).2 ≠ 0
  · rw [if_pos hz]
  · rw [if_neg hz] at h; exact absurd rfl h
def hotP (l : List (List Int)) (e b m : Int) : Prop := if e = 0 then ∃ k : Nat, b = k ∧ TopAt (sumsL l) k m else b = 0 ∧ m = 0
theorem hotP.unique {l : List (List Int)} {e b m c n : Int} (h : hotP l e b m) (k : hotP l e c n) : b = c ∧ m = n := by
  unfold hotP at h k
  by_cases he : e = 0
  · rw [if_pos he] at h k
    obtain ⟨i, rfl, hi⟩ := h
    obtain ⟨j, rfl, hj⟩ := k
    obtain ⟨rfl, rfl⟩ := hi.unique hj
    exact ⟨rfl, rfl⟩
  · rw [if_neg he] at h k
    rw [h.1, h.2, k.1, k.2]; exact ⟨rfl, rfl⟩
end Go.Proofs.YtfhoffpdodjfeaaDoor
namespace Go.Proofs.YtfhoffpdodjfeaaDoor
open Go.RowKit
attribute [local irreducible] wpList Code.wp Oper.wp
set_option maxRecDepth 10000 in
set_option maxHeartbeats 1000000 in
theorem Numbers_own (xs : List Int) (u : Value) (w : World) (hx : Lay.rep w (Lt w.heap.size) xs [u]) (hb : xs.length ≤ 17592186044000) :
    Calls Tryd.prog 48 #[u] w fun e w' => ∃ v, e = .returned v ∧ Hp w [⟨w, Lt w.heap.size⟩] [.row v 3 1 xs.length (xs.map (Value.int .i64))] w' := by
  obtain ⟨A, c, rfl, hc, hm, hx⟩ := rep_ints_at hx
  unfold maxLen at hm
  have HX := Lib.hid hx
  clear hx
  obtain ⟨i_int, hi_int, hz_int, hs_int, hy_int⟩ := info_parts info_int
  have HP := Lib.hid ((Hp.start w).nil 3 1)
  go_enter Tryd.func48, Tryd.ntmps48
  go_wp2
  go_loopw [3, 4] (fun v i wr => ∃ (k : Nat) (A' : Option Addr) (c' : Nat), k ≤ xs.length ∧ v = .slice A' k c' ∧ i = .int .i64 k ∧ Hid (Hp w [{ w := w, S := Lt w.heap.size }] [Res.row (.slice A' k c') 3 1 (k) (List.map (Value.int IntKind.i64) (xs.take k))] wr)) (fun _ i _ => xs.length - (intOf i).toNat)
  case atStart => exact ⟨0, none, 0, by omega, rfl, rfl, HP⟩
  case round =>
    clear HP
    obtain ⟨k, A', c', hk, rfl, rfl, HP⟩ := hrel
    obtain ⟨wo, rfl⟩ : ∃ wo : World, wo = wr := ⟨_, rfl⟩
    by_cases hlt : k < xs.length
    · obtain ⟨a, rfl, hab, hca⟩ := HX.out k hlt
      have hcw := (HP.out.alike (F := ⟨w, Lt w.heap.size⟩) (.head _) (a.add k) (by rw [block_of_add]; exact hab)).trans hca
      have hlt2 : (k : Int) < (xs.length : Int) := by omega
      have HTK := Lib.hid (show xs.take (k + 1) = xs.take k ++ [xs[k]] by rw [List.take_add_one, List.getElem?_eq_getElem hlt]; rfl)
      obtain ⟨x, hx⟩ : ∃ x, xs[k] = x := ⟨_, rfl⟩
      rw [hx] at hcw HTK
      clear hx hca
      go_wp2_with (first | (refine wpList_ints_hp rfl 25 3 1 _ rfl HP.out Tryd.underlying25 [_] rfl (by kernel_rfl) ?_; clear HP; intro gi wi HP; replace HP := Lib.hid HP) | (at_builtin; refine wpList_apg0 rfl _ _ 25 rfl i_int (.int .i64 0) Tryd.underlying25 hi_int hz_int hs_int rfl (by decide) hy_int (k + 1) rfl HP.out rfl rfl rfl (by simp [Value.oneCell']) (by unfold maxLen; omega) (by omega) (by omega) ?_; clear HP; intro gap cap wap HP; replace HP := Lib.hid HP))
      go_roundw
      case rel => exact ⟨k + 1, _, _, by omega, rfl, by go_num, Lib.hid (by rw [HTK.out, List.map_append]; exact HP.out)⟩
      case measure => simp [intOf]; omega
    · obtain rfl : k = xs.length := by omega
      go_wp2
      go_ret
      exact ⟨_, rfl, by have := HP.out; rwa [List.take_of_length_le (Nat.le_refl _)] at this⟩
theorem Numbers_any (xs : List Int) (u : Value) (w : World) (hx : Lay.rep w (Lt w.heap.size) xs [u]) (hb : xs.length ≤ 17592186044000) :
    Calls Tryd.prog 48 #[u] w fun e w' => ∃ v, e = .returned v ∧ Lay.rep w' (Fresh w w') xs [v] ∧ Below w.heap.size w w' :=
  (Numbers_own xs u w hx hb).mono fun _ _ ⟨v, he, H⟩ => ⟨v, he, H.rowInts (.head _) rfl, H.below⟩
/-- What a state's rows are, owned. -/
abbrev ownS (s : Sta) (u e a : Value) : List Res := [.row u 75 14 s.frames.length (s.frames.flatMap frmCells), .row e 3 1 s.events.length (s.events.map (Value.int .i64)), .row a 3 1 s.answers.length (s.answers.map (Value.int .i64))]
theorem info_Frm : (Tryd.prog.info? 75).map (fun i => (i.zero, i.size, i.bytes)) = some (some (.agg #[.int .i64 0, .int .i64 0, .int .i64 0, .int .i64 0, .int .i64 0, .int .i64 0, .int .i64 0, .int .i64 0, .int .i64 0, .int .i64 0, .int .i64 0, .int .i64 0, .int .i64 0, .int .i64 0]), 14, 112) := by kernel_rfl
set_option maxRecDepth 10000 in
set_option maxHeartbeats 1000000 in
theorem StateCopy_own (s : Sta) (u e a : Value) (w : World) (hf : Lay.rep w (Lt w.heap.size) s.frames [u]) (he : Lay.rep w (Lt w.heap.size) s.events [e]) (ha : Lay.rep w (Lt w.heap.size) s.answers [a]) (hlf : s.frames.length ≤ 1256584717421) (hle : s.events.length ≤ 17592186044000) (hla : s.answers.length ≤ 17592186044000) :
    Calls Tryd.prog 53 #[.agg (staCells s u e a).toArray] w fun r w' => ∃ u' e' a', r = .returned (.agg (staCells s u' e' a').toArray) ∧ Hp w [⟨w, Lt w.heap.size⟩] (ownS s u' e' a') w' := by
  obtain ⟨A, c, rfl, hc, hm, hx⟩ := rep_frames_at hf
  unfold maxLen at hm
  have HX := Lib.hid hx
  have HE := Lib.hid he
  have HAN := Lib.hid ha
  clear hx hf he ha
  unfold staCells
  have HP := Lib.hid ((Hp.start w).nil 75 14)
  obtain ⟨i_Frm, hi_Frm, hz_Frm, hs_Frm, hy_Frm⟩ := info_parts info_Frm
  go_enter Tryd.func53, Tryd.ntmps53
  go_wp2_with (first | (refine wpList_alloc_hp (o := ⟨some 2, _, _, _, _, _⟩) rfl _ rfl HP.out (.agg #[.int .i64 0, .int .i64 0, .slice none 0 0, .int .i64 0, .int .i64 0, .int .i64 0, .int .i64 0, .int .i64 0, .int .i64 0, .int .i64 0, .int .i64 0, .int .i64 0, .int .i64 0, .int .i64 0, .int .i64 0, .int .i64 0, .int .i64 0, .int .i64 0, .int .i64 0, .int .i64 0, .slice none 0 0, .slice none 0 0]) (by kernel_rfl) [_, _, _, _, _, _, _, _, _, _, _, _, _, _, _, _, _, _, _, _, _, _] rfl ?_; clear HP; intro g2 w2 HP; replace HP := Lib.hid HP) | (refine wpList_box_hp (o := ⟨some 1, _, _, _, _, _⟩) rfl _ _ rfl HP.out [_, _, _, _, _, _, _, _, _, _, _, _, _, _, _, _, _, _, _, _, _, _] rfl ?_; clear HP; intro g1 w1 HP; replace HP := Lib.hid HP))
  go_loopw [3, 4] (fun v i wr => ∃ (k : Nat) (A' : Option Addr) (c' : Nat), k ≤ s.frames.length ∧ v = .slice A' k c' ∧ i = .int .i64 k ∧ Hid (Hp w [{ w := w, S := Lt w.heap.size }] [Res.blk g2 29 [iV 0, iV 0, .slice none 0 0, iV 0, iV 0, iV 0, iV 0, iV 0, iV 0, iV 0, iV 0, iV 0, iV 0, iV 0, iV 0, iV 0, iV 0, iV 0, iV 0, iV 0, .slice none 0 0, .slice none 0 0], Res.blk g1 29 (staCells s (.slice A s.frames.length c) e a), Res.row (.slice A' k c') 75 14 (k) ((s.frames.take k).flatMap frmCells)] wr)) (fun _ i _ => s.frames.length - (intOf i).toNat)
  case atStart => exact ⟨0, none, 0, by omega, rfl, rfl, HP⟩
  case round =>
    clear HP
    obtain ⟨k, A', c', hk, rfl, rfl, HP⟩ := hrel
    obtain ⟨wo, rfl⟩ : ∃ wo : World, wo = wr := ⟨_, rfl⟩
    unfold staCells at HP
    by_cases hlt : k < s.frames.length
    · obtain ⟨ad, rfl, hab, hat⟩ := HX.out k hlt
      have hlt2 : (k : Int) < (s.frames.length : Int) := by omega
      have HTK := Lib.hid (show s.frames.take (k + 1) = s.frames.take k ++ [s.frames[k]] by rw [List.take_add_one, List.getElem?_eq_getElem hlt]; rfl)
      obtain ⟨x, hx⟩ : ∃ x, s.frames[k] = x := ⟨_, rfl⟩
      rw [hx] at hat HTK
      have HAT := Lib.hid (HP.out.at_ (F := ⟨w, Lt w.heap.size⟩) (.head _) hat (by rw [block_of_add]; exact hab))
      clear hx hat
      unfold frmCells at HAT
      go_wp2_with (first | (refine wpList_ld0 rfl 26 _ rfl HP.out rfl rfl Tryd.underlying26 rfl ?_) | (refine wpList_ld1 rfl 26 _ rfl HP.out rfl rfl Tryd.underlying26 rfl ?_) | (refine wpList_load_at rfl 75 _ rfl _ rfl _ _ HAT.out Tryd.underlying75 rfl (by kernel_rfl) ?_) | (refine wpList_slice_hp rfl 26 75 1 _ rfl HP.out Tryd.underlying26 (frmCells x).toArray (by kernel_rfl) ?_; clear HP; intro gi wi HP; replace HP := Lib.hid HP) | (at_builtin; refine wpList_app2 rfl _ _ 26 rfl i_Frm (.agg #[.int .i64 0, .int .i64 0, .int .i64 0, .int .i64 0, .int .i64 0, .int .i64 0, .int .i64 0, .int .i64 0, .int .i64 0, .int .i64 0, .int .i64 0, .int .i64 0, .int .i64 0, .int .i64 0]) Tryd.underlying26 hi_Frm hz_Frm hs_Frm rfl (by decide) hy_Frm (k + 1) (by omega) HP.out rfl rfl rfl (by simp [Value.oneCell', frmCells]) (by unfold maxLen; omega) (by omega) ?_; clear HP; intro A' c' wap HP; replace HP := Lib.hid HP))
      go_roundw
      case rel => exact ⟨k + 1, _, _, by omega, rfl, by go_num, Lib.hid (by rw [HTK.out, List.flatMap_append, show [x].flatMap frmCells = frmCells x by simp]; exact HP.out)⟩
      case measure => simp [intOf]; omega
    · obtain rfl : k = s.frames.length := by omega
      obtain ⟨AE, ce, rfl, hce, hme, -⟩ := rep_ints_at HE.out
      obtain ⟨AA, ca, rfl, hca, hma, -⟩ := rep_ints_at HAN.out
      go_wp2_with (first | (refine wpList_ld0 rfl 26 _ rfl HP.out rfl rfl Tryd.underlying26 rfl ?_) | (refine wpList_ld1 rfl 26 _ rfl HP.out rfl rfl Tryd.underlying26 rfl ?_) | (refine wpList_st0 rfl 26 _ _ rfl HP.out rfl rfl (by simp) rfl rfl (by kernel_rfl) ?_; clear HP; intro wst HP; replace HP := Lib.hid HP) | (refine wpList_st1 rfl 26 _ _ rfl HP.out rfl rfl (by simp) rfl rfl (by kernel_rfl) ?_; clear HP; intro wst HP; replace HP := Lib.hid HP) | (refine wpList_st0 rfl 25 _ _ rfl HP.out rfl rfl (by simp) rfl rfl (by kernel_rfl) ?_; clear HP; intro wst HP; replace HP := Lib.hid HP) | (refine wpList_st1 rfl 25 _ _ rfl HP.out rfl rfl (by simp) rfl rfl (by kernel_rfl) ?_; clear HP; intro wst HP; replace HP := Lib.hid HP) | (refine wpList_ld0 rfl 25 _ rfl HP.out rfl rfl Tryd.underlying25 rfl ?_) | (refine wpList_ld1 rfl 25 _ rfl HP.out rfl rfl Tryd.underlying25 rfl ?_) | (refine wpList_ldR0 rfl 29 _ rfl HP.out rfl Tryd.underlying29 rfl (by kernel_rfl) ?_) | (refine wpList_ldR1 rfl 29 _ rfl HP.out rfl Tryd.underlying29 rfl (by kernel_rfl) ?_) | (refine wpList_stR0 rfl 29 _ _ rfl HP.out rfl (cs' := staCells s (.slice A' s.frames.length c') (.slice A5 s.events.length c5) (.slice A6 s.answers.length c6)) rfl rfl (by simp [staCells, Value.oneCell']) (by kernel_rfl) ?_; clear HP; intro wst HP; replace HP := Lib.hid HP) | (go_at_call_of 48 (Value.slice AE s.events.length ce); refine (Numbers_own s.events _ _ (HP.out.rep (F := ⟨w, Lt w.heap.size⟩) (by simp) HE.out) hle).mono ?_; rintro e5 w5 ⟨v5, rfl, hb5⟩; obtain ⟨A5, c5, rfl, -, -, -⟩ := rep_ints_at (hb5.rowInts (.head _) rfl); replace HP := Lib.hid (by simpa only [List.cons_append, List.nil_append] using HP.out.takeEnd hb5); clear hb5) | (go_at_call_of 48 (Value.slice AA s.answers.length ca); refine (Numbers_own s.answers _ _ (HP.out.rep (F := ⟨w, Lt w.heap.size⟩) (by simp) HAN.out) hla).mono ?_; rintro e6 w6 ⟨v6, rfl, hb6⟩; obtain ⟨A6, c6, rfl, -, -, -⟩ := rep_ints_at (hb6.rowInts (.head _) rfl); replace HP := Lib.hid (by simpa only [List.cons_append, List.nil_append] using HP.out.takeEnd hb6); clear hb6))
      refine bodyPost_ret (results_cell_row rfl _ _ g2 29 (staCells s (.slice A' s.frames.length c') (.slice A5 s.events.length c5) (.slice A6 s.answers.length c6)).toArray (0, 0) _ rfl (HP.out.blk (.head _)) Tryd.underlying29 rfl (by kernel_rfl)) rfl ⟨_, _, _, rfl, ?_⟩
      have := (HP.out.drop (A := [])).drop (A := [])
      rw [List.take_of_length_le (Nat.le_refl _)] at this
      exact this
theorem StateCopy_any (s : Sta) (u e a : Value) (w : World) (hf : Lay.rep w (Lt w.heap.size) s.frames [u]) (he : Lay.rep w (Lt w.heap.size) s.events [e]) (ha : Lay.rep w (Lt w.heap.size) s.answers [a]) (hlf : s.frames.length ≤ 1256584717421) (hle : s.events.length ≤ 17592186044000) (hla : s.answers.length ≤ 17592186044000) :
    Calls Tryd.prog 53 #[.agg (staCells s u e a).toArray] w fun r w' => ∃ u' e' a', r = .returned (.agg (staCells s u' e' a').toArray) ∧ Lay.rep w' (Fresh w w') s.frames [u'] ∧ Lay.rep w' (Fresh w w') s.events [e'] ∧ Lay.rep w' (Fresh w w') s.answers [a'] ∧ Below w.heap.size w w' :=
  (StateCopy_own s u e a w hf he ha hlf hle hla).mono fun _ _ ⟨u', e', a', hr, H⟩ => ⟨u', e', a', hr, H.rowFrames (.head _) rfl, H.rowInts (.tail _ (.head _)) rfl, H.rowInts (.tail _ (.tail _ (.head _))) rfl, H.below⟩
end Go.Proofs.YtfhoffpdodjfeaaDoor
