/- ref.AboveOf. -/
import Derived.Test.YtnabeibnaoahmaaDoorWithout
import Derived.Test.YtnabeibnaoahmaaDoorBlocksOf
set_option linter.unusedSimpArgs false
set_option linter.unusedVariables false
namespace Go.Proofs.YtnabeibnaoahmaaDoor
open Go.RowKit Plain64
attribute [local irreducible] wpList Code.wp Oper.wp
theorem sdB_eq {f : Fun} {g i : Nat} : sdB (EB f) g i = (!raB f g i && i != g) := by
  rw [Bool.eq_iff_iff, sdB_iff]
  unfold SD
  rw [Bool.and_eq_true, bne_iff_ne, Bool.not_eq_true', ← Bool.not_eq_true, raB_iff]
  exact ⟨fun h => ⟨h.2, fun e => h.1 e.symm⟩, fun h => ⟨fun e => h.2 e.symm, h.1⟩⟩
/-- How many of the first q stand above. -/
noncomputable def cntU (f : Fun) (q i : Nat) : Int := ((List.range q).countP fun h => sdB (EB f) h i : Nat)
theorem cntU_succ (f : Fun) (q i : Nat) : cntU f (q + 1) i = cntU f q i + if sdB (EB f) q i then 1 else 0 := by
  unfold cntU
  rw [List.range_succ, List.countP_append, List.countP_cons, List.countP_nil]
  split <;> simp_all
theorem cntU_range (f : Fun) (q i : Nat) : 0 ≤ cntU f q i ∧ cntU f q i ≤ q := by
  unfold cntU
  have := List.countP_le_length (p := fun h => sdB (EB f) h i) (l := List.range q)
  rw [List.length_range] at this
  omega
/-- What the first q say of the nearest one. -/
def OutUp (f : Fun) (m q x : Nat) (o : Int) : Prop := (o = -1 ∧ ∀ h, h < q → ¬ SD (EB f) h x) ∨ ∃ k : Nat, k < q ∧ o = k ∧ SD (EB f) k x ∧ ∀ h, h < q → SD (EB f) h x → cntSD (EB f) m h ≤ cntSD (EB f) m k
theorem OutUp.keep {f : Fun} {m q x : Nat} {o : Int} (h : OutUp f m q x o) (hn : ¬ SD (EB f) q x ∨ ∃ k : Nat, o = k ∧ cntSD (EB f) m q ≤ cntSD (EB f) m k) : OutUp f m (q + 1) x o := by
  rcases h with ⟨h1, h2⟩ | ⟨k, hk, rfl, hs, hm⟩
  · rcases hn with hn | ⟨k, e, _⟩
    · refine .inl ⟨h1, fun g hg => ?_⟩
      by_cases e : g = q
      · subst e; exact hn
      · exact h2 g (by omega)
    · omega
  · refine .inr ⟨k, by omega, rfl, hs, fun g hg hsg => ?_⟩
    by_cases e : g = q
    · subst e
      rcases hn with hn | ⟨k', e, hle⟩
      · exact absurd hsg hn
      · have : k = k' := by omega
        exact this ▸ hle
    · exact hm g (by omega) hsg
theorem OutUp.put {f : Fun} {m q x : Nat} {o : Int} (h : OutUp f m q x o) (hs : SD (EB f) q x) (hn : o < 0 ∨ ∃ k : Nat, o = k ∧ cntSD (EB f) m k < cntSD (EB f) m q) : OutUp f m (q + 1) x q := by
  refine .inr ⟨q, by omega, rfl, hs, fun g hg hsg => ?_⟩
  by_cases e : g = q
  · subst e; exact Nat.le_refl _
  · rcases h with ⟨h1, h2⟩ | ⟨k, hk, rfl, _, hm⟩
    · exact absurd hsg (h2 g (by omega))
    · have h3 := hm g (by omega) hsg
      rcases hn with hn | ⟨k', e2, hlt⟩
      · omega
      · have : k = k' := by omega
        subst this; omega
theorem OutUp.done {f : Fun} {funcs : Nat} (ok : OkF f funcs) (he : endsAt f = false) {x : Nat} {o : Int} (hx : x < (headsL f).length) (h : OutUp f (headsL f).length (headsL f).length x o) : o = abvZ f x := by
  have hr : ∀ j, j < (headsL f).length → Rch0 (EB f) j := fun j hj => blk_rch ok he hj
  have hE : ∀ i k, EB f i k → k < (headsL f).length := fun i k h => h.2.1
  have h0 := headsL_pos ok
  rcases h with ⟨rfl, h2⟩ | ⟨k, hk, rfl, hs, hm⟩
  · by_cases e : x = 0
    · subst e; exact (abvZ_zero f).symm
    · exact absurd (zero_sd e) (h2 0 h0)
  · have hx0 : x ≠ 0 := fun e => by subst e; exact sd_zero hs
    rw [abvZ_eq ok he hx0 (abv_of_max hr hE h0 hx hs (fun g hg => hm g (sd_lt hE h0 (hr x hx) hg) hg)) hk]
set_option maxRecDepth 100000 in
set_option maxHeartbeats 4000000 in
theorem AboveOf_any (p : Prg) (u : Value) (fn : Int) (w : World) (hp : Lay.rep w (Lt w.heap.size) p [u]) :
    Calls Tryd.prog 21 #[.agg #[u], .int .i64 fn] w fun e w' => ∃ v, e = .returned (.tuple #[v, .int .i64 (aboveAns p fn).2]) ∧ Lay.rep w' (Fresh w w') (aboveAns p fn).1 [v] ∧ Below w.heap.size w w' := by
  have HR := Lib.hid hp
  clear hp
  obtain ⟨i_int, hi_int, hz_int, hs_int, hy_int⟩ := info_parts info_int
  have HP := Lib.hid (Hp.start w)
  by_cases hz : proven p = 0
  · have hpf := proven_prgL hz
    have ok := okP_of hpf
    by_cases hfn : 0 ≤ fn ∧ fn < p.funcs.length
    · obtain ⟨f1, f2⟩ := hfn
      obtain ⟨k, hk⟩ := Int.eq_ofNat_of_zero_le f1
      have hkl : k < p.funcs.length := by omega
      obtain ⟨f, hf⟩ : ∃ f, p.funcs[k] = f := ⟨_, rfl⟩
      have hfm : f ∈ p.funcs := hf ▸ List.getElem_mem hkl
      have hfk : p.funcs[k]? = some f := by rw [← hf, List.getElem?_eq_getElem hkl]
      have HANS := Lib.hid (show aboveAns p fn = (abvL f, 0) by rw [hk]; exact above_in hz hfk)
      have HBA := Lib.hid (show blocksAns p fn = (blksL f, 0) by rw [hk]; exact blocks_in hz hfk)
      have HOF := Lib.hid (ok.fns f hfm)
      have HEE := Lib.hid (proven_ends hz hfm)
      obtain ⟨m, hmm⟩ : ∃ m, (headsL f).length = m := ⟨_, rfl⟩
      have hmp : 0 < m := hmm ▸ headsL_pos HOF.out
      have hml : m ≤ 40 := by have h1 := headsL_len f; have h2 := HOF.out.len.2; omega
      have hbl : (blksL f).length = m := by rw [blksL_len, hmm]
      have HM := Lib.hid hmm
      have HRL := Lib.hid (show ∀ g : Nat, (raL f g).length = m from fun g => by unfold raL; rw [List.length_map, List.length_range, hmm])
      clear hz hpf hf hfm hfk hmm f1 f2 hk hkl ok
      rw [HANS.out]
      go_enter Tryd.func21, Tryd.ntmps21
      go_upto_region 5 with (first | (refine wpList_box_hp (o := ⟨some 2, _, _, _, _, _⟩) rfl _ _ rfl HP.out [_] rfl ?_; clear HP; intro g2 w2 HP; replace HP := Lib.hid HP) | (refine wpList_ldR0 rfl 24 _ rfl HP.out rfl Tryd.underlying24 rfl (by kernel_rfl) ?_) | (go_at_call 13; refine (BlocksOf_any p _ fn _ (HP.out.rep (F := ⟨w, Lt w.heap.size⟩) (by simp) HR.out)).mono ?_; rintro e w3 ⟨v3, rfl, hv3, hb⟩; replace HP := Lib.hid (HP.out.call hb); have HV3 := Lib.hid hv3; clear hb hv3; rw [HBA.out] at HV3 ⊢))
      obtain ⟨A3, c3, rfl, hc3, hm3, -⟩ := rep_bks_at HV3.out
      unfold maxLen at hm3
      rw [hbl] at HV3 hc3 ⊢
      obtain ⟨G3, HP, HS3⟩ : ∃ G : Fro, Hid (Hp w [G, ⟨w, Lt w.heap.size⟩] [.blk g2 24 [u]] _) ∧ Hid (Lay.rep G.w G.S (blksL f) [.slice A3 m c3]) := ⟨_, HP, HV3⟩
      clear HV3 hbl
      go_upto_region 7 with (first | (refine wpList_make_hp (o := ⟨some 28, _, _, _, _, _⟩) rfl _ _ _ rfl _ i_int (.int .i64 0) Tryd.underlying25 hi_int hz_int rfl hs_int m rfl rfl (by rw [hy_int]; omega) (by unfold maxLen; omega) HP.out ?_; clear HP; intro gc wc0 HP; replace HP := Lib.hid HP))
      rw [← List.map_replicate] at HP
      replace HP := Lib.hid (HP.out.nil 3 1)
      go_loopw [8, 10] (fun o i wr => ∃ (q : Nat) (ov : Value), q ≤ m ∧ i = .int .i64 q ∧ ov = o ∧ Hid (Hp w [G3, ⟨w, Lt w.heap.size⟩] [.row ov 3 1 q ((List.replicate q (-1 : Int)).map (Value.int .i64)), .blk gc 3 ((List.replicate m (0 : Int)).map (Value.int .i64)), .blk g2 24 [u]] wr)) (fun _ i _ => m - (intOf i).toNat)
      case atStart => exact ⟨0, _, by omega, rfl, rfl, HP⟩
      case round =>
        clear HP
        obtain ⟨q, ov, hq9, rfl, rfl, HP⟩ := hrel
        obtain ⟨wo, rfl⟩ : ∃ wo : World, wo = wr := ⟨_, rfl⟩
        by_cases hq : q < m
        · have hq2 : (q : Int) < (m : Int) := by omega
          go_wp2_with (first | (refine wpList_ints_hp rfl 25 3 1 _ rfl HP.out Tryd.underlying25 [_] rfl (by kernel_rfl) ?_; clear HP; intro gi wi HP; replace HP := Lib.hid HP) | (at_builtin; refine wpList_app0 rfl _ _ 25 rfl i_int (.int .i64 0) Tryd.underlying25 hi_int hz_int hs_int rfl (by decide) hy_int (q + 1) rfl HP.out rfl rfl rfl (by simp [Value.oneCell']) (by unfold maxLen; omega) (by omega) ?_; clear HP; intro A' c' wap HP; replace HP := Lib.hid HP))
          rw [show (List.replicate q (-1 : Int)).map (Value.int .i64) ++ List.map (Value.int .i64) [-1] = (List.replicate (q + 1) (-1 : Int)).map (Value.int .i64) by rw [List.replicate_succ', List.map_append]] at HP
          go_roundw
          case rel => exact ⟨q + 1, _, by omega, by go_num, rfl, HP⟩
          case measure => simp [intOf]; omega
        · obtain rfl : q = m := by omega
          obtain ⟨gO, cO, hov⟩ := HP.out.rowSome (.head _) hmp
          subst hov
          have HC0 := Lib.hid (show (List.replicate q (0 : Int)).length = q ∧ ∀ x, x < q → (List.replicate q (0 : Int))[x]? = some (cntU f 0 x) from ⟨by simp, fun x hx => by rw [List.getElem?_replicate, if_pos hx]; rfl⟩)
          go_wp2
          go_loopw [11] (fun i wr => ∃ (n : Nat) (cs : List Int), n ≤ q ∧ i = .int .i64 n ∧ Hid (cs.length = q ∧ ∀ x, x < q → cs[x]? = some (cntU f n x)) ∧ Hid (Hp w [G3, ⟨w, Lt w.heap.size⟩] [.row (.slice (some ⟨gO, 0, none⟩) q cO) 3 1 q ((List.replicate q (-1 : Int)).map (Value.int .i64)), .blk gc 3 (cs.map (Value.int .i64)), .blk g2 24 [u]] wr)) (fun i _ => q - (intOf i).toNat)
          case atStart => exact ⟨0, _, by omega, rfl, HC0, HP⟩
          case round =>
            clear HP HC0
            obtain ⟨n, cs, hn9, rfl, HCS, HP⟩ := hrel
            obtain ⟨t, ht⟩ : ∃ t, q = t := ⟨_, rfl⟩
            subst ht
            obtain ⟨wo2, rfl⟩ : ∃ wo : World, wo = wr := ⟨_, rfl⟩
            by_cases hn : n < q
            · have hn2 : (n : Int) < (q : Int) := by omega
              go_upto_region 14 with (first | (go_at_call 49; refine (without_any f _ HOF.out _ n (by rw [HM.out]; exact hn) _ (HP.out.rep (F := G3) (by simp) HS3.out)).mono ?_; rintro e w9 ⟨u9, rfl, hu9, hb9⟩; replace HP := Lib.hid (HP.out.call hb9); have HU := Lib.hid hu9; clear hb9 hu9))
              obtain ⟨A9, c9, rfl, hc9, hm9, -⟩ := rep_bools_at HU.out
              unfold maxLen at hm9
              rw [HRL.out] at HU hc9 ⊢
              obtain ⟨Gn, HP, HU⟩ : ∃ G : Fro, Hid (Hp w [G, G3, ⟨w, Lt w.heap.size⟩] [.row (.slice (some ⟨gO, 0, none⟩) q cO) 3 1 q ((List.replicate q (-1 : Int)).map (Value.int .i64)), .blk gc 3 (cs.map (Value.int .i64)), .blk g2 24 [u]] _) ∧ Hid (Lay.rep G.w G.S (raL f n) [.slice A9 q c9]) := ⟨_, HP, HU⟩
              go_wp2
              go_loopw [13] (fun iv wr => ∃ (i : Nat) (cs : List Int), i ≤ q ∧ iv = .int .i64 i ∧ Hid (cs.length = q ∧ ∀ x, x < q → cs[x]? = some (if x < i then cntU f (n + 1) x else cntU f n x)) ∧ Hid (Hp w [Gn, G3, ⟨w, Lt w.heap.size⟩] [.row (.slice (some ⟨gO, 0, none⟩) q cO) 3 1 q ((List.replicate q (-1 : Int)).map (Value.int .i64)), .blk gc 3 (cs.map (Value.int .i64)), .blk g2 24 [u]] wr)) (fun iv _ => q - (intOf iv).toNat)
              case atStart => exact ⟨0, cs, by omega, rfl, Lib.hid ⟨HCS.out.1, fun x hx => by rw [if_neg (by omega)]; exact HCS.out.2 x hx⟩, HP⟩
              case round =>
                clear HP HCS
                obtain ⟨i, cs, hi9, rfl, HCS, HP⟩ := hrel
                obtain ⟨wo3, rfl⟩ : ∃ wo : World, wo = wr := ⟨_, rfl⟩
                by_cases hi : i < q
                · have hi2 : (i : Int) < (q : Int) := by omega
                  obtain ⟨A10, c10, e10, -, -, hx10⟩ := rep_bools_at (HP.out.rep (F := Gn) (by simp) HU.out)
                  obtain ⟨a9, rfl, -, hcl⟩ := hx10 i (by rw [HRL.out]; exact hi)
                  clear hx10
                  obtain rfl : A9 = some a9 := (Value.slice.inj e10).1
                  clear e10
                  rw [show (raL f n)[i]'(by rw [HRL.out]; exact hi) = raB f n i by unfold raL; simp] at hcl
                  have hci := HCS.out.2 i hi
                  rw [if_neg (by omega)] at hci
                  have hcr := cntU_range f n i
                  have hcl0 : cs.length = q := HCS.out.1
                  obtain ⟨c0, hc0⟩ : ∃ c0, cntU f n i = c0 := ⟨_, rfl⟩
                  have HSU := Lib.hid (cntU_succ f n i)
                  rw [sdB_eq] at HSU
                  rw [hc0] at hci hcr HSU
                  have HCI := Lib.hid (show (cs.map (Value.int .i64))[i]? = some (.int .i64 c0) by rw [List.getElem?_map, hci]; rfl)
                  have HUP := Lib.hid (show ∀ (cs2 : List Int), cs2.length = q → (∀ x, x ≠ i → cs2[x]? = cs[x]?) → cs2[i]? = some (cntU f (n + 1) i) → (cs2.length = q ∧ ∀ x, x < q → cs2[x]? = some (if x < i + 1 then cntU f (n + 1) x else cntU f n x)) from fun cs2 h1 h2 h3 => ⟨h1, fun x hx => by
                    by_cases e : x = i
                    · subst e; rw [if_pos (by omega)]; exact h3
                    · rw [h2 x e, HCS.out.2 x hx]
                      by_cases e2 : x < i
                      · rw [if_pos e2, if_pos (by omega)]
                      · rw [if_neg e2, if_neg (by omega)]⟩)
                  obtain ⟨sb, hsb⟩ : ∃ sb, raB f n i = sb := ⟨_, rfl⟩
                  rw [hsb] at hcl HSU
                  clear hsb hc0
                  cases sb with
                  | true =>
                    have HSM := Lib.hid (HUP.out cs hcl0 (fun _ _ => rfl) (by rw [hci, HSU.out]; simp))
                    go_wp2
                    go_roundw
                    case rel => exact ⟨i + 1, cs, by omega, by go_num, HSM, HP⟩
                    case measure => simp [intOf]; omega
                  | false =>
                    by_cases hin : i = n
                    · have hb : ((i : Int) != (n : Int)) = false := by simp; omega
                      have HSM := Lib.hid (HUP.out cs hcl0 (fun _ _ => rfl) (by rw [hci, HSU.out, hin]; simp))
                      have hbi : (i == n) = true := by simpa using hin
                      clear hin hci hcr
                      go_wp2
                      go_roundw
                      case rel => exact ⟨i + 1, cs, by omega, by go_num, HSM, HP⟩
                      case measure => simp [intOf]; omega
                    · have hb : ((i : Int) != (n : Int)) = true := by simp; omega
                      have hw1 : IntKind.i64.wrap (c0 + 1) = c0 + 1 := by rw [IntKind.wrap_i64]; omega
                      have hbn : (i != n) = true := by simpa using hin
                      have HSM := Lib.hid (HUP.out (cs.set i (c0 + 1)) (by rw [List.length_set]; exact hcl0) (fun x hx => List.getElem?_set_ne (Ne.symm hx)) (by rw [List.getElem?_set_self (by omega), HSU.out, hbn]; rfl))
                      clear hci hcr hin hbn
                      go_wp2_with (first | (refine wpList_ld1 rfl 3 _ rfl HP.out rfl HCI.out Tryd.underlying3 rfl ?_) | (refine wpList_st1 rfl 3 _ _ rfl HP.out rfl rfl (by rw [List.length_map, hcl0]; exact hi) rfl (List.map_set ..).symm (by kernel_rfl) ?_; clear HP; intro wst HP; replace HP := Lib.hid HP))
                      go_roundw
                      case rel => exact ⟨i + 1, cs.set i (c0 + 1), by omega, by go_num, HSM, (by first | exact HP | (rw [hw1] at HP; exact HP))⟩
                      case measure => simp [intOf]; omega
                · obtain rfl : i = q := by omega
                  have HSM := Lib.hid (show cs.length = i ∧ ∀ x, x < i → cs[x]? = some (cntU f (n + 1) x) from ⟨HCS.out.1, fun x hx => by rw [HCS.out.2 x hx, if_pos hx]⟩)
                  go_wp2
                  go_roundw
                  case rel => exact ⟨n + 1, cs, by omega, by go_num, HSM, Lib.hid HP.out.froDrop⟩
                  case measure => simp [intOf]; omega
            · obtain rfl : n = q := by omega
              have HCT := Lib.hid (show ∀ x, x < n → cs[x]? = some ((cntSD (EB f) n x : Nat) : Int) from fun x hx => HCS.out.2 x hx)
              have hcsl : cs.length = n := HCS.out.1
              go_wp2
              go_loopw [14] (fun iv wr => ∃ (g : Nat) (os : List Int), g ≤ n ∧ iv = .int .i64 g ∧ Hid (os.length = n ∧ ∀ x, x < n → ∃ o, os[x]? = some o ∧ OutUp f n g x o) ∧ Hid (Hp w [G3, ⟨w, Lt w.heap.size⟩] [.row (.slice (some ⟨gO, 0, none⟩) n cO) 3 1 n (os.map (Value.int .i64)), .blk gc 3 (cs.map (Value.int .i64)), .blk g2 24 [u]] wr)) (fun iv _ => n - (intOf iv).toNat)
              case atStart => exact ⟨0, _, by omega, rfl, Lib.hid ⟨List.length_replicate .., fun x hx => ⟨-1, by rw [List.getElem?_replicate, if_pos hx], .inl ⟨rfl, fun h hh => by omega⟩⟩⟩, HP⟩
              case round =>
                clear HP HCS
                obtain ⟨g, os, hg9, rfl, HOS, HP⟩ := hrel
                obtain ⟨wo4, rfl⟩ : ∃ wo : World, wo = wr := ⟨_, rfl⟩
                by_cases hg : g < n
                · have hg2 : (g : Int) < (n : Int) := by omega
                  have HCG := Lib.hid (HCT.out g hg)
                  go_upto_region 23 with (first | (go_at_call 49; refine (without_any f _ HOF.out _ g (by rw [HM.out]; exact hg) _ (HP.out.rep (F := G3) (by simp) HS3.out)).mono ?_; rintro e w9 ⟨u9, rfl, hu9, hb9⟩; replace HP := Lib.hid (HP.out.call hb9); have HU := Lib.hid hu9; clear hb9 hu9))
                  obtain ⟨A9, c9, rfl, hc9, hm9, -⟩ := rep_bools_at HU.out
                  unfold maxLen at hm9
                  rw [HRL.out] at HU hc9 ⊢
                  obtain ⟨Gn, HP, HU⟩ : ∃ G : Fro, Hid (Hp w [G, G3, ⟨w, Lt w.heap.size⟩] [.row (.slice (some ⟨gO, 0, none⟩) n cO) 3 1 n (os.map (Value.int .i64)), .blk gc 3 (cs.map (Value.int .i64)), .blk g2 24 [u]] _) ∧ Hid (Lay.rep G.w G.S (raL f g) [.slice A9 n c9]) := ⟨_, HP, HU⟩
                  go_wp2
                  go_loopw [16] (fun iv wr => ∃ (i : Nat) (os : List Int), i ≤ n ∧ iv = .int .i64 i ∧ Hid (os.length = n ∧ ∀ x, x < n → ∃ o, os[x]? = some o ∧ OutUp f n (if x < i then g + 1 else g) x o) ∧ Hid (Hp w [Gn, G3, ⟨w, Lt w.heap.size⟩] [.row (.slice (some ⟨gO, 0, none⟩) n cO) 3 1 n (os.map (Value.int .i64)), .blk gc 3 (cs.map (Value.int .i64)), .blk g2 24 [u]] wr)) (fun iv _ => n - (intOf iv).toNat)
                  case atStart => exact ⟨0, os, by omega, rfl, Lib.hid ⟨HOS.out.1, fun x hx => by rw [if_neg (by omega)]; exact HOS.out.2 x hx⟩, HP⟩
                  case round =>
                    clear HP HOS
                    obtain ⟨i, os, hi9, rfl, HOS, HP⟩ := hrel
                    obtain ⟨wo5, rfl⟩ : ∃ wo : World, wo = wr := ⟨_, rfl⟩
                    by_cases hi : i < n
                    · have hi2 : (i : Int) < (n : Int) := by omega
                      obtain ⟨A10, c10, e10, -, -, hx10⟩ := rep_bools_at (HP.out.rep (F := Gn) (by simp) HU.out)
                      obtain ⟨a9, rfl, -, hcl⟩ := hx10 i (by rw [HRL.out]; exact hi)
                      clear hx10
                      obtain rfl : A9 = some a9 := (Value.slice.inj e10).1
                      clear e10
                      rw [show (raL f g)[i]'(by rw [HRL.out]; exact hi) = raB f g i by unfold raL; simp] at hcl
                      obtain ⟨o, ho, hou⟩ := HOS.out.2 i hi
                      rw [if_neg (by omega)] at hou
                      have hol : os.length = n := HOS.out.1
                      have HOU := Lib.hid hou
                      have HUP := Lib.hid (show ∀ (os2 : List Int), os2.length = n → (∀ x, x ≠ i → os2[x]? = os[x]?) → (∃ o, os2[i]? = some o ∧ OutUp f n (g + 1) i o) → (os2.length = n ∧ ∀ x, x < n → ∃ o, os2[x]? = some o ∧ OutUp f n (if x < i + 1 then g + 1 else g) x o) from fun os2 h1 h2 h3 => ⟨h1, fun x hx => by
                        by_cases e : x = i
                        · subst e; rw [if_pos (by omega)]; exact h3
                        · rw [h2 x e]
                          have h4 := HOS.out.2 x hx
                          by_cases e2 : x < i
                          · rw [if_pos e2] at h4; rw [if_pos (by omega)]; exact h4
                          · rw [if_neg e2] at h4; rw [if_neg (by omega)]; exact h4⟩)
                      have qo := HP.out.rowCell (g := gO) (.head _) i (.int .i64 o) (by rw [List.getElem?_map, ho]; rfl)
                      have qg := HP.out.cell (.tail _ (.head _)) g (.int .i64 ((cntSD (EB f) n g : Nat) : Int)) (by rw [List.getElem?_map, HCG.out]; rfl)
                      obtain ⟨sb, hsb⟩ : ∃ sb, raB f g i = sb := ⟨_, rfl⟩
                      have HSD := Lib.hid (show sdB (EB f) g i = (!sb && i != g) by rw [sdB_eq, hsb])
                      rw [hsb] at hcl
                      clear hsb hou
                      cases sb with
                      | true =>
                        have HNS := Lib.hid (show ¬ SD (EB f) g i from fun h => by have := sdB_iff.2 h; rw [HSD.out] at this; simp at this)
                        go_upto_region 26 with (fail)
                        go_quiet (fail)
                        replace HP := Lib.hid (HP.out.drewN nq)
                        generalize wo5.drewN nq = wq at HP ⊢
                        go_wp2
                        go_roundw
                        case rel => exact ⟨i + 1, os, by omega, by go_num, Lib.hid (HUP.out os hol (fun _ _ => rfl) ⟨_, ho, HOU.out.keep (.inl HNS.out)⟩), HP⟩
                        case measure => simp [intOf]; omega
                      | false =>
                        by_cases hin : i = g
                        · have hb : ((i : Int) != (g : Int)) = false := by simp; omega
                          have hbi : (i == g) = true := by simpa using hin
                          have HNS := Lib.hid (show ¬ SD (EB f) g i from fun h => h.1 hin.symm)
                          clear hin
                          go_upto_region 26 with (fail)
                          go_quiet (fail)
                          replace HP := Lib.hid (HP.out.drewN nq)
                          generalize wo5.drewN nq = wq at HP ⊢
                          go_wp2
                          go_roundw
                          case rel => exact ⟨i + 1, os, by omega, by go_num, Lib.hid (HUP.out os hol (fun _ _ => rfl) ⟨_, ho, HOU.out.keep (.inl HNS.out)⟩), HP⟩
                          case measure => simp [intOf]; omega
                        · have hb : ((i : Int) != (g : Int)) = true := by simp; omega
                          have hbi : (i == g) = false := by simpa using hin
                          have HSDG := Lib.hid (show SD (EB f) g i from sdB_iff.1 (by rw [HSD.out]; simpa using hin))
                          clear hin
                          have hoc : o = -1 ∨ ∃ k : Nat, k < n ∧ o = k := by
                            rcases HOU.out with ⟨h1, _⟩ | ⟨k, hk, h1, _⟩
                            · exact .inl h1
                            · exact .inr ⟨k, by omega, h1⟩
                          rcases hoc with rfl | ⟨k, hk, rfl⟩
                          · have t5 : decide ((-1 : Int) < 0) = true := by decide
                            go_upto_region 26 with (fail)
                            go_quiet (fail)
                            replace HP := Lib.hid (HP.out.drewN nq)
                            generalize wo5.drewN nq = wq at HP ⊢
                            go_wp2_with (first | (refine wpList_stW0 rfl 3 _ _ rfl HP.out rfl rfl (by rw [List.length_map, hol]; exact hi) rfl (List.map_set ..).symm (by kernel_rfl) ?_; clear HP; intro wst HP; replace HP := Lib.hid HP))
                            go_roundw
                            case rel => exact ⟨i + 1, os.set i (g : Int), by omega, by go_num, Lib.hid (HUP.out (os.set i (g : Int)) (by rw [List.length_set]; exact hol) (fun x hx => List.getElem?_set_ne (Ne.symm hx)) ⟨g, List.getElem?_set_self (by omega), HOU.out.put HSDG.out (.inl (by decide))⟩), HP⟩
                            case measure => simp [intOf]; omega
                          · have t5 : decide ((k : Int) < 0) = false := decide_eq_false (by omega)
                            have HCK := Lib.hid (HCT.out k hk)
                            have hk2 : (k : Int) < (n : Int) := by omega
                            have qk := HP.out.cell (.tail _ (.head _)) k (.int .i64 ((cntSD (EB f) n k : Nat) : Int)) (by rw [List.getElem?_map, HCK.out]; rfl)
                            by_cases hlt : cntSD (EB f) n k < cntSD (EB f) n g
                            · have HLT := Lib.hid hlt
                              have hd1 : decide (((cntSD (EB f) n k : Nat) : Int) < ((cntSD (EB f) n g : Nat) : Int)) = true := decide_eq_true (by omega)
                              have hd2 : decide (cntSD (EB f) n k < cntSD (EB f) n g) = true := decide_eq_true hlt
                              clear hlt
                              go_upto_region 26 with (fail)
                              go_quiet (fail)
                              replace HP := Lib.hid (HP.out.drewN nq)
                              generalize wo5.drewN nq = wq at HP ⊢
                              go_wp2_with (first | (refine wpList_stW0 rfl 3 _ _ rfl HP.out rfl rfl (by rw [List.length_map, hol]; exact hi) rfl (List.map_set ..).symm (by kernel_rfl) ?_; clear HP; intro wst HP; replace HP := Lib.hid HP))
                              go_roundw
                              case rel => exact ⟨i + 1, os.set i (g : Int), by omega, by go_num, Lib.hid (HUP.out (os.set i (g : Int)) (by rw [List.length_set]; exact hol) (fun x hx => List.getElem?_set_ne (Ne.symm hx)) ⟨g, List.getElem?_set_self (by omega), HOU.out.put HSDG.out (.inr ⟨k, rfl, HLT.out⟩)⟩), HP⟩
                              case measure => simp [intOf]; omega
                            · have HLT := Lib.hid hlt
                              have hd1 : decide (((cntSD (EB f) n k : Nat) : Int) < ((cntSD (EB f) n g : Nat) : Int)) = false := decide_eq_false (by omega)
                              have hd2 : decide (cntSD (EB f) n k < cntSD (EB f) n g) = false := decide_eq_false hlt
                              clear hlt
                              go_upto_region 26 with (fail)
                              go_quiet (fail)
                              replace HP := Lib.hid (HP.out.drewN nq)
                              generalize wo5.drewN nq = wq at HP ⊢
                              go_wp2
                              go_roundw
                              case rel => exact ⟨i + 1, os, by omega, by go_num, Lib.hid (HUP.out os hol (fun _ _ => rfl) ⟨_, ho, HOU.out.keep (.inr ⟨k, rfl, Nat.le_of_not_lt HLT.out⟩)⟩), HP⟩
                              case measure => simp [intOf]; omega
                    · obtain rfl : i = n := by omega
                      have HSM := Lib.hid (show os.length = i ∧ ∀ x, x < i → ∃ o, os[x]? = some o ∧ OutUp f i (g + 1) x o from ⟨HOS.out.1, fun x hx => by have h := HOS.out.2 x hx; rw [if_pos hx] at h; exact h⟩)
                      go_wp2
                      go_roundw
                      case rel => exact ⟨g + 1, os, by omega, by go_num, HSM, Lib.hid HP.out.froDrop⟩
                      case measure => simp [intOf]; omega
                · obtain rfl : g = n := by omega
                  have HEQ := Lib.hid (show os = abvL f by
                    apply List.ext_getElem?
                    intro x
                    unfold abvL
                    rw [List.getElem?_map, HM.out]
                    by_cases hx : x < g
                    · rw [List.getElem?_range hx]
                      obtain ⟨o, h1, h2⟩ := HOS.out.2 x hx
                      rw [h1]
                      show some o = some (abvZ f x)
                      congr 1
                      have h3 := HM.out
                      subst h3
                      exact h2.done HOF.out HEE.out hx
                    · rw [List.getElem?_eq_none (by rw [HOS.out.1]; omega), List.getElem?_eq_none (by simp; omega)]; rfl)
                  go_wp2
                  (try simp only [Exit.inBlock, Exit.then])
                  refine bodyPost_ret (results_tmp2 (by rfl) _ _ _) (by rfl) ?_
                  exact ⟨_, rfl, HP.out.rowInts (.head _) (congrArg (List.map (Value.int IntKind.i64)) HEQ.out), HP.out.below⟩
    · have HANS := Lib.hid (above_out hz (fn := fn) hfn)
      have HBA := Lib.hid (blocks_out hz (fn := fn) hfn)
      clear hz hpf hfn
      rw [HANS.out]
      go_enter Tryd.func21, Tryd.ntmps21
      go_wp2_with (first | (refine wpList_box_hp (o := ⟨some 2, _, _, _, _, _⟩) rfl _ _ rfl HP.out [_] rfl ?_; clear HP; intro g2 w2 HP; replace HP := Lib.hid HP) | (refine wpList_ldR0 rfl 24 _ rfl HP.out rfl Tryd.underlying24 rfl (by kernel_rfl) ?_) | (go_at_call 13; refine (BlocksOf_any p _ fn _ (HP.out.rep (F := ⟨w, Lt w.heap.size⟩) (by simp) HR.out)).mono ?_; rintro e w3 ⟨v3, rfl, hv3, hb⟩; replace HP := Lib.hid (HP.out.call hb); have HV3 := Lib.hid hv3; clear hb hv3; rw [HBA.out] at HV3 ⊢))
      (try simp only [Exit.inBlock, Exit.then])
      refine bodyPost_ret (results_tmp2 (by rfl) _ _ _) (by rfl) ?_
      exact ⟨_, rfl, rep_ints_nil, HP.out.below⟩
  · have HANS := Lib.hid (above_bad hz fn)
    have hba := blocks_bad hz fn
    obtain ⟨e0, he0⟩ : ∃ e0, proven p = e0 := ⟨_, rfl⟩
    rw [he0] at hz HANS hba
    have HBA := Lib.hid hba
    have hzb : (e0 != 0) = true := by simpa using hz
    clear he0 hz hba
    rw [HANS.out]
    go_enter Tryd.func21, Tryd.ntmps21
    go_wp2_with (first | (refine wpList_box_hp (o := ⟨some 2, _, _, _, _, _⟩) rfl _ _ rfl HP.out [_] rfl ?_; clear HP; intro g2 w2 HP; replace HP := Lib.hid HP) | (refine wpList_ldR0 rfl 24 _ rfl HP.out rfl Tryd.underlying24 rfl (by kernel_rfl) ?_) | (go_at_call 13; refine (BlocksOf_any p _ fn _ (HP.out.rep (F := ⟨w, Lt w.heap.size⟩) (by simp) HR.out)).mono ?_; rintro e w3 ⟨v3, rfl, hv3, hb⟩; replace HP := Lib.hid (HP.out.call hb); have HV3 := Lib.hid hv3; clear hb hv3; rw [HBA.out] at HV3 ⊢))
    (try simp only [Exit.inBlock, Exit.then])
    refine bodyPost_ret (results_tmp2 (by rfl) _ _ _) (by rfl) ?_
    exact ⟨_, rfl, rep_ints_nil, HP.out.below⟩
end Go.Proofs.YtnabeibnaoahmaaDoor
