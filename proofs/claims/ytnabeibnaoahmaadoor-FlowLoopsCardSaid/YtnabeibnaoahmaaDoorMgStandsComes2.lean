/- flow.Loops' own function stands; ref.standsAbove. ref.comesTo. -/
import Derived.Test.YtnabeibnaoahmaaDoorLoopLaw
import Derived.Test.YtnabeibnaoahmaaDoorWithout
set_option linter.unusedSimpArgs false
set_option linter.unusedVariables false
namespace Go.Proofs.YtnabeibnaoahmaaDoor
open Go.RowKit Plain64
attribute [local irreducible] wpList Code.wp Oper.wp
/-- A loop's measure: how many stand above. -/
noncomputable def stMu (f : Fun) (v : Value) : Nat := if intOf v < 0 then 0 else cntSD (EB f) (headsL f).length (intOf v).toNat + 1
theorem stMu_at (f : Fun) (k : Nat) : stMu f (.int .i64 (k : Int)) = cntSD (EB f) (headsL f).length k + 1 := by
  unfold stMu
  rw [show intOf (.int .i64 (k : Int)) = (k : Int) from rfl, if_neg (by omega), Int.toNat_natCast]
theorem stMu_neg (f : Fun) : stMu f (.int .i64 (-1)) = 0 := by unfold stMu; simp [intOf]
set_option maxRecDepth 100000 in
set_option maxHeartbeats 4000000 in
theorem stands_any (f : Fun) (funcs : Nat) (ok : OkF f funcs) (he : endsAt f = false) (a b m : Nat) (hmm : (headsL f).length = m) (ha : a < m) (hb : b < m) (g : Nat) (V : Value) (w : World) (hc : w.cell? ⟨g, 0, none⟩ = some V) (hv : Lay.rep w (Lt w.heap.size) (abvL f) [V]) :
    Calls Tryd.prog 50 #[.int .i64 a, .int .i64 b, .pointer (some ⟨g, 0, none⟩)] w fun e w' => e = .returned (.bool (stB f a b)) ∧ Below w.heap.size w w' := by
  obtain ⟨A, c, rfl, hcc, hcm, hx⟩ := rep_ints_at hv
  unfold maxLen at hcm
  have hml : m ≤ 40 := by have h1 := headsL_len f; have h2 := ok.len.2; omega
  have hal : (abvL f).length = m := by unfold abvL; rw [List.length_map, List.length_range, hmm]
  have HX := Lib.hid (show ∀ k, k < m → ∃ ad, A = some ad ∧ w.cell? (ad.add k) = some (.int .i64 (abvZ f k)) from fun k hk => by
    obtain ⟨ad, h1, _, h3⟩ := hx k (by omega)
    refine ⟨ad, h1, ?_⟩
    rw [h3]
    congr 2
    unfold abvL; simp)
  rw [hal] at hc hcc
  have HZ := Lib.hid (show ∀ k, k < m → k ≠ 0 → ∃ k2 : Nat, k2 < m ∧ abvZ f k = k2 ∧ (a ≠ k → stB f a k = stB f a k2) ∧ cntSD (EB f) (headsL f).length k2 < cntSD (EB f) (headsL f).length k from fun k hk h0 => by
    subst hmm
    have hr : ∀ j, j < (headsL f).length → Rch0 (EB f) j := fun j hj => blk_rch ok he hj
    obtain ⟨k2, hk2, h⟩ := abv_exists hr (fun _ _ h => h.2.1) (headsL_pos ok) hk h0
    exact ⟨k2, hk2, abvZ_eq ok he h0 h hk2, fun e => stB_abv e h (hr k2 hk2), cnt_lt hr hk2 h.sd⟩)
  clear hv hx ok he hal hmm
  go_enter Tryd.func50, Tryd.ntmps50
  go_wp2
  go_loopw [1] (fun v wr => ((∃ k : Nat, k < m ∧ v = .int .i64 k ∧ Hid (stB f a b = stB f a k)) ∨ (v = .int .i64 (-1) ∧ Hid (stB f a b = false))) ∧ wr = w) (fun v _ => stMu f v)
  case atStart => exact ⟨.inl ⟨b, hb, rfl, Lib.hid rfl⟩, rfl⟩
  case round =>
    obtain ⟨⟨k, hk, rfl, HS⟩ | ⟨rfl, HS⟩, rfl⟩ := hrel
    · by_cases hak : k = a
      · subst hak
        have HE := Lib.hid (HS.out.trans stB_self)
        clear HZ HX
        have hkb : ((k : Int) != (k : Int)) = false := by simp
        have hkb2 : ((k : Int) == (k : Int)) = true := by simp
        go_wp2
        go_ret
        exact ⟨by rw [HE.out]; rfl, Below.refl _ _⟩
      · have hkb : ((k : Int) != (a : Int)) = true := by simp; omega
        have hkb2 : (k != a) = true := by simpa using hak
        obtain ⟨ad, rfl, hcl⟩ := HX.out k hk
        have hk2 : (k : Int) < (m : Int) := by omega
        by_cases hk0 : k = 0
        · rw [show abvZ f k = -1 by rw [hk0]; exact abvZ_zero f] at hcl
          have HS2 := Lib.hid (show stB f a b = false by rw [HS.out, hk0]; exact stB_zero (fun e => hak (hk0.trans e.symm)))
          clear hak hk0
          go_wp2
          go_roundw
          case rel => exact ⟨.inr ⟨rfl, HS2⟩, by first | trivial | rfl⟩
          case measure => show stMu f _ < stMu f _; rw [stMu_at, stMu_neg]; omega
        · obtain ⟨k2, hk2l, e1, e2, e3⟩ := HZ.out k hk hk0
          rw [e1] at hcl
          have HS2 := Lib.hid (HS.out.trans (e2 (fun e => hak e.symm)))
          have HM := Lib.hid e3
          clear hak e1 e2 e3 hk0
          go_wp2
          go_roundw
          case rel => exact ⟨.inl ⟨k2, hk2l, rfl, HS2⟩, by first | trivial | rfl⟩
          case measure =>
            show stMu f _ < stMu f _
            rw [stMu_at, stMu_at]
            exact Nat.succ_lt_succ HM.out
    · have hkb : ((-1 : Int) == (a : Int)) = false := by rw [beq_eq_false_iff_ne]; omega
      clear HZ HX
      go_wp2
      go_ret
      exact ⟨by rw [HS.out]; rfl, Below.refl _ _⟩
set_option maxRecDepth 100000 in
set_option maxHeartbeats 4000000 in
theorem standsAbove_any (f : Fun) (funcs : Nat) (ok : OkF f funcs) (v : Value) (a b m : Nat) (hmm : (headsL f).length = m) (ha : a < m) (hb : b < m) (w : World) (hv : Lay.rep w (Lt w.heap.size) (blksL f) [v]) :
    Calls Tryd.prog 52 #[v, .int .i64 a, .int .i64 b] w fun e w' => e = .returned (.bool (stB f a b)) ∧ Below w.heap.size w w' := by
  have HP := Lib.hid (Hp.start w)
  have HV := Lib.hid hv
  have HOK := Lib.hid ok
  have HM := Lib.hid hmm
  have hml : m ≤ 40 := by have h1 := headsL_len f; have h2 := ok.len.2; omega
  have HRL := Lib.hid (show (raL f a).length = m by unfold raL; rw [List.length_map, List.length_range, hmm])
  clear hv ok hmm
  by_cases hab : a = b
  · subst hab
    have HE := Lib.hid (stB_self (f := f) (a := a))
    go_enter Tryd.func52, Tryd.ntmps52
    go_wp2
    go_ret
    exact ⟨by rw [HE.out]; rfl, HP.out.below⟩
  · have hb1 : ((a : Int) == (b : Int)) = false := by simp; omega
    have hb2 : (a == b) = false := by simpa using hab
    have HE := Lib.hid (show stB f a b = !raB f a b by
      rw [Bool.eq_iff_iff, stB_iff, Bool.not_eq_true', ← Bool.not_eq_true, raB_iff]
      exact ⟨fun h => h.resolve_left hab, .inr⟩)
    have hbi : (b : Int) < (m : Int) := by omega
    clear hab
    go_enter Tryd.func52, Tryd.ntmps52
    go_upto_region 4 with (first | (go_at_call 49; refine (without_any f _ HOK.out _ a (by rw [HM.out]; exact ha) _ (HP.out.rep (F := ⟨w, Lt w.heap.size⟩) (.head _) HV.out)).mono ?_; rintro e w9 ⟨u9, rfl, hu9, hb9⟩; replace HP := Lib.hid (HP.out.call hb9); have HU := Lib.hid hu9; clear hb9 hu9))
    obtain ⟨A9, c9, rfl, hc9, hm9, hx9⟩ := rep_bools_at HU.out
    unfold maxLen at hm9
    rw [HRL.out] at hc9 ⊢
    obtain ⟨a9, rfl, -, hcl⟩ := hx9 b (by rw [HRL.out]; exact hb)
    rw [show (raL f a)[b]'(by rw [HRL.out]; exact hb) = raB f a b by unfold raL; simp] at hcl
    clear hx9
    obtain ⟨sb, hsb⟩ : ∃ sb, raB f a b = sb := ⟨_, rfl⟩
    rw [hsb] at hcl HE
    clear hsb
    cases sb
    · go_wp2
      go_ret
      exact ⟨by rw [HE.out]; rfl, HP.out.below⟩
    · go_wp2
      go_ret
      exact ⟨by rw [HE.out]; rfl, HP.out.below⟩
end Go.Proofs.YtnabeibnaoahmaaDoor
namespace Go.Proofs.YtnabeibnaoahmaaDoor
open Go.RowKit Plain64
attribute [local irreducible] wpList Code.wp Oper.wp
structure CInv (f : Fun) (g s : Nat) (ss : List Bool) : Prop where
  len : ss.length = (headsL f).length
  sound : ∀ i : Nat, ss[i]? = some true → RF (EB f) g s i
  first : ss[s]? = some true
theorem c_end {f : Fun} {g s t : Nat} {ss : List Bool} (h : CInv f g s ss) (hc : ∀ i, i < (headsL f).length → WClosed f g ss i) (ht : t < (headsL f).length) : ss[t]? = some (rvB f g t s) := by
  have key : ∀ i, RF (EB f) g s i → ss[i]? = some true := fun i hi => by
    induction hi with
    | start _ => exact h.first
    | step _ he hk ih => exact hc _ he.1 ih _ he.2.1 he.2.2 hk
  have hs : ss[t]? = some (ss[t]'(by rw [h.len]; exact ht)) := List.getElem?_eq_getElem _
  rw [hs]
  congr 1
  cases h2 : rvB f g t s with
  | true => have := key t (rf_rv.2 (rvB_iff.1 h2)); rw [hs] at this; exact Option.some.inj this
  | false =>
    cases h3 : ss[t]'(by rw [h.len]; exact ht) with
    | false => rfl
    | true => rw [h3] at hs; have := rvB_iff.2 (rf_rv.1 (h.sound t hs)); rw [h2] at this; cases this
theorem CInv.set {f : Fun} {g s : Nat} {ss : List Bool} (h : CInv f g s ss) {i k : Nat} (hi : ss[i]? = some true) (hk : k < (headsL f).length) (hil : i < (headsL f).length) (he : edgeB f i k = true) (hg : k ≠ g) (hs : ss[k]? = some false) : CInv f g s (ss.set k true) ∧ (ss.set k true).count false + 1 ≤ ss.count false := by
  refine ⟨⟨by rw [List.length_set]; exact h.len, fun j hj => ?_, ?_⟩, ?_⟩
  · rw [List.getElem?_set] at hj
    by_cases e : k = j
    · subst e; exact .step (h.sound i hi) ⟨hil, hk, he⟩ hg
    · rw [if_neg e] at hj; exact h.sound j hj
  · rw [List.getElem?_set]
    by_cases e : k = s
    · subst e; rw [h.first] at hs; cases hs
    · rw [if_neg e]; exact h.first
  · have : ∀ (l : List Bool) (k : Nat), l[k]? = some false → (l.set k true).count false + 1 ≤ l.count false := by
      intro l
      induction l with
      | nil => intro k h; simp at h
      | cons x l ih =>
        intro k h
        cases k with
        | zero => simp at h; subst h; simp
        | succ k =>
          simp at h
          have := ih k h
          rw [List.set_cons_succ, List.count_cons, List.count_cons]
          omega
    exact this ss k hs
set_option maxRecDepth 100000 in
set_option maxHeartbeats 4000000 in
theorem comesTo_any (f : Fun) (funcs : Nat) (ok : OkF f funcs) (v : Value) (s t g m : Nat) (hmm : (headsL f).length = m) (hs : s < m) (ht : t < m) (hg : g < m) (w : World) (hv : Lay.rep w (Lt w.heap.size) (blksL f) [v]) :
    Calls Tryd.prog 53 #[v, .int .i64 s, .int .i64 t, .int .i64 g] w fun e w' => e = .returned (.bool (rvB f g t s)) ∧ Below w.heap.size w w' := by
  obtain ⟨A, c, rfl, hc, hm, hx⟩ := rep_bks_at hv
  unfold maxLen at hm
  have hbl : (blksL f).length = m := by rw [blksL_len, hmm]
  have hmp : 0 < m := by omega
  have hml : m ≤ 40 := by have h1 := headsL_len f; have h2 := ok.len.2; omega
  have hx2 : ∀ k, k < m → ∃ (a : Addr) (u z : Value), A = some a ∧ Lt w.heap.size a.block ∧ At w (a.add (k * 4)) [.int .i64 (blkOf f k).frm, .int .i64 (blkOf f k).upto, u, z] ∧ Lay.rep w (Lt w.heap.size) (nxtB f k m) [u] := fun k hk => by
    obtain ⟨a, u, z, h1, h2, h3, h4, _⟩ := hx k (by omega)
    rw [blksL_get (by omega)] at h3 h4
    exact ⟨a, u, z, h1, h2, h3, by rw [← hmm]; exact h4⟩
  rw [hbl] at hc ⊢
  have HX := Lib.hid hx2
  have HM := Lib.hid hmm
  clear hv hx hx2 hbl hmm ok
  have HP := Lib.hid (Hp.start w)
  obtain ⟨i_bool, hi_bool, hz_bool, hs_bool, hy_bool⟩ := info_parts info_bool
  by_cases hsg : s = g
  · have HRZ := Lib.hid (show rvB f g t s = false by
      cases h : rvB f g t s with
      | false => rfl
      | true => exact absurd hsg (rvB_iff.1 h).ne)
    have hb1 : ((s : Int) == (g : Int)) = true := by rw [hsg]; exact beq_self_eq_true _
    have hb2 : (s == g) = true := by simpa using hsg
    clear hsg
    go_enter Tryd.func53, Tryd.ntmps53
    go_wp2
    go_ret
    exact ⟨by rw [HRZ.out]; rfl, HP.out.below⟩
  · have hb1 : ((s : Int) == (g : Int)) = false := by simp; omega
    have hb2 : (s == g) = false := by simpa using hsg
    have HSG := Lib.hid hsg
    clear hsg
    by_cases htg : t = g
    · have HRZ := Lib.hid (show rvB f g t s = false by
        cases h : rvB f g t s with
        | false => rfl
        | true => have h2 := rvB_iff.1 h; rw [htg] at h2; exact (rv_self h2).elim)
      have hb3 : ((t : Int) == (g : Int)) = true := by rw [htg]; exact beq_self_eq_true _
      have hb4 : (t == g) = true := by simpa using htg
      clear htg
      go_enter Tryd.func53, Tryd.ntmps53
      go_wp2
      go_ret
      exact ⟨by rw [HRZ.out]; rfl, HP.out.below⟩
    have hb3 : ((t : Int) == (g : Int)) = false := by simp; omega
    have hb4 : (t == g) = false := by simpa using htg
    clear htg
    have hsi : (s : Int) < (m : Int) := by omega
    have hti : (t : Int) < (m : Int) := by omega
    go_enter Tryd.func53, Tryd.ntmps53
    go_upto_region 5 with (first | (refine wpList_make_hp (o := ⟨some 24, _, _, _, _, _⟩) rfl _ _ _ rfl _ i_bool (.bool false) Tryd.underlying63 hi_bool hz_bool rfl hs_bool m rfl rfl (by rw [hy_bool]; omega) (by unfold maxLen; omega) HP.out ?_; clear HP; intro gs ws0 HP; replace HP := Lib.hid HP; rw [← List.map_replicate] at HP) | (refine wpList_st0 rfl 4 _ _ rfl HP.out rfl rfl (by simp; omega) rfl (List.map_set ..).symm (by kernel_rfl) ?_; clear HP; intro wst HP; replace HP := Lib.hid HP))
    obtain ⟨ss0, hss0⟩ : ∃ ss0, (List.replicate m false).set s true = ss0 := ⟨_, rfl⟩
    have HI0 := Lib.hid (show CInv f g s ss0 by
      subst hss0
      refine ⟨by rw [List.length_set, List.length_replicate, HM.out], fun i hi => ?_, by rw [List.getElem?_set_self (by simp; omega)]⟩
      rw [List.getElem?_set] at hi
      by_cases e : s = i
      · subst e; exact .start HSG.out
      · rw [if_neg e, List.getElem?_replicate] at hi
        split at hi
        · cases hi
        · cases hi)
    rw [hss0] at HP
    clear hss0
    go_wp2
    go_loopg [10] (2 * ss0.count false + 1) (fun k' v wr => ∃ (b : Bool) (ss : List Bool), v = .bool b ∧ Hid (CInv f g s ss ∧ (b = false → ∀ i, i < m → WClosed f g ss i) ∧ k' = 2 * ss.count false + b.toNat) ∧ Hid (Hp w [⟨w, Lt w.heap.size⟩] [.blk gs 4 (List.map Value.bool ss)] wr))
    case atStart => exact ⟨true, ss0, rfl, Lib.hid ⟨HI0.out, fun e => (by cases e), rfl⟩, HP⟩
    case round =>
      clear HP HI0
      obtain ⟨b, ss, rfl, HB, HP⟩ := hrel
      obtain ⟨wr1, rfl⟩ : ∃ wo : World, wo = wr := ⟨_, rfl⟩
      cases b with
      | false =>
        have HEND := Lib.hid (show ss[t]? = some (rvB f g t s) from c_end HB.out.1 (by rw [HM.out]; exact HB.out.2.1 rfl) (by rw [HM.out]; exact ht))
        have hsl : ss.length = m := by rw [HB.out.1.len, HM.out]
        have qe := HP.out.cell (.head _) t (.bool (rvB f g t s)) (by rw [List.getElem?_map, HEND.out]; rfl)
        go_wp2
        go_ret
        exact ⟨rfl, HP.out.below⟩
      | true =>
        go_wp2
        go_loopw [10, 11] (fun v i wr => ∃ (b' : Bool) (ss' : List Bool) (q : Nat), q ≤ m ∧ v = .bool b' ∧ i = .int .i64 q ∧ Hid (CInv f g s ss' ∧ (b' = false → ss' = ss) ∧ (b' = true → ss'.count false + 1 ≤ ss.count false)) ∧ Hid (b' = false → ∀ k, k < q → WClosed f g ss' k) ∧ Hid (Hp w [⟨w, Lt w.heap.size⟩] [.blk gs 4 (List.map Value.bool ss')] wr)) (fun _ i _ => m - (intOf i).toNat)
        case atStart => exact ⟨false, ss, 0, by omega, rfl, rfl, Lib.hid ⟨HB.out.1, fun _ => rfl, fun e => (by cases e)⟩, Lib.hid (fun _ k hk => by omega), HP⟩
        case round =>
          clear HP
          obtain ⟨b', ss', q, hq9, rfl, rfl, HRN, HCQ, HP⟩ := hrel
          obtain ⟨wi, rfl⟩ : ∃ wi : World, wi = wr := ⟨_, rfl⟩
          by_cases hq : q < m
          · have hq2 : (q : Int) < (m : Int) := by omega
            obtain ⟨a1, u1, z1, rfl, hab, hat, hnx⟩ := HX.out q hq
            have HATI := Lib.hid (show At w (a1.add (q * 4)) [.int .i64 (blkOf f q).frm, .int .i64 (blkOf f q).upto, u1, z1] ∧ Lt w.heap.size (a1.add (q * 4)).block from ⟨hat, by rw [block_of_add]; exact hab⟩)
            obtain ⟨nx, hnxe⟩ : ∃ nx, nxtB f q m = nx := ⟨_, rfl⟩
            have HNE := Lib.hid (show ∀ x ∈ nx, ∃ k : Nat, k < m ∧ x = k ∧ edgeB f q k = true from fun x hx => mem_nxtB.1 (hnxe ▸ hx))
            have HNI := Lib.hid (show ∀ k : Nat, k < m → edgeB f q k = true → (k : Int) ∈ nx from fun k h1 h2 => hnxe ▸ mem_nxtB.2 ⟨k, h1, rfl, h2⟩)
            have hnl : nx.length ≤ m := hnxe ▸ nxtB_len f q m
            rw [hnxe] at hnx
            obtain ⟨An, cn, rfl, hcn, hmn, hxn⟩ := rep_ints_at hnx
            unfold maxLen at hmn
            have HXN := Lib.hid hxn
            clear hnx hxn hat hab hnxe
            go_wp2
            go_loopw [10, 12] (fun v i wr => ∃ (b2 : Bool) (s2 : List Bool) (j : Nat), j ≤ nx.length ∧ v = .bool b2 ∧ i = .int .i64 j ∧ Hid (CInv f g s s2 ∧ (b2 = false → s2 = ss) ∧ (b2 = true → s2.count false + 1 ≤ ss.count false)) ∧ Hid (b2 = false → ∀ k, k < q → WClosed f g s2 k) ∧ Hid (b2 = false → ∀ n ∈ nx.take j, n ≠ (g : Int) → s2[n.toNat]? = some true) ∧ Hid (Hp w [⟨w, Lt w.heap.size⟩] [.blk gs 4 (List.map Value.bool s2)] wr)) (fun _ i _ => nx.length - (intOf i).toNat)
            case atStart => exact ⟨b', ss', 0, by omega, rfl, rfl, HRN, HCQ, Lib.hid (fun _ n hn => by simp at hn), HP⟩
            case round =>
              clear HP HRN HCQ
              obtain ⟨b2, s2, j, hj9, rfl, rfl, HRN, HCQ, HCJ, HP⟩ := hrel
              obtain ⟨wj, rfl⟩ : ∃ wi : World, wi = wr := ⟨_, rfl⟩
              have qn := (HP.out.at_ (F := ⟨w, Lt w.heap.size⟩) (by simp) HATI.out.1 HATI.out.2).fld 1 rfl
              have hs2l : s2.length = m := by rw [HRN.out.1.len, HM.out]
              obtain ⟨si, hsi⟩ : ∃ si, s2[q]? = some si := ⟨_, List.getElem?_eq_getElem (by omega)⟩
              have HSI := Lib.hid hsi
              have qs := HP.out.cell (.head _) q (.bool si) (by rw [List.getElem?_map, HSI.out]; rfl)
              clear hsi
              by_cases hj : j < nx.length
              · have hj2 : (j : Int) < (nx.length : Int) := by omega
                cases si with
                | false =>
                  have HCN := Lib.hid (show b2 = false → ∀ k, k < q + 1 → WClosed f g s2 k from fun e k hk => by
                    by_cases e3 : k = q
                    · subst e3; intro h; rw [HSI.out] at h; cases h
                    · exact HCQ.out e k (by omega))
                  go_wp2
                  go_roundw
                  case rel => exact ⟨b2, s2, q + 1, by omega, rfl, by go_num, HRN, HCN, HP⟩
                  case measure => simp [intOf]; omega
                | true =>
                  obtain ⟨a2, rfl, hab2, hcl⟩ := HXN.out j hj
                  obtain ⟨n, hn⟩ : ∃ n, nx[j] = n := ⟨_, rfl⟩
                  obtain ⟨kk, hkk, rfl, hed⟩ := HNE.out n (hn ▸ List.getElem_mem hj)
                  rw [hn] at hcl
                  have qc := (HP.out.alike (F := ⟨w, Lt w.heap.size⟩) (by simp) (a2.add j) (by rw [block_of_add]; exact hab2)).trans hcl
                  have HTK := Lib.hid (show nx.take (j + 1) = nx.take j ++ [(kk : Int)] by rw [List.take_add_one, List.getElem?_eq_getElem hj, hn]; rfl)
                  have hkk2 : (kk : Int) < (m : Int) := by omega
                  obtain ⟨sk, hsk⟩ : ∃ sk, s2[kk]? = some sk := ⟨_, List.getElem?_eq_getElem (by omega)⟩
                  have HSK := Lib.hid hsk
                  have qk := HP.out.cell (.head _) kk (.bool sk) (by rw [List.getElem?_map, HSK.out]; rfl)
                  have HED := Lib.hid hed
                  clear hn hcl hsk hed
                  by_cases hkg : kk = g
                  · have hb : ((kk : Int) != (g : Int)) = false := by simp; omega
                    have hb2 : (kk != g) = false := by simpa using hkg
                    have HCN := Lib.hid (show b2 = false → ∀ n ∈ nx.take (j + 1), n ≠ (g : Int) → s2[n.toNat]? = some true from fun e n hn hne => by
                      rw [HTK.out] at hn
                      rcases List.mem_append.1 hn with h | h
                      · exact HCJ.out e n h hne
                      · rw [List.mem_singleton.1 h, hkg] at hne; exact absurd rfl hne)
                    clear hkg
                    go_wp2
                    go_roundw
                    case rel => exact ⟨b2, s2, j + 1, by omega, rfl, by go_num, HRN, HCQ, HCN, HP⟩
                    case measure => simp [intOf]; omega
                  · have hb : ((kk : Int) != (g : Int)) = true := by simp; omega
                    have hb2 : (kk != g) = true := by simpa using hkg
                    have HKG := Lib.hid hkg
                    clear hkg
                    cases sk with
                    | true =>
                      have HCN := Lib.hid (show b2 = false → ∀ n ∈ nx.take (j + 1), n ≠ (g : Int) → s2[n.toNat]? = some true from fun e n hn hne => by
                        rw [HTK.out] at hn
                        rcases List.mem_append.1 hn with h | h
                        · exact HCJ.out e n h hne
                        · rw [List.mem_singleton.1 h, Int.toNat_natCast]; exact HSK.out)
                      go_wp2
                      go_roundw
                      case rel => exact ⟨b2, s2, j + 1, by omega, rfl, by go_num, HRN, HCQ, HCN, HP⟩
                      case measure => simp [intOf]; omega
                    | false =>
                      have HST := Lib.hid (HRN.out.1.set HSI.out (by rw [HM.out]; exact hkk) (by rw [HM.out]; exact hq) HED.out HKG.out HSK.out)
                      have HCT := Lib.hid (show (s2.set kk true).count false + 1 ≤ ss.count false by
                        have h1 := HST.out.2
                        cases b2 with
                        | false => rw [HRN.out.2.1 rfl] at h1 ⊢; exact h1
                        | true => have := HRN.out.2.2 rfl; omega)
                      go_wp2_with (first | (refine wpList_st0 rfl 4 _ _ rfl HP.out rfl rfl (by rw [List.length_map]; omega) rfl (List.map_set ..).symm (by kernel_rfl) ?_; clear HP; intro wst HP; replace HP := Lib.hid HP))
                      go_roundw
                      case rel => exact ⟨true, s2.set kk true, j + 1, by omega, rfl, by go_num, Lib.hid ⟨HST.out.1, fun e => (by cases e), fun _ => HCT.out⟩, Lib.hid (fun e => by cases e), Lib.hid (fun e => by cases e), HP⟩
                      case measure => simp [intOf]; omega
              · obtain rfl : j = nx.length := by omega
                have HCN := Lib.hid (show b2 = false → ∀ k, k < q + 1 → WClosed f g s2 k from fun e k hk => by
                  by_cases e3 : k = q
                  · subst e3
                    intro _ l hl he hlg
                    have h1 := HCJ.out e (l : Int) (by rw [List.take_length]; exact HNI.out l (by rw [← HM.out]; exact hl) he) (by omega)
                    rwa [Int.toNat_natCast] at h1
                  · exact HCQ.out e k (by omega))
                go_wp2
                go_roundw
                case rel => exact ⟨b2, s2, q + 1, by omega, rfl, by go_num, HRN, HCN, HP⟩
                case measure => simp [intOf]; omega
          · obtain rfl : q = m := by omega
            have HBB := HB.out
            go_wp2
            go_roundg (2 * ss'.count false + b'.toNat)
            case measure =>
              have h1 := HBB.2.2
              rw [h1]
              cases b'
              · have := HRN.out.2.1 rfl
                rw [this]; simp
              · have := HRN.out.2.2 rfl
                simp; omega
            case rel => exact ⟨b', ss', rfl, Lib.hid ⟨HRN.out.1, HCQ.out, rfl⟩, HP⟩
end Go.Proofs.YtnabeibnaoahmaaDoor
