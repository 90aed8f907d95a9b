/- ref.without: what is come to without a block. -/
import Derived.Test.YtnabeibnaoahmaaDoorMgDomBlkBitsReads3
import Derived.Test.YtnabeibnaoahmaaDoorMgLoopHpBlkMem2
import Derived.Test.YtnabeibnaoahmaaDoorMgBehindWayTo2
set_option linter.unusedSimpArgs false
set_option linter.unusedVariables false
namespace Go.Proofs.YtnabeibnaoahmaaDoor
open Go.RowKit Plain64
attribute [local irreducible] wpList Code.wp Oper.wp
open Classical in
noncomputable def raB (f : Fun) (g i : Nat) : Bool := decide (RA (EB f) g i)
theorem raB_iff {f : Fun} {g i : Nat} : raB f g i = true ↔ RA (EB f) g i := by unfold raB; simp
noncomputable def raL (f : Fun) (g : Nat) : List Bool := (List.range (headsL f).length).map (raB f g)
theorem raB_zero (f : Fun) (i : Nat) : raB f 0 i = false := by
  cases h : raB f 0 i with
  | false => rfl
  | true =>
    have h := raB_iff.1 h
    have : ∀ j, RA (EB f) 0 j → False := fun j hj => by
      induction hj with
      | start h => exact h rfl
      | step _ _ _ ih => exact ih
    exact (this i h).elim
theorem raL_zero (f : Fun) : raL f 0 = List.replicate (headsL f).length false := by
  unfold raL
  apply List.ext_getElem
  · simp
  · intro k h1 h2; simp [raB_zero]
structure WInv (f : Fun) (g : Nat) (ss : List Bool) : Prop where
  len : ss.length = (headsL f).length
  sound : ∀ i : Nat, ss[i]? = some true → RA (EB f) g i
  first : ss[0]? = some true
def WClosed (f : Fun) (g : Nat) (ss : List Bool) (i : Nat) : Prop := ss[i]? = some true → ∀ k, k < (headsL f).length → edgeB f i k = true → k ≠ g → ss[k]? = some true
theorem w_end {f : Fun} {g : Nat} {ss : List Bool} (h : WInv f g ss) (hc : ∀ i, i < (headsL f).length → WClosed f g ss i) : ss = raL f g := by
  have key : ∀ i, RA (EB f) g i → ss[i]? = some true := fun i hi => by
    induction hi with
    | start _ => exact h.first
    | step _ he hk ih => exact hc _ he.1 ih _ he.2.1 he.2.2 hk
  apply List.ext_getElem?
  intro i
  unfold raL
  rw [List.getElem?_map]
  by_cases hi : i < (headsL f).length
  · rw [List.getElem?_range hi]
    have hs : ss[i]? = some (ss[i]'(by rw [h.len]; exact hi)) := List.getElem?_eq_getElem _
    rw [hs]
    show _ = some (raB f g i)
    congr 1
    cases h2 : raB f g i with
    | true => have := key i (raB_iff.1 h2); rw [hs] at this; exact Option.some.inj this
    | false =>
      cases h3 : ss[i]'(by rw [h.len]; exact hi) with
      | false => rfl
      | true => rw [h3] at hs; have := raB_iff.2 (h.sound i hs); rw [h2] at this; cases this
  · rw [List.getElem?_eq_none (by rw [h.len]; omega), List.getElem?_eq_none (by simp; omega)]; rfl
theorem WInv.set {f : Fun} {g : Nat} {ss : List Bool} (h : WInv f g ss) {i k : Nat} (hi : ss[i]? = some true) (hk : k < (headsL f).length) (hil : i < (headsL f).length) (he : edgeB f i k = true) (hg : k ≠ g) (hs : ss[k]? = some false) : WInv f g (ss.set k true) ∧ (ss.set k true).count false + 1 ≤ ss.count false := by
  refine ⟨⟨by rw [List.length_set]; exact h.len, fun j hj => ?_, ?_⟩, ?_⟩
  · rw [List.getElem?_set] at hj
    by_cases e : k = j
    · subst e; exact .step (h.sound i hi) ⟨hil, hk, he⟩ hg
    · rw [if_neg e] at hj; exact h.sound j hj
  · rw [List.getElem?_set]
    by_cases e : k = 0
    · subst e; rw [h.first] at hs; cases hs
    · rw [if_neg e]; exact h.first
  · have : ∀ (l : List Bool) (k : Nat), l[k]? = some false → (l.set k true).count false + 1 ≤ l.count false := by
      intro l
      induction l with
      | nil => intro k h; simp at h
      | cons x l ih =>
        intro k h
        cases k with
        | zero => simp at h; subst h; simp
        | succ k =>
          simp at h
          have := ih k h
          rw [List.set_cons_succ, List.count_cons, List.count_cons]
          omega
    exact this ss k hs
theorem mem_nxtB {f : Fun} {i n : Nat} {x : Int} : x ∈ nxtB f i n ↔ ∃ k : Nat, k < n ∧ x = k ∧ edgeB f i k = true := by
  unfold nxtB
  rw [List.mem_map]
  constructor
  · rintro ⟨k, hk, rfl⟩
    obtain ⟨h1, h2⟩ := List.mem_filter.1 hk
    exact ⟨k, List.mem_range.1 h1, rfl, h2⟩
  · rintro ⟨k, h1, rfl, h2⟩
    exact ⟨k, List.mem_filter.2 ⟨List.mem_range.2 h1, h2⟩, rfl⟩
theorem blksL_get {f : Fun} {i : Nat} (h : i < (blksL f).length) : (blksL f)[i] = blkOf f i := by
  have h1 : (blksL f)[i]? = some (blkOf f i) := by
    have h2 : i < (headsL f).length := by simpa [blksL] using h
    show ((List.range (headsL f).length).map (blkOf f))[i]? = _
    rw [List.getElem?_map, List.getElem?_range h2]; rfl
  rw [List.getElem?_eq_getElem h] at h1
  exact Option.some.inj h1
theorem blksL_len (f : Fun) : (blksL f).length = (headsL f).length := by simp [blksL]
theorem nxtB_len (f : Fun) (i n : Nat) : (nxtB f i n).length ≤ n := by
  unfold nxtB; rw [List.length_map]; have := List.length_filter_le (fun k => edgeB f i k) (List.range n); rwa [List.length_range] at this
set_option maxRecDepth 100000 in
set_option maxHeartbeats 4000000 in
theorem without_any (f : Fun) (funcs : Nat) (ok : OkF f funcs) (v : Value) (g : Nat) (hg : g < (headsL f).length) (w : World) (hv : Lay.rep w (Lt w.heap.size) (blksL f) [v]) :
    Calls Tryd.prog 49 #[v, .int .i64 g] w fun e w' => ∃ u, e = .returned u ∧ Lay.rep w' (Fresh w w') (raL f g) [u] ∧ Below w.heap.size w w' := by
  obtain ⟨A, c, rfl, hc, hm, hx⟩ := rep_bks_at hv
  unfold maxLen at hm
  obtain ⟨m, hmm⟩ : ∃ m, (headsL f).length = m := ⟨_, rfl⟩
  have hbl : (blksL f).length = m := by rw [blksL_len, hmm]
  have hmp : 0 < m := by omega
  have hml : m ≤ 40 := by have h1 := headsL_len f; have h2 := ok.len.2; omega
  have hx2 : ∀ k, k < m → ∃ (a : Addr) (u z : Value), A = some a ∧ Lt w.heap.size a.block ∧ At w (a.add (k * 4)) [.int .i64 (blkOf f k).frm, .int .i64 (blkOf f k).upto, u, z] ∧ Lay.rep w (Lt w.heap.size) (nxtB f k m) [u] := fun k hk => by
    obtain ⟨a, u, z, h1, h2, h3, h4, _⟩ := hx k (by omega)
    rw [blksL_get (by omega)] at h3 h4
    exact ⟨a, u, z, h1, h2, h3, by rw [← hmm]; exact h4⟩
  rw [hmm] at hg
  rw [hbl] at hc ⊢
  have HX := Lib.hid hx2
  have HM := Lib.hid hmm
  clear hv hx hx2 hbl hmm
  have HP := Lib.hid (Hp.start w)
  obtain ⟨i_bool, hi_bool, hz_bool, hs_bool, hy_bool⟩ := info_parts info_bool
  by_cases hg0 : g = 0
  · subst hg0
    have HRZ := Lib.hid (raL_zero f)
    go_enter Tryd.func49, Tryd.ntmps49
    go_wp2_with (first | (refine wpList_make_hp (o := ⟨some 12, _, _, _, _, _⟩) rfl _ _ _ rfl _ i_bool (.bool false) Tryd.underlying63 hi_bool hz_bool rfl hs_bool m rfl rfl (by rw [hy_bool]; omega) (by unfold maxLen; omega) HP.out ?_; clear HP; intro gs ws0 HP; replace HP := Lib.hid HP))
    (try simp only [Exit.inBlock, Exit.then])
    rw [← List.map_replicate] at HP
    refine bodyPost_ret (results_tmp (by rfl) _ _ _) (by rfl) ?_
    refine ⟨_, rfl, ?_, HP.out.below⟩
    rw [HRZ.out, HM.out]
    exact HP.out.bools (.head _) rfl (by simp) (by unfold maxLen; omega)
  · have hgb : ((g : Int) == 0) = false := by simp; omega
    have hgb2 : (g == 0) = false := by simpa using hg0
    have hmp2 : (0 : Int) < (m : Int) := by omega
    go_enter Tryd.func49, Tryd.ntmps49
    go_upto_region 5 with (first | (refine wpList_make_hp (o := ⟨some 12, _, _, _, _, _⟩) rfl _ _ _ rfl _ i_bool (.bool false) Tryd.underlying63 hi_bool hz_bool rfl hs_bool m rfl rfl (by rw [hy_bool]; omega) (by unfold maxLen; omega) HP.out ?_; clear HP; intro gs ws0 HP; replace HP := Lib.hid HP; rw [← List.map_replicate] at HP) | (refine wpList_st0 rfl 4 _ _ rfl HP.out rfl rfl (by simp; omega) rfl (List.map_set ..).symm (by kernel_rfl) ?_; clear HP; intro wst HP; replace HP := Lib.hid HP))
    obtain ⟨ss0, hss0⟩ : ∃ ss0, (List.replicate m false).set 0 true = ss0 := ⟨_, rfl⟩
    have HI0 := Lib.hid (show WInv f g ss0 by
      subst hss0
      refine ⟨by rw [List.length_set, List.length_replicate, HM.out], fun i hi => ?_, by rw [List.getElem?_set_self (by simp; omega)]⟩
      rw [List.getElem?_set] at hi
      by_cases e : 0 = i
      · subst e; exact .start (fun e => hg0 e.symm)
      · rw [if_neg e, List.getElem?_replicate] at hi
        split at hi
        · cases hi
        · cases hi)
    rw [hss0] at HP
    clear hss0
    go_wp2
    go_loopg [6] (2 * ss0.count false + 1) (fun k' v wr => ∃ (b : Bool) (ss : List Bool), v = .bool b ∧ Hid (WInv f g ss ∧ (b = false → ∀ i, i < m → WClosed f g ss i) ∧ k' = 2 * ss.count false + b.toNat) ∧ Hid (Hp w [⟨w, Lt w.heap.size⟩] [.blk gs 4 (List.map Value.bool ss)] wr))
    case atStart => exact ⟨true, ss0, rfl, Lib.hid ⟨HI0.out, fun e => (by cases e), rfl⟩, HP⟩
    case round =>
      clear HP HI0
      obtain ⟨b, ss, rfl, HB, HP⟩ := hrel
      obtain ⟨wr1, rfl⟩ : ∃ wo : World, wo = wr := ⟨_, rfl⟩
      cases b with
      | false =>
        have HEND := Lib.hid (show ss = raL f g from w_end HB.out.1 (by rw [HM.out]; exact HB.out.2.1 rfl))
        have hsl : ss.length = m := by rw [HB.out.1.len, HM.out]
        go_wp2
        (try simp only [Exit.inBlock, Exit.then])
        refine bodyPost_ret (results_tmp (by rfl) _ _ _) (by rfl) ?_
        refine ⟨_, rfl, ?_, HP.out.below⟩
        rw [← HEND.out]
        exact HP.out.bools (.head _) rfl hsl.symm (by unfold maxLen; omega)
      | true =>
        go_wp2
        go_loopw [6, 7] (fun v i wr => ∃ (b' : Bool) (ss' : List Bool) (q : Nat), q ≤ m ∧ v = .bool b' ∧ i = .int .i64 q ∧ Hid (WInv f g ss' ∧ (b' = false → ss' = ss) ∧ (b' = true → ss'.count false + 1 ≤ ss.count false)) ∧ Hid (b' = false → ∀ k, k < q → WClosed f g ss' k) ∧ Hid (Hp w [⟨w, Lt w.heap.size⟩] [.blk gs 4 (List.map Value.bool ss')] wr)) (fun _ i _ => m - (intOf i).toNat)
        case atStart => exact ⟨false, ss, 0, by omega, rfl, rfl, Lib.hid ⟨HB.out.1, fun _ => rfl, fun e => (by cases e)⟩, Lib.hid (fun _ k hk => by omega), HP⟩
        case round =>
          clear HP
          obtain ⟨b', ss', q, hq9, rfl, rfl, HRN, HCQ, HP⟩ := hrel
          obtain ⟨wi, rfl⟩ : ∃ wi : World, wi = wr := ⟨_, rfl⟩
          by_cases hq : q < m
          · have hq2 : (q : Int) < (m : Int) := by omega
            obtain ⟨a1, u1, z1, rfl, hab, hat, hnx⟩ := HX.out q hq
            have HATI := Lib.hid (show At w (a1.add (q * 4)) [.int .i64 (blkOf f q).frm, .int .i64 (blkOf f q).upto, u1, z1] ∧ Lt w.heap.size (a1.add (q * 4)).block from ⟨hat, by rw [block_of_add]; exact hab⟩)
            obtain ⟨nx, hnxe⟩ : ∃ nx, nxtB f q m = nx := ⟨_, rfl⟩
            have HNE := Lib.hid (show ∀ x ∈ nx, ∃ k : Nat, k < m ∧ x = k ∧ edgeB f q k = true from fun x hx => mem_nxtB.1 (hnxe ▸ hx))
            have HNI := Lib.hid (show ∀ k : Nat, k < m → edgeB f q k = true → (k : Int) ∈ nx from fun k h1 h2 => hnxe ▸ mem_nxtB.2 ⟨k, h1, rfl, h2⟩)
            have hnl : nx.length ≤ m := hnxe ▸ nxtB_len f q m
            rw [hnxe] at hnx
            obtain ⟨An, cn, rfl, hcn, hmn, hxn⟩ := rep_ints_at hnx
            unfold maxLen at hmn
            have HXN := Lib.hid hxn
            clear hnx hxn hat hab hnxe
            go_wp2
            go_loopw [6, 8] (fun v i wr => ∃ (b2 : Bool) (s2 : List Bool) (j : Nat), j ≤ nx.length ∧ v = .bool b2 ∧ i = .int .i64 j ∧ Hid (WInv f g s2 ∧ (b2 = false → s2 = ss) ∧ (b2 = true → s2.count false + 1 ≤ ss.count false)) ∧ Hid (b2 = false → ∀ k, k < q → WClosed f g s2 k) ∧ Hid (b2 = false → ∀ n ∈ nx.take j, n ≠ (g : Int) → s2[n.toNat]? = some true) ∧ Hid (Hp w [⟨w, Lt w.heap.size⟩] [.blk gs 4 (List.map Value.bool s2)] wr)) (fun _ i _ => nx.length - (intOf i).toNat)
            case atStart => exact ⟨b', ss', 0, by omega, rfl, rfl, HRN, HCQ, Lib.hid (fun _ n hn => by simp at hn), HP⟩
            case round =>
              clear HP HRN HCQ
              obtain ⟨b2, s2, j, hj9, rfl, rfl, HRN, HCQ, HCJ, HP⟩ := hrel
              obtain ⟨wj, rfl⟩ : ∃ wi : World, wi = wr := ⟨_, rfl⟩
              have qn := (HP.out.at_ (F := ⟨w, Lt w.heap.size⟩) (by simp) HATI.out.1 HATI.out.2).fld 1 rfl
              have hs2l : s2.length = m := by rw [HRN.out.1.len, HM.out]
              obtain ⟨si, hsi⟩ : ∃ si, s2[q]? = some si := ⟨_, List.getElem?_eq_getElem (by omega)⟩
              have HSI := Lib.hid hsi
              have qs := HP.out.cell (.head _) q (.bool si) (by rw [List.getElem?_map, HSI.out]; rfl)
              clear hsi
              by_cases hj : j < nx.length
              · have hj2 : (j : Int) < (nx.length : Int) := by omega
                cases si with
                | false =>
                  have HCN := Lib.hid (show b2 = false → ∀ k, k < q + 1 → WClosed f g s2 k from fun e k hk => by
                    by_cases e3 : k = q
                    · subst e3; intro h; rw [HSI.out] at h; cases h
                    · exact HCQ.out e k (by omega))
                  go_wp2
                  go_roundw
                  case rel => exact ⟨b2, s2, q + 1, by omega, rfl, by go_num, HRN, HCN, HP⟩
                  case measure => simp [intOf]; omega
                | true =>
                  obtain ⟨a2, rfl, hab2, hcl⟩ := HXN.out j hj
                  obtain ⟨n, hn⟩ : ∃ n, nx[j] = n := ⟨_, rfl⟩
                  obtain ⟨kk, hkk, rfl, hed⟩ := HNE.out n (hn ▸ List.getElem_mem hj)
                  rw [hn] at hcl
                  have qc := (HP.out.alike (F := ⟨w, Lt w.heap.size⟩) (by simp) (a2.add j) (by rw [block_of_add]; exact hab2)).trans hcl
                  have HTK := Lib.hid (show nx.take (j + 1) = nx.take j ++ [(kk : Int)] by rw [List.take_add_one, List.getElem?_eq_getElem hj, hn]; rfl)
                  have hkk2 : (kk : Int) < (m : Int) := by omega
                  obtain ⟨sk, hsk⟩ : ∃ sk, s2[kk]? = some sk := ⟨_, List.getElem?_eq_getElem (by omega)⟩
                  have HSK := Lib.hid hsk
                  have qk := HP.out.cell (.head _) kk (.bool sk) (by rw [List.getElem?_map, HSK.out]; rfl)
                  have HED := Lib.hid hed
                  clear hn hcl hsk hed
                  by_cases hkg : kk = g
                  · have hb : ((kk : Int) != (g : Int)) = false := by simp; omega
                    have hb2 : (kk != g) = false := by simpa using hkg
                    have HCN := Lib.hid (show b2 = false → ∀ n ∈ nx.take (j + 1), n ≠ (g : Int) → s2[n.toNat]? = some true from fun e n hn hne => by
                      rw [HTK.out] at hn
                      rcases List.mem_append.1 hn with h | h
                      · exact HCJ.out e n h hne
                      · rw [List.mem_singleton.1 h, hkg] at hne; exact absurd rfl hne)
                    clear hkg
                    go_wp2
                    go_roundw
                    case rel => exact ⟨b2, s2, j + 1, by omega, rfl, by go_num, HRN, HCQ, HCN, HP⟩
                    case measure => simp [intOf]; omega
                  · have hb : ((kk : Int) != (g : Int)) = true := by simp; omega
                    have hb2 : (kk != g) = true := by simpa using hkg
                    have HKG := Lib.hid hkg
                    clear hkg
                    cases sk with
                    | true =>
                      have HCN := Lib.hid (show b2 = false → ∀ n ∈ nx.take (j + 1), n ≠ (g : Int) → s2[n.toNat]? = some true from fun e n hn hne => by
                        rw [HTK.out] at hn
                        rcases List.mem_append.1 hn with h | h
                        · exact HCJ.out e n h hne
                        · rw [List.mem_singleton.1 h, Int.toNat_natCast]; exact HSK.out)
                      go_wp2
                      go_roundw
                      case rel => exact ⟨b2, s2, j + 1, by omega, rfl, by go_num, HRN, HCQ, HCN, HP⟩
                      case measure => simp [intOf]; omega
                    | false =>
                      have HST := Lib.hid (HRN.out.1.set HSI.out (by rw [HM.out]; exact hkk) (by rw [HM.out]; exact hq) HED.out HKG.out HSK.out)
                      have HCT := Lib.hid (show (s2.set kk true).count false + 1 ≤ ss.count false by
                        have h1 := HST.out.2
                        cases b2 with
                        | false => rw [HRN.out.2.1 rfl] at h1 ⊢; exact h1
                        | true => have := HRN.out.2.2 rfl; omega)
                      go_wp2_with (first | (refine wpList_st0 rfl 4 _ _ rfl HP.out rfl rfl (by rw [List.length_map]; omega) rfl (List.map_set ..).symm (by kernel_rfl) ?_; clear HP; intro wst HP; replace HP := Lib.hid HP))
                      go_roundw
                      case rel => exact ⟨true, s2.set kk true, j + 1, by omega, rfl, by go_num, Lib.hid ⟨HST.out.1, fun e => (by cases e), fun _ => HCT.out⟩, Lib.hid (fun e => by cases e), Lib.hid (fun e => by cases e), HP⟩
                      case measure => simp [intOf]; omega
              · obtain rfl : j = nx.length := by omega
                have HCN := Lib.hid (show b2 = false → ∀ k, k < q + 1 → WClosed f g s2 k from fun e k hk => by
                  by_cases e3 : k = q
                  · subst e3
                    intro _ l hl he hlg
                    have h1 := HCJ.out e (l : Int) (by rw [List.take_length]; exact HNI.out l (by rw [← HM.out]; exact hl) he) (by omega)
                    rwa [Int.toNat_natCast] at h1
                  · exact HCQ.out e k (by omega))
                go_wp2
                go_roundw
                case rel => exact ⟨b2, s2, q + 1, by omega, rfl, by go_num, HRN, HCN, HP⟩
                case measure => simp [intOf]; omega
          · obtain rfl : q = m := by omega
            have HBB := HB.out
            go_wp2
            go_roundg (2 * ss'.count false + b'.toNat)
            case measure =>
              have h1 := HBB.2.2
              rw [h1]
              cases b'
              · have := HRN.out.2.1 rfl
                rw [this]; simp
              · have := HRN.out.2.2 rfl
                simp; omega
            case rel => exact ⟨b', ss', rfl, Lib.hid ⟨HRN.out.1, HCQ.out, rfl⟩, HP⟩
end Go.Proofs.YtnabeibnaoahmaaDoor
