/- flow.loop. -/
import Derived.Test.YtnabeibnaoahmaaDoorLoopLaw
import Derived.Test.YtnabeibnaoahmaaDoorWithout
import Derived.Test.YtnabeibnaoahmaaDoorSure
set_option linter.unusedSimpArgs false
set_option linter.unusedVariables false
namespace Go.Proofs.YtnabeibnaoahmaaDoor
open Go.RowKit Plain64
attribute [local irreducible] wpList Code.wp Oper.wp
/-- What is left of a block's ways in, on the list of those that wait. -/
def pz (l : List Int) : List Nat := (l.filter fun n => decide (0 ≤ n)).map Int.toNat
theorem pz_snoc (l : List Int) (n : Int) : pz (l ++ [n]) = pz l ++ if 0 ≤ n then [n.toNat] else [] := by
  unfold pz
  rw [List.filter_append, List.map_append]
  congr 1
  rw [List.filter_cons, List.filter_nil]
  by_cases h : 0 ≤ n <;> simp [h]
theorem pz_len (l : List Int) : (pz l).length ≤ l.length := by
  unfold pz; rw [List.length_map]; exact List.length_filter_le _ _
theorem mem_pz {l : List Int} {k : Nat} : k ∈ pz l ↔ (k : Int) ∈ l := by
  unfold pz
  rw [List.mem_map]
  constructor
  · rintro ⟨n, hn, rfl⟩
    obtain ⟨h1, h2⟩ := List.mem_filter.1 hn
    have h3 : 0 ≤ n := by simpa using h2
    rwa [Int.toNat_of_nonneg h3]
  · intro h
    exact ⟨k, List.mem_filter.2 ⟨h, by simp⟩, Int.toNat_natCast _⟩
structure LpInv (f : Fun) (h t : Nat) (ss : List Bool) (ts : List Nat) : Prop where
  len : ss.length = (headsL f).length
  sound : ∀ i : Nat, ss[i]? = some true → i = h ∨ RV (EB f) h t i
  todo : ∀ n ∈ ts, n < (headsL f).length ∧ (n = h ∨ RV (EB f) h t n)
  head : ss[h]? = some true
  closed : ∀ i : Nat, ss[i]? = some true → i ≠ h → ∀ k, EB f k i → ss[k]? = some true ∨ k ∈ ts
  back : ss[t]? = some true ∨ t ∈ ts
theorem LpInv.start {f : Fun} {h t : Nat} (hh : h < (headsL f).length) (ht : t < (headsL f).length) : LpInv f h t ((List.replicate (headsL f).length false).set h true) [t] := by
  have hs : ∀ i, ((List.replicate (headsL f).length false).set h true)[i]? = some true → i = h := fun i hi => by
    rw [List.getElem?_set] at hi
    by_cases e : h = i
    · exact e.symm
    · rw [if_neg e, List.getElem?_replicate] at hi
      split at hi
      · cases hi
      · cases hi
  refine ⟨by simp, fun i hi => .inl (hs i hi), fun n hn => ?_, List.getElem?_set_self (by simpa using hh), fun i hi hne => absurd (hs i hi) hne, .inr (by simp)⟩
  rw [List.mem_singleton.1 hn]
  refine ⟨ht, ?_⟩
  by_cases e : t = h
  · exact .inl e
  · exact .inr (.here e)
theorem LpInv.skip {f : Fun} {h t i : Nat} {ss : List Bool} {ts : List Nat} (H : LpInv f h t ss (ts ++ [i])) (hi : ss[i]? = some true) : LpInv f h t ss ts := by
  refine ⟨H.len, H.sound, fun n hn => H.todo n (by simp [hn]), H.head, fun j hj hne k hk => ?_, ?_⟩
  · rcases H.closed j hj hne k hk with h1 | h1
    · exact .inl h1
    · rcases List.mem_append.1 h1 with h2 | h2
      · exact .inr h2
      · rw [List.mem_singleton.1 h2]; exact .inl hi
  · rcases H.back with h1 | h1
    · exact .inl h1
    · rcases List.mem_append.1 h1 with h2 | h2
      · exact .inr h2
      · rw [List.mem_singleton.1 h2]; exact .inl hi
theorem LpInv.push {f : Fun} {h t i : Nat} {ss : List Bool} {ts : List Nat} {pl : List Int} (H : LpInv f h t ss (ts ++ [i])) (hi : ss[i]? = some false) (h1 : ∀ k : Nat, (k : Int) ∈ pl ↔ EB f k i) : LpInv f h t (ss.set i true) (ts ++ pz pl) := by
  have hil : i < ss.length := (List.getElem?_eq_some_iff.1 hi).1
  have hih : i ≠ h := fun e => by rw [e, H.head] at hi; cases hi
  have hiv : RV (EB f) h t i := ((H.todo i (by simp)).2).resolve_left hih
  have hmono : ∀ k : Nat, ss[k]? = some true → (ss.set i true)[k]? = some true := fun k hk => by
    rw [List.getElem?_set]
    by_cases e : i = k
    · rw [if_pos e, if_pos hil]
    · rw [if_neg e]; exact hk
  have hself : (ss.set i true)[i]? = some true := List.getElem?_set_self hil
  have hsplit : ∀ k : Nat, (ss.set i true)[k]? = some true → k = i ∨ ss[k]? = some true := fun k hk => by
    rw [List.getElem?_set] at hk
    by_cases e : i = k
    · exact .inl e.symm
    · rw [if_neg e] at hk; exact .inr hk
  refine ⟨by rw [List.length_set]; exact H.len, fun j hj => ?_, fun n hn => ?_, hmono _ H.head, fun j hj hne k hk => ?_, ?_⟩
  · rcases hsplit j hj with rfl | e
    · exact .inr hiv
    · exact H.sound j e
  · rcases List.mem_append.1 hn with hn | hn
    · exact H.todo n (by simp [hn])
    · have he := (h1 n).1 (mem_pz.1 hn)
      refine ⟨he.1, ?_⟩
      by_cases e : n = h
      · exact .inl e
      · exact .inr (.step he hiv e)
  · rcases hsplit j hj with rfl | e
    · exact .inr (List.mem_append.2 (.inr (mem_pz.2 ((h1 k).2 hk))))
    · rcases H.closed j e hne k hk with h2 | h2
      · exact .inl (hmono k h2)
      · rcases List.mem_append.1 h2 with h3 | h3
        · exact .inr (by simp [h3])
        · rw [List.mem_singleton.1 h3]; exact .inl hself
  · rcases H.back with h2 | h2
    · exact .inl (hmono _ h2)
    · rcases List.mem_append.1 h2 with h3 | h3
      · exact .inr (by simp [h3])
      · rw [List.mem_singleton.1 h3]; exact .inl hself
theorem LpInv.done {f : Fun} {h t : Nat} {ss : List Bool} (H : LpInv f h t ss []) {i : Nat} (hi : i < (headsL f).length) : ss[i]? = some (i == h || rvB f h t i) := by
  have key : ∀ i, RV (EB f) h t i → ss[i]? = some true := fun i hr => by
    induction hr with
    | here _ => exact H.back.resolve_right (by simp)
    | step he h2 _ ih => exact (H.closed _ ih h2.ne _ he).resolve_right (by simp)
  have hs : ss[i]? = some (ss[i]'(by rw [H.len]; exact hi)) := List.getElem?_eq_getElem _
  rw [hs]
  congr 1
  rw [Bool.eq_iff_iff, Bool.or_eq_true, beq_iff_eq, rvB_iff]
  constructor
  · intro e; rw [e] at hs; exact H.sound i hs
  · rintro (e | e)
    · subst e; have := H.head; rw [hs] at this; exact Option.some.inj this
    · have := key i e; rw [hs] at this; exact Option.some.inj this
theorem count_setF : ∀ (l : List Bool) (k : Nat), l[k]? = some false → (l.set k true).count false + 1 = l.count false := by
  intro l
  induction l with
  | nil => intro k h; simp at h
  | cons x l ih =>
    intro k h
    cases k with
    | zero => simp at h; subst h; simp
    | succ k =>
      simp at h
      have := ih k h
      rw [List.set_cons_succ, List.count_cons, List.count_cons]
      omega
theorem mem_preB {f : Fun} {i n : Nat} (k : Nat) : (k : Int) ∈ preB i ++ prvB f i n ↔ k < n ∧ edgeB f k i = true := by
  rw [List.mem_append]
  constructor
  · rintro (h | h)
    · exfalso
      unfold preB at h
      split at h
      · have := List.mem_singleton.1 h; omega
      · cases h
    · unfold prvB at h
      obtain ⟨a, ha, e⟩ := List.mem_map.1 h
      obtain ⟨h1, h2⟩ := List.mem_filter.1 ha
      have : a = k := by omega
      subst this
      exact ⟨List.mem_range.1 h1, h2⟩
  · rintro ⟨h1, h2⟩
    right
    unfold prvB
    exact List.mem_map.2 ⟨k, List.mem_filter.2 ⟨List.mem_range.2 h1, h2⟩, rfl⟩
theorem preB_all {f : Fun} {i n : Nat} {x : Int} (h : x ∈ preB i ++ prvB f i n) : x = -1 ∨ ∃ k : Nat, k < n ∧ x = k := by
  rcases List.mem_append.1 h with h | h
  · unfold preB at h
    split at h
    · exact .inl (List.mem_singleton.1 h)
    · cases h
  · unfold prvB at h
    obtain ⟨a, ha, e⟩ := List.mem_map.1 h
    exact .inr ⟨a, List.mem_range.1 (List.mem_filter.1 ha).1, e.symm⟩
theorem preBv_len {f : Fun} {i n : Nat} : (preB i ++ prvB f i n).length ≤ n + 1 := by
  rw [List.length_append]
  have h1 : (preB i).length ≤ 1 := by unfold preB; split <;> simp
  have h2 : (prvB f i n).length ≤ n := by
    unfold prvB; rw [List.length_map]; have := List.length_filter_le (fun k => edgeB f k i) (List.range n); rwa [List.length_range] at this
  omega
set_option maxRecDepth 100000 in
set_option maxHeartbeats 4000000 in
theorem loop_any (f : Fun) (funcs : Nat) (ok : OkF f funcs) (v : Value) (h t m : Nat) (hmm : (headsL f).length = m) (hh : h < m) (ht : t < m) (w : World) (hv : Lay.rep w (Lt w.heap.size) (blksL f) [v]) :
    Calls Tryd.prog 51 #[v, .int .i64 h, .int .i64 t] w fun e w' => ∃ u, e = .returned u ∧ Lay.rep w' (Fresh w w') (rowB f h t) [u] ∧ Below w.heap.size w w' := by
  obtain ⟨A, c, rfl, hc, hm, hx⟩ := rep_bks_at hv
  unfold maxLen at hm
  have hbl : (blksL f).length = m := by rw [blksL_len, hmm]
  have hmp : 0 < m := by omega
  have hml : m ≤ 40 := by have h1 := headsL_len f; have h2 := ok.len.2; omega
  have hx2 : ∀ k, k < m → ∃ (a : Addr) (u z : Value), A = some a ∧ Lt w.heap.size a.block ∧ At w (a.add (k * 4)) [.int .i64 (blkOf f k).frm, .int .i64 (blkOf f k).upto, u, z] ∧ Lay.rep w (Lt w.heap.size) (preB k ++ prvB f k m) [z] := fun k hk => by
    obtain ⟨a, u, z, h1, h2, h3, _, h4⟩ := hx k (by omega)
    rw [blksL_get (by omega)] at h3 h4
    exact ⟨a, u, z, h1, h2, h3, by rw [← hmm]; exact h4⟩
  rw [hbl] at hc ⊢
  have HX := Lib.hid hx2
  have HM := Lib.hid hmm
  have HI0 := Lib.hid (LpInv.start (f := f) (h := h) (t := t) (by omega) (by omega))
  rw [hmm] at HI0
  clear hv hx hx2 hbl hmm ok
  have HP := Lib.hid (Hp.start w)
  have hhi : (h : Int) < (m : Int) := by omega
  obtain ⟨i_bool, hi_bool, hz_bool, hs_bool, hy_bool⟩ := info_parts info_bool
  obtain ⟨i_int, hi_int, hz_int, hs_int, hy_int⟩ := info_parts info_int
  go_enter Tryd.func51, Tryd.ntmps51
  go_upto_region 4 with (first | (refine wpList_make_hp (o := ⟨some 17, _, _, _, _, _⟩) rfl _ _ _ rfl _ i_bool (.bool false) Tryd.underlying63 hi_bool hz_bool rfl hs_bool m rfl rfl (by rw [hy_bool]; omega) (by unfold maxLen; omega) HP.out ?_; clear HP; intro gs ws0 HP; replace HP := Lib.hid HP; rw [← List.map_replicate] at HP) | (refine wpList_st0 rfl 4 _ _ rfl HP.out rfl rfl (by simp; omega) rfl (List.map_set ..).symm (by kernel_rfl) ?_; clear HP; intro wst HP; replace HP := Lib.hid HP) | (refine wpList_ints_hp rfl 25 3 1 _ rfl HP.out Tryd.underlying25 [_] rfl (by kernel_rfl) ?_; clear HP; intro gi wi HP; replace HP := Lib.hid HP))
  obtain ⟨ss0, hss0⟩ : ∃ ss0, (List.replicate m false).set h true = ss0 := ⟨_, rfl⟩
  rw [hss0] at HP HI0
  have hc0 : ss0.count false ≤ m := by have h1 := List.count_le_length (a := false) (l := ss0); have h2 := HI0.out.len; have h3 := HM.out; omega
  have HP2 : Hid (Hp w [⟨w, Lt w.heap.size⟩] [.row (.slice (some ⟨gi, 0, none⟩) [t].length 1) 3 1 [t].length (tsV [t]), .blk gs 4 (List.map Value.bool ss0)] _) := Lib.hid (HP.out.rowOf (A := []) rfl (by unfold maxLen; simp))
  clear HP hss0
  go_loopg [8] ((m + 1) * ss0.count false + 1) (fun k v wr => ∃ (g cp : Nat) (ss : List Bool) (ts : List Nat), v = .slice (some ⟨g, 0, none⟩) ts.length cp ∧ Hid (LpInv f h t ss ts ∧ k = (m + 1) * ss.count false + ts.length ∧ k ≤ 1641) ∧ Hid (Hp w [⟨w, Lt w.heap.size⟩] [.row (.slice (some ⟨g, 0, none⟩) ts.length cp) 3 1 ts.length (tsV ts), .blk gs 4 (List.map Value.bool ss)] wr))
  case atStart => exact ⟨gi, 1, ss0, [t], rfl, Lib.hid ⟨HI0.out, rfl, by
    have h1 : (m + 1) * ss0.count false ≤ 41 * 40 := Nat.mul_le_mul (by omega) (by omega)
    omega⟩, HP2⟩
  case round =>
    clear HP2 HI0 hc0
    obtain ⟨g, cp, ss, ts, rfl, HI, HP⟩ := hrel
    obtain ⟨wo, rfl⟩ : ∃ wo : World, wo = wr := ⟨_, rfl⟩
    have hsl : ss.length = m := by rw [HI.out.1.len, HM.out]
    by_cases hts : ts = []
    · subst hts
      have HD := Lib.hid (show ∀ i, i < m → ss[i]? = some (i == h || rvB f h t i) from fun i hi => HI.out.1.done (by rw [HM.out]; exact hi))
      clear HI
      replace HP := Lib.hid (Hp.drop (A := []) HP.out)
      go_upto_region 16 with (first | (refine wpList_ints_hp rfl 25 3 1 _ rfl HP.out Tryd.underlying25 [_] rfl (by kernel_rfl) ?_; clear HP; intro gi wi HP; replace HP := Lib.hid HP))
      have HP3 : Hid (Hp w [⟨w, Lt w.heap.size⟩] [.row (.slice (some ⟨gi, 0, none⟩) 1 1) 3 1 1 (((h : Int) :: inL f h t 0).map (Value.int .i64)), .blk gs 4 (List.map Value.bool ss)] _) := Lib.hid (HP.out.rowOf (A := []) rfl (by unfold maxLen; decide))
      clear HP
      go_wp2
      go_loopw [12, 65] (fun o i wr => ∃ (q g cp : Nat) (xs : List Int), q ≤ m ∧ i = .int .i64 q ∧ o = .slice (some ⟨g, 0, none⟩) xs.length cp ∧ xs.length ≤ q + 1 ∧ Hid (xs = (h : Int) :: inL f h t q) ∧ Hid (Hp w [⟨w, Lt w.heap.size⟩] [.row (.slice (some ⟨g, 0, none⟩) xs.length cp) 3 1 xs.length (xs.map (Value.int .i64)), .blk gs 4 (List.map Value.bool ss)] wr)) (fun _ i _ => m - (intOf i).toNat)
      case atStart => exact ⟨0, gi, 1, [(h : Int)], by omega, rfl, rfl, by simp, Lib.hid rfl, HP3⟩
      case round =>
        clear HP3
        obtain ⟨q, g1, cp1, xs, hq9, rfl, rfl, hxl, HXS, HP⟩ := hrel
        obtain ⟨wk, rfl⟩ : ∃ wk : World, wk = wr := ⟨_, rfl⟩
        obtain ⟨hcp1, hcp2⟩ := HP.out.rowCap (.head _)
        unfold maxLen at hcp2
        by_cases hq : q < m
        · have hq2 : (q : Int) < (m : Int) := by omega
          obtain ⟨sb, hsb⟩ : ∃ sb, (q == h || rvB f h t q) = sb := ⟨_, rfl⟩
          have qs := HP.out.cell (.tail _ (.head _)) q (.bool sb) (by rw [List.getElem?_map, HD.out q hq, hsb]; rfl)
          have HIS := Lib.hid (inL_succ f h t q)
          by_cases hqh : q = h
          · have hb1 : ((q : Int) != (h : Int)) = false := by simp; omega
            have hb2 : (q != h) = false := by simpa using hqh
            have hsbt : sb = true := by rw [← hsb]; simp [hqh]
            subst hsbt
            have HXN := Lib.hid (show xs = (h : Int) :: inL f h t (q + 1) by rw [HIS.out, hb2, HXS.out]; simp)
            clear hsb hqh
            go_wp2
            go_roundw
            case rel => exact ⟨q + 1, g1, cp1, xs, by omega, by go_num, rfl, by omega, HXN, HP⟩
            case measure => simp [intOf]; omega
          · have hb1 : ((q : Int) != (h : Int)) = true := by simp; omega
            have hb2 : (q != h) = true := by simpa using hqh
            have hsbr : rvB f h t q = sb := by rw [← hsb]; simp [hqh]
            rw [hsbr, hb2] at HIS
            clear hsb hqh hsbr
            cases sb with
            | false =>
              have HXN := Lib.hid (show xs = (h : Int) :: inL f h t (q + 1) by rw [HIS.out, HXS.out]; simp)
              go_wp2
              go_roundw
              case rel => exact ⟨q + 1, g1, cp1, xs, by omega, by go_num, rfl, by omega, HXN, HP⟩
              case measure => simp [intOf]; omega
            | true =>
              have HXN := Lib.hid (show xs ++ [(q : Int)] = (h : Int) :: inL f h t (q + 1) by rw [HIS.out, HXS.out]; simp)
              go_wp2_with (first | (refine wpList_ints_hp rfl 25 3 1 _ rfl HP.out Tryd.underlying25 [_] rfl (by kernel_rfl) ?_; clear HP; intro gi wi HP; replace HP := Lib.hid HP) | (at_builtin; refine wpList_apg0 rfl _ _ 25 rfl i_int (.int .i64 0) Tryd.underlying25 hi_int hz_int hs_int rfl (by decide) hy_int (xs.length + 1) rfl HP.out rfl rfl rfl (by simp [Value.oneCell']) (by unfold maxLen; omega) (by omega) (by omega) ?_; clear HP; intro gap cap wap HP; replace HP := Lib.hid HP))
              rw [show List.map (Value.int .i64) xs ++ List.map (Value.int .i64) [(q : Int)] = List.map (Value.int .i64) (xs ++ [(q : Int)]) by simp] at HP
              have hl1 : xs.length + 1 = (xs ++ [(q : Int)]).length := by simp
              rw [hl1] at HP ⊢
              go_roundw
              case rel => exact ⟨q + 1, gap, cap, xs ++ [(q : Int)], by omega, by go_num, rfl, by simp; omega, HXN, HP⟩
              case measure => simp [intOf]; omega
        · obtain rfl : q = m := by omega
          have HE := Lib.hid (show xs = rowB f h t by rw [HXS.out]; unfold rowB; rw [HM.out])
          go_wp2
          (try simp only [Exit.inBlock, Exit.then])
          refine bodyPost_ret (results_tmp (by rfl) _ _ _) (by rfl) ?_
          exact ⟨_, rfl, HP.out.rowInts (.head _) (congrArg (List.map (Value.int IntKind.i64)) HE.out), HP.out.below⟩
    · obtain ⟨ts0, n, rfl⟩ : ∃ ts0 n, ts = ts0 ++ [n] := ⟨ts.dropLast, ts.getLast hts, (List.dropLast_concat_getLast hts).symm⟩
      clear hts
      obtain ⟨hn, -⟩ := HI.out.1.todo n (by simp)
      rw [HM.out] at hn
      have hni : (n : Int) < (m : Int) := by omega
      have hlen : (ts0 ++ [n]).length = ts0.length + 1 := by simp
      rw [hlen] at HP ⊢
      obtain ⟨hcp1, hcp2⟩ := HP.out.rowCap (.head _)
      unfold maxLen at hcp2
      have hll : ts0.length + 1 ≤ 1641 := by have h1 := HI.out.2.1; have h2 := HI.out.2.2; rw [hlen] at h1; omega
      have HK := Lib.hid (show gk = (m + 1) * ss.count false + (ts0.length + 1) ∧ gk ≤ 1641 by have h1 := HI.out.2; rwa [hlen] at h1)
      have HTP := Lib.hid (show (tsV (ts0 ++ [n]))[ts0.length]? = some (.int .i64 (n : Int)) by simp)
      have hl0 : (0 : Int) < (ts0.length : Int) + 1 := by omega
      have hl2 : IntKind.i64.wrap ((ts0.length : Int) + 1 - 1) = (ts0.length : Int) := by rw [IntKind.wrap_i64]; omega
      clear hlen
      go_upto_region 6 with (first | (refine wpList_ldW0 rfl 3 _ rfl HP.out rfl HTP.out Tryd.underlying3 rfl ?_))
      have HP3 : Hid (Hp w [⟨w, Lt w.heap.size⟩] [.row (.slice (some ⟨g, 0, none⟩) ts0.length cp) 3 1 ts0.length (tsV ts0), .blk gs 4 (List.map Value.bool ss)] wo) := Lib.hid (by
        have := Hp.rowTake (A := []) HP.out ts0.length (by omega)
        rwa [show (tsV (ts0 ++ [n])).take ts0.length = tsV ts0 by simp [tsV]] at this)
      clear HP
      have HP := HP3
      clear HP3 HTP
      obtain ⟨sb, hsb⟩ : ∃ sb, ss[n]? = some sb := ⟨_, List.getElem?_eq_getElem (by omega)⟩
      have qs := HP.out.cell (.tail _ (.head _)) n (.bool sb) (by rw [List.getElem?_map, hsb]; rfl)
      have HSB := Lib.hid hsb
      clear hsb
      cases sb with
      | true =>
        have HSK := Lib.hid (HI.out.1.skip HSB.out)
        go_wp2
        go_roundg ((m + 1) * ss.count false + ts0.length)
        case measure => have := HK.out.1; omega
        case rel => exact ⟨g, cp, ss, ts0, rfl, Lib.hid ⟨HSK.out, rfl, by have := HK.out; omega⟩, HP⟩
      | false =>
        obtain ⟨a1, u1, z1, rfl, hab, hat, hpv⟩ := HX.out n hn
        obtain ⟨pl, hple⟩ : ∃ pl, preB n ++ prvB f n m = pl := ⟨_, rfl⟩
        have HPN := Lib.hid (show ∀ x ∈ pl, x = -1 ∨ ∃ k : Nat, k < m ∧ x = k from fun x hx => preB_all (hple ▸ hx))
        have HPU := Lib.hid (HI.out.1.push HSB.out (pl := pl) (fun k => by rw [← hple, mem_preB]; unfold EB; rw [HM.out]; exact ⟨fun h => ⟨h.1, hn, h.2⟩, fun h => ⟨h.1, h.2.2⟩⟩))
        have hpl : pl.length ≤ m + 1 := hple ▸ preBv_len
        have HCT := Lib.hid (count_setF ss n HSB.out)
        rw [hple] at hpv
        obtain ⟨An, cn, rfl, hcn, hmn, hxn⟩ := rep_ints_at hpv
        unfold maxLen at hmn
        have HXN := Lib.hid hxn
        have HATI := Lib.hid (show At w (a1.add (n * 4)) [.int .i64 (blkOf f n).frm, .int .i64 (blkOf f n).upto, u1, .slice An pl.length cn] ∧ Lt w.heap.size (a1.add (n * 4)).block from ⟨hat, by rw [block_of_add]; exact hab⟩)
        clear hpv hxn hat hab hple
        go_upto_region 9 with (first | (refine wpList_st1 rfl 4 _ _ rfl HP.out rfl rfl (by rw [List.length_map]; omega) rfl (List.map_set ..).symm (by kernel_rfl) ?_; clear HP; intro wst HP; replace HP := Lib.hid HP))
        clear qs
        obtain ⟨sn, hsn⟩ : ∃ sn, ss.set n true = sn := ⟨_, rfl⟩
        rw [hsn] at HP HPU HCT
        have qn := (HP.out.at_ (F := ⟨w, Lt w.heap.size⟩) (by simp) HATI.out.1 HATI.out.2).fld 2 rfl
        have HKK := Lib.hid (show (m + 1) * sn.count false + (ts0.length + (m + 1)) + 1 ≤ gk by
          have h1 := HK.out.1
          have h2 := HCT.out
          rw [← h2, Nat.mul_add] at h1
          omega)
        have hts1 : ts0.length + (m + 1) ≤ 1641 := by have h1 := HKK.out; have h2 := HK.out.2; omega
        clear hsn
        go_wp2
        clear qn
        go_loopw [8, 50] (fun v i wr => ∃ (g2 cp2 : Nat) (ts2 : List Nat) (j : Nat), j ≤ pl.length ∧ v = .slice (some ⟨g2, 0, none⟩) ts2.length cp2 ∧ i = .int .i64 j ∧ ts2.length ≤ ts0.length + j ∧ Hid (ts2 = ts0 ++ pz (pl.take j)) ∧ Hid (Hp w [⟨w, Lt w.heap.size⟩] [.row (.slice (some ⟨g2, 0, none⟩) ts2.length cp2) 3 1 ts2.length (tsV ts2), .blk gs 4 (List.map Value.bool sn)] wr)) (fun _ i _ => pl.length - (intOf i).toNat)
        case atStart => exact ⟨g, cp, ts0, 0, by omega, rfl, rfl, by omega, Lib.hid (by simp [pz]), HP⟩
        case round =>
          clear HP
          obtain ⟨g2, cp2, ts2, j, hj9, rfl, rfl, htl, HTS, HP⟩ := hrel
          obtain ⟨wk, rfl⟩ : ∃ wk : World, wk = wr := ⟨_, rfl⟩
          obtain ⟨hcp3, hcp4⟩ := HP.out.rowCap (.head _)
          unfold maxLen at hcp4
          by_cases hj : j < pl.length
          · have hj2 : (j : Int) < (pl.length : Int) := by omega
            obtain ⟨a2, rfl, hab2, hcl⟩ := HXN.out j hj
            obtain ⟨x, hx⟩ : ∃ x, pl[j] = x := ⟨_, rfl⟩
            have hxx := HPN.out x (hx ▸ List.getElem_mem hj)
            rw [hx] at hcl
            have qc := (HP.out.alike (F := ⟨w, Lt w.heap.size⟩) (by simp) (a2.add j) (by rw [block_of_add]; exact hab2)).trans hcl
            have HTK := Lib.hid (show pz (pl.take (j + 1)) = pz (pl.take j) ++ if 0 ≤ x then [x.toNat] else [] by rw [List.take_add_one, List.getElem?_eq_getElem hj, hx]; exact pz_snoc _ _)
            clear hx hcl hab2
            rcases hxx with rfl | ⟨k, hk, rfl⟩
            · have hd : decide ((0 : Int) ≤ -1) = false := by decide
              have HTN := Lib.hid (show ts2 = ts0 ++ pz (pl.take (j + 1)) by rw [HTK.out, HTS.out]; simp)
              go_wp2
              go_roundw
              case rel => exact ⟨g2, cp2, ts2, j + 1, by omega, rfl, by go_num, by omega, HTN, HP⟩
              case measure => simp [intOf]; omega
            · have HTN := Lib.hid (show ts2 ++ [k] = ts0 ++ pz (pl.take (j + 1)) by rw [HTK.out, HTS.out, if_pos (by omega), Int.toNat_natCast, List.append_assoc])
              have hkn : (0 : Int) ≤ (k : Int) := by omega
              go_wp2_with (first | (refine wpList_ints_hp rfl 25 3 1 _ rfl HP.out Tryd.underlying25 [_] rfl (by kernel_rfl) ?_; clear HP; intro gi wi HP; replace HP := Lib.hid HP) | (at_builtin; refine wpList_apg0 rfl _ _ 25 rfl i_int (.int .i64 0) Tryd.underlying25 hi_int hz_int hs_int rfl (by decide) hy_int (ts2.length + 1) rfl HP.out rfl rfl rfl (by simp [Value.oneCell']) (by unfold maxLen; omega) (by omega) (by omega) ?_; clear HP; intro gap cap wap HP; replace HP := Lib.hid HP))
              rw [show tsV ts2 ++ List.map (Value.int IntKind.i64) [(k : Int)] = tsV (ts2 ++ [k]) by simp [tsV]] at HP
              have hl1 : ts2.length + 1 = (ts2 ++ [k]).length := by simp
              rw [hl1] at HP ⊢
              go_roundw
              case rel => exact ⟨gap, cap, ts2 ++ [k], j + 1, by omega, rfl, by go_num, by simp; omega, HTN, HP⟩
              case measure => simp [intOf]; omega
          · obtain rfl : j = pl.length := by omega
            have HTN := Lib.hid (show ts2 = ts0 ++ pz pl by rw [HTS.out, List.take_length])
            go_wp2
            go_roundg ((m + 1) * sn.count false + ts2.length)
            case measure => have := HKK.out; omega
            case rel => exact ⟨g2, cp2, sn, ts2, rfl, Lib.hid ⟨by rw [HTN.out]; exact HPU.out, rfl, by have h1 := HKK.out; have h2 := HK.out.2; omega⟩, HP⟩
end Go.Proofs.YtnabeibnaoahmaaDoor
