/- tierlineref.inList, functionFault, LiveOf. -/
import Derived.Test.YtnabeibnaoahmaaDoorLive
import Derived.Test.YtnabeibnaoahmaaDoorSureOf
import Derived.Test.YtnabeibnaoahmaaDoorProvenC
import Derived.Test.YtnabeibnaoahmaaDoorMgBehindWayTo2
set_option linter.unusedSimpArgs false
set_option linter.unusedVariables false
namespace Go.Proofs.YtnabeibnaoahmaaDoor
open Go.RowKit Plain64
attribute [local irreducible] wpList Code.wp Oper.wp
set_option maxRecDepth 10000 in
set_option maxHeartbeats 1000000 in
theorem inList_any (l : List Int) (v : Value) (n : Int) (w : World) (hv : Lay.rep w (Lt w.heap.size) l [v]) :
    Calls Tryd.prog 32 #[v, .int .i64 n] w fun e w' => e = .returned (.bool (decide (n ∈ l))) ∧ w = w' := by
  obtain ⟨A, c, rfl, hc, hm, hx⟩ := rep_ints_at hv
  unfold maxLen at hm
  have HX := Lib.hid hx
  clear hx hv
  go_enter Tryd.func32, Tryd.ntmps32
  go_wp2
  go_loop [5] (fun i => ∃ (k : Nat), k ≤ l.length ∧ i = .int .i64 k ∧ Hid (n ∉ l.take k)) (fun i => l.length - (intOf i).toNat)
  case atStart => exact ⟨0, by omega, rfl, Lib.hid (by simp)⟩
  case round =>
    obtain ⟨k, hk, rfl, HN⟩ := hrel
    by_cases hlt : k < l.length
    · have hlt2 : (k : Int) < (l.length : Int) := by omega
      obtain ⟨a, rfl, hab, hca⟩ := HX.out k hlt
      obtain ⟨x, hx⟩ : ∃ x, l[k] = x := ⟨_, rfl⟩
      replace hca := hca.trans (congrArg (fun z => some (Value.int IntKind.i64 z)) hx)
      have HXK := Lib.hid hx
      clear hx
      by_cases hxn : x = n
      · have hb : (x == n) = true := by simpa using hxn
        have HM := Lib.hid (show n ∈ l by rw [← hxn, ← HXK.out]; exact List.getElem_mem hlt)
        clear hxn
        go_wp2
        go_ret
        exact ⟨by rw [decide_eq_true HM.out]; rfl, rfl⟩
      · have hb : (x == n) = false := by simpa using hxn
        have HM := Lib.hid (show n ∉ l.take (k + 1) by
          rw [List.take_add_one, List.getElem?_eq_getElem hlt, HXK.out]
          intro h
          rcases List.mem_append.1 h with h | h
          · exact HN.out h
          · simp at h; exact hxn h.symm)
        clear hxn
        go_wp2
        go_round
        case rel => exact ⟨k + 1, by omega, by go_num, HM⟩
        case measure => simp [intOf]; omega
    · obtain rfl : k = l.length := by omega
      have HM := Lib.hid (show n ∉ l by have h := HN.out; rw [List.take_length] at h; exact h)
      go_wp2
      go_ret
      exact ⟨by rw [decide_eq_false HM.out]; rfl, rfl⟩
noncomputable def ffZ (p : Prg) (fn : Int) : Int := if proven p ≠ 0 then proven p else if 0 ≤ fn ∧ fn < p.funcs.length then 0 else 2
set_option maxRecDepth 10000 in
set_option maxHeartbeats 1000000 in
theorem functionFault_any (p : Prg) (u : Value) (fn : Int) (w : World) (hp : Lay.rep w (Lt w.heap.size) p [u]) :
    Calls Tryd.prog 29 #[.agg #[u], .int .i64 fn] w fun e w' => e = .returned (.int .i64 (ffZ p fn)) ∧ Below w.heap.size w w' := by
  obtain ⟨A, c, rfl, hc, hm, hx⟩ := rep_prg_at hp
  unfold maxLen at hm
  have HR := Lib.hid hp
  clear hx hp
  have HP := Lib.hid (Hp.start w)
  obtain ⟨e0, he0⟩ : ∃ e0, proven p = e0 := ⟨_, rfl⟩
  have HZ := Lib.hid he0
  have hwl : IntKind.i64.wrap ((p.funcs.length : Int) - 1) = (p.funcs.length : Int) - 1 := by rw [IntKind.wrap_i64]; omega
  by_cases hz : e0 = 0
  · have hb0 : (e0 == 0) = true := by simpa using hz
    have HFZ := Lib.hid (show ffZ p fn = if 0 ≤ fn ∧ fn < p.funcs.length then 0 else 2 by unfold ffZ; rw [he0, if_neg (by simpa using hz)])
    have HZ0 := Lib.hid hz
    clear he0 hz
    have h3 : (decide (0 ≤ fn) = true ∧ decide (fn ≤ (p.funcs.length : Int) - 1) = true ∧ ffZ p fn = 0) ∨ (decide (0 ≤ fn) = true ∧ decide (fn ≤ (p.funcs.length : Int) - 1) = false ∧ ffZ p fn = 2) ∨ (decide (0 ≤ fn) = false ∧ decide (fn ≤ (p.funcs.length : Int) - 1) = decide (fn ≤ (p.funcs.length : Int) - 1) ∧ ffZ p fn = 2) := by
      by_cases h0 : 0 ≤ fn
      · by_cases h1 : fn ≤ (p.funcs.length : Int) - 1
        · left; exact ⟨decide_eq_true h0, decide_eq_true h1, by rw [HFZ.out, if_pos ⟨h0, by omega⟩]⟩
        · right; left; exact ⟨decide_eq_true h0, decide_eq_false h1, by rw [HFZ.out, if_neg (by omega)]⟩
      · right; right; exact ⟨decide_eq_false h0, rfl, by rw [HFZ.out, if_neg (by omega)]⟩
    rcases h3 with ⟨h1, h2, h3⟩ | ⟨h1, h2, h3⟩ | ⟨h1, -, h3⟩
    all_goals
      have H3 := Lib.hid h3
      clear h3
      go_enter Tryd.func29, Tryd.ntmps29
      go_upto_region 2 with (first | (refine wpList_box_hp (o := ⟨some 2, _, _, _, _, _⟩) rfl _ _ rfl HP.out [_] rfl ?_; clear HP; intro g2 w2 HP; replace HP := Lib.hid HP) | (refine wpList_ldR0 rfl 24 _ rfl HP.out rfl Tryd.underlying24 rfl (by kernel_rfl) ?_) | (go_at_call 60; refine (Proven_any p _ _ (HP.out.rep (F := ⟨w, Lt w.heap.size⟩) (by simp) HR.out)).mono ?_; rintro e w4 ⟨rfl, hb⟩; replace HP := Lib.hid (HP.out.call0 hb); clear hb; rw [HZ.out]))
      have cg := HP.out.cell (.head _) 0 _ rfl
      go_wp2_with (first | (go_at_call 46; refine (In_any _ _ _ _).mono ?_; rintro e w7 ⟨rfl, rfl⟩))
      (try simp only [Exit.inBlock, Exit.then])
      refine bodyPost_ret (results_tmp (by rfl) _ _ _) (by rfl) ?_
      rw [H3.out]
      exact ⟨by first | rfl | (rw [HZ0.out]; rfl), HP.out.below⟩
  · have hb0 : (e0 == 0) = false := by simpa using hz
    have HFZ := Lib.hid (show ffZ p fn = e0 by unfold ffZ; rw [he0, if_pos hz])
    clear he0 hz
    go_enter Tryd.func29, Tryd.ntmps29
    go_wp2_with (first | (refine wpList_box_hp (o := ⟨some 2, _, _, _, _, _⟩) rfl _ _ rfl HP.out [_] rfl ?_; clear HP; intro g2 w2 HP; replace HP := Lib.hid HP) | (refine wpList_ldR0 rfl 24 _ rfl HP.out rfl Tryd.underlying24 rfl (by kernel_rfl) ?_) | (go_at_call 60; refine (Proven_any p _ _ (HP.out.rep (F := ⟨w, Lt w.heap.size⟩) (by simp) HR.out)).mono ?_; rintro e w4 ⟨rfl, hb⟩; replace HP := Lib.hid (HP.out.call0 hb); clear hb; rw [HZ.out]))
    (try simp only [Exit.inBlock, Exit.then])
    refine bodyPost_ret (results_tmp (by rfl) _ _ _) (by rfl) ?_
    rw [HFZ.out]
    exact ⟨rfl, HP.out.below⟩
theorem liveUpto_range (p : Prg) (f : Fun) (r pc : Nat) (hr : r ≤ 12) : -1 ≤ liveUpto p f r pc ∧ liveUpto p f r pc ≤ 4095 := by
  unfold liveUpto
  split
  · have h1 := mskZ_range (fun r => liveB p f r pc) r
    have h2 := Nat.pow_le_pow_right (n := 2) (by decide) hr
    have e : ((2 ^ r : Nat) : Int) = 2 ^ r := by simp
    have : (2 : Int) ^ r ≤ 4096 := by rw [← e]; exact Int.ofNat_le.2 h2
    omega
  · omega
set_option maxRecDepth 100000 in
set_option maxHeartbeats 10000000 in
theorem LiveOf_any (p : Prg) (u : Value) (fn : Int) (w : World) (hp : Lay.rep w (Lt w.heap.size) p [u]) :
    Calls Tryd.prog 10 #[.agg #[u], .int .i64 fn] w fun e w' => ∃ v, e = .returned (.tuple #[v, .int .i64 (liveAns p fn).2]) ∧ Lay.rep w' (Fresh w w') (liveAns p fn).1 [v] ∧ Below w.heap.size w w' := by
  obtain ⟨A, c, rfl, hc, hm, hx⟩ := rep_prg_at hp
  unfold maxLen at hm
  have HX := Lib.hid hx
  have HR := Lib.hid hp
  clear hx hp
  obtain ⟨i_int, hi_int, hz_int, hs_int, hy_int⟩ := info_parts info_int
  obtain ⟨i_bool, hi_bool, hz_bool, hs_bool, hy_bool⟩ := info_parts info_bool
  by_cases hz : proven p = 0
  · have hpf := proven_prgL hz
    have ok := okP_of hpf
    have HOK := Lib.hid ok
    obtain ⟨n1, n2⟩ := ok.len
    clear ok
    by_cases hfn : 0 ≤ fn ∧ fn < p.funcs.length
    · have HFF := Lib.hid (show ffZ p fn = 0 by unfold ffZ; rw [if_neg (by simpa using hz), if_pos hfn])
      obtain ⟨f1, f2⟩ := hfn
      obtain ⟨k, rfl⟩ := Int.eq_ofNat_of_zero_le f1
      have hkl : k < p.funcs.length := by omega
      obtain ⟨ad, v, rfl, hab, hat, hcode⟩ := HX.out k hkl
      obtain ⟨f, hf⟩ : ∃ f, p.funcs[k] = f := ⟨_, rfl⟩
      rw [hf] at hat hcode
      have hfm : f ∈ p.funcs := hf ▸ List.getElem_mem hkl
      have hfk : p.funcs[k]? = some f := by rw [← hf, List.getElem?_eq_getElem hkl]
      have HANS := Lib.hid (liveAns_in hz hfk)
      have HOF := Lib.hid (HOK.out.fns f hfm)
      have HEN := Lib.hid (proven_ends hz hfm)
      have HC := Lib.hid hcode
      obtain ⟨A2, c2, rfl, hc2, hm2, hx2⟩ := rep_code hcode
      unfold maxLen at hm2
      have HX2 := Lib.hid hx2
      obtain ⟨l1, l2⟩ := HOF.out.len
      have HAT := Lib.hid hat
      clear hz hpf hf hfm hfk hx2 hcode hat
      rw [HANS.out]
      have HP := Lib.hid ((Hp.start w).nil 3 1)
      go_enter Tryd.func10, Tryd.ntmps10
      go_upto_region 7 with (first | (refine wpList_box_hp (o := ⟨some 2, _, _, _, _, _⟩) rfl _ _ rfl HP.out [_] rfl ?_; clear HP; intro g2 w2 HP; replace HP := Lib.hid HP) | (refine wpList_ldR0 rfl 24 _ rfl HP.out rfl Tryd.underlying24 rfl (by kernel_rfl) ?_) | (go_at_call 29; refine (functionFault_any p _ _ _ (HP.out.rep (F := ⟨w, Lt w.heap.size⟩) (by simp) HR.out)).mono ?_; rintro e w4 ⟨rfl, hb⟩; replace HP := Lib.hid (HP.out.call0 hb); clear hb; rw [HFF.out]) | (go_at_call 30; refine (sureOf_any f p.funcs.length _ _ (HP.out.rep (F := ⟨w, Lt w.heap.size⟩) (by simp) HC.out) HOF.out).mono ?_; rintro e w5 ⟨v5, rfl, hv5, hb⟩; replace HP := Lib.hid (HP.out.call hb); clear hb; have HV5 := Lib.hid hv5; clear hv5) | (refine wpList_alloc_hp (o := ⟨some 7, _, _, _, _, _⟩) rfl _ rfl HP.out (.agg #[.int .i64 0, .int .i64 0, .slice none 0 0]) (by kernel_rfl) [_, _, _] rfl ?_; clear HP; intro g7 w7 HP; replace HP := Lib.hid HP) | (refine wpList_stR0 rfl 57 _ _ rfl HP.out rfl (cs' := [_, _, _]) rfl rfl (by simp [Value.oneCell']) (by kernel_rfl) ?_; clear HP; intro wst HP; replace HP := Lib.hid HP) | (refine wpList_ldR0 rfl 57 _ rfl HP.out rfl Tryd.underlying57 rfl (by kernel_rfl) ?_) | (refine wpList_ld0 rfl 22 _ rfl HP.out rfl rfl Tryd.underlying22 rfl ?_) | (refine wpList_ld1 rfl 22 _ rfl HP.out rfl rfl Tryd.underlying22 rfl ?_) | (refine wpList_load_at rfl 57 _ rfl _ rfl _ _ (HP.out.at_ (F := ⟨w, Lt w.heap.size⟩) (by simp) HAT.out (by rw [block_of_add]; exact hab)) Tryd.underlying57 rfl (by kernel_rfl) ?_))
      obtain ⟨A8, c8, rfl, hc8, hm8, -⟩ := rep_ints_at HV5.out
      unfold maxLen at hm8
      obtain ⟨G8, HP, HS8⟩ : ∃ G : Fro, Hid (Hp w [G, ⟨w, Lt w.heap.size⟩] [.blk g7 57 [.int .i64 f.params, .int .i64 f.regs, .slice A2 f.code.length c2], .blk g2 24 [.slice (some ad) p.funcs.length c], .row (.slice none 0 0) 3 1 0 []] _) ∧ Hid (Lay.rep G.w G.S (sureL f) [.slice A8 (sureL f).length c8]) := ⟨_, HP, HV5⟩
      clear HV5
      rw [sureL_len] at HS8 hc8
      simp only [sureL_len]
      (try simp only [Act.put, List.setIfInBounds_toArray, List.set_cons_zero, List.set_cons_succ])
      go_wp2
      go_loopw [9, 10] (fun v i wr => ∃ (k : Nat) (A' : Option Addr) (c' : Nat) (os : List Int), k ≤ f.code.length ∧ v = .slice A' k c' ∧ i = .int .i64 k ∧ Hid (os.length = k ∧ ∀ q, q < k → os[q]? = some (liveUpto p f 0 q)) ∧ Hid (Hp w [G8, ⟨w, Lt w.heap.size⟩] [.blk g7 57 [.int .i64 f.params, .int .i64 f.regs, .slice A2 f.code.length c2], .blk g2 24 [.slice (some ad) p.funcs.length c], .row (.slice A' k c') 3 1 (k) (List.map (Value.int .i64) os)] wr)) (fun _ i _ => f.code.length - (intOf i).toNat)
      case atStart => exact ⟨0, none, 0, [], by omega, rfl, rfl, Lib.hid ⟨rfl, fun q hq => by omega⟩, HP⟩
      case round =>
        clear HP
        obtain ⟨k, A', c', os, hk, rfl, rfl, HO, HP⟩ := hrel
        obtain ⟨wo, rfl⟩ : ∃ wo : World, wo = wr := ⟨_, rfl⟩
        by_cases hlt : k < f.code.length
        · have hk1 : (k : Int) < (f.code.length : Int) + 1 := by omega
          have hk2 : (k : Int) < (f.code.length : Int) := by omega
          have hk0 : (0 : Int) ≤ (k : Int) := by omega
          obtain ⟨A9, c9, e9, -, -, hx9⟩ := rep_ints_at (HP.out.rep (F := G8) (by simp) HS8.out)
          obtain ⟨a9, rfl, -, hcs⟩ := hx9 k (by rw [sureL_len]; omega)
          clear hx9
          obtain rfl : A8 = some a9 := (Value.slice.inj e9).1
          clear e9
          obtain ⟨sq, hsq⟩ : ∃ s, sureUpto f 12 k = s := ⟨_, rfl⟩
          replace hcs := hcs.trans (show some (Value.int IntKind.i64 _) = some (.int .i64 sq) by rw [← hsq]; congr 2; have h1 := sureL_at f k (by omega); rw [List.getElem?_eq_getElem (by rw [sureL_len]; omega)] at h1; exact Option.some.inj h1)
          by_cases hs : sq < 0
          · have HNS := Lib.hid (show liveUpto p f 0 k = -1 by unfold liveUpto; rw [if_neg (by rw [sureAt_upto f k hlt, hsq]; omega)])
            have hsb : decide (sq < 0) = true := decide_eq_true hs
            clear hs hsq
            go_wp2_with (first | (refine wpList_ld0 rfl 55 _ rfl HP.out rfl rfl Tryd.underlying55 rfl ?_) | (refine wpList_ints_hp rfl 25 3 1 _ rfl HP.out Tryd.underlying25 [_] rfl (by kernel_rfl) ?_; clear HP; intro gi wi HP; replace HP := Lib.hid HP) | (at_builtin; refine wpList_apg2 rfl _ _ 25 rfl i_int (.int .i64 0) Tryd.underlying25 hi_int hz_int hs_int rfl (by decide) hy_int (k + 1) rfl HP.out rfl rfl rfl (by simp [Value.oneCell']) (by unfold maxLen; omega) (by omega) (by omega) ?_; clear HP; intro gap cap wap HP; replace HP := Lib.hid HP))
            rw [← List.map_append] at HP
            go_roundw
            case rel =>
              refine ⟨k + 1, _, _, os ++ [-1], by omega, rfl, by go_num, Lib.hid ⟨by simp [HO.out.1], fun q hq => ?_⟩, HP⟩
              by_cases hqk : q < k
              · rw [List.getElem?_append_left (by rw [HO.out.1]; omega)]; exact HO.out.2 q hqk
              · obtain rfl : q = k := by omega
                rw [List.getElem?_append_right (by rw [HO.out.1]; omega), HO.out.1, Nat.sub_self, HNS.out]
                rfl
            case measure => simp [intOf]; omega
          · have HNS := Lib.hid (show liveUpto p f 0 k = 0 by unfold liveUpto; rw [if_pos (by rw [sureAt_upto f k hlt, hsq]; omega)]; rfl)
            have hsb : decide (sq < 0) = false := decide_eq_false hs
            clear hs hsq
            go_wp2_with (first | (refine wpList_ld0 rfl 55 _ rfl HP.out rfl rfl Tryd.underlying55 rfl ?_) | (refine wpList_ints_hp rfl 25 3 1 _ rfl HP.out Tryd.underlying25 [_] rfl (by kernel_rfl) ?_; clear HP; intro gi wi HP; replace HP := Lib.hid HP) | (at_builtin; refine wpList_apg2 rfl _ _ 25 rfl i_int (.int .i64 0) Tryd.underlying25 hi_int hz_int hs_int rfl (by decide) hy_int (k + 1) rfl HP.out rfl rfl rfl (by simp [Value.oneCell']) (by unfold maxLen; omega) (by omega) (by omega) ?_; clear HP; intro gap cap wap HP; replace HP := Lib.hid HP))
            rw [← List.map_append] at HP
            go_roundw
            case rel =>
              refine ⟨k + 1, _, _, os ++ [0], by omega, rfl, by go_num, Lib.hid ⟨by simp [HO.out.1], fun q hq => ?_⟩, HP⟩
              by_cases hqk : q < k
              · rw [List.getElem?_append_left (by rw [HO.out.1]; omega)]; exact HO.out.2 q hqk
              · obtain rfl : q = k := by omega
                rw [List.getElem?_append_right (by rw [HO.out.1]; omega), HO.out.1, Nat.sub_self, HNS.out]
                rfl
            case measure => simp [intOf]; omega
        · obtain rfl : k = f.code.length := by omega
          obtain ⟨g4, c4, hv4⟩ := HP.out.rowSome (.tail _ (.tail _ (.head _))) (by omega)
          cases hv4
          go_wp2_with (first | (refine wpList_ld0 rfl 55 _ rfl HP.out rfl rfl Tryd.underlying55 rfl ?_))
          go_hide hQ
          go_loopw [12, 13] (fun v i wr => ∃ (r : Nat) (m : Int) (os : List Int), r ≤ 12 ∧ v = .int .i64 m ∧ i = .int .i64 r ∧ Hid (m = 2 ^ r) ∧ 1 ≤ m ∧ m ≤ 4096 ∧ Hid (os.length = f.code.length ∧ ∀ q, q < f.code.length → os[q]? = some (liveUpto p f r q)) ∧ Hid (Hp w [G8, ⟨w, Lt w.heap.size⟩] [.blk g7 57 [.int .i64 f.params, .int .i64 f.regs, .slice A2 f.code.length c2], .blk g2 24 [.slice (some ad) p.funcs.length c], .row (.slice (some ⟨g4, 0, none⟩) f.code.length c') 3 1 (f.code.length) (List.map (Value.int .i64) os)] wr)) (fun _ i _ => 12 - (intOf i).toNat)
          case atStart => exact ⟨0, 1, os, by omega, rfl, rfl, Lib.hid rfl, by omega, by omega, HO, HP⟩
          case round =>
            clear HP HO
            obtain ⟨r, m, os, hr, rfl, rfl, HM, m1, m2, HO, HP⟩ := hrel
            obtain ⟨wo, rfl⟩ : ∃ wo : World, wo = wr := ⟨_, rfl⟩
            by_cases hlt : r < 12
            · have hm3' : m ≤ 2048 := by
                have h := HM.out
                have h2 := Nat.pow_le_pow_right (n := 2) (show 0 < 2 by decide) (show r ≤ 11 by omega)
                have e : ((2 ^ r : Nat) : Int) = 2 ^ r := by simp
                rw [h, ← e]; omega
              have hlt2 : (r : Int) < 12 := by omega
              go_upto_region 19 with (first | (refine wpList_ld0 rfl 55 _ rfl HP.out rfl rfl Tryd.underlying55 rfl ?_) | (refine wpList_ld1 rfl 55 _ rfl HP.out rfl rfl Tryd.underlying55 rfl ?_) | (refine wpList_make_hp (o := ⟨some 59, _, _, _, _, _⟩) rfl _ _ _ rfl _ i_bool (.bool false) Tryd.underlying63 hi_bool hz_bool rfl hs_bool f.code.length rfl rfl (by rw [hy_bool]; omega) (by unfold maxLen; omega) HP.out ?_; clear HP; intro gb wb0 HP; replace HP := Lib.hid HP))
              rw [← List.map_replicate] at HP
              obtain ⟨bs0, hbs0⟩ : ∃ bs0, List.replicate f.code.length false = bs0 := ⟨_, rfl⟩
              have HI0 := Lib.hid (show LvInv p f r bs0 from hbs0 ▸ ⟨by simp, fun q h => by have := List.mem_of_getElem? h; simp at this⟩)
              rw [hbs0] at HP
              clear hbs0
              (try simp only [Act.put, List.setIfInBounds_toArray, List.set_cons_zero, List.set_cons_succ])
              go_wp2
              go_loopg [15] (2 * bs0.count false + 1) (fun k' v wr => ∃ (b : Bool) (bs : List Bool), v = .bool b ∧ Hid (LvInv p f r bs ∧ (b = false → ∀ q, q < f.code.length → LvClosed p f r bs q) ∧ k' = 2 * bs.count false + b.toNat) ∧ Hid (Hp w [G8, ⟨w, Lt w.heap.size⟩] [.blk gb 4 (List.map Value.bool bs), .blk g7 57 [.int .i64 f.params, .int .i64 f.regs, .slice A2 f.code.length c2], .blk g2 24 [.slice (some ad) p.funcs.length c], .row (.slice (some ⟨g4, 0, none⟩) f.code.length c') 3 1 (f.code.length) (List.map (Value.int .i64) os)] wr))
              case atStart => exact ⟨true, bs0, rfl, Lib.hid ⟨HI0.out, fun e => (by cases e), rfl⟩, HP⟩
              case round =>
                clear HP HI0
                obtain ⟨b, bs, rfl, HB, HP⟩ := hrel
                obtain ⟨wr1, rfl⟩ : ∃ wo : World, wo = wr := ⟨_, rfl⟩
                cases b
                · have HBL := Lib.hid (fun q hq => lv_end HB.out.1 (HB.out.2.1 rfl) (q := q) hq)
                  have HBN := Lib.hid HB.out.1.len
                  clear HB
                  go_wp2
                  go_hide hQ4
                  go_loopw [22] (fun i wr => ∃ (pc : Nat) (os2 : List Int), pc ≤ f.code.length ∧ i = .int .i64 pc ∧ Hid (os2.length = f.code.length ∧ ∀ q, q < f.code.length → os2[q]? = some (if q < pc then liveUpto p f (r + 1) q else liveUpto p f r q)) ∧ Hid (Hp w [G8, ⟨w, Lt w.heap.size⟩] [.blk gb 4 (List.map Value.bool bs), .blk g7 57 [.int .i64 f.params, .int .i64 f.regs, .slice A2 f.code.length c2], .blk g2 24 [.slice (some ad) p.funcs.length c], .row (.slice (some ⟨g4, 0, none⟩) f.code.length c') 3 1 (f.code.length) (List.map (Value.int .i64) os2)] wr)) (fun i _ => f.code.length - (intOf i).toNat)
                  case atStart => exact ⟨0, os, by omega, rfl, Lib.hid ⟨HO.out.1, fun q hq => by rw [if_neg (by omega)]; exact HO.out.2 q hq⟩, HP⟩
                  case round =>
                    clear HP
                    obtain ⟨pc, os2, hpc, rfl, HO2, HP⟩ := hrel
                    obtain ⟨wk, rfl⟩ : ∃ wk : World, wk = wr := ⟨_, rfl⟩
                    by_cases hple : pc < f.code.length
                    · have hpc2 : (pc : Int) < (f.code.length : Int) := by omega
                      have hpc0 : (0 : Int) ≤ (pc : Int) := by omega
                      have hbc := HBL.out pc hple
                      obtain ⟨ub, hub⟩ : ∃ ub, liveB p f r pc = ub := ⟨_, rfl⟩
                      rw [hub] at hbc
                      have HUB := Lib.hid (show (List.map Value.bool bs)[pc]? = some (.bool ub) by rw [List.getElem?_map, hbc]; rfl)
                      have HSU := Lib.hid (show liveUpto p f (r + 1) pc = liveUpto p f r pc + if ub then 2 ^ r else 0 by rw [liveUpto_succ, hub])
                      have ho := HO2.out.2 pc hple
                      rw [if_neg (by omega)] at ho
                      obtain ⟨o, ho'⟩ : ∃ o, liveUpto p f r pc = o := ⟨_, rfl⟩
                      have hor := liveUpto_range p f r pc (by omega)
                      rw [ho'] at ho hor HSU
                      obtain ⟨o1, o2⟩ := hor
                      have hco := HP.out.rowCell (.tail _ (.tail _ (.tail _ (.head _)))) pc (.int .i64 o) (by rw [List.getElem?_map, ho]; rfl)
                      have HBD := Lib.hid (show pc < (List.map (Value.int IntKind.i64) os2).length by rw [List.length_map, HO2.out.1]; omega)
                      have hrel' : ∀ os3 : List Int, os3.length = f.code.length → (∀ q, q ≠ pc → os3[q]? = os2[q]?) → os3[pc]? = some (liveUpto p f (r + 1) pc) → (os3.length = f.code.length ∧ ∀ q, q < f.code.length → os3[q]? = some (if q < pc + 1 then liveUpto p f (r + 1) q else liveUpto p f r q)) := fun os3 h1 h2 h3 => ⟨h1, fun q hq => by
                        by_cases e : q = pc
                        · subst e; rw [if_pos (by omega)]; exact h3
                        · rw [h2 q e, HO2.out.2 q hq]
                          by_cases e2 : q < pc
                          · rw [if_pos e2, if_pos (by omega)]
                          · rw [if_neg e2, if_neg (by omega)]⟩
                      have HREL := Lib.hid hrel'
                      have HOO := Lib.hid ho
                      clear hbc hub ho ho' hrel'
                      cases ub
                      · go_wp2_with (first | (refine wpList_ld0 rfl 55 _ rfl HP.out rfl rfl Tryd.underlying55 rfl ?_) | (refine wpList_ld1 rfl 55 _ rfl HP.out rfl rfl Tryd.underlying55 rfl ?_) | (refine wpList_ld0 rfl 4 _ rfl HP.out rfl HUB.out Tryd.underlying4 rfl ?_))
                        go_roundw
                        case rel => exact ⟨pc + 1, os2, by omega, by go_num, Lib.hid (HREL.out os2 HO2.out.1 (fun _ _ => rfl) (by rw [HOO.out, HSU.out]; simp)), HP⟩
                        case measure => simp [intOf]; omega
                      · go_wp2_with (first | (refine wpList_ld0 rfl 55 _ rfl HP.out rfl rfl Tryd.underlying55 rfl ?_) | (refine wpList_ld1 rfl 55 _ rfl HP.out rfl rfl Tryd.underlying55 rfl ?_) | (refine wpList_ld0 rfl 4 _ rfl HP.out rfl HUB.out Tryd.underlying4 rfl ?_) | (refine wpList_stW3 rfl 3 _ _ rfl HP.out rfl rfl HBD.out rfl (List.map_set ..).symm (by kernel_rfl) ?_; clear HP; intro wst HP; replace HP := Lib.hid HP))
                        go_roundw
                        case rel => exact ⟨pc + 1, os2.set pc (o + m), by omega, by go_num, Lib.hid (HREL.out _ (by simp [HO2.out.1]) (fun q hq => List.getElem?_set_ne (Ne.symm hq)) (by rw [List.getElem?_set_self (by rw [HO2.out.1]; omega), HSU.out, HM.out]; rfl)), HP⟩
                        case measure => simp [intOf]; omega
                    · obtain rfl : pc = f.code.length := by omega
                      go_wp2_with (first | (refine wpList_ld0 rfl 55 _ rfl HP.out rfl rfl Tryd.underlying55 rfl ?_) | (refine wpList_ld1 rfl 55 _ rfl HP.out rfl rfl Tryd.underlying55 rfl ?_))
                      subst hQ4
                      go_wp2_with fail
                      go_roundw
                      case rel => exact ⟨r + 1, m * 2, os2, by omega, by go_num, by go_num, Lib.hid (by rw [HM.out, Int.pow_succ]), by omega, by omega, Lib.hid ⟨HO2.out.1, fun q hq => by rw [HO2.out.2 q hq, if_pos hq]⟩, Lib.hid (Hp.drop (A := []) HP.out)⟩
                      case measure => simp [intOf]; omega
                · go_wp2
                  go_hide hQ3
                  go_loopw [15, 16] (fun v i wr => ∃ (b' : Bool) (bs' : List Bool) (q : Nat), q ≤ f.code.length ∧ v = .bool b' ∧ i = .int .i64 q ∧ Hid (LvInv p f r bs' ∧ (b' = false → bs' = bs) ∧ (b' = true → bs'.count false + 1 ≤ bs.count false)) ∧ Hid (b' = false → ∀ k, k < q → LvClosed p f r bs' k) ∧ Hid (Hp w [G8, ⟨w, Lt w.heap.size⟩] [.blk gb 4 (List.map Value.bool bs'), .blk g7 57 [.int .i64 f.params, .int .i64 f.regs, .slice A2 f.code.length c2], .blk g2 24 [.slice (some ad) p.funcs.length c], .row (.slice (some ⟨g4, 0, none⟩) f.code.length c') 3 1 (f.code.length) (List.map (Value.int .i64) os)] wr)) (fun _ i _ => f.code.length - (intOf i).toNat)
                  case atStart => exact ⟨false, bs, 0, by omega, rfl, rfl, Lib.hid ⟨HB.out.1, fun _ => rfl, fun e => (by cases e)⟩, Lib.hid (fun _ k hk => by omega), HP⟩
                  case round =>
                    clear HP
                    obtain ⟨b', bs', q, hq9, rfl, rfl, HRN, HCQ, HP⟩ := hrel
                    obtain ⟨wi, rfl⟩ : ∃ wi : World, wi = wr := ⟨_, rfl⟩
                    by_cases hq : q < f.code.length
                    · skip
                      have hq2 : (q : Int) < (f.code.length : Int) := by omega
                      have hq0 : (0 : Int) ≤ (q : Int) := by omega
                      obtain ⟨a2, rfl, hab2, hat2⟩ := HX2.out q hq
                      obtain ⟨x, hxx⟩ : ∃ x, f.code[q] = x := ⟨_, rfl⟩
                      rw [hxx] at hat2
                      have HXX := Lib.hid hxx
                      have HXS := Lib.hid (show f.code[q]? = some x by rw [← hxx, List.getElem?_eq_getElem hq])
                      have HOI := Lib.hid (HOF.out.ins x (hxx ▸ List.getElem_mem hq))
                      have HAT2 := Lib.hid hat2
                      have hqt : q < bs'.length := by rw [HRN.out.1.len]; exact hq
                      obtain ⟨b0, hb0⟩ : ∃ b0, bs'[q]? = some b0 := ⟨_, List.getElem?_eq_getElem hqt⟩
                      have HB0 := Lib.hid hb0
                      clear hxx hat2 hb0
                      go_upto_region 26 with (first | (refine wpList_ld0 rfl 55 _ rfl HP.out rfl rfl Tryd.underlying55 rfl ?_) | (refine wpList_ld1 rfl 55 _ rfl HP.out rfl rfl Tryd.underlying55 rfl ?_) | (refine wpList_alloc_hp (o := ⟨some 17, _, _, _, _, _⟩) rfl _ rfl HP.out (.agg #[.int .i64 0, .int .i64 0, .int .i64 0, .int .i64 0, .int .i64 0]) (by kernel_rfl) [_, _, _, _, _] rfl ?_; clear HP; intro gx wx HP; replace HP := Lib.hid HP) | (refine wpList_load_at rfl 65 _ rfl _ rfl _ _ (HP.out.at_ (F := ⟨w, Lt w.heap.size⟩) (by simp) HAT2.out (by rw [block_of_add]; exact hab2)) Tryd.underlying65 rfl (by kernel_rfl) ?_) | (refine wpList_stR0 rfl 65 _ _ rfl HP.out rfl (cs' := [_, _, _, _, _]) rfl rfl (by simp [Value.oneCell']) (by kernel_rfl) ?_; clear HP; intro wst HP; replace HP := Lib.hid HP))
                      have hlv := HP.out.cell (.tail _ (.head _)) q (.bool b0) (by rw [List.getElem?_map, HB0.out]; rfl)
                      obtain ⟨A9, c9, e9, -, -, hx9⟩ := rep_ints_at (HP.out.rep (F := G8) (by simp) HS8.out)
                      obtain ⟨a9, rfl, -, hcs⟩ := hx9 q (by rw [sureL_len]; omega)
                      clear hx9
                      obtain rfl : A8 = some a9 := (Value.slice.inj e9).1
                      clear e9
                      obtain ⟨sq, hsq⟩ : ∃ s, sureUpto f 12 q = s := ⟨_, rfl⟩
                      replace hcs := hcs.trans (show some (Value.int IntKind.i64 _) = some (.int .i64 sq) by rw [← hsq]; congr 2; have h1 := sureL_at f q (by omega); rw [List.getElem?_eq_getElem (by rw [sureL_len]; omega)] at h1; exact Option.some.inj h1)
                      (try simp only [Act.put, List.setIfInBounds_toArray, List.set_cons_zero, List.set_cons_succ])
                      by_cases hs : sq < 0
                      · have HNS := Lib.hid (show ¬ SureAt f q by rw [sureAt_upto f q hq, hsq]; omega)
                        have hsb : decide (sq < 0) = true := decide_eq_true hs
                        clear hs hsq
                        go_wp2
                        go_roundw
                        case rel =>
                          refine ⟨b', bs', q + 1, by omega, rfl, by go_num, HRN, Lib.hid fun e k hk => ?_, Lib.hid (Hp.drop (A := []) HP.out)⟩
                          by_cases e3 : k = q
                          · subst e3; intro y _ hss _; exact absurd hss HNS.out
                          · exact HCQ.out e k (by omega)
                        case measure => first | (simp [intOf]; done) | (simp [intOf]; omega)
                      · have HSS := Lib.hid (show SureAt f q by rw [sureAt_upto f q hq, hsq]; omega)
                        have hsb : decide (sq < 0) = false := decide_eq_false hs
                        clear hs hsq
                        cases b0 with
                        | true =>
                          go_wp2
                          go_roundw
                          case rel =>
                            refine ⟨b', bs', q + 1, by omega, rfl, by go_num, HRN, Lib.hid fun e k hk => ?_, Lib.hid (Hp.drop (A := []) HP.out)⟩
                            by_cases e3 : k = q
                            · subst e3; intro y _ _ hbf; rw [HB0.out] at hbf; cases hbf
                            · exact HCQ.out e k (by omega)
                          case measure => first | (simp [intOf]; done) | (simp [intOf]; omega)
                        | false =>
                          have HBF := HB0
                          go_upto_region 27 with fail
                          clear hlv hcs
                          obtain ⟨rb, hrb⟩ : ∃ rb, decide ((r : Int) ∈ readsL p x) = rb := ⟨_, rfl⟩
                          have HRB := Lib.hid hrb
                          clear hrb
                          go_upto_region 29 with (first | (refine wpList_ldR0 rfl 24 _ rfl HP.out rfl Tryd.underlying24 rfl (by kernel_rfl) ?_) | (refine wpList_ldR1 rfl 24 _ rfl HP.out rfl Tryd.underlying24 rfl (by kernel_rfl) ?_) | (refine wpList_ldR2 rfl 24 _ rfl HP.out rfl Tryd.underlying24 rfl (by kernel_rfl) ?_) | (refine wpList_ldR3 rfl 24 _ rfl HP.out rfl Tryd.underlying24 rfl (by kernel_rfl) ?_) | (refine wpList_ldR0 rfl 65 _ rfl HP.out rfl Tryd.underlying65 rfl (by kernel_rfl) ?_) | (go_at_call 31; refine (readsOf_any p _ x f.code.length _ (HP.out.rep (F := ⟨w, Lt w.heap.size⟩) (by simp) HR.out) HOK.out HOI.out).mono ?_; rintro e w6 ⟨v6, rfl, hv6, hb⟩; replace HP := Lib.hid (HP.out.call hb); have HV6 := Lib.hid hv6; clear hb hv6) | (go_at_call 32; refine (inList_any (readsL p x) _ (r : Int) _ (HP.out.rep (.head _) HV6.out)).mono ?_; rintro e w7 ⟨rfl, rfl⟩; rw [HRB.out]))
                          have hop := HP.out.cell (.head _) 0 _ rfl
                          have hdst := HP.out.cell (.head _) 1 _ rfl
                          obtain ⟨sb, hsbb⟩ : ∃ sb, setsZ x.op = sb := ⟨_, rfl⟩
                          have HSB := Lib.hid hsbb
                          clear hsbb
                          (try simp only [Act.put, List.setIfInBounds_toArray, List.set_cons_zero, List.set_cons_succ])
                          cases rb with
                          | true =>
                            have HLV := Lib.hid (show LvBit p x r q bs' from .inl (of_decide_eq_true HRB.out))
                            go_wp2_with (first | (refine wpList_st1 rfl 4 _ _ rfl HP.out rfl rfl (by rw [List.length_map]; exact hqt) rfl (List.map_set ..).symm (by kernel_rfl) ?_; clear HP; intro wst HP; replace HP := Lib.hid HP))
                            go_roundw
                            case rel =>
                              refine ⟨true, bs'.set q true, q + 1, by omega, rfl, by go_num, Lib.hid ⟨HRN.out.1.set HXS.out HSS.out HLV.out, fun e => (by cases e), fun _ => ?_⟩, Lib.hid fun e => (by cases e), Lib.hid (Hp.drop (A := []) (HP.out.froDrop))⟩
                              have h1 := count_set HBF.out
                              cases b'
                              · rw [HRN.out.2.1 rfl] at h1 ⊢; omega
                              · have := HRN.out.2.2 rfl; omega
                            case measure => first | (simp [intOf]; done) | (simp [intOf]; omega)
                          | false =>
                            have HNR := Lib.hid (of_decide_eq_false HRB.out)
                            by_cases hk3 : KillsR x r
                            · have HSB1 : sb = true := by rw [← HSB.out]; exact hk3.1
                              subst HSB1
                              have hdb : (x.dst != (r : Int)) = false := by simpa using hk3.2
                              have HK3 := Lib.hid hk3
                              clear hk3
                              go_upto_region 35 with (first | (go_at_call 33; refine (Sets_any _ _).mono ?_; rintro e w7 ⟨rfl, rfl⟩; rw [HSB.out]))
                              have HLV := Lib.hid (show ¬ LvBit p x r q bs' from fun h => by rcases h with h | ⟨h, _⟩; exact HNR.out h; exact h HK3.out)
                              go_wp2
                              go_roundw
                              case rel =>
                                refine ⟨b', bs', q + 1, by omega, rfl, by go_num, HRN, Lib.hid fun e k hk => ?_, Lib.hid (Hp.drop (A := []) (HP.out.froDrop))⟩
                                by_cases e3 : k = q
                                · subst e3; intro y hy _ _
                                  rw [HXS.out] at hy; cases hy
                                  exact HLV.out
                                · exact HCQ.out e k (by omega)
                              case measure => first | (simp [intOf]; done) | (simp [intOf]; omega)
                            · have HK3 := Lib.hid hk3
                              have hq3 : sb = false ∨ (sb = true ∧ (x.dst != (r : Int)) = true) := by
                                cases sb with
                                | false => left; rfl
                                | true => right; exact ⟨rfl, by rw [bne_iff_ne]; exact fun h => HK3.out ⟨HSB.out, h⟩⟩
                              clear hk3
                              rcases hq3 with rfl | ⟨rfl, hdb⟩
                              all_goals
                                go_upto_region 32 with (first | (go_at_call 33; refine (Sets_any _ _).mono ?_; rintro e w7 ⟨rfl, rfl⟩; rw [HSB.out]) | (refine wpList_ldR0 rfl 57 _ rfl HP.out rfl Tryd.underlying57 rfl (by kernel_rfl) ?_) | (refine wpList_ldR1 rfl 57 _ rfl HP.out rfl Tryd.underlying57 rfl (by kernel_rfl) ?_) | (refine wpList_ldR2 rfl 57 _ rfl HP.out rfl Tryd.underlying57 rfl (by kernel_rfl) ?_) | (go_at_call 34; refine (Behind_any f _ q _ (HP.out.rep (F := ⟨w, Lt w.heap.size⟩) (by simp) HC.out) hq).mono ?_; rintro e w8 ⟨v8, rfl, hv8, hb⟩; replace HP := Lib.hid (HP.out.call hb); rw [HXX.out] at hv8; obtain ⟨A6, c6, rfl, hc6, hm6, -⟩ := rep_ints_at hv8; unfold maxLen at hm6; have HV8 := Lib.hid hv8; clear hb hv8))
                                clear hop hdst
                                obtain ⟨l, hl⟩ : ∃ l, nextZ x q = l := ⟨_, rfl⟩
                                have HNM := Lib.hid (fun n (hn : n ∈ l) => HSS.out.nextLt HOF.out HEN.out HXS.out (hl ▸ hn))
                                have hl2 := nextZ_len x q
                                rw [hl] at HV8 hl2 hc6
                                have HL := Lib.hid hl
                                simp only [hl]
                                clear hl
                                obtain ⟨G6, G7, HP, HS6⟩ : ∃ G G' : Fro, Hid (Hp w [G, G', G8, ⟨w, Lt w.heap.size⟩] [.blk gx 65 [.int .i64 x.op, .int .i64 x.dst, .int .i64 x.a, .int .i64 x.b, .int .i64 x.imm], .blk gb 4 (List.map Value.bool bs'), .blk g7 57 [.int .i64 f.params, .int .i64 f.regs, .slice (some a2) f.code.length c2], .blk g2 24 [.slice (some ad) p.funcs.length c], .row (.slice (some ⟨g4, 0, none⟩) f.code.length c') 3 1 (f.code.length) (List.map (Value.int .i64) os)] _) ∧ Hid (Lay.rep G.w G.S l [.slice A6 l.length c6]) := ⟨_, _, HP, HV8⟩
                                clear HV8
                                (try simp only [Act.put, List.setIfInBounds_toArray, List.set_cons_zero, List.set_cons_succ])
                                go_loopw [19, 21] (fun bv iv wr => ∃ (j : Nat), j ≤ l.length ∧ iv = .int .i64 j ∧ bv = .bool ((l.take j).any fun n => bs'.getD n.toNat false) ∧ Hid (Hp w [G6, G7, G8, ⟨w, Lt w.heap.size⟩] [.blk gx 65 [.int .i64 x.op, .int .i64 x.dst, .int .i64 x.a, .int .i64 x.b, .int .i64 x.imm], .blk gb 4 (List.map Value.bool bs'), .blk g7 57 [.int .i64 f.params, .int .i64 f.regs, .slice (some a2) f.code.length c2], .blk g2 24 [.slice (some ad) p.funcs.length c], .row (.slice (some ⟨g4, 0, none⟩) f.code.length c') 3 1 (f.code.length) (List.map (Value.int .i64) os)] wr)) (fun _ i _ => l.length - (intOf i).toNat)
                                case atStart => exact ⟨0, by omega, rfl, rfl, HP⟩
                                case round =>
                                  clear HP
                                  obtain ⟨j, hj, rfl, rfl, HP⟩ := hrel
                                  obtain ⟨wk, rfl⟩ : ∃ wk : World, wk = wr := ⟨_, rfl⟩
                                  by_cases hjl : j < l.length
                                  · have hjl2 : (j : Int) < (l.length : Int) := by omega
                                    obtain ⟨A7, c7, e7, -, -, hx7⟩ := rep_ints_at (HP.out.rep (F := G6) (by simp) HS6.out)
                                    obtain ⟨a7, rfl, -, hcl⟩ := hx7 j hjl
                                    clear hx7
                                    obtain rfl : A6 = some a7 := (Value.slice.inj e7).1
                                    clear e7
                                    obtain ⟨n, hn⟩ : ∃ n, l[j] = n := ⟨_, rfl⟩
                                    have hnn := HNM.out n (hn ▸ List.getElem_mem hjl)
                                    obtain ⟨t, rfl⟩ := Int.eq_ofNat_of_zero_le hnn.2.1
                                    have htl : t < f.code.length := by have := hnn.2.2; omega
                                    have htl2 : (t : Int) < (f.code.length : Int) := by omega
                                    have ht0 : (0 : Int) ≤ (t : Int) := by omega
                                    replace hcl := hcl.trans (congrArg (fun z => some (Value.int IntKind.i64 z)) hn)
                                    obtain ⟨z, hz⟩ : ∃ z, bs'[t]? = some z := ⟨_, List.getElem?_eq_getElem (by rw [HRN.out.1.len]; exact htl)⟩
                                    have hlz := HP.out.cell (.tail _ (.head _)) t (.bool z) (by rw [List.getElem?_map, hz]; rfl)
                                    have HST := Lib.hid (show ((l.take (j + 1)).any fun n => bs'.getD n.toNat false) = (((l.take j).any fun n => bs'.getD n.toNat false) || z) by
                                      rw [List.take_add_one, List.getElem?_eq_getElem hjl, hn]
                                      show (l.take j ++ [(t : Int)]).any _ = _
                                      rw [List.any_append]
                                      simp only [List.any_cons, List.any_nil, Bool.or_false, Int.toNat_natCast, List.getD_eq_getElem?_getD, hz, Option.getD_some])
                                    obtain ⟨B0, hB0⟩ : ∃ B0, ((l.take j).any fun n => bs'.getD n.toNat false) = B0 := ⟨_, rfl⟩
                                    rw [hB0] at HST ⊢
                                    clear hn hnn hz hB0
                                    cases B0
                                    all_goals
                                      go_wp2
                                      go_roundw
                                      case rel => exact ⟨j + 1, by omega, by go_num, by rw [HST.out]; simp, HP⟩
                                      case measure => simp [intOf]; omega
                                  · obtain rfl : j = l.length := by omega
                                    rw [List.take_length]
                                    obtain ⟨B, hB⟩ : ∃ B, (l.any fun n => bs'.getD n.toNat false) = B := ⟨_, rfl⟩
                                    have HBB := Lib.hid hB
                                    rw [hB]
                                    clear hB
                                    cases B with
                                    | true =>
                                      have HLV := Lib.hid (show LvBit p x r q bs' from .inr ⟨HK3.out, by have h := HBB.out; rw [List.any_eq_true] at h; obtain ⟨n, hn, h⟩ := h; refine ⟨n, HL.out ▸ hn, ?_⟩; rw [List.getD_eq_getElem?_getD] at h; cases hq9 : bs'[n.toNat]? with | none => rw [hq9] at h; cases h | some z => rw [hq9] at h; exact congrArg some h⟩)
                                      go_wp2_with (first | (refine wpList_st1 rfl 4 _ _ rfl HP.out rfl rfl (by rw [List.length_map]; exact hqt) rfl (List.map_set ..).symm (by kernel_rfl) ?_; clear HP; intro wst HP; replace HP := Lib.hid HP))
                                      go_roundw
                                      case rel =>
                                        refine ⟨true, bs'.set q true, q + 1, by omega, rfl, by go_num, Lib.hid ⟨HRN.out.1.set HXS.out HSS.out HLV.out, fun e => (by cases e), fun _ => ?_⟩, Lib.hid fun e => (by cases e), Lib.hid (Hp.drop (A := []) (HP.out.froDrop.froDrop))⟩
                                        have h1 := count_set HBF.out
                                        cases b'
                                        · rw [HRN.out.2.1 rfl] at h1 ⊢; omega
                                        · have := HRN.out.2.2 rfl; omega
                                      case measure => first | (simp [intOf]; done) | (simp [intOf]; omega)
                                    | false =>
                                      have HLV := Lib.hid (show ¬ LvBit p x r q bs' from fun h => by rcases h with h | ⟨_, n, hn, h⟩; exact HNR.out h; have h2 := HBB.out; rw [← Bool.not_eq_true, List.any_eq_true] at h2; exact h2 ⟨n, HL.out ▸ hn, by rw [List.getD_eq_getElem?_getD, h]; rfl⟩)
                                      go_wp2
                                      go_roundw
                                      case rel =>
                                        refine ⟨b', bs', q + 1, by omega, rfl, by go_num, HRN, Lib.hid fun e k hk => ?_, Lib.hid (Hp.drop (A := []) (HP.out.froDrop.froDrop))⟩
                                        by_cases e3 : k = q
                                        · subst e3; intro y hy _ _
                                          rw [HXS.out] at hy; cases hy
                                          exact HLV.out
                                        · exact HCQ.out e k (by omega)
                                      case measure => first | (simp [intOf]; done) | (simp [intOf]; omega)
                    · obtain rfl : q = f.code.length := by omega
                      go_wp2_with (first | (refine wpList_ld0 rfl 55 _ rfl HP.out rfl rfl Tryd.underlying55 rfl ?_) | (refine wpList_ld1 rfl 55 _ rfl HP.out rfl rfl Tryd.underlying55 rfl ?_))
                      subst hQ3
                      go_wp2_with fail
                      have HBB := HB.out
                      go_roundg (2 * bs'.count false + b'.toNat)
                      case measure =>
                        have h1 := HBB.2.2
                        rw [h1]
                        cases b'
                        · have := HRN.out.2.1 rfl
                          rw [this]; simp
                        · have := HRN.out.2.2 rfl
                          simp; omega
                      case rel => exact ⟨b', bs', rfl, Lib.hid ⟨HRN.out.1, HCQ.out, rfl⟩, HP⟩
            · obtain rfl : r = 12 := by omega
              go_wp2_with fail
              subst hQ
              go_wp2_with fail
              (try simp only [Exit.inBlock, Exit.then])
              refine bodyPost_ret (results_tmp2 (by rfl) _ _ _) (by rfl) ?_
              have HLL := Lib.hid (show os = liveL p f by
                apply List.ext_getElem?
                intro q
                by_cases hq : q < f.code.length
                · rw [HO.out.2 q hq, liveL, List.getElem?_map, List.getElem?_range hq]; rfl
                · rw [List.getElem?_eq_none (by rw [HO.out.1]; omega), List.getElem?_eq_none (by rw [liveL_len]; omega)])
              exact ⟨_, rfl, HP.out.rowInts (.tail _ (.tail _ (.head _))) (congrArg (List.map (Value.int IntKind.i64)) HLL.out), HP.out.below⟩
    · have HFF := Lib.hid (show ffZ p fn = 2 by unfold ffZ; rw [if_neg (by simpa using hz), if_neg hfn])
      have HANS := Lib.hid (liveAns_out hz (fn := fn) (by omega))
      clear hz hpf hfn
      rw [HANS.out]
      have HP := Lib.hid (Hp.start w)
      go_enter Tryd.func10, Tryd.ntmps10
      go_wp2_with (first | (refine wpList_box_hp (o := ⟨some 2, _, _, _, _, _⟩) rfl _ _ rfl HP.out [_] rfl ?_; clear HP; intro g2 w2 HP; replace HP := Lib.hid HP) | (refine wpList_ldR0 rfl 24 _ rfl HP.out rfl Tryd.underlying24 rfl (by kernel_rfl) ?_) | (go_at_call 29; refine (functionFault_any p _ _ _ (HP.out.rep (F := ⟨w, Lt w.heap.size⟩) (by simp) HR.out)).mono ?_; rintro e w4 ⟨rfl, hb⟩; replace HP := Lib.hid (HP.out.call0 hb); clear hb; rw [HFF.out]))
      (try simp only [Exit.inBlock, Exit.then])
      refine bodyPost_ret (results_tmp2 (by rfl) _ _ _) (by rfl) ?_
      exact ⟨_, rfl, rep_ints_nil, HP.out.below⟩
  · have HANS := Lib.hid (liveAns_bad hz fn)
    have HFF := Lib.hid (show ffZ p fn = proven p by unfold ffZ; rw [if_pos hz])
    obtain ⟨e0, he0⟩ : ∃ e0, proven p = e0 := ⟨_, rfl⟩
    rw [he0] at hz HANS HFF
    have hzb : (e0 != 0) = true := by simpa using hz
    clear he0 hz
    rw [HANS.out]
    have HP := Lib.hid (Hp.start w)
    go_enter Tryd.func10, Tryd.ntmps10
    go_wp2_with (first | (refine wpList_box_hp (o := ⟨some 2, _, _, _, _, _⟩) rfl _ _ rfl HP.out [_] rfl ?_; clear HP; intro g2 w2 HP; replace HP := Lib.hid HP) | (refine wpList_ldR0 rfl 24 _ rfl HP.out rfl Tryd.underlying24 rfl (by kernel_rfl) ?_) | (go_at_call 29; refine (functionFault_any p _ _ _ (HP.out.rep (F := ⟨w, Lt w.heap.size⟩) (by simp) HR.out)).mono ?_; rintro e w4 ⟨rfl, hb⟩; replace HP := Lib.hid (HP.out.call0 hb); clear hb; rw [HFF.out]))
    (try simp only [Exit.inBlock, Exit.then])
    refine bodyPost_ret (results_tmp2 (by rfl) _ _ _) (by rfl) ?_
    exact ⟨_, rfl, rep_ints_nil, HP.out.below⟩
end Go.Proofs.YtnabeibnaoahmaaDoor
