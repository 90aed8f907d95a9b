/- emit.Leave. -/
import Derived.Test.YtnabeibnaoahmaaDoorMgCpvBLeaveLaw2
import Derived.Test.YtnabeibnaoahmaaDoorLive
import Derived.Test.YtnabeibnaoahmaaDoorRunning
import Derived.Test.YtnabeibnaoahmaaDoorMgCloneCloneF2
import Derived.Test.YtnabeibnaoahmaaDoorCopyHp
import Derived.Test.YtnabeibnaoahmaaDoorStoreF
import Derived.Test.YtnabeibnaoahmaaDoorMgHeldHeldB2
set_option linter.unusedSimpArgs false
set_option linter.unusedVariables false
namespace Go.Proofs.YtnabeibnaoahmaaDoor
open Go.RowKit Plain64
attribute [local irreducible] wpList Code.wp Oper.wp
theorem copy_mem (s : Sta) (c : Cpv) (u e a : Value) : (staCells s u e a).take 3 ++ (((List.range 16).map fun i => Value.int .i64 (cdat c i)) ++ (staCells s u e a).drop (3 + ((List.range 16).map fun i => Value.int .i64 (cdat c i)).length)) = staCells (memK s c 16) u e a := by
  obtain ⟨h1, h2, -, h3, -, -⟩ := memK_rest s c 16
  unfold staCells
  rw [h1, h2, h3, memK_mm s c 16 0 (by decide), memK_mm s c 16 1 (by decide), memK_mm s c 16 2 (by decide), memK_mm s c 16 3 (by decide), memK_mm s c 16 4 (by decide), memK_mm s c 16 5 (by decide), memK_mm s c 16 6 (by decide), memK_mm s c 16 7 (by decide), memK_mm s c 16 8 (by decide), memK_mm s c 16 9 (by decide), memK_mm s c 16 10 (by decide), memK_mm s c 16 11 (by decide), memK_mm s c 16 12 (by decide), memK_mm s c 16 13 (by decide), memK_mm s c 16 14 (by decide), memK_mm s c 16 15 (by decide)]
  rfl
theorem run_leave {p : Prg} {s : Sta} (h : runFault p s = 0) {f : Frm} (hf : lastF s = f) : runningAns p s = (f, 0) := by unfold runningAns; rw [h, if_pos rfl, hf]
theorem run_leave_bad {p : Prg} {s : Sta} (h : runFault p s ≠ 0) : runningAns p s = (zeroF, runFault p s) := by unfold runningAns; rw [if_neg h]
set_option maxRecDepth 100000 in
set_option maxHeartbeats 10000000 in
theorem Leave_any (p : Prg) (v : Value) (s : Sta) (u e a : Value) (c : Cpv) (w : World) (hp : Lay.rep w (Lt w.heap.size) p [v]) (hf : Lay.rep w (Lt w.heap.size) s.frames [u]) (he : Lay.rep w (Lt w.heap.size) s.events [e]) (ha : Lay.rep w (Lt w.heap.size) s.answers [a])
    (hlf : s.frames.length ≤ 1256584717421) (hle : s.events.length ≤ 17592186044000) (hla : s.answers.length ≤ 17592186044000) (hh : Has w) :
    Calls Tryd.prog 16 #[.agg #[v], .agg (staCells s u e a).toArray, .agg (cpuCells c).toArray] w fun r w' => ∃ u' e' a', r = .returned (.tuple #[.agg (staCells (leaveAns p s c).1 u' e' a').toArray, .int .i64 (leaveAns p s c).2]) ∧ Lay.rep w' (Fresh w w') (leaveAns p s c).1.frames [u'] ∧ Lay.rep w' (Fresh w w') (leaveAns p s c).1.events [e'] ∧ Lay.rep w' (Fresh w w') (leaveAns p s c).1.answers [a'] ∧ Below w.heap.size w w' := by
  obtain ⟨A, cP, rfl, hc, hm, -⟩ := rep_prg_at hp
  obtain ⟨A2, c2, rfl, hc2, hm2, hx2⟩ := rep_frames_at hf
  obtain ⟨AE, ce, rfl, hce, hme, -⟩ := rep_ints_at he
  obtain ⟨AA, ca, rfl, hca, hma, -⟩ := rep_ints_at ha
  unfold maxLen at hm hm2 hme hma
  have HX2 := Lib.hid hx2
  have HR := Lib.hid hp
  have HF := Lib.hid hf
  have HE := Lib.hid he
  have HA := Lib.hid ha
  have HH := Lib.hid hh
  clear hp hf he ha hx2 hh
  have HP := Lib.hid (Hp.start w)
  by_cases hz : runFault p s = 0
  · have HZ := Lib.hid hz
    obtain ⟨hsf, hst⟩ := rf_zero hz
    obtain ⟨fs, f, hfr⟩ := frames_run (sf_zero hsf).2.1 hst
    obtain ⟨q, hq⟩ : ∃ q, fs.length = q := ⟨_, rfl⟩
    have hx3 : ∃ ad, A2 = some ad := by
      have hl : q < s.frames.length := by rw [hfr]; simp [hq]
      obtain ⟨ad, e1, e2, e3⟩ := HX2.out q hl
      exact ⟨ad, e1⟩
    obtain ⟨ad, rfl⟩ := hx3
    have HLF := Lib.hid (lastF_eq hfr)
    have HRA := Lib.hid (run_leave hz HLF.out)
    have HLQ := Lib.hid (show s.frames.length = q + 1 by rw [hfr]; simp [hq])
    have HFR := Lib.hid hfr
    have HQ := Lib.hid hq
    have hqc : q + 1 ≤ c2 := by have := HLQ.out; omega
    have hqe : q ≤ 8 := by have := (sf_zero hsf).2.1.frames; have := HLQ.out; omega
    clear hfr hq hst hsf hz
    go_enter Tryd.func16, Tryd.ntmps16
    go_upto_region 5 with (first | (refine wpList_box_hp (o := ⟨some 3, _, _, _, _, _⟩) rfl _ _ rfl HP.out [_] rfl ?_; clear HP; intro g3 w3 HP; replace HP := Lib.hid HP) | (refine wpList_box_hp (o := ⟨some 4, _, _, _, _, _⟩) rfl _ _ rfl HP.out (staCells s (.slice (some ad) s.frames.length c2) (.slice AE s.events.length ce) (.slice AA s.answers.length ca)) rfl ?_; clear HP; intro g4 w4 HP; replace HP := Lib.hid HP) | (refine wpList_box_hp (o := ⟨some 5, _, _, _, _, _⟩) rfl _ _ rfl HP.out (cpuCells c) rfl ?_; clear HP; intro g5 w5 HP; replace HP := Lib.hid HP) | (refine wpList_alloc_hp (o := ⟨some 6, _, _, _, _, _⟩) rfl _ rfl HP.out (.agg (staCells noS (.slice none 0 0) (.slice none 0 0) (.slice none 0 0)).toArray) (by kernel_rfl) (staCells noS (.slice none 0 0) (.slice none 0 0) (.slice none 0 0)) rfl ?_; clear HP; intro g6 w6 HP; replace HP := Lib.hid HP) | (refine wpList_ldR4 rfl 24 _ rfl HP.out rfl Tryd.underlying24 rfl (by first | kernel_rfl | (rw [cpu_len]; kernel_rfl)) ?_) | (refine wpList_ldR3 rfl 24 _ rfl HP.out rfl Tryd.underlying24 rfl (by first | kernel_rfl | (rw [cpu_len]; kernel_rfl)) ?_) | (refine wpList_ldR2 rfl 40 _ rfl HP.out rfl Tryd.underlying40 rfl (by first | kernel_rfl | (rw [cpu_len]; kernel_rfl)) ?_) | (go_at_call 41; refine (running_any p _ s _ _ _ _ (HP.out.rep (F := ⟨w, Lt w.heap.size⟩) (by simp) HR.out) (HP.out.rep (F := ⟨w, Lt w.heap.size⟩) (by simp) HF.out) (HP.out.rep (F := ⟨w, Lt w.heap.size⟩) (by simp) HE.out) (HP.out.rep (F := ⟨w, Lt w.heap.size⟩) (by simp) HA.out) (HH.out.keep HP.out.below rfl)).mono ?_; rintro e w4 ⟨rfl, hb⟩; replace HP := Lib.hid (HP.out.call0 hb); clear hb; rw [HRA.out]) | (refine wpList_alloc_hp (o := ⟨some 8, _, _, _, _, _⟩) rfl _ rfl HP.out (.agg (frmCells zeroF).toArray) (by kernel_rfl) (frmCells zeroF) rfl ?_; clear HP; intro g8 w8 HP; replace HP := Lib.hid HP) | (refine wpList_stR0 rfl 77 _ _ rfl HP.out rfl (cs' := frmCells f) rfl rfl (by simp [frmCells, Value.oneCell']) (by kernel_rfl) ?_; clear HP; intro wst HP; replace HP := Lib.hid HP) | (refine wpList_ld0 rfl 3 _ rfl HP.out rfl rfl Tryd.underlying3 rfl ?_) | (go_at_call 8; refine (Live_any p _ f.fn _ (HP.out.rep (F := ⟨w, Lt w.heap.size⟩) (by simp) HR.out) (HH.out.keep HP.out.below rfl)).mono ?_; rintro e w5 ⟨v5, rfl, hv5, hb⟩; replace HP := Lib.hid (HP.out.call hb); have HV5 := Lib.hid hv5; clear hb hv5))
    obtain ⟨l, hl⟩ : ∃ l, (liveAns p f.fn).1 = l := ⟨_, rfl⟩
    have HRG := Lib.hid (show ∀ b ∈ l, -1 ≤ b ∧ b ≤ 4095 from fun b hb => liveAns_rangeL p f.fn b (by rw [hl]; exact hb))
    have HLV := Lib.hid (show (liveAns p (lastF s).fn).1 = l by rw [HLF.out, hl])
    rw [hl] at HV5
    clear hl
    obtain ⟨A5, c5, rfl, hc5, hm5, -⟩ := rep_ints_at HV5.out
    unfold maxLen at hm5
    obtain ⟨G5, HP, HS5⟩ : ∃ G : Fro, Hid (Hp w [G, ⟨w, Lt w.heap.size⟩] [.blk g8 77 (frmCells f), .blk g6 40 (staCells noS (.slice none 0 0) (.slice none 0 0) (.slice none 0 0)), .blk g5 44 (cpuCells c), .blk g4 40 (staCells s (.slice (some ad) s.frames.length c2) (.slice AE s.events.length ce) (.slice AA s.answers.length ca)), .blk g3 24 [.slice A p.funcs.length cP]] _) ∧ Hid (Lay.rep G.w G.S l [.slice A5 l.length c5]) := ⟨_, HP, HV5⟩
    clear HV5
    (try simp only [List.getElem_toArray, List.getElem_cons_succ, List.getElem_cons_zero, Act.put, List.setIfInBounds_toArray, List.set_cons_zero, List.set_cons_succ])
    obtain ⟨pc, hpc⟩ : ∃ n, cdat c 29 = n := ⟨_, rfl⟩
    obtain ⟨fu, hfu⟩ : ∃ n, cdat c 28 = n := ⟨_, rfl⟩
    have D29 := Lib.hid (hpc ▸ cpu_dat c 29 (by decide))
    have D28 := Lib.hid (hfu ▸ cpu_dat c 28 (by decide))
    have HPC := Lib.hid hpc
    have HFU := Lib.hid hfu
    have hok : leaveOk s c l ↔ (0 ≤ pc ∧ pc < l.length ∧ 0 ≤ l.getD pc.toNat 0 ∧ 0 ≤ fu ∧ fu ≤ s.fuel) := by unfold leaveOk; rw [hpc, hfu]
    have HOKK := Lib.hid hok
    clear hok hpc hfu
    have cg1 := HP.out.cell (.tail _ (.tail _ (.head _))) 61 _ D28.out
    have cg2 := HP.out.cell (.tail _ (.tail _ (.tail _ (.head _)))) 19 _ rfl
    by_cases h1 : 0 ≤ pc ∧ pc < l.length
    · obtain ⟨k, rfl⟩ := Int.eq_ofNat_of_zero_le h1.1
      have hkl : k < l.length := by omega
      have hkl2 : (k : Int) < (l.length : Int) := by omega
      have hk0 : (0 : Int) ≤ (k : Int) := by omega
      have t1 : decide ((k : Int) < 0) = false := decide_eq_false (by omega)
      have t2 : decide ((l.length : Int) ≤ (k : Int)) = false := decide_eq_false (by omega)
      have t2b : decide (l.length ≤ k) = false := decide_eq_false (by omega)
      obtain ⟨b, hb⟩ : ∃ b, l[k] = b := ⟨_, rfl⟩
      have HLK := Lib.hid hb
      have HGD := Lib.hid (show l.getD k 0 = b by rw [List.getD_eq_getElem?_getD, List.getElem?_eq_getElem hkl, hb]; rfl)
      have hbr := HRG.out b (hb ▸ List.getElem_mem hkl)
      clear hb h1
      by_cases h3 : 0 ≤ b
      · have t5 : decide (b < 0) = false := decide_eq_false (by omega)
        by_cases h2 : 0 ≤ fu ∧ fu ≤ s.fuel
        · have t3 : decide (fu < 0) = false := decide_eq_false (by omega)
          have t4 : decide (s.fuel < fu) = false := decide_eq_false (by omega)
          have HLA := Lib.hid (leave_yes HZ.out HLV.out (HOKK.out.2 ⟨hk0, hkl2, by rw [Int.toNat_natCast, HGD.out]; exact h3, h2.1, h2.2⟩) HFR.out (b := b) (by rw [HPC.out, Int.toNat_natCast, HGD.out]))
          clear h2
          obtain ⟨A9, c9, e9, -, -, hx9⟩ := rep_ints_at (HP.out.rep (F := G5) (by simp) HS5.out)
          obtain ⟨a9, rfl, -, hcl⟩ := hx9 k hkl
          clear hx9
          obtain rfl : A5 = some a9 := (Value.slice.inj e9).1
          clear e9
          replace hcl := hcl.trans (congrArg (fun z => some (Value.int IntKind.i64 z)) HLK.out)
          go_upto_region 9 with (first | (refine wpList_ld2 rfl 3 _ rfl HP.out rfl D29.out Tryd.underlying3 rfl ?_) | (refine wpList_st0 rfl 3 _ _ rfl HP.out rfl rfl (by show _ < 14; omega) rfl (frm_pc f _) (by kernel_rfl) ?_; clear HP; intro wst HP; replace HP := Lib.hid HP))
          clear hcl cg1 cg2
          rw [show (k : Int) = cdat c 29 from HPC.out.symm] at HP
          go_wp2
          go_loopw [67] (fun iv wr => ∃ r : Nat, r ≤ 12 ∧ iv = .int .i64 r ∧ Hid (Hp w [G5, ⟨w, Lt w.heap.size⟩] [.blk g8 77 (frmCells (regK ⟨f.fn, cdat c 29, f.regs⟩ c b r)), .blk g6 40 (staCells noS (.slice none 0 0) (.slice none 0 0) (.slice none 0 0)), .blk g5 44 (cpuCells c), .blk g4 40 (staCells s (.slice (some ad) s.frames.length c2) (.slice AE s.events.length ce) (.slice AA s.answers.length ca)), .blk g3 24 [.slice A p.funcs.length cP]] wr)) (fun iv _ => 12 - (intOf iv).toNat)
          case atStart => exact ⟨0, by omega, rfl, HP⟩
          case round =>
            clear HP
            obtain ⟨r, hr, rfl, HP⟩ := hrel
            obtain ⟨wo2, rfl⟩ : ∃ wo : World, wo = wr := ⟨_, rfl⟩
            by_cases hlt2 : r < 12
            · have hr2 : (r : Int) < 12 := by omega
              have hr0 : (0 : Int) ≤ (r : Int) := by omega
              go_upto_region 13 with (first | (refine wpList_st0 rfl 3 _ _ rfl HP.out rfl rfl (by show _ < 14; omega) rfl (frm_set _ r hlt2 _) (by kernel_rfl) ?_; clear HP; intro wst HP; replace HP := Lib.hid HP))
              obtain ⟨A10, c10, e10, -, -, hx10⟩ := rep_ints_at (HP.out.rep (F := G5) (by simp) HS5.out)
              obtain ⟨a10, rfl, -, hcl⟩ := hx10 k hkl
              clear hx10
              obtain rfl : a9 = a10 := Option.some.inj (Value.slice.inj e10).1
              clear e10
              replace hcl := hcl.trans (congrArg (fun z => some (Value.int IntKind.i64 z)) HLK.out)
              obtain ⟨z, hz⟩ : ∃ z, b / 2 ^ r = z := ⟨_, rfl⟩
              have hsh : Op.shift .shr .i64 b .i64 (r : Int) = pure (.int .i64 z) := by
                rw [shift_shr_any _ _ _ _ (by omega), Nat.min_eq_left (by simp [IntKind.bits]; omega), Int.toNat_natCast, hz]
              obtain ⟨y, hy⟩ : ∃ y, bits .and .i64 z 1 = y := ⟨_, rfl⟩
              obtain ⟨bt, hbt⟩ : ∃ bt, bitZ b r = bt := ⟨_, rfl⟩
              have hyb : (y == 1) = bt := by rw [← hbt, ← hy, Plain64.and1, bitZ, hz]; rfl
              have HBT := Lib.hid hbt
              clear hbt
              cases bt with
              | false =>
                go_wp2
                go_roundw
                case rel => exact ⟨r + 1, by omega, by go_num, Lib.hid (by rw [regK_no _ _ _ _ HBT.out]; exact HP.out)⟩
                case measure => simp [intOf]; omega
              | true =>
                obtain ⟨m, hm16⟩ : ∃ m : Nat, 16 + r = m := ⟨_, rfl⟩
                have HM := Lib.hid hm16
                have h16 : (16 : Int) + (r : Int) = (m : Int) := by omega
                have hw16 : IntKind.i64.wrap (m : Int) = (m : Int) := by rw [IntKind.wrap_i64]; omega
                have h16b : (m : Int) < 64 := by omega
                have h16c : (0 : Int) ≤ (m : Int) := by omega
                have hm64 : m < 64 := by omega
                clear hm16
                have DR := Lib.hid (cpu_dat c m hm64)
                go_wp2_with (first | (refine wpList_ld2 rfl 3 _ rfl HP.out rfl DR.out Tryd.underlying3 rfl ?_) | (refine wpList_st0 rfl 3 _ _ rfl HP.out rfl rfl (by show _ < 14; omega) rfl (frm_set _ r hlt2 _) (by kernel_rfl) ?_; clear HP; intro wst HP; replace HP := Lib.hid HP))
                go_roundw
                case rel => exact ⟨r + 1, by omega, by go_num, Lib.hid (by rw [regK_yes _ _ _ _ HBT.out, HM.out]; exact HP.out)⟩
                case measure => simp [intOf]; omega
            · obtain rfl : r = 12 := by omega
              simp only [show ((12 : Nat) : Int) = 12 from rfl]
              go_upto_region 18 with (first | (refine wpList_ldR3 rfl 40 _ rfl HP.out rfl Tryd.underlying40 rfl (by first | kernel_rfl | (rw [cpu_len]; kernel_rfl)) ?_) | (refine wpList_alloc_hp (o := ⟨some 14, _, _, _, _, _⟩) rfl _ rfl HP.out (.agg (staCells noS (.slice none 0 0) (.slice none 0 0) (.slice none 0 0)).toArray) (by kernel_rfl) (staCells noS (.slice none 0 0) (.slice none 0 0) (.slice none 0 0)) rfl ?_; clear HP; intro g14 w14 HP; replace HP := Lib.hid HP) | (refine wpList_stR0 rfl 40 _ _ rfl HP.out rfl (cs' := (staCells s (.slice (some ad) s.frames.length c2) (.slice AE s.events.length ce) (.slice AA s.answers.length ca))) rfl rfl (by simp [staCells, Value.oneCell']) (by kernel_rfl) ?_; clear HP; intro wst HP; replace HP := Lib.hid HP) | (refine wpList_ld3 rfl 3 _ rfl HP.out rfl D28.out Tryd.underlying3 rfl ?_) | (refine wpList_st0 rfl 3 _ _ rfl HP.out rfl rfl (by show _ < 22; omega) rfl (sta_fuel _ _ _ _ _) (by kernel_rfl) ?_; clear HP; intro wst HP; replace HP := Lib.hid HP))
              rw [← HFU.out] at HP
              replace HP := Lib.hid HP.out.drew
              refine wp_region_held_drew (S := fun _ => True) (by kernel_rfl) trivial (fun hHeld => ?_)
              have HS0 := Lib.hid hHeld
              clear hHeld
              (try simp only [Act.put, List.setIfInBounds_toArray, List.set_cons_zero, List.set_cons_succ])
              refine wpAnyH_take (i := 0) (v := ?_) rfl (by kernel_rfl) (by kernel_rfl) (by kernel_rfl) (fun _ _ _ h => h) (.inl ⟨by simp [Region.wanted], ?_⟩) HS0.out ?_
              rotate_left
              · intro w' hw
                go_simp
                (try with_reducible rfl)
              (try simp only [List.getElem_toArray, List.getElem_cons_succ, List.getElem_cons_zero, Act.put, List.setIfInBounds_toArray, List.set_cons_zero, List.set_cons_succ])
              refine wpAnyH_take (i := 1) (v := ?_) rfl (by kernel_rfl) (by kernel_rfl) (by kernel_rfl) (fun _ _ _ h => h) (.inl ⟨by simp [Region.wanted], ?_⟩) HS0.out ?_
              rotate_left
              · intro w' hw
                go_simp
                (try with_reducible rfl)
              (try simp only [List.getElem_toArray, List.getElem_cons_succ, List.getElem_cons_zero, Act.put, List.setIfInBounds_toArray, List.set_cons_zero, List.set_cons_succ])
              refine wpAnyH_take (i := 2) (v := ?_) rfl (by kernel_rfl) (by kernel_rfl) (by kernel_rfl) (fun _ _ _ h => h) (.inl ⟨by simp [Region.wanted], ?_⟩) HS0.out ?_
              rotate_left
              · intro w' hw
                go_simp
                (try with_reducible rfl)
              (try simp only [List.getElem_toArray, List.getElem_cons_succ, List.getElem_cons_zero, Act.put, List.setIfInBounds_toArray, List.set_cons_zero, List.set_cons_succ])
              refine wpAnyH_take (i := 3) (v := ?_) rfl (by kernel_rfl) (by kernel_rfl) (by kernel_rfl) (fun _ _ _ h => h) (.inl ⟨by simp [Region.wanted], ?_⟩) HS0.out ?_
              rotate_left
              · intro w' hw
                go_simp
                (try with_reducible rfl)
              (try simp only [List.getElem_toArray, List.getElem_cons_succ, List.getElem_cons_zero, Act.put, List.setIfInBounds_toArray, List.set_cons_zero, List.set_cons_succ])
              refine wpAnyH_ready (rs := [4]) (by kernel_rfl) (by simp) ?_
              refine AllReadyH.cons rfl (fun K hK => ?_) AllReadyH.nil
              refine wanted_only rfl ?_
              refine wpList_copy_hp rfl _ _ _ _ rfl 3 Tryd.underlying25 (by kernel_rfl) HP.out rfl rfl ((List.range 16).map fun i => Value.int .i64 (cdat c i)) (by first | (simp; done) | (simp; rfl)) (fun _ => ⟨_, rfl, fun j v hv => by
                rw [List.getElem?_map] at hv
                obtain ⟨n, hn, rfl⟩ := Option.map_eq_some_iff.1 hv
                have hj : j < 16 := by have := (List.getElem?_eq_some_iff.1 hn).1; simpa using this
                rw [List.getElem?_range hj] at hn
                cases hn
                rw [Addr.add_lit]
                exact HP.out.cell (.tail _ (.tail _ (.tail _ (.head _)))) (33 + j) _ (cpu_dat c j (by omega))⟩) (by simp [staCells]) (fun v hv => by obtain ⟨n, -, rfl⟩ := List.mem_map.1 hv; rfl) (copy_mem _ _ _ _ _) ?_
              clear HP
              intro wcp HP
              replace HP := Lib.hid HP
              refine wpList_nil ?_
              refine hK.out _ _ trivial (fun hHeld => ?_)
              clear hK K hHeld HS0
              refine wpAnyH_done (by kernel_rfl) ?_ _
              (try simp only [List.getElem_toArray, List.getElem_cons_succ, List.getElem_cons_zero, Act.put, List.setIfInBounds_toArray, List.set_cons_zero, List.set_cons_succ])
              obtain ⟨X, hX⟩ : ∃ X, memK { s with fuel := cdat c 28 } c 16 = X := ⟨_, rfl⟩
              have HX9 := Lib.hid hX
              rw [hX] at HP
              obtain ⟨Fl, hFl⟩ : ∃ Fl, leaveF f c b = Fl := ⟨_, rfl⟩
              rw [show regK ⟨f.fn, cdat c 29, f.regs⟩ c b 12 = Fl from hFl] at HP
              have HLX := Lib.hid (show leaveAns p s c = (({ X with frames := fs ++ [Fl] } : Sta), 0) by rw [HLA.out]; unfold leaveS; rw [hX, hFl])
              clear hX hFl
              go_upto_region 20 with (first | (refine wpList_ld3 rfl 37 _ rfl HP.out rfl rfl Tryd.underlying37 rfl ?_) | (refine wpList_ld4 rfl 37 _ rfl HP.out rfl rfl Tryd.underlying37 rfl ?_) | (go_at_call 42; refine (CloneF_own s.frames _ _ (HP.out.rep (F := ⟨w, Lt w.heap.size⟩) (by simp) HF.out) hlf).mono ?_; rintro e w8 ⟨u8, rfl, HL⟩; replace HP := Lib.hid (by simpa only [List.cons_append, List.nil_append] using Hp.take HP.out HL.froDrop); clear HL; obtain ⟨gF, cF, hv8⟩ := HP.out.rowSome (.head _) (by rw [HLQ.out]; omega); cases hv8) | (refine wpList_st1 rfl 37 _ _ rfl HP.out rfl rfl (by show _ < 22; omega) rfl rfl (by kernel_rfl) ?_; clear HP; intro wst HP; replace HP := Lib.hid HP))
              obtain ⟨i_Frm, hi_Frm, hs_Frm⟩ : ∃ i, Tryd.prog.info? 77 = some i ∧ i.size = 14 := by
                have h : (Tryd.prog.info? 77).map (·.size) = some 14 := by kernel_rfl
                cases hq9 : Tryd.prog.info? 77 with
                | none => rw [hq9] at h; cases h
                | some i => rw [hq9] at h; exact ⟨i, rfl, Option.some.inj h⟩
              have hlq2 : IntKind.i64.wrap ((s.frames.length : Int) - 1) = (q : Int) := by rw [IntKind.wrap_i64, HLQ.out]; omega
              have hlq3 : (s.frames.length : Int) - 1 = (q : Int) := by rw [HLQ.out]; omega
              have hlq4 : (q : Int) < (s.frames.length : Int) := by rw [HLQ.out]; omega
              have hlq5 : q < s.frames.length := by rw [HLQ.out]; omega
              have hq0 : (0 : Int) ≤ (q : Int) := by omega
              go_upto_region 21 with (first | (refine wpList_ld1 rfl 37 _ rfl HP.out rfl rfl Tryd.underlying37 rfl ?_) | (refine wpList_ldR2 rfl 77 _ rfl HP.out rfl Tryd.underlying77 rfl (by first | kernel_rfl | (rw [cpu_len]; kernel_rfl)) ?_) | (refine wpList_stF [] rfl 77 _ _ rfl HP.out rfl (frmCells Fl) rfl hi_Frm (by rw [hs_Frm]; rfl) (by simp [frmCells, Value.oneCell']) (by rw [frms_len, HLQ.out]; show _ + 14 ≤ _; omega) ?_; clear HP; intro wst HP; replace HP := Lib.hid HP))
              rw [show (s.frames.flatMap frmCells).take (q * 14) ++ (frmCells Fl ++ (s.frames.flatMap frmCells).drop (q * 14 + (frmCells Fl).length)) = (fs ++ [Fl]).flatMap frmCells by
                rw [HFR.out, frms_snoc, frms_snoc, ← HQ.out, ← frms_len fs, List.take_left' rfl, List.drop_of_length_le (by rw [List.length_append]; show _ ≤ _ + 14; simp [frmCells]), List.append_nil]] at HP
              replace HP := Lib.hid HP.out.drew
              refine wp_region_held_drew (S := fun w' => w'.cell? ⟨g4, 20, none⟩ = some (.slice AE s.events.length ce) ∧ w'.cell? ⟨g4, 21, none⟩ = some (.slice AA s.answers.length ca)) (by kernel_rfl) ⟨HP.out.cell (.tail _ (.tail _ (.tail _ (.tail _ (.tail _ (.head _)))))) 20 _ rfl, HP.out.cell (.tail _ (.tail _ (.tail _ (.tail _ (.tail _ (.head _)))))) 21 _ rfl⟩ (fun hHeld => ?_)
              have HS0 := Lib.hid hHeld
              clear hHeld
              (try simp only [Act.put, List.setIfInBounds_toArray, List.set_cons_zero, List.set_cons_succ])
              refine wpAnyH_take (i := 0) (v := ?_) rfl (by kernel_rfl) (by kernel_rfl) (by kernel_rfl) (fun _ _ _ h => h) (.inl ⟨by simp [Region.wanted], ?_⟩) HS0.out ?_
              rotate_left
              · intro w' hw
                obtain ⟨k0, k1⟩ := hw
                go_simp
                (try with_reducible rfl)
              (try simp only [List.getElem_toArray, List.getElem_cons_succ, List.getElem_cons_zero, Act.put, List.setIfInBounds_toArray, List.set_cons_zero, List.set_cons_succ])
              refine wpAnyH_take (i := 1) (v := ?_) rfl (by kernel_rfl) (by kernel_rfl) (by kernel_rfl) (fun _ _ _ h => h) (.inl ⟨by simp [Region.wanted], ?_⟩) HS0.out ?_
              rotate_left
              · intro w' hw
                obtain ⟨k0, k1⟩ := hw
                go_simp
                (try with_reducible rfl)
              (try simp only [List.getElem_toArray, List.getElem_cons_succ, List.getElem_cons_zero, Act.put, List.setIfInBounds_toArray, List.set_cons_zero, List.set_cons_succ])
              refine wpAnyH_take (i := 3) (v := ?_) rfl (by kernel_rfl) (by kernel_rfl) (by kernel_rfl) (fun _ _ _ h => h) (.inl ⟨by simp [Region.wanted], ?_⟩) HS0.out ?_
              rotate_left
              · intro w' hw
                obtain ⟨k0, k1⟩ := hw
                go_simp
                (try with_reducible rfl)
              (try simp only [List.getElem_toArray, List.getElem_cons_succ, List.getElem_cons_zero, Act.put, List.setIfInBounds_toArray, List.set_cons_zero, List.set_cons_succ])
              refine wpAnyH_take (i := 4) (v := ?_) rfl (by kernel_rfl) (by kernel_rfl) (by kernel_rfl) (fun _ _ _ h => h) (.inl ⟨by simp [Region.wanted], ?_⟩) HS0.out ?_
              rotate_left
              · intro w' hw
                obtain ⟨k0, k1⟩ := hw
                go_simp
                (try with_reducible rfl)
              (try simp only [List.getElem_toArray, List.getElem_cons_succ, List.getElem_cons_zero, Act.put, List.setIfInBounds_toArray, List.set_cons_zero, List.set_cons_succ])
              refine wpAnyH_ready (rs := [2]) (by kernel_rfl) (by simp) ?_
              refine AllReadyH.cons rfl (fun K hK => ?_) AllReadyH.nil
              go_simp
              refine (Clone_own s.events _ _ (HP.out.rep (F := ⟨w, Lt w.heap.size⟩) (by simp) HE.out) hle).mono ?_
              rintro r9 w9 ⟨v9, rfl, HL⟩
              replace HP := Lib.hid (by simpa only [List.cons_append, List.nil_append] using Hp.take HP.out HL.froDrop)
              clear HL
              obtain ⟨AE9, cE9, rfl, -, -, -⟩ := rep_ints_at (HP.out.rowInts (.head _) rfl)
              dsimp only
              refine hK.out _ _ ⟨HP.out.cell (.tail _ (.tail _ (.tail _ (.tail _ (.tail _ (.tail _ (.head _))))))) 20 _ rfl, HP.out.cell (.tail _ (.tail _ (.tail _ (.tail _ (.tail _ (.tail _ (.head _))))))) 21 _ rfl⟩ (fun hHeld => ?_)
              replace HS0 := Lib.hid hHeld
              clear hK K hHeld
              (try simp only [List.getElem_toArray, List.getElem_cons_succ, List.getElem_cons_zero, Act.put, List.setIfInBounds_toArray, List.set_cons_zero, List.set_cons_succ])
              refine wpAnyH_ready (rs := [5]) (by kernel_rfl) (by simp) ?_
              refine AllReadyH.cons rfl (fun K hK => ?_) AllReadyH.nil
              go_simp
              refine (Clone_own s.answers _ _ (HP.out.rep (F := ⟨w, Lt w.heap.size⟩) (by simp) HA.out) hla).mono ?_
              rintro r10 w10 ⟨v10, rfl, HL⟩
              replace HP := Lib.hid (by simpa only [List.cons_append, List.nil_append] using Hp.take HP.out HL.froDrop)
              clear HL
              obtain ⟨AA9, cA9, rfl, -, -, -⟩ := rep_ints_at (HP.out.rowInts (.head _) rfl)
              dsimp only
              refine hK.out _ _ ⟨HP.out.cell (.tail _ (.tail _ (.tail _ (.tail _ (.tail _ (.tail _ (.tail _ (.head _)))))))) 20 _ rfl, HP.out.cell (.tail _ (.tail _ (.tail _ (.tail _ (.tail _ (.tail _ (.tail _ (.head _)))))))) 21 _ rfl⟩ (fun hHeld => ?_)
              replace HS0 := Lib.hid hHeld
              clear hK K hHeld
              (try simp only [List.getElem_toArray, List.getElem_cons_succ, List.getElem_cons_zero, Act.put, List.setIfInBounds_toArray, List.set_cons_zero, List.set_cons_succ])
              refine wpAnyH_take (i := 6) (v := ?_) rfl (by kernel_rfl) (by kernel_rfl) (by kernel_rfl) (fun _ _ _ h => h) (.inl ⟨by simp [Region.wanted], ?_⟩) HS0.out ?_
              rotate_left
              · intro w' hw
                obtain ⟨k0, k1⟩ := hw
                go_simp
                (try with_reducible rfl)
              (try simp only [List.getElem_toArray, List.getElem_cons_succ, List.getElem_cons_zero, Act.put, List.setIfInBounds_toArray, List.set_cons_zero, List.set_cons_succ])
              refine wpAnyH_ready (rs := [7]) (by kernel_rfl) (by simp) ?_
              refine AllReadyH.cons rfl (fun K hK => ?_) AllReadyH.nil
              refine wanted_only rfl ?_
              refine wpList_st3 rfl 25 _ _ rfl HP.out rfl rfl (by show _ < 22; omega) rfl (show (staCells X (.slice (some ⟨gF, 0, none⟩) s.frames.length cF) (.slice AE s.events.length ce) (.slice AA s.answers.length ca)).set 20 _ = staCells X (.slice (some ⟨gF, 0, none⟩) s.frames.length cF) (.slice AE9 s.events.length cE9) (.slice AA s.answers.length ca) from rfl) (by kernel_rfl) ?_
              clear HP
              intro wst HP
              replace HP := Lib.hid HP
              refine wpList_nil ?_
              refine hK.out _ _ ⟨HP.out.cell (.tail _ (.tail _ (.tail _ (.tail _ (.tail _ (.tail _ (.tail _ (.head _)))))))) 20 _ rfl, HP.out.cell (.tail _ (.tail _ (.tail _ (.tail _ (.tail _ (.tail _ (.tail _ (.head _)))))))) 21 _ rfl⟩ (fun hHeld => ?_)
              replace HS0 := Lib.hid hHeld
              clear hK K hHeld
              (try simp only [List.getElem_toArray, List.getElem_cons_succ, List.getElem_cons_zero, Act.put, List.setIfInBounds_toArray, List.set_cons_zero, List.set_cons_succ])
              refine wpAnyH_take (i := 8) (v := ?_) rfl (by kernel_rfl) (by kernel_rfl) (by kernel_rfl) (fun _ _ _ h => h) (.inl ⟨by simp [Region.wanted], ?_⟩) HS0.out ?_
              rotate_left
              · intro w' hw
                obtain ⟨k0, k1⟩ := hw
                go_simp
                (try with_reducible rfl)
              (try simp only [List.getElem_toArray, List.getElem_cons_succ, List.getElem_cons_zero, Act.put, List.setIfInBounds_toArray, List.set_cons_zero, List.set_cons_succ])
              refine wpAnyH_ready (rs := [9]) (by kernel_rfl) (by simp) ?_
              refine AllReadyH.cons rfl (fun K hK => ?_) AllReadyH.nil
              refine wanted_only rfl ?_
              refine wpList_st3 rfl 25 _ _ rfl HP.out rfl rfl (by show _ < 22; omega) rfl (show (staCells X (.slice (some ⟨gF, 0, none⟩) s.frames.length cF) (.slice AE9 s.events.length cE9) (.slice AA s.answers.length ca)).set 21 _ = staCells X (.slice (some ⟨gF, 0, none⟩) s.frames.length cF) (.slice AE9 s.events.length cE9) (.slice AA9 s.answers.length cA9) from rfl) (by kernel_rfl) ?_
              clear HP
              intro wst HP
              replace HP := Lib.hid HP
              refine wpList_nil ?_
              refine hK.out _ _ ⟨HP.out.cell (.tail _ (.tail _ (.tail _ (.tail _ (.tail _ (.tail _ (.tail _ (.head _)))))))) 20 _ rfl, HP.out.cell (.tail _ (.tail _ (.tail _ (.tail _ (.tail _ (.tail _ (.tail _ (.head _)))))))) 21 _ rfl⟩ (fun hHeld => ?_)
              replace HS0 := Lib.hid hHeld
              clear hK K hHeld
              (try simp only [List.getElem_toArray, List.getElem_cons_succ, List.getElem_cons_zero, Act.put, List.setIfInBounds_toArray, List.set_cons_zero, List.set_cons_succ])
              refine wpAnyH_done (by kernel_rfl) ?_ _
              (try simp only [List.getElem_toArray, List.getElem_cons_succ, List.getElem_cons_zero, Act.put, List.setIfInBounds_toArray, List.set_cons_zero, List.set_cons_succ])
              clear HS0
              go_wp2_with (first | (refine wpList_ldR3 rfl 40 _ rfl HP.out rfl Tryd.underlying40 rfl (by first | kernel_rfl | (rw [cpu_len]; kernel_rfl)) ?_) | (refine wpList_stR5 rfl 40 _ _ rfl HP.out rfl (cs' := staCells X (.slice (some ⟨gF, 0, none⟩) s.frames.length cF) (.slice AE9 s.events.length cE9) (.slice AA9 s.answers.length cA9)) rfl rfl (by simp [staCells, Value.oneCell']) (by kernel_rfl) ?_; clear HP; intro wst HP; replace HP := Lib.hid HP))
              (try simp only [Exit.inBlock, Exit.then])
              rw [HLX.out]
              refine bodyPost_ret (results_cell_row_tmp2 (by rfl) _ _ g6 40 (staCells X (.slice (some ⟨gF, 0, none⟩) s.frames.length cF) (.slice AE9 s.events.length cE9) (.slice AA9 s.answers.length cA9)).toArray (0, 0) _ (by rfl) (HP.out.blk (.tail _ (.tail _ (.tail _ (.tail _ (.tail _ (.head _))))))) Tryd.underlying40 rfl (by kernel_rfl)) (by rfl) ?_
              have hmr := memK_rest { s with fuel := cdat c 28 } c 16
              rw [HX9.out] at hmr
              obtain ⟨-, -, -, -, hev, han⟩ := hmr
              refine ⟨_, _, _, rfl, HP.out.rowFrames (.tail _ (.tail _ (.head _))) rfl, ?_, ?_, HP.out.below⟩
              · show Lay.rep _ _ X.events [_]
                rw [hev]; exact HP.out.rowInts (.tail _ (.head _)) rfl
              · show Lay.rep _ _ X.answers [_]
                rw [han]; exact HP.out.rowInts (.head _) rfl
        · have HLA := Lib.hid (leave_no HZ.out HLV.out (fun h => h2 (HOKK.out.1 h).2.2.2))
          have h4 : decide (fu < 0) = true ∨ (decide (fu < 0) = false ∧ decide (s.fuel < fu) = true) := by
            by_cases h : fu < 0
            · left; exact decide_eq_true h
            · right; exact ⟨decide_eq_false h, decide_eq_true (by omega)⟩
          clear h2
          rcases h4 with t3 | ⟨t3, t4⟩
          all_goals
            obtain ⟨A9, c9, e9, -, -, hx9⟩ := rep_ints_at (HP.out.rep (F := G5) (by simp) HS5.out)
            obtain ⟨a9, rfl, -, hcl⟩ := hx9 k hkl
            clear hx9
            obtain rfl : A5 = some a9 := (Value.slice.inj e9).1
            clear e9
            replace hcl := hcl.trans (congrArg (fun z => some (Value.int IntKind.i64 z)) HLK.out)
            go_wp2_with (first | (refine wpList_ld2 rfl 3 _ rfl HP.out rfl D29.out Tryd.underlying3 rfl ?_) | (refine wpList_stR1 rfl 40 _ _ rfl HP.out rfl (cs' := (staCells noS (.slice none 0 0) (.slice none 0 0) (.slice none 0 0))) rfl rfl (by simp [staCells, Value.oneCell']) (by kernel_rfl) ?_; clear HP; intro wst HP; replace HP := Lib.hid HP))
            (try simp only [Exit.inBlock, Exit.then])
            rw [HLA.out]
            refine bodyPost_ret (results_cell_row_tmp2 (by rfl) _ _ g6 40 (staCells noS (.slice none 0 0) (.slice none 0 0) (.slice none 0 0)).toArray (0, 0) _ (by rfl) (HP.out.blk (.tail _ (.head _))) Tryd.underlying40 rfl (by kernel_rfl)) (by rfl) ?_
            exact ⟨_, _, _, rfl, rep_frames_nilL, rep_ints_nil, rep_ints_nil, HP.out.below⟩
      · have t5 : decide (b < 0) = true := decide_eq_true (by omega)
        have HLA := Lib.hid (leave_no HZ.out HLV.out (fun h => by have := (HOKK.out.1 h).2.2.1; rw [Int.toNat_natCast, HGD.out] at this; exact h3 this))
        clear h3
        obtain ⟨A9, c9, e9, -, -, hx9⟩ := rep_ints_at (HP.out.rep (F := G5) (by simp) HS5.out)
        obtain ⟨a9, rfl, -, hcl⟩ := hx9 k hkl
        clear hx9
        obtain rfl : A5 = some a9 := (Value.slice.inj e9).1
        clear e9
        replace hcl := hcl.trans (congrArg (fun z => some (Value.int IntKind.i64 z)) HLK.out)
        go_wp2_with (first | (refine wpList_ld2 rfl 3 _ rfl HP.out rfl D29.out Tryd.underlying3 rfl ?_) | (refine wpList_stR1 rfl 40 _ _ rfl HP.out rfl (cs' := (staCells noS (.slice none 0 0) (.slice none 0 0) (.slice none 0 0))) rfl rfl (by simp [staCells, Value.oneCell']) (by kernel_rfl) ?_; clear HP; intro wst HP; replace HP := Lib.hid HP))
        (try simp only [Exit.inBlock, Exit.then])
        rw [HLA.out]
        refine bodyPost_ret (results_cell_row_tmp2 (by rfl) _ _ g6 40 (staCells noS (.slice none 0 0) (.slice none 0 0) (.slice none 0 0)).toArray (0, 0) _ (by rfl) (HP.out.blk (.tail _ (.head _))) Tryd.underlying40 rfl (by kernel_rfl)) (by rfl) ?_
        exact ⟨_, _, _, rfl, rep_frames_nilL, rep_ints_nil, rep_ints_nil, HP.out.below⟩
    · have HLA := Lib.hid (leave_no HZ.out HLV.out (fun h => h1 ⟨(HOKK.out.1 h).1, (HOKK.out.1 h).2.1⟩))
      have h4 : decide (pc < 0) = true ∨ (decide (pc < 0) = false ∧ decide ((l.length : Int) ≤ pc) = true) := by
        by_cases h : pc < 0
        · left; exact decide_eq_true h
        · right; exact ⟨decide_eq_false h, decide_eq_true (by omega)⟩
      clear h1
      rcases h4 with t3 | ⟨t3, t4⟩
      all_goals
        go_wp2_with (first | (refine wpList_ld2 rfl 3 _ rfl HP.out rfl D29.out Tryd.underlying3 rfl ?_) | (refine wpList_stR1 rfl 40 _ _ rfl HP.out rfl (cs' := (staCells noS (.slice none 0 0) (.slice none 0 0) (.slice none 0 0))) rfl rfl (by simp [staCells, Value.oneCell']) (by kernel_rfl) ?_; clear HP; intro wst HP; replace HP := Lib.hid HP))
        (try simp only [Exit.inBlock, Exit.then])
        rw [HLA.out]
        refine bodyPost_ret (results_cell_row_tmp2 (by rfl) _ _ g6 40 (staCells noS (.slice none 0 0) (.slice none 0 0) (.slice none 0 0)).toArray (0, 0) _ (by rfl) (HP.out.blk (.tail _ (.head _))) Tryd.underlying40 rfl (by kernel_rfl)) (by rfl) ?_
        exact ⟨_, _, _, rfl, rep_frames_nilL, rep_ints_nil, rep_ints_nil, HP.out.below⟩
  · have hla2 := leave_bad c hz
    have HRA := Lib.hid (run_leave_bad hz)
    obtain ⟨e0, he0⟩ : ∃ e0, runFault p s = e0 := ⟨_, rfl⟩
    rw [he0] at hz hla2 HRA
    have HLA := Lib.hid hla2
    have hzb : (e0 != 0) = true := by simpa using hz
    clear hla2 he0 hz
    go_enter Tryd.func16, Tryd.ntmps16
    go_wp2_with (first | (refine wpList_box_hp (o := ⟨some 3, _, _, _, _, _⟩) rfl _ _ rfl HP.out [_] rfl ?_; clear HP; intro g3 w3 HP; replace HP := Lib.hid HP) | (refine wpList_box_hp (o := ⟨some 4, _, _, _, _, _⟩) rfl _ _ rfl HP.out (staCells s (.slice A2 s.frames.length c2) (.slice AE s.events.length ce) (.slice AA s.answers.length ca)) rfl ?_; clear HP; intro g4 w4 HP; replace HP := Lib.hid HP) | (refine wpList_box_hp (o := ⟨some 5, _, _, _, _, _⟩) rfl _ _ rfl HP.out (cpuCells c) rfl ?_; clear HP; intro g5 w5 HP; replace HP := Lib.hid HP) | (refine wpList_alloc_hp (o := ⟨some 6, _, _, _, _, _⟩) rfl _ rfl HP.out (.agg (staCells noS (.slice none 0 0) (.slice none 0 0) (.slice none 0 0)).toArray) (by kernel_rfl) (staCells noS (.slice none 0 0) (.slice none 0 0) (.slice none 0 0)) rfl ?_; clear HP; intro g6 w6 HP; replace HP := Lib.hid HP) | (refine wpList_ldR3 rfl 24 _ rfl HP.out rfl Tryd.underlying24 rfl (by first | kernel_rfl | (rw [cpu_len]; kernel_rfl)) ?_) | (refine wpList_ldR2 rfl 40 _ rfl HP.out rfl Tryd.underlying40 rfl (by first | kernel_rfl | (rw [cpu_len]; kernel_rfl)) ?_) | (go_at_call 41; refine (running_any p _ s _ _ _ _ (HP.out.rep (F := ⟨w, Lt w.heap.size⟩) (by simp) HR.out) (HP.out.rep (F := ⟨w, Lt w.heap.size⟩) (by simp) HF.out) (HP.out.rep (F := ⟨w, Lt w.heap.size⟩) (by simp) HE.out) (HP.out.rep (F := ⟨w, Lt w.heap.size⟩) (by simp) HA.out) (HH.out.keep HP.out.below rfl)).mono ?_; rintro e w4 ⟨rfl, hb⟩; replace HP := Lib.hid (HP.out.call0 hb); clear hb; rw [HRA.out]) | (refine wpList_alloc_hp (o := ⟨some 8, _, _, _, _, _⟩) rfl _ rfl HP.out (.agg (frmCells zeroF).toArray) (by kernel_rfl) (frmCells zeroF) rfl ?_; clear HP; intro g8 w8 HP; replace HP := Lib.hid HP) | (refine wpList_stR0 rfl 77 _ _ rfl HP.out rfl (cs' := frmCells zeroF) rfl rfl (by simp [frmCells, Value.oneCell']) (by kernel_rfl) ?_; clear HP; intro wst HP; replace HP := Lib.hid HP) | (refine wpList_stR1 rfl 40 _ _ rfl HP.out rfl (cs' := (staCells noS (.slice none 0 0) (.slice none 0 0) (.slice none 0 0))) rfl rfl (by simp [staCells, Value.oneCell']) (by kernel_rfl) ?_; clear HP; intro wst HP; replace HP := Lib.hid HP))
    (try simp only [Exit.inBlock, Exit.then])
    rw [HLA.out]
    refine bodyPost_ret (results_cell_row_tmp2 (by rfl) _ _ g6 40 (staCells noS (.slice none 0 0) (.slice none 0 0) (.slice none 0 0)).toArray (0, 0) _ (by rfl) (HP.out.blk (.tail _ (.head _))) Tryd.underlying40 rfl (by kernel_rfl)) (by rfl) ?_
    exact ⟨_, _, _, rfl, rep_frames_nilL, rep_ints_nil, rep_ints_nil, HP.out.below⟩
end Go.Proofs.YtnabeibnaoahmaaDoor
