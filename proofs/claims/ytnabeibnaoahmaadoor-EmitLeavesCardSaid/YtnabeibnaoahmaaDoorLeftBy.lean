/- tierlineref.LeftBy. -/
import Derived.Test.YtnabeibnaoahmaaDoorMgCpvBLeaveLaw2
import Derived.Test.YtnabeibnaoahmaaDoorLiveOf
import Derived.Test.YtnabeibnaoahmaaDoorMgEnterEntered2
import Derived.Test.YtnabeibnaoahmaaDoorMgCopyStates2
set_option linter.unusedSimpArgs false
set_option linter.unusedVariables false
namespace Go.Proofs.YtnabeibnaoahmaaDoor
open Go.RowKit Plain64
attribute [local irreducible] wpList Code.wp Oper.wp
theorem Hp.blkAt0L {w0 w : World} {Fs : List Fro} {L : List Res} {g : Nat} {t : TypeId} {cs : List Value} (h : Hp w0 Fs L w) (hr : Res.blk g t cs ∈ L) : At w ⟨g, 0, none⟩ cs := h.blkAt hr 0
theorem Hp.cellF {w0 w : World} {Fs : List Fro} {L : List Res} {F : Fro} {a : Addr} {v : Value} (h : Hp w0 Fs L w) (hF : F ∈ Fs) (hc : F.w.cell? a = some v) (hb : F.S a.block) : w.cell? a = some v := (h.alike hF a hb).trans hc
set_option maxRecDepth 100000 in
set_option maxHeartbeats 10000000 in
theorem LeftBy_any (p : Prg) (v : Value) (s : Sta) (u e a : Value) (c : Cpv) (w : World) (hp : Lay.rep w (Lt w.heap.size) p [v]) (hf : Lay.rep w (Lt w.heap.size) s.frames [u]) (he : Lay.rep w (Lt w.heap.size) s.events [e]) (ha : Lay.rep w (Lt w.heap.size) s.answers [a])
    (hlf : s.frames.length ≤ 1256584717421) (hle : s.events.length ≤ 17592186044000) (hla : s.answers.length ≤ 17592186044000) :
    Calls Tryd.prog 18 #[.agg #[v], .agg (staCells s u e a).toArray, .agg (cpuCells c).toArray] w fun r w' => ∃ u' e' a', r = .returned (.tuple #[.agg (staCells (leaveAns p s c).1 u' e' a').toArray, .int .i64 (leaveAns p s c).2]) ∧ Lay.rep w' (Fresh w w') (leaveAns p s c).1.frames [u'] ∧ Lay.rep w' (Fresh w w') (leaveAns p s c).1.events [e'] ∧ Lay.rep w' (Fresh w w') (leaveAns p s c).1.answers [a'] ∧ Below w.heap.size w w' := by
  obtain ⟨A, cP, rfl, hc, hm, -⟩ := rep_prg_at hp
  obtain ⟨A2, c2, rfl, hc2, hm2, hx2⟩ := rep_frames_at hf
  obtain ⟨AE, ce, rfl, hce, hme, -⟩ := rep_ints_at he
  obtain ⟨AA, ca, rfl, hca, hma, -⟩ := rep_ints_at ha
  unfold maxLen at hm hm2 hme hma
  have HX2 := Lib.hid hx2
  have HR := Lib.hid hp
  have HF := Lib.hid hf
  have HE := Lib.hid he
  have HA := Lib.hid ha
  clear hp hf he ha hx2
  have HP := Lib.hid (Hp.start w)
  by_cases hz : runFault p s = 0
  · have HZ := Lib.hid hz
    obtain ⟨hsf, hst⟩ := rf_zero hz
    obtain ⟨fs, f, hfr⟩ := frames_run (sf_zero hsf).2.1 hst
    obtain ⟨q, hq⟩ : ∃ q, fs.length = q := ⟨_, rfl⟩
    have hx3 : ∃ ad, A2 = some ad ∧ Lt w.heap.size ad.block ∧ At w (ad.add (q * 14)) (frmCells f) := by
      have hl : q < s.frames.length := by rw [hfr]; simp [hq]
      obtain ⟨ad, e1, e2, e3⟩ := HX2.out q hl
      have hlast : s.frames[q] = f := by simp [hfr, ← hq]
      exact ⟨ad, e1, e2, by rw [hlast] at e3; exact e3⟩
    obtain ⟨ad, rfl, hab, hat⟩ := hx3
    have HFN := Lib.hid (show w.cell? (ad.add (q * 14)) = some (.int .i64 f.fn) ∧ Lt w.heap.size (ad.add (q * 14)).block from ⟨hat.fld0 rfl, by rw [block_of_add]; exact hab⟩)
    have HLF := Lib.hid (lastF_eq hfr)
    have HLQ := Lib.hid (show s.frames.length = q + 1 by rw [hfr]; simp [hq])
    have HFR := Lib.hid hfr
    have HQ := Lib.hid hq
    have hqc : q + 1 ≤ c2 := by have := HLQ.out; omega
    have hqe : q ≤ 8 := by have := (sf_zero hsf).2.1.frames; have := HLQ.out; omega
    clear hat hab hfr hq hst hsf hz
    go_enter Tryd.func18, Tryd.ntmps18
    go_upto_region 5 with (first | (refine wpList_box_hp (o := ⟨some 3, _, _, _, _, _⟩) rfl _ _ rfl HP.out [_] rfl ?_; clear HP; intro g3 w3 HP; replace HP := Lib.hid HP) | (refine wpList_box_hp (o := ⟨some 4, _, _, _, _, _⟩) rfl _ _ rfl HP.out (staCells s (.slice (some ad) s.frames.length c2) (.slice AE s.events.length ce) (.slice AA s.answers.length ca)) rfl ?_; clear HP; intro g4 w4 HP; replace HP := Lib.hid HP) | (refine wpList_box_hp (o := ⟨some 5, _, _, _, _, _⟩) rfl _ _ rfl HP.out (cpuCells c) rfl ?_; clear HP; intro g5 w5 HP; replace HP := Lib.hid HP) | (refine wpList_alloc_hp (o := ⟨some 6, _, _, _, _, _⟩) rfl _ rfl HP.out (.agg (staCells noS (.slice none 0 0) (.slice none 0 0) (.slice none 0 0)).toArray) (by kernel_rfl) (staCells noS (.slice none 0 0) (.slice none 0 0) (.slice none 0 0)) rfl ?_; clear HP; intro g6 w6 HP; replace HP := Lib.hid HP) | (refine wpList_ldR3 rfl 24 _ rfl HP.out rfl Tryd.underlying24 rfl (by first | kernel_rfl | (rw [cpu_len]; kernel_rfl)) ?_) | (refine wpList_ldR2 rfl 40 _ rfl HP.out rfl Tryd.underlying40 rfl (by first | kernel_rfl | (rw [cpu_len]; kernel_rfl)) ?_) | (go_at_call 45; refine (runningFault_any p _ s _ _ _ _ (HP.out.rep (F := ⟨w, Lt w.heap.size⟩) (by simp) HR.out) (HP.out.rep (F := ⟨w, Lt w.heap.size⟩) (by simp) HF.out) (HP.out.rep (F := ⟨w, Lt w.heap.size⟩) (by simp) HE.out) (HP.out.rep (F := ⟨w, Lt w.heap.size⟩) (by simp) HA.out)).mono ?_; rintro e w4 ⟨rfl, hb⟩; replace HP := Lib.hid (HP.out.call0 hb); clear hb; rw [HZ.out]) | (refine wpList_ld2 rfl 37 _ rfl HP.out rfl rfl Tryd.underlying37 rfl ?_))
    have hlq2 : IntKind.i64.wrap ((s.frames.length : Int) - 1) = (q : Int) := by rw [IntKind.wrap_i64, HLQ.out]; omega
    have hlq3 : (s.frames.length : Int) - 1 = (q : Int) := by rw [HLQ.out]; omega
    have hlq4 : (q : Int) < (s.frames.length : Int) := by rw [HLQ.out]; omega
    have hlq5 : q < s.frames.length := by rw [HLQ.out]; omega
    replace HP := Lib.hid HP.out.drew
    refine wp_region_held_drew (S := fun w' => At w' ⟨g3, 0, none⟩ [.slice A p.funcs.length cP] ∧ w'.cell? ⟨g4, 2, none⟩ = some (.slice (some ad) s.frames.length c2) ∧ w'.cell? (ad.add (q * 14)) = some (.int .i64 f.fn)) (by kernel_rfl) ⟨HP.out.blkAt0L (.tail _ (.tail _ (.tail _ (.head _)))), HP.out.cell (.tail _ (.tail _ (.head _))) 2 _ rfl, HP.out.cellF (F := ⟨w, Lt w.heap.size⟩) (by simp) HFN.out.1 HFN.out.2⟩ (fun hHeld => ?_)
    have HS0 := Lib.hid hHeld
    clear hHeld
    (try simp only [Act.put, List.setIfInBounds_toArray, List.set_cons_zero, List.set_cons_succ])
    refine wpAnyH_row (i := 0) rfl (by kernel_rfl) (by kernel_rfl) (by kernel_rfl) (fun _ _ _ _ h => h) rfl 24 _ rfl _ rfl _ _ (fun _ h => h.1) Tryd.underlying24 rfl (by kernel_rfl) HS0.out ?_
    (try simp only [List.getElem_toArray, List.getElem_cons_succ, List.getElem_cons_zero, Act.put, List.setIfInBounds_toArray, List.set_cons_zero, List.set_cons_succ])
    refine wpAnyH_take (i := 1) (v := ?_) rfl (by kernel_rfl) (by kernel_rfl) (by kernel_rfl) (fun _ _ _ h => h) (.inl ⟨by simp [Region.wanted], ?_⟩) HS0.out ?_
    rotate_left
    · intro w' hw
      obtain ⟨k0, k1, k2⟩ := hw
      go_simp
      (try with_reducible rfl)
    (try simp only [List.getElem_toArray, List.getElem_cons_succ, List.getElem_cons_zero, Act.put, List.setIfInBounds_toArray, List.set_cons_zero, List.set_cons_succ])
    refine wpAnyH_take (i := 2) (v := ?_) rfl (by kernel_rfl) (by kernel_rfl) (by kernel_rfl) (fun _ _ _ h => h) (.inl ⟨by simp [Region.wanted], ?_⟩) HS0.out ?_
    rotate_left
    · intro w' hw
      obtain ⟨k0, k1, k2⟩ := hw
      go_simp
      (try with_reducible rfl)
    (try simp only [List.getElem_toArray, List.getElem_cons_succ, List.getElem_cons_zero, Act.put, List.setIfInBounds_toArray, List.set_cons_zero, List.set_cons_succ])
    refine wpAnyH_take (i := 3) (v := ?_) rfl (by kernel_rfl) (by kernel_rfl) (by kernel_rfl) (fun _ _ _ h => h) (.inl ⟨by simp [Region.wanted], ?_⟩) HS0.out ?_
    rotate_left
    · intro w' hw
      obtain ⟨k0, k1, k2⟩ := hw
      go_simp
      (try with_reducible rfl)
    (try simp only [List.getElem_toArray, List.getElem_cons_succ, List.getElem_cons_zero, Act.put, List.setIfInBounds_toArray, List.set_cons_zero, List.set_cons_succ])
    refine wpAnyH_take (i := 4) (v := ?_) rfl (by kernel_rfl) (by kernel_rfl) (by kernel_rfl) (fun _ _ _ h => h) (.inl ⟨by simp [Region.wanted], ?_⟩) HS0.out ?_
    rotate_left
    · intro w' hw
      obtain ⟨k0, k1, k2⟩ := hw
      go_simp
      (try with_reducible rfl)
    (try simp only [List.getElem_toArray, List.getElem_cons_succ, List.getElem_cons_zero, Act.put, List.setIfInBounds_toArray, List.set_cons_zero, List.set_cons_succ])
    refine wpAnyH_take (i := 5) (v := ?_) rfl (by kernel_rfl) (by kernel_rfl) (by kernel_rfl) (fun _ _ _ h => h) (.inl ⟨by simp [Region.wanted], ?_⟩) HS0.out ?_
    rotate_left
    · intro w' hw
      obtain ⟨k0, k1, k2⟩ := hw
      go_simp
      (try with_reducible rfl)
    (try simp only [List.getElem_toArray, List.getElem_cons_succ, List.getElem_cons_zero, Act.put, List.setIfInBounds_toArray, List.set_cons_zero, List.set_cons_succ])
    refine wpAnyH_take (i := 6) (v := ?_) rfl (by kernel_rfl) (by kernel_rfl) (by kernel_rfl) (fun _ _ _ h => h) (.inl ⟨by simp [Region.wanted], ?_⟩) HS0.out ?_
    rotate_left
    · intro w' hw
      obtain ⟨k0, k1, k2⟩ := hw
      go_simp
      (try with_reducible rfl)
    (try simp only [List.getElem_toArray, List.getElem_cons_succ, List.getElem_cons_zero, Act.put, List.setIfInBounds_toArray, List.set_cons_zero, List.set_cons_succ])
    refine wpAnyH_ready (rs := [7]) (by kernel_rfl) (by simp) ?_
    refine AllReadyH.cons rfl (fun K hK => ?_) AllReadyH.nil
    go_simp
    refine (LiveOf_any p _ f.fn _ (HP.out.rep (F := ⟨w, Lt w.heap.size⟩) (by simp) HR.out)).mono ?_
    rintro r5 w5 ⟨v5, rfl, hv5, hb5⟩
    replace HP := Lib.hid (HP.out.call hb5)
    have HV5 := Lib.hid hv5
    clear hb5 hv5
    dsimp only
    refine hK.out _ _ ⟨HP.out.blkAt0L (.tail _ (.tail _ (.tail _ (.head _)))), HP.out.cell (.tail _ (.tail _ (.head _))) 2 _ rfl, HP.out.cellF (F := ⟨w, Lt w.heap.size⟩) (by simp) HFN.out.1 HFN.out.2⟩ (fun hHeld => ?_)
    replace HS0 := Lib.hid hHeld
    clear hK K hHeld
    (try simp only [List.getElem_toArray, List.getElem_cons_succ, List.getElem_cons_zero, Act.put, List.setIfInBounds_toArray, List.set_cons_zero, List.set_cons_succ])
    refine wpAnyH_take (i := 8) (v := ?_) rfl (by kernel_rfl) (by kernel_rfl) (by kernel_rfl) (fun _ _ _ h => h) (.inl ⟨by simp [Region.wanted], ?_⟩) HS0.out ?_
    rotate_left
    · intro w' hw
      obtain ⟨k0, k1, k2⟩ := hw
      go_simp
      (try with_reducible rfl)
    (try simp only [List.getElem_toArray, List.getElem_cons_succ, List.getElem_cons_zero, Act.put, List.setIfInBounds_toArray, List.set_cons_zero, List.set_cons_succ])
    refine wpAnyH_take (i := 9) (v := ?_) rfl (by kernel_rfl) (by kernel_rfl) (by kernel_rfl) (fun _ _ _ h => h) (.inl ⟨by simp [Region.wanted], ?_⟩) HS0.out ?_
    rotate_left
    · intro w' hw
      obtain ⟨k0, k1, k2⟩ := hw
      go_simp
      (try with_reducible rfl)
    (try simp only [List.getElem_toArray, List.getElem_cons_succ, List.getElem_cons_zero, Act.put, List.setIfInBounds_toArray, List.set_cons_zero, List.set_cons_succ])
    refine wpAnyH_take (i := 10) (v := ?_) rfl (by kernel_rfl) (by kernel_rfl) (by kernel_rfl) (fun _ _ _ h => h) (.inl ⟨by simp [Region.wanted], ?_⟩) HS0.out ?_
    rotate_left
    · intro w' hw
      obtain ⟨k0, k1, k2⟩ := hw
      go_simp
      (try with_reducible rfl)
    (try simp only [List.getElem_toArray, List.getElem_cons_succ, List.getElem_cons_zero, Act.put, List.setIfInBounds_toArray, List.set_cons_zero, List.set_cons_succ])
    refine wpAnyH_ready (rs := [11]) (by kernel_rfl) (by simp) ?_
    refine AllReadyH.cons rfl (fun K hK => ?_) AllReadyH.nil
    go_simp
    refine hK.out _ _ ⟨HP.out.blkAt0L (.tail _ (.tail _ (.tail _ (.head _)))), HP.out.cell (.tail _ (.tail _ (.head _))) 2 _ rfl, HP.out.cellF (F := ⟨w, Lt w.heap.size⟩) (by simp) HFN.out.1 HFN.out.2⟩ (fun hHeld => ?_)
    replace HS0 := Lib.hid hHeld
    clear hK K hHeld
    (try simp only [List.getElem_toArray, List.getElem_cons_succ, List.getElem_cons_zero, Act.put, List.setIfInBounds_toArray, List.set_cons_zero, List.set_cons_succ])
    refine wpAnyH_ready (rs := [12]) (by kernel_rfl) (by simp) ?_
    refine AllReadyH.cons rfl (fun K hK => ?_) AllReadyH.nil
    go_simp
    refine hK.out _ _ ⟨HP.out.blkAt0L (.tail _ (.tail _ (.tail _ (.head _)))), HP.out.cell (.tail _ (.tail _ (.head _))) 2 _ rfl, HP.out.cellF (F := ⟨w, Lt w.heap.size⟩) (by simp) HFN.out.1 HFN.out.2⟩ (fun hHeld => ?_)
    replace HS0 := Lib.hid hHeld
    clear hK K hHeld
    (try simp only [List.getElem_toArray, List.getElem_cons_succ, List.getElem_cons_zero, Act.put, List.setIfInBounds_toArray, List.set_cons_zero, List.set_cons_succ])
    refine wpAnyH_done (by kernel_rfl) ?_ _
    (try simp only [List.getElem_toArray, List.getElem_cons_succ, List.getElem_cons_zero, Act.put, List.setIfInBounds_toArray, List.set_cons_zero, List.set_cons_succ])
    clear HS0
    obtain ⟨l, hl⟩ : ∃ l, (liveAns p f.fn).1 = l := ⟨_, rfl⟩
    have HRG := Lib.hid (show ∀ b ∈ l, -1 ≤ b ∧ b ≤ 4095 from fun b hb => liveAns_rangeL p f.fn b (by rw [hl]; exact hb))
    have HLV := Lib.hid (show (liveAns p (lastF s).fn).1 = l by rw [HLF.out, hl])
    rw [hl] at HV5
    clear hl
    obtain ⟨A5, c5, rfl, hc5, hm5, -⟩ := rep_ints_at HV5.out
    unfold maxLen at hm5
    obtain ⟨G5, HP, HS5⟩ : ∃ G : Fro, Hid (Hp w [G, ⟨w, Lt w.heap.size⟩] [.blk g6 40 (staCells noS (.slice none 0 0) (.slice none 0 0) (.slice none 0 0)), .blk g5 44 (cpuCells c), .blk g4 40 (staCells s (.slice (some ad) s.frames.length c2) (.slice AE s.events.length ce) (.slice AA s.answers.length ca)), .blk g3 24 [.slice A p.funcs.length cP]] _) ∧ Hid (Lay.rep G.w G.S l [.slice A5 l.length c5]) := ⟨_, HP, HV5⟩
    clear HV5
    (try simp only [List.getElem_toArray, List.getElem_cons_succ, List.getElem_cons_zero, Act.put, List.setIfInBounds_toArray, List.set_cons_zero, List.set_cons_succ])
    obtain ⟨pc, hpc⟩ : ∃ n, cdat c 29 = n := ⟨_, rfl⟩
    obtain ⟨fu, hfu⟩ : ∃ n, cdat c 28 = n := ⟨_, rfl⟩
    have D29 := Lib.hid (hpc ▸ cpu_dat c 29 (by decide))
    have D28 := Lib.hid (hfu ▸ cpu_dat c 28 (by decide))
    have HPC := Lib.hid hpc
    have HFU := Lib.hid hfu
    have hwl : IntKind.i64.wrap ((l.length : Int) - 1) = (l.length : Int) - 1 := by rw [IntKind.wrap_i64]; omega
    have hok : leaveOk s c l ↔ (0 ≤ pc ∧ pc < l.length ∧ 0 ≤ l.getD pc.toNat 0 ∧ 0 ≤ fu ∧ fu ≤ s.fuel) := by unfold leaveOk; rw [hpc, hfu]
    have HOKK := Lib.hid hok
    clear hok hpc hfu
    have cg1 := HP.out.cell (.tail _ (.head _)) 61 _ D28.out
    have cg2 := HP.out.cell (.tail _ (.tail _ (.head _))) 19 _ rfl
    by_cases h1 : 0 ≤ pc ∧ pc < l.length
    · obtain ⟨k, rfl⟩ := Int.eq_ofNat_of_zero_le h1.1
      have hkl : k < l.length := by omega
      have hkl2 : (k : Int) < (l.length : Int) := by omega
      have hk0 : (0 : Int) ≤ (k : Int) := by omega
      have t1 : decide (0 ≤ (k : Int)) = true := decide_eq_true hk0
      have t2 : decide ((k : Int) ≤ (l.length : Int) - 1) = true := decide_eq_true (by omega)
      obtain ⟨b, hb⟩ : ∃ b, l[k] = b := ⟨_, rfl⟩
      have HLK := Lib.hid hb
      have HGD := Lib.hid (show l.getD k 0 = b by rw [List.getD_eq_getElem?_getD, List.getElem?_eq_getElem hkl, hb]; rfl)
      have hbr := HRG.out b (hb ▸ List.getElem_mem hkl)
      clear hb h1
      by_cases h2 : 0 ≤ fu ∧ fu ≤ s.fuel
      · have t3 : decide (0 ≤ fu) = true := decide_eq_true h2.1
        have t4 : decide (fu ≤ s.fuel) = true := decide_eq_true h2.2
        by_cases h3 : 0 ≤ b
        · have t5 : decide (b < 0) = false := decide_eq_false (by omega)
          have HLA := Lib.hid (leave_yes HZ.out HLV.out (HOKK.out.2 ⟨hk0, hkl2, by rw [Int.toNat_natCast, HGD.out]; exact h3, h2.1, h2.2⟩) HFR.out (b := b) (by rw [HPC.out, Int.toNat_natCast, HGD.out]))
          clear h2
          obtain ⟨A9, c9, e9, -, -, hx9⟩ := rep_ints_at (HP.out.rep (F := G5) (by simp) HS5.out)
          obtain ⟨a9, rfl, -, hcl⟩ := hx9 k hkl
          clear hx9
          obtain rfl : A5 = some a9 := (Value.slice.inj e9).1
          clear e9
          replace hcl := hcl.trans (congrArg (fun z => some (Value.int IntKind.i64 z)) HLK.out)
          go_upto_region 12 with (first | (refine wpList_ld1 rfl 3 _ rfl HP.out rfl D29.out Tryd.underlying3 rfl ?_) | (go_at_call 46; refine (In_any _ _ _ _).mono ?_; rintro e w7 ⟨rfl, rfl⟩) | (refine wpList_ldR2 rfl 40 _ rfl HP.out rfl Tryd.underlying40 rfl (by first | kernel_rfl | (rw [cpu_len]; kernel_rfl)) ?_) | (go_at_call 44; refine (StateCopy_own s _ _ _ _ (HP.out.rep (F := ⟨w, Lt w.heap.size⟩) (by simp) HF.out) (HP.out.rep (F := ⟨w, Lt w.heap.size⟩) (by simp) HE.out) (HP.out.rep (F := ⟨w, Lt w.heap.size⟩) (by simp) HA.out) hlf hle hla).mono ?_; rintro e w8 ⟨u8, e8, a8, rfl, HL⟩; replace HP := Lib.hid (by simpa only [ownS, List.cons_append, List.nil_append] using Hp.take HP.out HL.froDrop); clear HL; obtain ⟨AE8, cE8, rfl, -, -, -⟩ := rep_ints_at (HP.out.rowInts (.tail _ (.head _)) rfl); obtain ⟨AA8, cA8, rfl, -, -, -⟩ := rep_ints_at (HP.out.rowInts (.tail _ (.tail _ (.head _))) rfl); obtain ⟨gF, cF, hv8⟩ := HP.out.rowSome (.head _) (by rw [HLQ.out]; omega); cases hv8) | (refine wpList_alloc_hp (o := ⟨some 13, _, _, _, _, _⟩) rfl _ rfl HP.out (.agg (staCells noS (.slice none 0 0) (.slice none 0 0) (.slice none 0 0)).toArray) (by kernel_rfl) (staCells noS (.slice none 0 0) (.slice none 0 0) (.slice none 0 0)) rfl ?_; clear HP; intro g13 w13 HP; replace HP := Lib.hid HP) | (refine wpList_stR0 rfl 40 _ _ rfl HP.out rfl (cs' := (staCells s (.slice (some ⟨gF, 0, none⟩) s.frames.length cF) (.slice AE8 s.events.length cE8) (.slice AA8 s.answers.length cA8))) rfl rfl (by simp [staCells, Value.oneCell']) (by kernel_rfl) ?_; clear HP; intro wst HP; replace HP := Lib.hid HP))
          clear hcl cg1 cg2
          go_upto_region 13 with (first | (refine wpList_ld5 rfl 3 _ rfl HP.out rfl D28.out Tryd.underlying3 rfl ?_) | (refine wpList_st0 rfl 3 _ _ rfl HP.out rfl rfl (by show _ < 22; omega) rfl (sta_fuel _ _ _ _ _) (by kernel_rfl) ?_; clear HP; intro wst HP; replace HP := Lib.hid HP))
          rw [← HFU.out, show s.frames.flatMap frmCells = fs.flatMap frmCells ++ frmCells f by rw [HFR.out, frms_snoc]] at HP
          go_wp2
          go_loopw [14] (fun iv wr => ∃ i : Nat, i ≤ 16 ∧ iv = .int .i64 i ∧ Hid (Hp w [G5, ⟨w, Lt w.heap.size⟩] [.blk g13 40 (staCells (memK { s with fuel := cdat c 28 } c i) (.slice (some ⟨gF, 0, none⟩) s.frames.length cF) (.slice AE8 s.events.length cE8) (.slice AA8 s.answers.length cA8)), .row (.slice (some ⟨gF, 0, none⟩) s.frames.length cF) 77 14 s.frames.length (fs.flatMap frmCells ++ frmCells f), .row (.slice AE8 s.events.length cE8) 3 1 s.events.length (s.events.map (Value.int .i64)), .row (.slice AA8 s.answers.length cA8) 3 1 s.answers.length (s.answers.map (Value.int .i64)), .blk g6 40 (staCells noS (.slice none 0 0) (.slice none 0 0) (.slice none 0 0)), .blk g5 44 (cpuCells c), .blk g4 40 (staCells s (.slice (some ad) s.frames.length c2) (.slice AE s.events.length ce) (.slice AA s.answers.length ca)), .blk g3 24 [.slice A p.funcs.length cP]] wr)) (fun iv _ => 16 - (intOf iv).toNat)
          case atStart => exact ⟨0, by omega, rfl, HP⟩
          case round =>
            clear HP
            obtain ⟨i, hi, rfl, HP⟩ := hrel
            obtain ⟨wo, rfl⟩ : ∃ wo : World, wo = wr := ⟨_, rfl⟩
            by_cases hlt : i < 16
            · have hi2 : (i : Int) < 16 := by omega
              have hi64 : (i : Int) < 64 := by omega
              have hi0 : (0 : Int) ≤ (i : Int) := by omega
              have HDI := Lib.hid (cpu_dat c i (by omega))
              go_wp2_with (first | (refine wpList_ld5 rfl 3 _ rfl HP.out rfl HDI.out Tryd.underlying3 rfl ?_) | (refine wpList_st0 rfl 3 _ _ rfl HP.out rfl rfl (by show _ < 22; omega) rfl (memK_cells _ _ _ _ _ i hlt) (by kernel_rfl) ?_; clear HP; intro wst HP; replace HP := Lib.hid HP))
              go_roundw
              case rel => exact ⟨i + 1, by omega, by go_num, HP⟩
              case measure => simp [intOf]; omega
            · obtain rfl : i = 16 := by omega
              simp only [show ((16 : Nat) : Int) = 16 from rfl]
              obtain ⟨X, hX⟩ : ∃ X, memK { s with fuel := cdat c 28 } c 16 = X := ⟨_, rfl⟩
              have HX9 := Lib.hid hX
              rw [hX] at HP
              have HLX := Lib.hid (show leaveAns p s c = (({ X with frames := fs ++ [leaveF f c b] } : Sta), 0) by rw [HLA.out]; unfold leaveS; rw [hX])
              clear hX
              go_upto_region 18 with (first | (refine wpList_ld0 rfl 37 _ rfl HP.out rfl rfl Tryd.underlying37 rfl ?_) | (refine wpList_stW1 rfl 3 _ _ rfl HP.out rfl rfl (top_lt HQ.out (by omega)) rfl (top_pc HQ.out (by omega) _) (by kernel_rfl) ?_; clear HP; intro wst HP; replace HP := Lib.hid HP))
              rw [show (k : Int) = cdat c 29 from HPC.out.symm] at HP
              go_wp2
              go_loopw [15] (fun iv wr => ∃ r : Nat, r ≤ 12 ∧ iv = .int .i64 r ∧ Hid (Hp w [G5, ⟨w, Lt w.heap.size⟩] [.blk g13 40 (staCells X (.slice (some ⟨gF, 0, none⟩) s.frames.length cF) (.slice AE8 s.events.length cE8) (.slice AA8 s.answers.length cA8)), .row (.slice (some ⟨gF, 0, none⟩) s.frames.length cF) 77 14 s.frames.length (fs.flatMap frmCells ++ frmCells (regK ⟨f.fn, cdat c 29, f.regs⟩ c b r)), .row (.slice AE8 s.events.length cE8) 3 1 s.events.length (s.events.map (Value.int .i64)), .row (.slice AA8 s.answers.length cA8) 3 1 s.answers.length (s.answers.map (Value.int .i64)), .blk g6 40 (staCells noS (.slice none 0 0) (.slice none 0 0) (.slice none 0 0)), .blk g5 44 (cpuCells c), .blk g4 40 (staCells s (.slice (some ad) s.frames.length c2) (.slice AE s.events.length ce) (.slice AA s.answers.length ca)), .blk g3 24 [.slice A p.funcs.length cP]] wr)) (fun iv _ => 12 - (intOf iv).toNat)
              case atStart => exact ⟨0, by omega, rfl, HP⟩
              case round =>
                clear HP
                obtain ⟨r, hr, rfl, HP⟩ := hrel
                obtain ⟨wo2, rfl⟩ : ∃ wo : World, wo = wr := ⟨_, rfl⟩
                by_cases hlt2 : r < 12
                · have hr2 : (r : Int) < 12 := by omega
                  have hr0 : (0 : Int) ≤ (r : Int) := by omega
                  go_upto_region 22 with (first | (refine wpList_ld0 rfl 37 _ rfl HP.out rfl rfl Tryd.underlying37 rfl ?_) | (refine wpList_stW1 rfl 3 _ _ rfl HP.out rfl rfl (top_lt HQ.out (by omega)) rfl (top_set (d := r) HQ.out hlt2 (by omega) _) (by kernel_rfl) ?_; clear HP; intro wst HP; replace HP := Lib.hid HP))
                  obtain ⟨A10, c10, e10, -, -, hx10⟩ := rep_ints_at (HP.out.rep (F := G5) (by simp) HS5.out)
                  obtain ⟨a10, rfl, -, hcl⟩ := hx10 k hkl
                  clear hx10
                  obtain rfl : a9 = a10 := Option.some.inj (Value.slice.inj e10).1
                  clear e10
                  replace hcl := hcl.trans (congrArg (fun z => some (Value.int IntKind.i64 z)) HLK.out)
                  obtain ⟨bt, hbt⟩ : ∃ bt, bitZ b r = bt := ⟨_, rfl⟩
                  have HBT := Lib.hid hbt
                  clear hbt
                  cases bt with
                  | false =>
                    go_wp2_with (first | (go_at_call 47; refine (hasBit_any b r (by omega) ⟨by omega, by omega⟩ _).mono ?_; rintro e w7 ⟨rfl, rfl⟩; rw [HBT.out]))
                    go_roundw
                    case rel => exact ⟨r + 1, by omega, by go_num, Lib.hid (by rw [regK_no _ _ _ _ HBT.out]; exact HP.out)⟩
                    case measure => simp [intOf]; omega
                  | true =>
                    obtain ⟨m, hm16⟩ : ∃ m : Nat, 16 + r = m := ⟨_, rfl⟩
                    have HM := Lib.hid hm16
                    have h16 : (16 : Int) + (r : Int) = (m : Int) := by omega
                    have hw16 : IntKind.i64.wrap (m : Int) = (m : Int) := by rw [IntKind.wrap_i64]; omega
                    have h16b : (m : Int) < 64 := by omega
                    have h16c : (0 : Int) ≤ (m : Int) := by omega
                    have hm64 : m < 64 := by omega
                    clear hm16
                    go_upto_region 23 with (first | (go_at_call 47; refine (hasBit_any b r (by omega) ⟨by omega, by omega⟩ _).mono ?_; rintro e w7 ⟨rfl, rfl⟩; rw [HBT.out]))
                    clear hcl
                    have HDR := Lib.hid HP.out.drew
                    have q0 := HP.out.cell (.head _) 2 _ rfl
                    have q1 := HP.out.cell (.tail _ (.tail _ (.tail _ (.tail _ (.tail _ (.head _)))))) (33 + m) _ (cpu_dat c m hm64)
                    refine wp_region_still_tail 11 (by kernel_rfl) (by kernel_rfl) ?_
                    simp only [List.take_succ_cons, List.take_zero, List.drop_succ_cons, List.drop_zero]
                    repeat still_step
                    try refine wpStill_nil ?_
                    clear q0 q1
                    replace HP := HDR
                    clear HDR
                    go_wp2_with (first | (refine wpList_stW1 rfl 3 _ _ rfl HP.out rfl rfl (top_lt HQ.out (by omega)) rfl (top_set (d := r) HQ.out hlt2 (by omega) _) (by kernel_rfl) ?_; clear HP; intro wst HP; replace HP := Lib.hid HP))
                    go_roundw
                    case rel => exact ⟨r + 1, by omega, by go_num, Lib.hid (by rw [regK_yes _ _ _ _ HBT.out, HM.out]; exact HP.out)⟩
                    case measure => simp [intOf]; omega
                · obtain rfl : r = 12 := by omega
                  simp only [show ((12 : Nat) : Int) = 12 from rfl]
                  obtain ⟨Fl, hFl⟩ : ∃ Fl, leaveF f c b = Fl := ⟨_, rfl⟩
                  rw [show regK ⟨f.fn, cdat c 29, f.regs⟩ c b 12 = Fl from hFl] at HP
                  rw [hFl] at HLX
                  clear hFl
                  go_wp2_with (first | (refine wpList_ldR0 rfl 40 _ rfl HP.out rfl Tryd.underlying40 rfl (by first | kernel_rfl | (rw [cpu_len]; kernel_rfl)) ?_) | (refine wpList_stR4 rfl 40 _ _ rfl HP.out rfl (cs' := staCells X (.slice (some ⟨gF, 0, none⟩) s.frames.length cF) (.slice AE8 s.events.length cE8) (.slice AA8 s.answers.length cA8)) rfl rfl (by simp [staCells, Value.oneCell']) (by kernel_rfl) ?_; clear HP; intro wst HP; replace HP := Lib.hid HP))
                  (try simp only [Exit.inBlock, Exit.then])
                  rw [HLX.out]
                  refine bodyPost_ret (results_cell_row_tmp2 (by rfl) _ _ g6 40 (staCells X (.slice (some ⟨gF, 0, none⟩) s.frames.length cF) (.slice AE8 s.events.length cE8) (.slice AA8 s.answers.length cA8)).toArray (0, 0) _ (by rfl) (HP.out.blk (.tail _ (.tail _ (.tail _ (.tail _ (.head _)))))) Tryd.underlying40 rfl (by kernel_rfl)) (by rfl) ?_
                  have hmr := memK_rest { s with fuel := cdat c 28 } c 16
                  rw [HX9.out] at hmr
                  obtain ⟨-, -, -, -, hev, han⟩ := hmr
                  refine ⟨_, _, _, rfl, HP.out.rowFrames (.tail _ (.head _)) (by show _ = (fs ++ [Fl]).flatMap frmCells; rw [frms_snoc]), ?_, ?_, HP.out.below⟩
                  · show Lay.rep _ _ X.events [_]
                    rw [hev]; exact HP.out.rowInts (.tail _ (.tail _ (.head _))) rfl
                  · show Lay.rep _ _ X.answers [_]
                    rw [han]; exact HP.out.rowInts (.tail _ (.tail _ (.tail _ (.head _)))) rfl
        · have t5 : decide (b < 0) = true := decide_eq_true (by omega)
          have HLA := Lib.hid (leave_no HZ.out HLV.out (fun h => by have := (HOKK.out.1 h).2.2.1; rw [Int.toNat_natCast, HGD.out] at this; exact h3 this))
          clear h2 h3
          obtain ⟨A9, c9, e9, -, -, hx9⟩ := rep_ints_at (HP.out.rep (F := G5) (by simp) HS5.out)
          obtain ⟨a9, rfl, -, hcl⟩ := hx9 k hkl
          clear hx9
          obtain rfl : A5 = some a9 := (Value.slice.inj e9).1
          clear e9
          replace hcl := hcl.trans (congrArg (fun z => some (Value.int IntKind.i64 z)) HLK.out)
          go_wp2_with (first | (refine wpList_ld1 rfl 3 _ rfl HP.out rfl D29.out Tryd.underlying3 rfl ?_) | (go_at_call 46; refine (In_any _ _ _ _).mono ?_; rintro e w7 ⟨rfl, rfl⟩) | (refine wpList_stR0 rfl 40 _ _ rfl HP.out rfl (cs' := (staCells noS (.slice none 0 0) (.slice none 0 0) (.slice none 0 0))) rfl rfl (by simp [staCells, Value.oneCell']) (by kernel_rfl) ?_; clear HP; intro wst HP; replace HP := Lib.hid HP))
          (try simp only [Exit.inBlock, Exit.then])
          rw [HLA.out]
          refine bodyPost_ret (results_cell_row_tmp2 (by rfl) _ _ g6 40 (staCells noS (.slice none 0 0) (.slice none 0 0) (.slice none 0 0)).toArray (0, 0) _ (by rfl) (HP.out.blk (.head _)) Tryd.underlying40 rfl (by kernel_rfl)) (by rfl) ?_
          exact ⟨_, _, _, rfl, rep_frames_nilL, rep_ints_nil, rep_ints_nil, HP.out.below⟩
      · have HLA := Lib.hid (leave_no HZ.out HLV.out (fun h => h2 (HOKK.out.1 h).2.2.2))
        have h4 : decide (0 ≤ fu) = false ∨ (decide (0 ≤ fu) = true ∧ decide (fu ≤ s.fuel) = false) := by
          by_cases h : 0 ≤ fu
          · right; exact ⟨decide_eq_true h, decide_eq_false (fun h5 => h2 ⟨h, h5⟩)⟩
          · left; exact decide_eq_false h
        clear h2
        rcases h4 with t3 | ⟨t3, t4⟩
        all_goals
          go_wp2_with (first | (refine wpList_ld1 rfl 3 _ rfl HP.out rfl D29.out Tryd.underlying3 rfl ?_) | (go_at_call 46; refine (In_any _ _ _ _).mono ?_; rintro e w7 ⟨rfl, rfl⟩) | (refine wpList_stR0 rfl 40 _ _ rfl HP.out rfl (cs' := (staCells noS (.slice none 0 0) (.slice none 0 0) (.slice none 0 0))) rfl rfl (by simp [staCells, Value.oneCell']) (by kernel_rfl) ?_; clear HP; intro wst HP; replace HP := Lib.hid HP))
          (try simp only [Exit.inBlock, Exit.then])
          rw [HLA.out]
          refine bodyPost_ret (results_cell_row_tmp2 (by rfl) _ _ g6 40 (staCells noS (.slice none 0 0) (.slice none 0 0) (.slice none 0 0)).toArray (0, 0) _ (by rfl) (HP.out.blk (.head _)) Tryd.underlying40 rfl (by kernel_rfl)) (by rfl) ?_
          exact ⟨_, _, _, rfl, rep_frames_nilL, rep_ints_nil, rep_ints_nil, HP.out.below⟩
    · have HLA := Lib.hid (leave_no HZ.out HLV.out (fun h => h1 ⟨(HOKK.out.1 h).1, (HOKK.out.1 h).2.1⟩))
      have h4 : decide (0 ≤ pc) = false ∨ (decide (0 ≤ pc) = true ∧ decide (pc ≤ (l.length : Int) - 1) = false) := by
        by_cases h : 0 ≤ pc
        · right; exact ⟨decide_eq_true h, decide_eq_false (by omega)⟩
        · left; exact decide_eq_false h
      clear h1
      rcases h4 with t3 | ⟨t3, t4⟩
      all_goals
        go_wp2_with (first | (refine wpList_ld1 rfl 3 _ rfl HP.out rfl D29.out Tryd.underlying3 rfl ?_) | (go_at_call 46; refine (In_any _ _ _ _).mono ?_; rintro e w7 ⟨rfl, rfl⟩) | (refine wpList_stR0 rfl 40 _ _ rfl HP.out rfl (cs' := (staCells noS (.slice none 0 0) (.slice none 0 0) (.slice none 0 0))) rfl rfl (by simp [staCells, Value.oneCell']) (by kernel_rfl) ?_; clear HP; intro wst HP; replace HP := Lib.hid HP))
        (try simp only [Exit.inBlock, Exit.then])
        rw [HLA.out]
        refine bodyPost_ret (results_cell_row_tmp2 (by rfl) _ _ g6 40 (staCells noS (.slice none 0 0) (.slice none 0 0) (.slice none 0 0)).toArray (0, 0) _ (by rfl) (HP.out.blk (.head _)) Tryd.underlying40 rfl (by kernel_rfl)) (by rfl) ?_
        exact ⟨_, _, _, rfl, rep_frames_nilL, rep_ints_nil, rep_ints_nil, HP.out.below⟩

  · have hla2 := leave_bad c hz
    obtain ⟨e0, he0⟩ : ∃ e0, runFault p s = e0 := ⟨_, rfl⟩
    rw [he0] at hz hla2
    have HLA := Lib.hid hla2
    have HZ := Lib.hid he0
    have hzb : (e0 != 0) = true := by simpa using hz
    clear hla2 he0 hz
    go_enter Tryd.func18, Tryd.ntmps18
    go_wp2_with (first | (refine wpList_box_hp (o := ⟨some 3, _, _, _, _, _⟩) rfl _ _ rfl HP.out [_] rfl ?_; clear HP; intro g3 w3 HP; replace HP := Lib.hid HP) | (refine wpList_box_hp (o := ⟨some 4, _, _, _, _, _⟩) rfl _ _ rfl HP.out (staCells s (.slice A2 s.frames.length c2) (.slice AE s.events.length ce) (.slice AA s.answers.length ca)) rfl ?_; clear HP; intro g4 w4 HP; replace HP := Lib.hid HP) | (refine wpList_box_hp (o := ⟨some 5, _, _, _, _, _⟩) rfl _ _ rfl HP.out (cpuCells c) rfl ?_; clear HP; intro g5 w5 HP; replace HP := Lib.hid HP) | (refine wpList_alloc_hp (o := ⟨some 6, _, _, _, _, _⟩) rfl _ rfl HP.out (.agg (staCells noS (.slice none 0 0) (.slice none 0 0) (.slice none 0 0)).toArray) (by kernel_rfl) (staCells noS (.slice none 0 0) (.slice none 0 0) (.slice none 0 0)) rfl ?_; clear HP; intro g6 w6 HP; replace HP := Lib.hid HP) | (refine wpList_ldR3 rfl 24 _ rfl HP.out rfl Tryd.underlying24 rfl (by first | kernel_rfl | (rw [cpu_len]; kernel_rfl)) ?_) | (refine wpList_ldR2 rfl 40 _ rfl HP.out rfl Tryd.underlying40 rfl (by first | kernel_rfl | (rw [cpu_len]; kernel_rfl)) ?_) | (go_at_call 45; refine (runningFault_any p _ s _ _ _ _ (HP.out.rep (F := ⟨w, Lt w.heap.size⟩) (by simp) HR.out) (HP.out.rep (F := ⟨w, Lt w.heap.size⟩) (by simp) HF.out) (HP.out.rep (F := ⟨w, Lt w.heap.size⟩) (by simp) HE.out) (HP.out.rep (F := ⟨w, Lt w.heap.size⟩) (by simp) HA.out)).mono ?_; rintro e w4 ⟨rfl, hb⟩; replace HP := Lib.hid (HP.out.call0 hb); clear hb; rw [HZ.out]) | (refine wpList_stR0 rfl 40 _ _ rfl HP.out rfl (cs' := (staCells noS (.slice none 0 0) (.slice none 0 0) (.slice none 0 0))) rfl rfl (by simp [staCells, Value.oneCell']) (by kernel_rfl) ?_; clear HP; intro wst HP; replace HP := Lib.hid HP))
    (try simp only [Exit.inBlock, Exit.then])
    rw [HLA.out]
    refine bodyPost_ret (results_cell_row_tmp2 (by rfl) _ _ g6 40 (staCells noS (.slice none 0 0) (.slice none 0 0) (.slice none 0 0)).toArray (0, 0) _ (by rfl) (HP.out.blk (.head _)) Tryd.underlying40 rfl (by kernel_rfl)) (by rfl) ?_
    exact ⟨_, _, _, rfl, rep_frames_nilL, rep_ints_nil, rep_ints_nil, HP.out.below⟩
end Go.Proofs.YtnabeibnaoahmaaDoor
