/- ref.ProgramShown. -/
import Derived.Test.YtpnapnmkjpolmaaDoorSheetD
import Derived.Test.YtpnapnmkjpolmaaDoorSheetB
import Derived.Test.YtpnapnmkjpolmaaDoorCodeD
set_option linter.unusedSimpArgs false
set_option linter.unusedVariables false
namespace Go.Proofs.YtpnapnmkjpolmaaDoor
open Go.RowKit
attribute [local irreducible] wpList Code.wp Oper.wp
theorem ret_strs {a b : List UInt8} {n m : Int} (h : a = b) (h' : n = m) : Ending.returned (.tuple #[.string (bstr a), .int .i64 n]) = .returned (.tuple #[.string (bstr b), .int .i64 m]) := by rw [h, h']
set_option maxRecDepth 10000 in
set_option maxHeartbeats 4000000 in
theorem ProgramShown_any (p : Prg) (u : Value) (w : World) (hp : Lay.rep w (Lt w.heap.size) p [u]) (hok : Lay.ok p) :
    Calls Tryd.prog 7 #[.agg #[u]] w fun e w' => e = .returned (.tuple #[.string (bstr (showAns p).1), .int .i64 (showAns p).2]) ∧ Below w.heap.size w w' := by
  obtain ⟨A, c, rfl, hc, hm, hx⟩ := rep_funs_at hp
  unfold maxLen at hm
  have HX := Lib.hid hx
  have HR := Lib.hid hp
  clear hx hp
  have HP := Lib.hid (Hp.start w)
  by_cases hz : prgFault p = 0
  · have HN := Lib.hid (numP_of hok hz)
    have HA := Lib.hid (show_ok hz)
    have HZ := Lib.hid hz
    obtain ⟨n1, n2⟩ := HN.out.ok.len
    obtain ⟨ad, hA⟩ : ∃ ad, A = some ad := by
      obtain ⟨a, _, e, _⟩ := HX.out 0 (show 0 < p.funcs.length by omega)
      exact ⟨a, e⟩
    subst hA
    clear hz hok
    go_enter Tryd.func7, Tryd.ntmps7
    go_wp2_with (first | (refine wpList_box_hp (o := ⟨some 1, _, _, _, _, _⟩) rfl _ _ rfl HP.out [_] rfl ?_; clear HP; intro g1 w1 HP; replace HP := Lib.hid HP) | (refine wpList_ldR0 rfl 24 _ rfl HP.out rfl Tryd.underlying24 rfl (by kernel_rfl) ?_) | (go_at_call 16; refine (progFault_any p _ _ (HP.out.rep (F := ⟨w, Lt w.heap.size⟩) (by simp) HR.out)).mono ?_; rintro e wck ⟨rfl, hb⟩; replace HP := Lib.hid (HP.out.call0 hb); clear hb; rw [HZ.out]))
    go_loopw [5, 6] (fun sv iv wr => ∃ (k : Nat), k ≤ p.funcs.length ∧ iv = .int .i64 k ∧ sv = .string (bstr ((p.funcs.take k).flatMap funS)) ∧ Hid (Hp w [⟨w, Lt w.heap.size⟩] [.blk g1 24 [.slice (some ad) p.funcs.length c]] wr)) (fun _ iv _ => p.funcs.length - (intOf iv).toNat)
    case atStart => exact ⟨0, by omega, rfl, rfl, HP⟩
    case round =>
      clear HP
      obtain ⟨k, hk9, rfl, rfl, HP⟩ := hrel
      obtain ⟨wo, rfl⟩ : ∃ wo : World, wo = wr := ⟨_, rfl⟩
      have hal := show_len HN.out k
      obtain ⟨acc, hacc⟩ : ∃ acc, (p.funcs.take k).flatMap funS = acc := ⟨_, rfl⟩
      rw [hacc] at hal ⊢
      have HACC := Lib.hid hacc
      clear hacc
      by_cases hk : k < p.funcs.length
      · have hk2 : (k : Int) < (p.funcs.length : Int) := by omega
        obtain ⟨ad', v0, e0, hab, hat, hcode⟩ := HX.out k hk
        cases e0
        obtain ⟨f, hf⟩ : ∃ f, p.funcs[k] = f := ⟨_, rfl⟩
        rw [hf] at hat hcode
        have hfm : f ∈ p.funcs := hf ▸ List.getElem_mem hk
        have HFK := Lib.hid (show p.funcs[k]? = some f by rw [← hf, List.getElem?_eq_getElem hk])
        obtain ⟨A2, c2, rfl, hc2, hm2, hx2⟩ := rep_code_at hcode
        unfold maxLen at hm2
        have HX2 := Lib.hid hx2
        have HAT := Lib.hid hat
        have HPR := Lib.hid (HN.out.par f hfm)
        have HFL := Lib.hid (HN.out.fld f hfm)
        have HOI := Lib.hid ((HN.out.ok.fns f hfm).ins)
        obtain ⟨l1, l2⟩ := (HN.out.ok.fns f hfm).len
        have hhl := headS_len f HPR.out.1 HPR.out.2
        have hil1 := itoa_len f.params HPR.out.1
        have hil2 := itoa_len f.regs HPR.out.2
        clear hf hat hcode hx2 hfm
        go_upto_region 9 with (first | (refine wpList_ld0 rfl 22 _ rfl HP.out rfl rfl Tryd.underlying22 rfl ?_) | (refine wpList_load_at rfl 36 _ rfl _ rfl _ _ (HP.out.at_ (F := ⟨w, Lt w.heap.size⟩) (by simp) HAT.out (by rw [block_of_add]; exact hab)) Tryd.underlying36 rfl (by kernel_rfl) ?_) | (refine wpList_alloc_hp (o := ⟨some 7, _, _, _, _, _⟩) rfl _ rfl HP.out (.agg #[.int .i64 0, .int .i64 0, .slice none 0 0]) (by kernel_rfl) [_, _, _] rfl ?_; clear HP; intro g7 w7 HP; replace HP := Lib.hid HP) | (refine wpList_stR0 rfl 36 _ _ rfl HP.out rfl (cs' := [_, _, _]) rfl rfl (by simp [Value.oneCell']) (by kernel_rfl) ?_; clear HP; intro wst HP; replace HP := Lib.hid HP))
        refine wp_region_held_drew (S := fun wq => wq.cell? ⟨g7, 0, none⟩ = some (.int .i64 f.params) ∧ wq.cell? ⟨g7, 1, none⟩ = some (.int .i64 f.regs)) (by kernel_rfl) ⟨HP.out.cell (.head _) 0 _ rfl, HP.out.cell (.head _) 1 _ rfl⟩ (fun hHeld => ?_)
        have HS0 := Lib.hid hHeld
        clear hHeld
        replace HP := Lib.hid HP.out.drew
        (try simp only [Act.put, List.setIfInBounds_toArray, List.set_cons_zero, List.set_cons_succ])
        refine wpAnyH_take (i := 0) (v := ?_) rfl (by kernel_rfl) (by kernel_rfl) (by kernel_rfl) (fun _ _ _ h => h) (.inl ⟨by first | (simp [Region.wanted]; done) | rfl, ?_⟩) HS0.out ?_
        rotate_left
        · intro w' hw
          obtain ⟨k0, k1⟩ := hw
          go_simp
          (try with_reducible rfl)
        (try simp only [List.getElem_toArray, List.getElem_cons_succ, List.getElem_cons_zero, Act.put, List.setIfInBounds_toArray, List.set_cons_zero, List.set_cons_succ])
        refine wpAnyH_take (i := 2) (v := ?_) rfl (by kernel_rfl) (by kernel_rfl) (by kernel_rfl) (fun _ _ _ h => h) (.inl ⟨by first | (simp [Region.wanted]; done) | rfl, ?_⟩) HS0.out ?_
        rotate_left
        · intro w' hw
          obtain ⟨k0, k1⟩ := hw
          go_simp
          (try with_reducible rfl)
        (try simp only [List.getElem_toArray, List.getElem_cons_succ, List.getElem_cons_zero, Act.put, List.setIfInBounds_toArray, List.set_cons_zero, List.set_cons_succ])
        refine wpAnyH_take (i := 3) (v := ?_) rfl (by kernel_rfl) (by kernel_rfl) (by kernel_rfl) (fun _ _ _ h => h) (.inl ⟨by first | (simp [Region.wanted]; done) | rfl, ?_⟩) HS0.out ?_
        rotate_left
        · intro w' hw
          obtain ⟨k0, k1⟩ := hw
          go_simp
          (try with_reducible rfl)
        (try simp only [List.getElem_toArray, List.getElem_cons_succ, List.getElem_cons_zero, Act.put, List.setIfInBounds_toArray, List.set_cons_zero, List.set_cons_succ])
        refine wpAnyH_take (i := 7) (v := ?_) rfl (by kernel_rfl) (by kernel_rfl) (by kernel_rfl) (fun _ _ _ h => h) (.inl ⟨by first | (simp [Region.wanted]; done) | rfl, ?_⟩) HS0.out ?_
        rotate_left
        · intro w' hw
          obtain ⟨k0, k1⟩ := hw
          go_simp
          (try with_reducible rfl)
        (try simp only [List.getElem_toArray, List.getElem_cons_succ, List.getElem_cons_zero, Act.put, List.setIfInBounds_toArray, List.set_cons_zero, List.set_cons_succ])
        refine wpAnyH_take (i := 8) (v := ?_) rfl (by kernel_rfl) (by kernel_rfl) (by kernel_rfl) (fun _ _ _ h => h) (.inl ⟨by first | (simp [Region.wanted]; done) | rfl, ?_⟩) HS0.out ?_
        rotate_left
        · intro w' hw
          obtain ⟨k0, k1⟩ := hw
          go_simp
          (try with_reducible rfl)
        (try simp only [List.getElem_toArray, List.getElem_cons_succ, List.getElem_cons_zero, Act.put, List.setIfInBounds_toArray, List.set_cons_zero, List.set_cons_succ])
        refine wpAnyH_cat (i := 1) rfl (by kernel_rfl) (by kernel_rfl) (by kernel_rfl) (fun _ _ _ _ h => h) rfl _ _ rfl acc [102, 117, 110, 99, 32] rfl rfl (by simp; omega) HS0.out ?_
        (try simp only [List.getElem_toArray, List.getElem_cons_succ, List.getElem_cons_zero, Act.put, List.setIfInBounds_toArray, List.set_cons_zero, List.set_cons_succ])
        refine wpAnyH_ready (rs := [4]) (by kernel_rfl) (by simp) ?_
        refine AllReadyH.cons rfl (fun K hK => ?_) AllReadyH.nil
        go_simp
        refine (Dec_any f.params HPR.out.1 _).mono ?_
        rintro e wd1 ⟨rfl, hb⟩
        replace HP := Lib.hid (HP.out.call0 hb)
        clear hb
        dsimp only
        refine hK.out _ _ ⟨HP.out.cell (.head _) 0 _ rfl, HP.out.cell (.head _) 1 _ rfl⟩ (fun hHeld => ?_)
        replace HS0 := Lib.hid hHeld
        clear hK K hHeld
        (try simp only [List.getElem_toArray, List.getElem_cons_succ, List.getElem_cons_zero, Act.put, List.setIfInBounds_toArray, List.set_cons_zero, List.set_cons_succ])
        refine wpAnyH_cat (i := 5) rfl (by kernel_rfl) (by kernel_rfl) (by kernel_rfl) (fun _ _ _ _ h => h) rfl _ _ rfl _ _ rfl rfl (by simp; omega) HS0.out ?_
        (try simp only [List.getElem_toArray, List.getElem_cons_succ, List.getElem_cons_zero, Act.put, List.setIfInBounds_toArray, List.set_cons_zero, List.set_cons_succ])
        refine wpAnyH_cat (i := 6) rfl (by kernel_rfl) (by kernel_rfl) (by kernel_rfl) (fun _ _ _ _ h => h) rfl _ _ rfl _ _ rfl rfl (by simp; omega) HS0.out ?_
        (try simp only [List.getElem_toArray, List.getElem_cons_succ, List.getElem_cons_zero, Act.put, List.setIfInBounds_toArray, List.set_cons_zero, List.set_cons_succ])
        refine wpAnyH_ready (rs := [9]) (by kernel_rfl) (by simp) ?_
        refine AllReadyH.cons rfl (fun K hK => ?_) AllReadyH.nil
        go_simp
        refine (Dec_any f.regs HPR.out.2 _).mono ?_
        rintro e wd2 ⟨rfl, hb⟩
        replace HP := Lib.hid (HP.out.call0 hb)
        clear hb
        dsimp only
        refine hK.out _ _ ⟨HP.out.cell (.head _) 0 _ rfl, HP.out.cell (.head _) 1 _ rfl⟩ (fun hHeld => ?_)
        replace HS0 := Lib.hid hHeld
        clear hK K hHeld
        (try simp only [List.getElem_toArray, List.getElem_cons_succ, List.getElem_cons_zero, Act.put, List.setIfInBounds_toArray, List.set_cons_zero, List.set_cons_succ])
        refine wpAnyH_cat (i := 10) rfl (by kernel_rfl) (by kernel_rfl) (by kernel_rfl) (fun _ _ _ _ h => h) rfl _ _ rfl _ _ rfl rfl (by simp; omega) HS0.out ?_
        (try simp only [List.getElem_toArray, List.getElem_cons_succ, List.getElem_cons_zero, Act.put, List.setIfInBounds_toArray, List.set_cons_zero, List.set_cons_succ])
        refine wpAnyH_cat (i := 11) rfl (by kernel_rfl) (by kernel_rfl) (by kernel_rfl) (fun _ _ _ _ h => h) rfl _ _ rfl _ _ rfl rfl (by simp; omega) HS0.out ?_
        (try simp only [List.getElem_toArray, List.getElem_cons_succ, List.getElem_cons_zero, Act.put, List.setIfInBounds_toArray, List.set_cons_zero, List.set_cons_succ])
        refine wpAnyH_ready (rs := [12]) (by kernel_rfl) (by simp) ?_
        refine AllReadyH.cons rfl (fun K hK => ?_) AllReadyH.nil
        go_simp
        refine hK.out _ _ ⟨HP.out.cell (.head _) 0 _ rfl, HP.out.cell (.head _) 1 _ rfl⟩ (fun hHeld => ?_)
        replace HS0 := Lib.hid hHeld
        clear hK K hHeld
        (try simp only [List.getElem_toArray, List.getElem_cons_succ, List.getElem_cons_zero, Act.put, List.setIfInBounds_toArray, List.set_cons_zero, List.set_cons_succ])
        refine wpAnyH_done (by kernel_rfl) ?_ _
        (try simp only [List.getElem_toArray, List.getElem_cons_succ, List.getElem_cons_zero, Act.put, List.setIfInBounds_toArray, List.set_cons_zero, List.set_cons_succ])
        clear HS0
        have HHS := Lib.hid (show headS f = [102, 117, 110, 99, 32] ++ Lib.itoa f.params ++ [32] ++ Lib.itoa f.regs ++ [10] from rfl)
        obtain ⟨hs, hhs⟩ : ∃ hs, headS f = hs := ⟨_, rfl⟩
        rw [hhs] at HHS hhl
        have HHD := Lib.hid hhs
        clear hhs
        go_wp2
        go_loopw [5, 8] (fun sv jv wr => ∃ (j : Nat), j ≤ f.code.length ∧ jv = .int .i64 j ∧ sv = .string (bstr (acc ++ hs ++ (f.code.take j).flatMap lineS)) ∧ Hid (Hp w [⟨w, Lt w.heap.size⟩] [.blk g7 36 [.int .i64 f.params, .int .i64 f.regs, .slice A2 f.code.length c2], .blk g1 24 [.slice (some ad) p.funcs.length c]] wr)) (fun _ jv _ => f.code.length - (intOf jv).toNat)
        case atStart => exact ⟨0, by omega, rfl, by rw [HHS.out]; simp, HP⟩
        case round =>
          clear HP
          obtain ⟨j, hj9, rfl, rfl, HP⟩ := hrel
          obtain ⟨wi, rfl⟩ : ∃ wo : World, wo = wr := ⟨_, rfl⟩
          have hal2 : (acc ++ hs ++ (f.code.take j).flatMap lineS).length ≤ 21000 := by
            have h1 := lines_len (f.code.take j) (fun x hx => HFL.out x (List.mem_of_mem_take hx))
            rw [List.length_take] at h1
            rw [List.length_append, List.length_append]
            omega
          obtain ⟨ac2, hac2⟩ : ∃ ac2, acc ++ hs ++ (f.code.take j).flatMap lineS = ac2 := ⟨_, rfl⟩
          rw [hac2] at hal2 ⊢
          have HAC2 := Lib.hid hac2
          clear hac2
          by_cases hj : j < f.code.length
          · have hj2 : (j : Int) < (f.code.length : Int) := by omega
            obtain ⟨ai, rfl, hib, hia⟩ := HX2.out j hj
            obtain ⟨x, hx⟩ : ∃ x, f.code[j] = x := ⟨_, rfl⟩
            rw [hx] at hia
            have hxm : x ∈ f.code := hx ▸ List.getElem_mem hj
            have HIA := Lib.hid hia
            have HXJ := Lib.hid (show f.code[j]? = some x by rw [← hx, List.getElem?_eq_getElem hj])
            have HX64 := Lib.hid (HFL.out x hxm)
            have HXOP := Lib.hid (HOI.out x hxm).op
            have hll := lineB_len x HX64.out
            obtain ⟨ls, hls⟩ : ∃ ls, lineB x = ls := ⟨_, rfl⟩
            rw [hls] at hll
            have HLS := Lib.hid hls
            clear hia hx hxm hls
            go_wp2_with (first | (refine wpList_ld0 rfl 34 _ rfl HP.out rfl rfl Tryd.underlying34 rfl ?_) | (refine wpList_load_at rfl 48 _ rfl _ rfl _ _ (HP.out.at_ (F := ⟨w, Lt w.heap.size⟩) (by simp) HIA.out (by rw [block_of_add]; exact hib)) Tryd.underlying48 rfl (by kernel_rfl) ?_) | (go_at_call 18; refine (instrLine_any x _ HXOP.out (HX64.out 100) (HX64.out 97) (HX64.out 98) (HX64.out 105)).mono ?_; rintro e wln ⟨rfl, hb⟩; replace HP := Lib.hid (HP.out.call0 hb); clear hb; rw [HLS.out]) | (refine wpList_cat rfl _ _ rfl ac2 ls rfl rfl (by omega) ?_) | (refine wpList_cat rfl _ _ rfl (ac2 ++ ls) [10] rfl rfl (by simp; omega) ?_))
            go_roundw
            case rel => exact ⟨j + 1, by omega, by go_num, by
              rw [List.take_add_one, HXJ.out, List.flatMap_append, show ∀ Y : List UInt8, acc ++ hs ++ (List.flatMap lineS (List.take j f.code) ++ Y) = ac2 ++ Y from fun Y => by rw [← List.append_assoc, HAC2.out]]
              simp only [Option.toList_some, List.flatMap_cons, List.flatMap_nil, List.append_nil]
              unfold lineS
              rw [HLS.out], HP⟩
            case measure => simp [intOf]; omega
          · obtain rfl : j = f.code.length := by omega
            have HF1 := Lib.hid (show (p.funcs.take (k + 1)).flatMap funS = ac2 by
              rw [List.take_add_one, HFK.out, List.flatMap_append, HACC.out]
              simp only [Option.toList_some, List.flatMap_cons, List.flatMap_nil, List.append_nil]
              unfold funS
              rw [← HAC2.out, List.take_length, HHD.out, List.append_assoc])
            go_wp2_with (first | (refine wpList_ld0 rfl 34 _ rfl HP.out rfl rfl Tryd.underlying34 rfl ?_))
            go_roundw
            case rel => exact ⟨k + 1, by omega, by go_num, by rw [HF1.out], Lib.hid (Hp.drop (A := []) HP.out)⟩
            case measure => simp [intOf]; omega
      · obtain rfl : k = p.funcs.length := by omega
        have HEND := Lib.hid (show showAns p = (acc, 0) by rw [HA.out]; unfold showS; rw [← HACC.out, List.take_length])
        go_wp2_with (first | (refine wpList_ld0 rfl 22 _ rfl HP.out rfl rfl Tryd.underlying22 rfl ?_))
        (try simp only [Exit.inBlock, Exit.then])
        refine bodyPost_ret (results_tmp2 (by rfl) _ _ _) (by rfl) ?_
        exact ⟨by rw [HEND.out]; rfl, HP.out.below⟩
  · have HA := Lib.hid (show_bad hz)
    obtain ⟨e0, he0⟩ : ∃ e0, prgFault p = e0 := ⟨_, rfl⟩
    rw [he0] at HA hz
    have HZ := Lib.hid he0
    have hzb : (e0 != 0) = true := by simpa using hz
    clear hz he0
    go_enter Tryd.func7, Tryd.ntmps7
    go_wp2_with (first | (refine wpList_box_hp (o := ⟨some 1, _, _, _, _, _⟩) rfl _ _ rfl HP.out [_] rfl ?_; clear HP; intro g1 w1 HP; replace HP := Lib.hid HP) | (refine wpList_ldR0 rfl 24 _ rfl HP.out rfl Tryd.underlying24 rfl (by kernel_rfl) ?_) | (go_at_call 16; refine (progFault_any p _ _ (HP.out.rep (F := ⟨w, Lt w.heap.size⟩) (by simp) HR.out)).mono ?_; rintro e wck ⟨rfl, hb⟩; replace HP := Lib.hid (HP.out.call0 hb); clear hb; rw [HZ.out]))
    (try simp only [Exit.inBlock, Exit.then])
    refine bodyPost_ret (results_tmp2 (by rfl) _ _ _) (by rfl) ?_
    exact ⟨by rw [HA.out]; rfl, HP.out.below⟩
end Go.Proofs.YtpnapnmkjpolmaaDoor
