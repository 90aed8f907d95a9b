/- ref.ProgramBytes. -/
import Derived.Test.YtpgakmopkgbahaaDoorEnc
set_option linter.unusedSimpArgs false
set_option linter.unusedVariables false
namespace Go.Proofs.YtpgakmopkgbahaaDoor
open Go.RowKit Plain64
attribute [local irreducible] wpList Code.wp Oper.wp
theorem enc_cell {w : World} {S : Nat → Prop} {bs : List Int} {ad : Addr} (h : ∀ (k : Nat) (x : Int), bs[k]? = some x → ∃ a, some ad = some a ∧ S a.block ∧ w.cell? (a.add k) = some (.int .u8 x)) {j : Nat} {u : Value} (hu : (bs.map (Value.int .u8))[j]? = some u) : w.cell? (ad.add j) = some u := by
  rw [List.getElem?_map] at hu
  cases hb : bs[j]? with
  | none => rw [hb] at hu; cases hu
  | some x =>
    rw [hb] at hu
    cases hu
    obtain ⟨a, e, _, h2⟩ := h j x hb
    cases e
    exact h2
set_option maxRecDepth 10000 in
set_option maxHeartbeats 2000000 in
theorem ProgramBytes_any (p : Prg) (u : Value) (w : World) (hp : Lay.rep w (Lt w.heap.size) p [u]) (hok : Lay.ok p) :
    Calls Tryd.prog 22 #[.agg #[u]] w fun e w' => ∃ v, e = .returned (.tuple #[v, .int .i64 (progBytes p).2]) ∧ RepB w' (fun b => w.heap.size ≤ b ∧ b < w'.heap.size) (progBytes p).1 v ∧ Below w.heap.size w w' := by
  obtain ⟨A, c, rfl, hc, hm, hx⟩ := rep_prg_at hp
  unfold maxLen at hm
  have HX := Lib.hid hx
  have HR := Lib.hid hp
  have HLOK := Lib.hid hok
  clear hx hp hok
  obtain ⟨i_byte, hi_byte, hz_byte, hs_byte, hy_byte⟩ := info_parts info_byte
  have HP := Lib.hid (Hp.start w)
  by_cases hz : prgFault p = 0
  · have ok := okP_of hz
    have HOK := Lib.hid ok
    obtain ⟨n1, n2⟩ := ok.len
    clear ok
    have HANS := Lib.hid (show progBytes p = (encP p, 0) by unfold progBytes; rw [if_neg (by simpa using hz)])
    have HZ := Lib.hid hz
    clear hz
    go_enter Tryd.func22, Tryd.ntmps22
    go_wp2_with (first | (refine wpList_box_hp (o := ⟨some 1, _, _, _, _, _⟩) rfl _ _ rfl HP.out [_] rfl ?_; clear HP; intro g1 w1 HP; replace HP := Lib.hid HP) | (refine wpList_ldR0 rfl 29 _ rfl HP.out rfl Tryd.underlying29 rfl (by kernel_rfl) ?_) | (refine wpList_ld0 rfl 27 _ rfl HP.out rfl rfl Tryd.underlying27 rfl ?_) | (refine wpList_ld1 rfl 27 _ rfl HP.out rfl rfl Tryd.underlying27 rfl ?_) | (refine wpList_u8s_hp rfl 36 5 1 _ rfl HP.out Tryd.underlying36 [_] rfl (by kernel_rfl) ?_; clear HP; intro gi wi HP; replace HP := Lib.hid (HP.rowOf (A := []) (n := 1) (sz := 1) rfl (by unfold maxLen; decide))) | (go_at_call 17; refine (progFault_any p _ _ (HP.out.rep (F := ⟨w, Lt w.heap.size⟩) (by simp) HR.out)).mono ?_; rintro e w4 ⟨rfl, hb⟩; replace HP := Lib.hid (HP.out.call0 hb); clear hb; rw [HZ.out]))
    rw [List.nil_append] at HP
    go_loopw [5, 6] (fun v i wr => Hid (∃ (k : Nat) (A' : Option Addr) (c' : Nat) (bs : List Int), k ≤ p.funcs.length ∧ v = .slice A' bs.length c' ∧ i = .int .i64 k ∧ Hid (bs = [(p.funcs.length : Int) % 256] ++ (p.funcs.take k).flatMap encF) ∧ bs.length ≤ 1 + 483 * k ∧ Hid (Hp w [{ w := w, S := Lt w.heap.size }] [Res.row (.slice A' bs.length c') 5 1 bs.length (bs.map (Value.int .u8)), Res.blk g1 29 [Value.slice A p.funcs.length c]] wr))) (fun _ i _ => p.funcs.length - (intOf i).toNat)
    case atStart => exact Lib.hid ⟨0, _, 1, [(p.funcs.length : Int) % 256], by omega, rfl, rfl, Lib.hid (by simp), by simp, by
      have e : (p.funcs.length : Int) % 256 = (p.funcs.length : Int) := by omega
      rw [e]; exact HP⟩
    case round =>
      clear HP
      obtain ⟨k, A', c', bs, hk, rfl, rfl, HBS, hbl, HP⟩ := hrel.out
      clear hrel
      obtain ⟨wo, rfl⟩ : ∃ wo : World, wo = wr := ⟨_, rfl⟩
      by_cases hlt : k < p.funcs.length
      · have hlt2 : (k : Int) < (p.funcs.length : Int) := by omega
        obtain ⟨ad, v, rfl, hab, hat, hcode⟩ := HX.out k hlt
        obtain ⟨f, hf⟩ : ∃ f, p.funcs[k] = f := ⟨_, rfl⟩
        rw [hf] at hat hcode
        have HF := Lib.hid (show p.funcs[k]? = some f by rw [← hf, List.getElem?_eq_getElem hlt])
        have HOF := Lib.hid (HOK.out.fns f (hf ▸ List.getElem_mem hlt))
        clear hf
        obtain ⟨A2, c2, rfl, hc2, hm2, hx2⟩ := rep_code hcode
        unfold maxLen at hm2
        have HX2 := Lib.hid hx2
        have HAT := Lib.hid hat
        clear hat hx2 hcode
        go_wp2_with (first | (refine wpList_load_at rfl 74 _ rfl _ rfl _ _ (HP.out.at_ (F := ⟨w, Lt w.heap.size⟩) (by simp) HAT.out (by rw [block_of_add]; exact hab)) Tryd.underlying74 rfl (by kernel_rfl) ?_) | (refine wpList_ld0 rfl 27 _ rfl HP.out rfl rfl Tryd.underlying27 rfl ?_) | (refine wpList_ld1 rfl 27 _ rfl HP.out rfl rfl Tryd.underlying27 rfl ?_) | (refine wpList_ld2 rfl 27 _ rfl HP.out rfl rfl Tryd.underlying27 rfl ?_) | (refine wpList_alloc_hp (o := ⟨some 7, _, _, _, _, _⟩) rfl _ rfl HP.out (.agg #[.int .i64 0, .int .i64 0, .slice none 0 0]) (by kernel_rfl) [_, _, _] rfl ?_; clear HP; intro g7 w7 HP; replace HP := Lib.hid HP) | (refine wpList_alloc_hp (o := ⟨some 8, _, _, _, _, _⟩) rfl _ rfl HP.out (.agg #[.int .i64 0, .int .i64 0, .slice none 0 0]) (by kernel_rfl) [_, _, _] rfl ?_; clear HP; intro g8 w8 HP; replace HP := Lib.hid HP) | (refine wpList_stR0 rfl 74 _ _ rfl HP.out rfl (cs' := [_, _, _]) rfl rfl (by simp [Value.oneCell']) (by kernel_rfl) ?_; clear HP; intro wst HP; replace HP := Lib.hid HP) | (refine wpList_ld0 rfl 3 _ rfl HP.out rfl rfl Tryd.underlying3 rfl ?_) | (refine wpList_ld1 rfl 3 _ rfl HP.out rfl rfl Tryd.underlying3 rfl ?_) | (refine wpList_ld2 rfl 3 _ rfl HP.out rfl rfl Tryd.underlying3 rfl ?_) | (refine wpList_ld0 rfl 72 _ rfl HP.out rfl rfl Tryd.underlying72 rfl ?_) | (refine wpList_ld1 rfl 72 _ rfl HP.out rfl rfl Tryd.underlying72 rfl ?_) | (refine wpList_ld2 rfl 72 _ rfl HP.out rfl rfl Tryd.underlying72 rfl ?_) | (refine wpList_u8s_hp rfl 36 5 3 _ rfl HP.out Tryd.underlying36 [_, _, _] rfl (by kernel_rfl) ?_; clear HP; intro gi wi HP; replace HP := Lib.hid HP) | (at_builtin; refine wpList_app1 rfl _ _ 36 rfl i_byte (.int .u8 0) Tryd.underlying36 hi_byte hz_byte hs_byte rfl (by decide) hy_byte (bs.length + 3) rfl HP.out rfl rfl rfl (by simp [Value.oneCell']) (by unfold maxLen; omega) (by omega) ?_; clear HP; intro A' c' wap HP; replace HP := Lib.hid HP))
        (try simp only [Act.put, List.setIfInBounds_toArray, List.set_cons_zero, List.set_cons_succ])
        obtain ⟨bs1, hbs1⟩ : ∃ bs1 : List Int, bs ++ [f.params % 256, f.regs % 256, (f.code.length : Int) % 256] = bs1 := ⟨_, rfl⟩
        have hl1 : bs.length + 3 = bs1.length := by rw [← hbs1]; simp
        rw [← List.map_append, hbs1, hl1] at HP
        rw [hl1]
        have HBS1 := Lib.hid hbs1
        have hbl1 : bs1.length ≤ 4 + 483 * k := by omega
        have hl2 := HOF.out.len.2
        clear hbs1 hl1 hbl
        go_hide hQ
        go_loopw [5, 8] (fun v i wr => Hid (∃ (j : Nat) (A' : Option Addr) (c' : Nat) (bs2 : List Int), j ≤ f.code.length ∧ v = .slice A' bs2.length c' ∧ i = .int .i64 j ∧ Hid (bs2 = bs1 ++ (f.code.take j).flatMap encI) ∧ bs2.length ≤ 4 + 483 * k + 12 * j ∧ Hid (Hp w [{ w := w, S := Lt w.heap.size }] [Res.blk g7 74 [Value.int IntKind.i64 f.params, Value.int IntKind.i64 f.regs, Value.slice A2 f.code.length c2], Res.row (.slice A' bs2.length c') 5 1 bs2.length (bs2.map (Value.int .u8)), Res.blk g1 29 [Value.slice (some ad) p.funcs.length c]] wr))) (fun _ i _ => f.code.length - (intOf i).toNat)
        case atStart => exact Lib.hid ⟨0, _, _, bs1, by omega, rfl, rfl, Lib.hid (by simp), by omega, HP⟩
        case round =>
          clear HP
          obtain ⟨j, A5, c5, bs2, hj, rfl, rfl, HB2, hb2, HP⟩ := hrel.out
          clear hrel
          obtain ⟨wk, rfl⟩ : ∃ wk : World, wk = wr := ⟨_, rfl⟩
          by_cases hjl : j < f.code.length
          · have hjl2 : (j : Int) < (f.code.length : Int) := by omega
            obtain ⟨a4, rfl, hab4, hat4⟩ := HX2.out j hjl
            obtain ⟨x, hx⟩ : ∃ x, f.code[j] = x := ⟨_, rfl⟩
            rw [hx] at hat4
            have HXJ := Lib.hid (show f.code[j]? = some x by rw [← hx, List.getElem?_eq_getElem hjl])
            have HAT4 := Lib.hid hat4
            clear hx hat4
            have HI := Lib.hid (show I64 x.imm from (ok_ins.1 ((ok_list.1 (ok_fun.1 ((ok_list.1 (ok_prg.1 HLOK.out)).2 f (List.mem_of_getElem? HF.out))).2.2).2 x (List.mem_of_getElem? HXJ.out))).2.2.2.2)
            go_wp2_with (first | (at_builtin; (refine wpList_append_src (A := [_, _]) rfl _ _ 36 rfl i_byte (.int .u8 0) Tryd.underlying36 hi_byte hz_byte hs_byte rfl (by decide) hy_byte (n := bs2.length + 4) (m := 8) (bs2.length + 12) rfl HP.out rfl rfl (news := (eightL x.imm).map (Value.int .u8)) rfl (by simp [eightL, Value.oneCell']) (fun q u hu => (HP.out.alike (F := ⟨w8, _⟩) (.head _) _ (by rw [block_of_add]; exact HAB8.out)).trans (enc_cell (S := fun b => wap.heap.size ≤ b ∧ b < w8.heap.size) HX8.out hu)) (by unfold maxLen; omega) (by omega) ?_); clear HP; intro A9 c9 wap9 HP; replace HP := Lib.hid HP) | (refine wpList_load_at rfl 76 _ rfl _ rfl _ _ (HP.out.at_ (F := ⟨w, Lt w.heap.size⟩) (by simp) HAT4.out (by rw [block_of_add]; exact hab4)) Tryd.underlying76 rfl (by kernel_rfl) ?_) | (refine wpList_alloc_hp (o := ⟨some 9, _, _, _, _, _⟩) rfl _ rfl HP.out (.agg #[.int .i64 0, .int .i64 0, .int .i64 0, .int .i64 0, .int .i64 0]) (by kernel_rfl) [_, _, _, _, _] rfl ?_; clear HP; intro g9 w9 HP; replace HP := Lib.hid HP) | (refine wpList_alloc_hp (o := ⟨some 10, _, _, _, _, _⟩) rfl _ rfl HP.out (.agg #[.int .i64 0, .int .i64 0, .int .i64 0, .int .i64 0, .int .i64 0]) (by kernel_rfl) [_, _, _, _, _] rfl ?_; clear HP; intro g10 w10 HP; replace HP := Lib.hid HP) | (refine wpList_stR0 rfl 76 _ _ rfl HP.out rfl (cs' := [_, _, _, _, _]) rfl rfl (by simp [Value.oneCell']) (by kernel_rfl) ?_; clear HP; intro wst HP; replace HP := Lib.hid HP) | (refine wpList_ld0 rfl 3 _ rfl HP.out rfl rfl Tryd.underlying3 rfl ?_) | (refine wpList_ld1 rfl 3 _ rfl HP.out rfl rfl Tryd.underlying3 rfl ?_) | (refine wpList_ld2 rfl 3 _ rfl HP.out rfl rfl Tryd.underlying3 rfl ?_) | (refine wpList_ld0 rfl 72 _ rfl HP.out rfl rfl Tryd.underlying72 rfl ?_) | (refine wpList_ld1 rfl 72 _ rfl HP.out rfl rfl Tryd.underlying72 rfl ?_) | (refine wpList_ld2 rfl 72 _ rfl HP.out rfl rfl Tryd.underlying72 rfl ?_) | (refine wpList_u8s_hp rfl 36 5 4 _ rfl HP.out Tryd.underlying36 [_, _, _, _] rfl (by kernel_rfl) ?_; clear HP; intro gi wi HP; replace HP := Lib.hid HP) | (at_builtin; refine wpList_app2 rfl _ _ 36 rfl i_byte (.int .u8 0) Tryd.underlying36 hi_byte hz_byte hs_byte rfl (by decide) hy_byte (bs2.length + 4) rfl HP.out rfl rfl rfl (by simp [Value.oneCell']) (by unfold maxLen; omega) (by omega) ?_; clear HP; intro A' c' wap HP; replace HP := Lib.hid HP) | (go_at_call 51; refine (eightBytes_any x.imm _ HI.out).mono ?_; rintro e w8 ⟨v8, rfl, h8, hb8⟩; replace HP := Lib.hid (HP.out.call hb8); obtain ⟨A8, c8, rfl, -, -, hx8⟩ := h8; obtain ⟨a8, rfl, hab8, -⟩ := hx8 0 _ rfl; have HX8 := Lib.hid hx8; have HAB8 := Lib.hid hab8; clear hb8 hx8 hab8))
            go_roundw
            case rel =>
              refine Lib.hid ⟨j + 1, A9, c9, bs2 ++ encI x, by omega, by rw [List.length_append, encI_len], by go_num, Lib.hid ?_, by rw [List.length_append, encI_len]; omega, Lib.hid ?_⟩
              · rw [HB2.out, List.take_add_one, HXJ.out, List.flatMap_append]
                simp
              · rw [List.length_append, encI_len, List.map_append]
                have := (Hp.drop (A := []) HP.out).froDrop
                unfold encI
                rw [List.map_append, ← List.append_assoc]
                exact this
            case measure => simp [intOf]; omega
          · obtain rfl : j = f.code.length := by omega
            go_wp2_with (first | (refine wpList_ld0 rfl 72 _ rfl HP.out rfl rfl Tryd.underlying72 rfl ?_) | (refine wpList_ld1 rfl 72 _ rfl HP.out rfl rfl Tryd.underlying72 rfl ?_) | (refine wpList_ld2 rfl 72 _ rfl HP.out rfl rfl Tryd.underlying72 rfl ?_))
            subst hQ
            go_wp2_with fail
            go_roundw
            case rel =>
              refine Lib.hid ⟨k + 1, A5, c5, bs2, by omega, rfl, by go_num, Lib.hid ?_, by omega, Lib.hid (Hp.drop (A := []) HP.out)⟩
              rw [HB2.out, List.take_of_length_le (Nat.le_refl _), ← HBS1.out, HBS.out, List.take_add_one, HF.out, List.flatMap_append]
              simp [encF]
            case measure => simp [intOf]; omega
      · obtain rfl : k = p.funcs.length := by omega
        go_wp2_with (first | (refine wpList_ld0 rfl 27 _ rfl HP.out rfl rfl Tryd.underlying27 rfl ?_) | (refine wpList_ld1 rfl 27 _ rfl HP.out rfl rfl Tryd.underlying27 rfl ?_) | (refine wpList_ld2 rfl 27 _ rfl HP.out rfl rfl Tryd.underlying27 rfl ?_))
        go_ret2
        refine ⟨_, by rw [HANS.out]; rfl, ?_, HP.out.below⟩
        rw [HANS.out]
        exact HP.out.rowB (.head _) (by rw [HBS.out, List.take_of_length_le (Nat.le_refl _)]; rfl)
  · have HANS := Lib.hid (show progBytes p = ([], prgFault p) by unfold progBytes; rw [if_pos hz])
    obtain ⟨e0, he0⟩ : ∃ e0, prgFault p = e0 := ⟨_, rfl⟩
    rw [he0] at hz HANS
    have HE0 := Lib.hid he0
    have hzb : (e0 != 0) = true := by simpa using hz
    clear he0 hz
    go_enter Tryd.func22, Tryd.ntmps22
    go_wp2_with (first | (refine wpList_box_hp (o := ⟨some 1, _, _, _, _, _⟩) rfl _ _ rfl HP.out [_] rfl ?_; clear HP; intro g1 w1 HP; replace HP := Lib.hid HP) | (refine wpList_ldR0 rfl 29 _ rfl HP.out rfl Tryd.underlying29 rfl (by kernel_rfl) ?_) | (go_at_call 17; refine (progFault_any p _ _ (HP.out.rep (F := ⟨w, Lt w.heap.size⟩) (by simp) HR.out)).mono ?_; rintro e w4 ⟨rfl, hb⟩; replace HP := Lib.hid (HP.out.call0 hb); clear hb; rw [HE0.out]))
    go_ret2
    exact ⟨_, by rw [HANS.out]; rfl, by rw [HANS.out]; exact RepB.nil, HP.out.below⟩
end Go.Proofs.YtpgakmopkgbahaaDoor
