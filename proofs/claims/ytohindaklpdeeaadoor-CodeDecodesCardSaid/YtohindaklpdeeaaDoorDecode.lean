/- code.Decode. -/
import Derived.Test.YtohindaklpdeeaaDoorDecDoor
import Derived.Test.YtohindaklpdeeaaDoorCodeChecks
set_option linter.unusedSimpArgs false
set_option linter.unusedVariables false
namespace Go.Proofs.YtohindaklpdeeaaDoor
open Go.RowKit Plain64
attribute [local irreducible] wpList Code.wp Oper.wp
section
variable {w0 w : World} {Fs : List Fro} {A B : List Res} {g : Nat} {V : Value}
theorem take_hp {F : Fro} {b : Int} {rest : List Int} (HP : Hp w0 Fs (A ++ .blk g 40 [V] :: B) w) (hF : F ∈ Fs) (hV : RepB F.w F.S (b :: rest) V) (hb : 0 ≤ b ∧ b < 256) :
    Calls Tryd.prog 13 #[.pointer (some ⟨g, 0, none⟩)] w fun e w' => e = .returned (.int .i64 b) ∧ ∃ V', Hp w0 Fs (A ++ .blk g 40 [V'] :: B) w' ∧ RepB F.w F.S rest V' := by
  refine (take_cons g V b rest w F.w F.S (HP.cell (t := 40) (cs := [V]) (by simp) 0 _ rfl) (HP.free (t := 40) (cs := [V]) (by simp) 0) hV (HP.alike hF) hb.1 hb.2).mono ?_
  rintro e w' ⟨rfl, V', rfl, hv⟩
  exact ⟨rfl, V', HP.set 0 V', hv⟩
theorem take_no {w1 : World} {S : Nat → Prop} (HP : Hp w0 Fs (A ++ .blk g 40 [V] :: B) w) (hV : RepB w1 S [] V) :
    Calls Tryd.prog 13 #[.pointer (some ⟨g, 0, none⟩)] w fun e w' => e = .panicked [{ v := .iface 27 (.int .i64 4), recovered := false }] ∧ w' = w :=
  take_nil g V w w1 S (HP.cell (t := 40) (cs := [V]) (by simp) 0 _ rfl) hV
end
theorem enough_no {r : List Int} (h : r.length < 3 + 12 * cntD r) : enough r = false := by unfold enough; exact decide_eq_false (by omega)
theorem enough_yes {r : List Int} (h : 3 + 12 * cntD r ≤ r.length) : enough r = true := by unfold enough; exact decide_eq_true h
theorem dec_cut {b : Nat} {rest : List Int} {k : Nat} {r : List Int} (hl : ((b : Int) :: rest).length ≤ 4000) (hk : k < b) (hr : restD rest k = some r) (he : enough r = false) : decAns ((b : Int) :: rest) = (⟨[]⟩, 4) := by
  have h1 : restD rest (k + 1) = none := by rw [restD_step hr, he]; rfl
  refine dec_short hl ?_
  rw [Int.toNat_natCast, show b = (k + 1) + (b - (k + 1)) by omega]
  exact restD_none h1 _
set_option maxRecDepth 100000 in
set_option maxHeartbeats 8000000 in
theorem Decode_any (l : List Int) (u : Value) (w : World) (hl : RepB w (Lt w.heap.size) l u) (hb : ∀ x ∈ l, 0 ≤ x ∧ x < 256) (hh : Has w) :
    Calls Tryd.prog 6 #[u] w fun e w' => DecR w (decAns l).1 (decAns l).2 e w' := by
  have hmf : ∀ (fn : Fn) (first cap : Array Value) (w : World), (Instr.makeFunc fn first cap).run Tryd.prog w = .ok (.func fn first cap) w := fun _ _ _ _ => rfl
  obtain ⟨A, c, rfl, hn, hcm, hx⟩ := id hl
  unfold maxLen at hcm
  have HB := Lib.hid hb
  have HH := Lib.hid hh
  have HV := Lib.hid hl
  clear hb hh hx hl
  have HP := Lib.hid (Hp.start w)
  obtain ⟨i_Ins, hi_Ins, hz_Ins, hs_Ins, hy_Ins⟩ := info_parts info_ins
  obtain ⟨i_Fun, hi_Fun, hz_Fun, hs_Fun, hy_Fun⟩ := info_parts info_fun
  by_cases hbig : 4000 < l.length
  · have HA := Lib.hid (dec_big hbig)
    have hbg : (4000 : Int) < (l.length : Int) := by omega
    rw [HA.out]
    clear HA HB HV
    go_enter_defers Tryd.func6, Tryd.ntmps6
    go_wp2_with (first | (refine wpList_alloc_hp (o := ⟨some 2, _, _, _, _, _⟩) rfl _ rfl HP.out (.agg #[.slice none 0 0]) (by kernel_rfl) [_] rfl ?_; clear HP; intro g2 w2 HP; replace HP := Lib.hid HP) | (refine wpList_alloc_hp (o := ⟨some 3, _, _, _, _, _⟩) rfl _ rfl HP.out (.int .i64 0) (by kernel_rfl) [_] rfl ?_; clear HP; intro g3 w3 HP; replace HP := Lib.hid HP) | (refine wpList_stR0 rfl 26 _ _ rfl HP.out rfl (cs' := [_]) rfl rfl (by simp [Value.oneCell']) (by kernel_rfl) ?_; clear HP; intro wst HP; replace HP := Lib.hid HP) | (refine wpList_stR1 rfl 26 _ _ rfl HP.out rfl (cs' := [_]) rfl rfl (by simp [Value.oneCell']) (by kernel_rfl) ?_; clear HP; intro wst HP; replace HP := Lib.hid HP) | (refine wpList_st0 rfl 27 _ _ rfl HP.out rfl rfl (by simp) rfl rfl (by kernel_rfl) ?_; clear HP; intro wst HP; replace HP := Lib.hid HP) | (refine wpList_st1 rfl 27 _ _ rfl HP.out rfl rfl (by simp) rfl rfl (by kernel_rfl) ?_; clear HP; intro wst HP; replace HP := Lib.hid HP))
    exact dec_early rfl rfl (V := .slice none 0 0) (n := 1) (L := []) (HP.out.perm (.swap _ _ _)) ⟨none, 0, rfl, Nat.le_refl _, by unfold maxLen; omega, fun k x h => by simp at h⟩
  · have hbg : ¬ (4000 : Int) < (l.length : Int) := by omega
    cases l with
    | nil =>
      have HA := Lib.hid dec_nil
      rw [HA.out]
      go_enter_defers Tryd.func6, Tryd.ntmps6
      go_wp2_with (first | (refine wpList_alloc_hp (o := ⟨some 2, _, _, _, _, _⟩) rfl _ rfl HP.out (.agg #[.slice none 0 0]) (by kernel_rfl) [_] rfl ?_; clear HP; intro g2 w2 HP; replace HP := Lib.hid HP) | (refine wpList_alloc_hp (o := ⟨some 3, _, _, _, _, _⟩) rfl _ rfl HP.out (.int .i64 0) (by kernel_rfl) [_] rfl ?_; clear HP; intro g3 w3 HP; replace HP := Lib.hid HP) | (refine wpList_box_hp (o := ⟨some 15, _, _, _, _, _⟩) rfl _ _ rfl HP.out [_] rfl ?_; clear HP; intro g15 w15 HP; replace HP := Lib.hid HP) | (go_at_call 13; refine (take_no (A := []) HP.out HV.out).mono ?_; rintro e wtk ⟨rfl, rfl⟩))
      (try simp only [Exit.inBlock, Exit.then])
      exact dec_panic rfl rfl (L := [_]) (HP.out.perm ((List.perm_append_comm (l₁ := [_, _]) (l₂ := [_])).trans (.cons _ (.swap _ _ _))))
    | cons b rest =>
      obtain ⟨hb0, hb1⟩ := HB.out b (by simp)
      obtain ⟨N, rfl⟩ := Int.eq_ofNat_of_zero_le hb0
      have HLL := Lib.hid (show ((N : Int) :: rest).length ≤ 4000 by omega)
      have hrl : rest.length ≤ 4000 := by have := HLL.out; simp at this; omega
      have HBR := Lib.hid (show ∀ x ∈ rest, 0 ≤ x ∧ x < 256 from fun x hx => HB.out x (by simp [hx]))
      have HBN := Lib.hid (And.intro hb0 hb1)
      have HCUT := Lib.hid (fun (k : Nat) (r : List Int) (hk : k < N) (hr : restD rest k = some r) (he : enough r = false) => dec_cut HLL.out hk hr he)
      clear hb0 hb1 HB hbig
      go_enter_defers Tryd.func6, Tryd.ntmps6
      go_upto_region 6 with (first | (refine wpList_alloc_hp (o := ⟨some 2, _, _, _, _, _⟩) rfl _ rfl HP.out (.agg #[.slice none 0 0]) (by kernel_rfl) [_] rfl ?_; clear HP; intro g2 w2 HP; replace HP := Lib.hid HP) | (refine wpList_alloc_hp (o := ⟨some 3, _, _, _, _, _⟩) rfl _ rfl HP.out (.int .i64 0) (by kernel_rfl) [_] rfl ?_; clear HP; intro g3 w3 HP; replace HP := Lib.hid HP) | (refine wpList_box_hp (o := ⟨some 15, _, _, _, _, _⟩) rfl _ _ rfl HP.out [_] rfl ?_; clear HP; intro g15 w15 HP; replace HP := Lib.hid HP) | (go_at_call 13; refine (take_hp (A := []) (F := ⟨w, Lt w.heap.size⟩) HP.out (by simp) (b := (N : Int)) (rest := rest) HV.out HBN.out).mono ?_; rintro e wtk ⟨rfl, V', hp9, hv9⟩; (try simp only [List.cons_append, List.nil_append] at hp9); replace HP := Lib.hid hp9; replace HV := Lib.hid hv9; clear hp9 hv9))
      have hN256 : N < 256 := by have := HBN.out.2; omega
      clear HBN
      replace HP := Lib.hid ((HP.out.perm (.cons _ (.swap _ _ _))).nil 44 3)
      replace HP := Lib.hid (HP.out.perm (.swap _ _ _))
      obtain ⟨Gc0, hp9, hfi⟩ := HP.out.funsStart
      have HFI := Lib.hid hfi
      replace HP := Lib.hid hp9
      clear hp9 hfi
      have HR0 := Lib.hid (show restD rest 0 = some rest ∧ (∀ x ∈ rest, 0 ≤ x ∧ x < 256) ∧ rest.length ≤ 4000 from ⟨rfl, HBR.out, hrl⟩)
      go_wp2
      go_loopw [18] (fun i wr => ∃ (k : Nat) (r : List Int) (V fv : Value) (us : List Value) (Gc : Fro), k ≤ N ∧ i = .int .i64 k ∧ Hid (restD rest k = some r ∧ (∀ x ∈ r, 0 ≤ x ∧ x < 256) ∧ r.length ≤ 4000) ∧ Hid (RepB w (Lt w.heap.size) r V) ∧ Hid (FunsOwn w Gc (funsD rest k) us) ∧ Hid (Hp w [Gc, ⟨w, Lt w.heap.size⟩] [.blk g15 40 [V], .row fv 44 3 k (((funsD rest k).zip us).flatMap funEnc2), .blk g2 26 [fv], .blk g3 27 [.int .i64 0]] wr)) (fun i _ => N - (intOf i).toNat)
      case atStart => exact ⟨0, rest, _, _, [], Gc0, by omega, rfl, HR0, HV, HFI, HP⟩
      case round =>
        clear HP HV HFI HR0 HBR
        obtain ⟨k, r, V, fv, us, Gc, hk9, rfl, HR, HV, HFI, HP⟩ := hrel
        obtain ⟨wo, rfl⟩ : ∃ wo : World, wo = wr := ⟨_, rfl⟩
        by_cases hk : k < N
        · have hk2 : (k : Int) < (N : Int) := by omega
          have HC := Lib.hid (fun he => HCUT.out k r hk HR.out.1 he)
          rcases r with _ | ⟨x0, _ | ⟨x1, _ | ⟨x2, r3⟩⟩⟩
          · have HSH := Lib.hid (HC.out (enough_no (by simp; omega)))
            clear HC HCUT
            go_wp2_with (first | (go_at_call 13; refine (take_no (A := []) HP.out HV.out).mono ?_; rintro e wtk ⟨rfl, rfl⟩))
            (try simp only [Exit.inBlock, Exit.then])
            rw [HSH.out]
            exact dec_panic rfl rfl (HP.out.perm (List.perm_append_comm (l₁ := [_, _]) (l₂ := [_, _])))
          · have HSH := Lib.hid (HC.out (enough_no (by simp; omega)))
            have HB0 := Lib.hid (HR.out.2.1 x0 (by simp))
            clear HC HCUT
            go_wp2_with (first | (go_at_call 13; refine (take_hp (A := []) (F := ⟨w, Lt w.heap.size⟩) HP.out (by simp) (b := x0) (rest := []) HV.out HB0.out).mono ?_; rintro e wtk ⟨rfl, V', hp9, hv9⟩; (try simp only [List.cons_append, List.nil_append] at hp9); replace HP := Lib.hid hp9; replace HV := Lib.hid hv9; clear hp9 hv9) | (go_at_call 13; refine (take_no (A := []) HP.out HV.out).mono ?_; rintro e wtk ⟨rfl, rfl⟩))
            (try simp only [Exit.inBlock, Exit.then])
            rw [HSH.out]
            exact dec_panic rfl rfl (HP.out.perm (List.perm_append_comm (l₁ := [_, _]) (l₂ := [_, _])))
          · have HSH := Lib.hid (HC.out (enough_no (by simp; omega)))
            have HB0 := Lib.hid (HR.out.2.1 x0 (by simp))
            have HB1 := Lib.hid (HR.out.2.1 x1 (by simp))
            clear HC HCUT
            go_wp2_with (first | (go_at_call 13; refine (take_hp (A := []) (F := ⟨w, Lt w.heap.size⟩) HP.out (by simp) (b := x0) (rest := [x1]) HV.out HB0.out).mono ?_; rintro e wtk ⟨rfl, V', hp9, hv9⟩; (try simp only [List.cons_append, List.nil_append] at hp9); replace HP := Lib.hid hp9; replace HV := Lib.hid hv9; clear hp9 hv9) | (go_at_call 13; refine (take_hp (A := []) (F := ⟨w, Lt w.heap.size⟩) HP.out (by simp) (b := x1) (rest := []) HV.out HB1.out).mono ?_; rintro e wtk ⟨rfl, V', hp9, hv9⟩; (try simp only [List.cons_append, List.nil_append] at hp9); replace HP := Lib.hid hp9; replace HV := Lib.hid hv9; clear hp9 hv9) | (refine wpList_alloc_hp (o := ⟨some 5, _, _, _, _, _⟩) rfl _ rfl HP.out (.agg #[.int .i64 0, .int .i64 0, .slice none 0 0]) (by kernel_rfl) [_, _, _] rfl ?_; clear HP; intro g5 w5 HP; replace HP := Lib.hid HP) | (refine wpList_stR0 rfl 44 _ _ rfl HP.out rfl (cs' := [_, _, _]) rfl rfl (by simp [Value.oneCell']) (by kernel_rfl) ?_; clear HP; intro wst HP; replace HP := Lib.hid HP) | (go_at_call 13; refine (take_no (A := [_]) HP.out HV.out).mono ?_; rintro e wtk ⟨rfl, rfl⟩))
            (try simp only [Exit.inBlock, Exit.then])
            rw [HSH.out]
            exact dec_panic rfl rfl (HP.out.perm (List.perm_append_comm (l₁ := [_, _, _]) (l₂ := [_, _])))
          · have HB0 := Lib.hid (HR.out.2.1 x0 (by simp))
            have HB1 := Lib.hid (HR.out.2.1 x1 (by simp))
            obtain ⟨hx0, hx1⟩ := HR.out.2.1 x2 (by simp)
            obtain ⟨n, rfl⟩ := Int.eq_ofNat_of_zero_le hx0
            have HB2 := Lib.hid (And.intro hx0 hx1)
            have HB3 := Lib.hid (show ∀ x ∈ r3, 0 ≤ x ∧ x < 256 from fun x hx => HR.out.2.1 x (by simp [hx]))
            have h3l : r3.length + 3 ≤ 4000 := by have := HR.out.2.2; simp at this; omega
            have HCE := Lib.hid (show cntD (x0 :: x1 :: (n : Int) :: r3) = n by unfold cntD; simp)
            go_upto_region 9 with (first | (go_at_call 13; refine (take_hp (A := []) (F := ⟨w, Lt w.heap.size⟩) HP.out (by simp) (b := x0) (rest := (x1 :: (n : Int) :: r3)) HV.out HB0.out).mono ?_; rintro e wtk ⟨rfl, V', hp9, hv9⟩; (try simp only [List.cons_append, List.nil_append] at hp9); replace HP := Lib.hid hp9; replace HV := Lib.hid hv9; clear hp9 hv9) | (go_at_call 13; refine (take_hp (A := []) (F := ⟨w, Lt w.heap.size⟩) HP.out (by simp) (b := x1) (rest := ((n : Int) :: r3)) HV.out HB1.out).mono ?_; rintro e wtk ⟨rfl, V', hp9, hv9⟩; (try simp only [List.cons_append, List.nil_append] at hp9); replace HP := Lib.hid hp9; replace HV := Lib.hid hv9; clear hp9 hv9) | (refine wpList_alloc_hp (o := ⟨some 5, _, _, _, _, _⟩) rfl _ rfl HP.out (.agg #[.int .i64 0, .int .i64 0, .slice none 0 0]) (by kernel_rfl) [_, _, _] rfl ?_; clear HP; intro g5 w5 HP; replace HP := Lib.hid HP) | (refine wpList_stR0 rfl 44 _ _ rfl HP.out rfl (cs' := [_, _, _]) rfl rfl (by simp [Value.oneCell']) (by kernel_rfl) ?_; clear HP; intro wst HP; replace HP := Lib.hid HP) | (go_at_call 13; refine (take_hp (A := [_]) (F := ⟨w, Lt w.heap.size⟩) HP.out (by simp) (b := (n : Int)) (rest := r3) HV.out HB2.out).mono ?_; rintro e wtk ⟨rfl, V', hp9, hv9⟩; (try simp only [List.cons_append, List.nil_append] at hp9); replace HP := Lib.hid hp9; replace HV := Lib.hid hv9; clear hp9 hv9))
            replace HP := Lib.hid (HP.out.nil 46 5)
            go_wp2
            go_loopw [27] (fun i wr => ∃ (j : Nat) (r : List Int) (V cv : Value), j ≤ n ∧ i = .int .i64 j ∧ Hid (r = r3.drop (12 * j) ∧ 12 * j ≤ r3.length) ∧ Hid (RepB w (Lt w.heap.size) r V) ∧ Hid (Hp w [Gc, ⟨w, Lt w.heap.size⟩] [.row cv 46 5 j ((codeD r3 j).flatMap insEnc2), .blk g5 44 [.int .i64 x0, .int .i64 x1, cv], .blk g15 40 [V], .row fv 44 3 k (((funsD rest k).zip us).flatMap funEnc2), .blk g2 26 [fv], .blk g3 27 [.int .i64 0]] wr)) (fun i _ => n - (intOf i).toNat)
            case atStart => exact ⟨0, r3, _, _, by omega, rfl, Lib.hid ⟨rfl, by omega⟩, HV, HP⟩
            case round =>
              clear HP HV
              obtain ⟨j, r, V, cv, hj9, rfl, HRD, HV, HP⟩ := hrel
              obtain ⟨wj, rfl⟩ : ∃ wo : World, wo = wr := ⟨_, rfl⟩
              by_cases hj : j < n
              · have hj2 : (j : Int) < (n : Int) := by omega
                have HC2 := Lib.hid (show r.length < 12 → decAns ((N : Int) :: rest) = (⟨[]⟩, 4) from fun h => HC.out (enough_no (by
                  rw [HCE.out]
                  obtain ⟨e, h2⟩ := HRD.out
                  rw [e, List.length_drop] at h
                  simp
                  omega)))
                have HBR := Lib.hid (show ∀ x ∈ r, 0 ≤ x ∧ x < 256 from fun x hx => HB3.out x (List.mem_of_mem_drop (by rw [HRD.out.1] at hx; exact hx)))
                rcases r with _ | ⟨y0, _ | ⟨y1, _ | ⟨y2, _ | ⟨y3, r8⟩⟩⟩⟩
                · have HSH := Lib.hid (HC2.out (by simp))
                  clear HC2 HC HCUT
                  go_wp2_with (first | (go_at_call 13; refine (take_no (A := [_, _]) HP.out HV.out).mono ?_; rintro e wtk ⟨rfl, rfl⟩))
                  (try simp only [Exit.inBlock, Exit.then])
                  rw [HSH.out]
                  exact dec_panic rfl rfl (HP.out.perm (List.perm_append_comm (l₁ := [_, _, _, _]) (l₂ := [_, _])))
                · have HSH := Lib.hid (HC2.out (by simp))
                  have HY0 := Lib.hid (HBR.out y0 (by simp))
                  clear HC2 HC HCUT
                  go_wp2_with (first | (go_at_call 13; refine (take_hp (A := [_, _]) (F := ⟨w, Lt w.heap.size⟩) HP.out (by simp) (b := y0) (rest := []) HV.out HY0.out).mono ?_; rintro e wtk ⟨rfl, V', hp9, hv9⟩; (try simp only [List.cons_append, List.nil_append] at hp9); replace HP := Lib.hid hp9; replace HV := Lib.hid hv9; clear hp9 hv9) | (go_at_call 13; refine (take_no (A := [_, _]) HP.out HV.out).mono ?_; rintro e wtk ⟨rfl, rfl⟩))
                  (try simp only [Exit.inBlock, Exit.then])
                  rw [HSH.out]
                  exact dec_panic rfl rfl (HP.out.perm (List.perm_append_comm (l₁ := [_, _, _, _]) (l₂ := [_, _])))
                · have HSH := Lib.hid (HC2.out (by simp))
                  have HY0 := Lib.hid (HBR.out y0 (by simp))
                  have HY1 := Lib.hid (HBR.out y1 (by simp))
                  clear HC2 HC HCUT
                  go_wp2_with (first | (go_at_call 13; refine (take_hp (A := [_, _]) (F := ⟨w, Lt w.heap.size⟩) HP.out (by simp) (b := y0) (rest := [y1]) HV.out HY0.out).mono ?_; rintro e wtk ⟨rfl, V', hp9, hv9⟩; (try simp only [List.cons_append, List.nil_append] at hp9); replace HP := Lib.hid hp9; replace HV := Lib.hid hv9; clear hp9 hv9) | (go_at_call 13; refine (take_hp (A := [_, _]) (F := ⟨w, Lt w.heap.size⟩) HP.out (by simp) (b := y1) (rest := []) HV.out HY1.out).mono ?_; rintro e wtk ⟨rfl, V', hp9, hv9⟩; (try simp only [List.cons_append, List.nil_append] at hp9); replace HP := Lib.hid hp9; replace HV := Lib.hid hv9; clear hp9 hv9) | (go_at_call 13; refine (take_no (A := [_, _]) HP.out HV.out).mono ?_; rintro e wtk ⟨rfl, rfl⟩))
                  (try simp only [Exit.inBlock, Exit.then])
                  rw [HSH.out]
                  exact dec_panic rfl rfl (HP.out.perm (List.perm_append_comm (l₁ := [_, _, _, _]) (l₂ := [_, _])))
                · have HSH := Lib.hid (HC2.out (by simp))
                  have HY0 := Lib.hid (HBR.out y0 (by simp))
                  have HY1 := Lib.hid (HBR.out y1 (by simp))
                  have HY2 := Lib.hid (HBR.out y2 (by simp))
                  clear HC2 HC HCUT
                  go_wp2_with (first | (go_at_call 13; refine (take_hp (A := [_, _]) (F := ⟨w, Lt w.heap.size⟩) HP.out (by simp) (b := y0) (rest := [y1, y2]) HV.out HY0.out).mono ?_; rintro e wtk ⟨rfl, V', hp9, hv9⟩; (try simp only [List.cons_append, List.nil_append] at hp9); replace HP := Lib.hid hp9; replace HV := Lib.hid hv9; clear hp9 hv9) | (go_at_call 13; refine (take_hp (A := [_, _]) (F := ⟨w, Lt w.heap.size⟩) HP.out (by simp) (b := y1) (rest := [y2]) HV.out HY1.out).mono ?_; rintro e wtk ⟨rfl, V', hp9, hv9⟩; (try simp only [List.cons_append, List.nil_append] at hp9); replace HP := Lib.hid hp9; replace HV := Lib.hid hv9; clear hp9 hv9) | (go_at_call 13; refine (take_hp (A := [_, _]) (F := ⟨w, Lt w.heap.size⟩) HP.out (by simp) (b := y2) (rest := []) HV.out HY2.out).mono ?_; rintro e wtk ⟨rfl, V', hp9, hv9⟩; (try simp only [List.cons_append, List.nil_append] at hp9); replace HP := Lib.hid hp9; replace HV := Lib.hid hv9; clear hp9 hv9) | (go_at_call 13; refine (take_no (A := [_, _]) HP.out HV.out).mono ?_; rintro e wtk ⟨rfl, rfl⟩))
                  (try simp only [Exit.inBlock, Exit.then])
                  rw [HSH.out]
                  exact dec_panic rfl rfl (HP.out.perm (List.perm_append_comm (l₁ := [_, _, _, _]) (l₂ := [_, _])))
                · have HY0 := Lib.hid (HBR.out y0 (by simp))
                  have HY1 := Lib.hid (HBR.out y1 (by simp))
                  have HY2 := Lib.hid (HBR.out y2 (by simp))
                  have HY3 := Lib.hid (HBR.out y3 (by simp))
                  have HB8 := Lib.hid (show ∀ x ∈ r8, 0 ≤ x ∧ x < 256 from fun x hx => HBR.out x (by simp [hx]))
                  have HSH := Lib.hid (show r8.length < 8 → decAns ((N : Int) :: rest) = (⟨[]⟩, 4) from fun h => HC2.out (by simp; omega))
                  go_upto_region 12 with (first | (go_at_call 13; refine (take_hp (A := [_, _]) (F := ⟨w, Lt w.heap.size⟩) HP.out (by simp) (b := y0) (rest := (y1 :: y2 :: y3 :: r8)) HV.out HY0.out).mono ?_; rintro e wtk ⟨rfl, V', hp9, hv9⟩; (try simp only [List.cons_append, List.nil_append] at hp9); replace HP := Lib.hid hp9; replace HV := Lib.hid hv9; clear hp9 hv9) | (go_at_call 13; refine (take_hp (A := [_, _]) (F := ⟨w, Lt w.heap.size⟩) HP.out (by simp) (b := y1) (rest := (y2 :: y3 :: r8)) HV.out HY1.out).mono ?_; rintro e wtk ⟨rfl, V', hp9, hv9⟩; (try simp only [List.cons_append, List.nil_append] at hp9); replace HP := Lib.hid hp9; replace HV := Lib.hid hv9; clear hp9 hv9) | (go_at_call 13; refine (take_hp (A := [_, _]) (F := ⟨w, Lt w.heap.size⟩) HP.out (by simp) (b := y2) (rest := (y3 :: r8)) HV.out HY2.out).mono ?_; rintro e wtk ⟨rfl, V', hp9, hv9⟩; (try simp only [List.cons_append, List.nil_append] at hp9); replace HP := Lib.hid hp9; replace HV := Lib.hid hv9; clear hp9 hv9) | (go_at_call 13; refine (take_hp (A := [_, _]) (F := ⟨w, Lt w.heap.size⟩) HP.out (by simp) (b := y3) (rest := r8) HV.out HY3.out).mono ?_; rintro e wtk ⟨rfl, V', hp9, hv9⟩; (try simp only [List.cons_append, List.nil_append] at hp9); replace HP := Lib.hid hp9; replace HV := Lib.hid hv9; clear hp9 hv9) | (refine wpList_alloc_hp (o := ⟨some 6, _, _, _, _, _⟩) rfl _ rfl HP.out (.agg #[.int .i64 0, .int .i64 0, .int .i64 0, .int .i64 0, .int .i64 0]) (by kernel_rfl) [_, _, _, _, _] rfl ?_; clear HP; intro g6 w6 HP; replace HP := Lib.hid HP) | (refine wpList_stR0 rfl 46 _ _ rfl HP.out rfl (cs' := [_, _, _, _, _]) rfl rfl (by simp [Value.oneCell']) (by kernel_rfl) ?_; clear HP; intro wst HP; replace HP := Lib.hid HP))
                  obtain ⟨xl, hxl⟩ : ∃ xl, y0 :: y1 :: y2 :: y3 :: r8 = xl := ⟨_, rfl⟩
                  have HXL := Lib.hid hxl
                  go_wp2
                  go_loopw [38] (fun i wr => ∃ (s : Nat) (r : List Int) (V : Value), s ≤ 8 ∧ i = .int .i64 s ∧ Hid (r = r8.drop s ∧ s ≤ r8.length) ∧ Hid (RepB w (Lt w.heap.size) r V) ∧ Hid (Hp w [Gc, ⟨w, Lt w.heap.size⟩] [.blk g6 46 [.int .i64 y0, .int .i64 y1, .int .i64 y2, .int .i64 y3, .int .i64 (immD xl s)], .row cv 46 5 j ((codeD r3 j).flatMap insEnc2), .blk g5 44 [.int .i64 x0, .int .i64 x1, cv], .blk g15 40 [V], .row fv 44 3 k (((funsD rest k).zip us).flatMap funEnc2), .blk g2 26 [fv], .blk g3 27 [.int .i64 0]] wr)) (fun i _ => 8 - (intOf i).toNat)
                  case atStart => exact ⟨0, r8, _, by omega, rfl, Lib.hid ⟨rfl, by omega⟩, HV, HP⟩
                  case round =>
                    clear HP HV hxl
                    obtain ⟨s, r, V, hs9, rfl, HRE, HV, HP⟩ := hrel
                    obtain ⟨ws, rfl⟩ : ∃ wo : World, wo = wr := ⟨_, rfl⟩
                    by_cases hs : s < 8
                    · have hs2 : (s : Int) < 8 := by omega
                      obtain ⟨z, hz⟩ : ∃ z, immD xl s = z := ⟨_, rfl⟩
                      rw [hz] at HP
                      have HZ := Lib.hid hz
                      clear hz
                      rcases r with _ | ⟨c0, r'⟩
                      · have HS2 := Lib.hid (HSH.out (by have h1 := congrArg List.length HRE.out.1; rw [List.length_drop, List.length_nil] at h1; omega))
                        clear HSH HC2 HC HCUT
                        go_upto_region 13 with fail
                        refine wp_region_held_drew (S := fun _ => True) (by kernel_rfl) trivial (fun hHeld => ?_)
                        have HS0 := Lib.hid hHeld
                        clear hHeld
                        replace HP := Lib.hid HP.out.drew
                        (try simp only [Act.put, List.setIfInBounds_toArray, List.set_cons_zero, List.set_cons_succ])
                        refine wpAnyH_take (i := 0) (v := ?_) rfl (by kernel_rfl) (by kernel_rfl) (by kernel_rfl) (fun _ _ _ h => dec_put (by decide) (by decide) h) (.inl ⟨by first | (simp [Region.wanted]; done) | rfl, ?_⟩) HS0.out ?_
                        rotate_left
                        · intro w' hw
                          go_simp
                          (try with_reducible rfl)
                        (try simp only [List.getElem_toArray, List.getElem_cons_succ, List.getElem_cons_zero, Act.put, List.setIfInBounds_toArray, List.set_cons_zero, List.set_cons_succ])
                        refine wpAnyH_take (i := 3) (v := ?_) rfl (by kernel_rfl) (by kernel_rfl) (by kernel_rfl) (fun _ _ _ h => dec_put (by decide) (by decide) h) (.inl ⟨by first | (simp [Region.wanted]; done) | rfl, ?_⟩) HS0.out ?_
                        rotate_left
                        · intro w' hw
                          go_simp
                          (try with_reducible rfl)
                        (try simp only [List.getElem_toArray, List.getElem_cons_succ, List.getElem_cons_zero, Act.put, List.setIfInBounds_toArray, List.set_cons_zero, List.set_cons_succ])
                        refine wpAnyH_ready (rs := [1, 4]) (by kernel_rfl) (by simp) ?_
                        refine AllReadyH.cons rfl (fun K hK => ?_) (AllReadyH.cons rfl (fun K hK => ?_) AllReadyH.nil)
                        · refine wanted_only rfl ?_
                          refine wpList_ld0 rfl 3 _ rfl HP.out rfl rfl Tryd.underlying3 rfl ?_
                          refine wpList_nil ?_
                          refine hK.out _ _ trivial (fun hHeld => ?_)
                          clear hK K hHeld
                          (try simp only [List.getElem_toArray, List.getElem_cons_succ, List.getElem_cons_zero, Act.put, List.setIfInBounds_toArray, List.set_cons_zero, List.set_cons_succ])
                          refine wpAnyH_take (i := 2) (v := ?_) rfl (by kernel_rfl) (by kernel_rfl) (by kernel_rfl) (fun _ _ _ h => dec_put (by decide) (by decide) h) (.inl ⟨by first | (simp [Region.wanted]; done) | rfl, ?_⟩) HS0.out ?_
                          rotate_left
                          · intro w' hw
                            go_simp
                            (try with_reducible rfl)
                          (try simp only [List.getElem_toArray, List.getElem_cons_succ, List.getElem_cons_zero, Act.put, List.setIfInBounds_toArray, List.set_cons_zero, List.set_cons_succ])
                          refine wpAnyH_ready (rs := [4]) (by kernel_rfl) (by simp) ?_
                          refine AllReadyH.cons rfl (fun K hK => ?_) AllReadyH.nil
                          go_simp
                          refine (take_no (A := [_, _, _]) HP.out HV.out).mono ?_
                          rintro e wtk ⟨rfl, rfl⟩
                          dsimp only
                          show bodyPostD Tryd.prog Tryd.f6 (fun e w' => DecR w (decAns ((N : Int) :: rest)).1 (decAns ((N : Int) :: rest)).2 e w') (.panic [{ v := .iface 27 (.int .i64 4), recovered := false }]) _ _
                          rw [HS2.out]
                          exact dec_panic rfl rfl (HP.out.perm (List.perm_append_comm (l₁ := [_, _, _, _, _]) (l₂ := [_, _])))
                        · go_simp
                          refine (take_no (A := [_, _, _]) HP.out HV.out).mono ?_
                          rintro e wtk ⟨rfl, rfl⟩
                          dsimp only
                          show bodyPostD Tryd.prog Tryd.f6 (fun e w' => DecR w (decAns ((N : Int) :: rest)).1 (decAns ((N : Int) :: rest)).2 e w') (.panic [{ v := .iface 27 (.int .i64 4), recovered := false }]) _ _
                          rw [HS2.out]
                          exact dec_panic rfl rfl (HP.out.perm (List.perm_append_comm (l₁ := [_, _, _, _, _]) (l₂ := [_, _])))
                      · have h8 : s < r8.length := by have h1 := congrArg List.length HRE.out.1; rw [List.length_drop, List.length_cons] at h1; omega
                        have hcr : r8[s]? = some c0 ∧ r' = r8.drop (s + 1) := by
                          have h1 := HRE.out.1
                          rw [List.drop_eq_getElem_cons h8] at h1
                          injection h1 with h2 h3
                          exact ⟨by rw [List.getElem?_eq_getElem h8, h2], h3⟩
                        have HC0 := Lib.hid (HB8.out c0 (List.mem_of_getElem? hcr.1))
                        have HRF := Lib.hid (show r' = r8.drop (s + 1) ∧ s + 1 ≤ r8.length from ⟨hcr.2, by omega⟩)
                        have HIM := Lib.hid (show bits .or .i64 (IntKind.i64.wrap (z * 256)) c0 = immD xl (s + 1) by
                          have e : xl.getD (4 + s) 0 = c0 := by
                            rw [← HXL.out, List.getD_eq_getElem?_getD, show 4 + s = s + 1 + 1 + 1 + 1 by omega]
                            simp only [List.getElem?_cons_succ]
                            rw [hcr.1]; rfl
                          rw [immD, e, HZ.out, ← (immN_ok z c0 HC0.out).2, show IntKind.i64.wrap (z * 256) = wrap64 (z * 256) by simp [wrap64, IntKind.wrap_i64]])
                        clear h8 hcr
                        go_upto_region 13 with fail
                        refine wp_region_held_drew (S := fun _ => True) (by kernel_rfl) trivial (fun hHeld => ?_)
                        have HS0 := Lib.hid hHeld
                        clear hHeld
                        replace HP := Lib.hid HP.out.drew
                        (try simp only [Act.put, List.setIfInBounds_toArray, List.set_cons_zero, List.set_cons_succ])
                        refine wpAnyH_take (i := 0) (v := ?_) rfl (by kernel_rfl) (by kernel_rfl) (by kernel_rfl) (fun _ _ _ h => dec_put (by decide) (by decide) h) (.inl ⟨by first | (simp [Region.wanted]; done) | rfl, ?_⟩) HS0.out ?_
                        rotate_left
                        · intro w' hw
                          go_simp
                          (try with_reducible rfl)
                        (try simp only [List.getElem_toArray, List.getElem_cons_succ, List.getElem_cons_zero, Act.put, List.setIfInBounds_toArray, List.set_cons_zero, List.set_cons_succ])
                        refine wpAnyH_take (i := 3) (v := ?_) rfl (by kernel_rfl) (by kernel_rfl) (by kernel_rfl) (fun _ _ _ h => dec_put (by decide) (by decide) h) (.inl ⟨by first | (simp [Region.wanted]; done) | rfl, ?_⟩) HS0.out ?_
                        rotate_left
                        · intro w' hw
                          go_simp
                          (try with_reducible rfl)
                        (try simp only [List.getElem_toArray, List.getElem_cons_succ, List.getElem_cons_zero, Act.put, List.setIfInBounds_toArray, List.set_cons_zero, List.set_cons_succ])
                        refine wpAnyH_ready (rs := [1, 4]) (by kernel_rfl) (by simp) ?_
                        refine AllReadyH.cons rfl (fun K hK => ?_) (AllReadyH.cons rfl (fun K hK => ?_) AllReadyH.nil)
                        · refine wanted_only rfl ?_
                          refine wpList_ld0 rfl 3 _ rfl HP.out rfl rfl Tryd.underlying3 rfl ?_
                          refine wpList_nil ?_
                          refine hK.out _ _ trivial (fun hHeld => ?_)
                          clear hK K hHeld
                          (try simp only [List.getElem_toArray, List.getElem_cons_succ, List.getElem_cons_zero, Act.put, List.setIfInBounds_toArray, List.set_cons_zero, List.set_cons_succ])
                          refine wpAnyH_take (i := 2) (v := ?_) rfl (by kernel_rfl) (by kernel_rfl) (by kernel_rfl) (fun _ _ _ h => dec_put (by decide) (by decide) h) (.inl ⟨by first | (simp [Region.wanted]; done) | rfl, ?_⟩) HS0.out ?_
                          rotate_left
                          · intro w' hw
                            go_simp
                            (try with_reducible rfl)
                          (try simp only [List.getElem_toArray, List.getElem_cons_succ, List.getElem_cons_zero, Act.put, List.setIfInBounds_toArray, List.set_cons_zero, List.set_cons_succ])
                          refine wpAnyH_ready (rs := [4]) (by kernel_rfl) (by simp) ?_
                          refine AllReadyH.cons rfl (fun K hK => ?_) AllReadyH.nil
                          go_simp
                          refine (take_hp (A := [_, _, _]) (F := ⟨w, Lt w.heap.size⟩) HP.out (by simp) (b := c0) (rest := r') HV.out HC0.out).mono ?_
                          rintro e wtk ⟨rfl, V', hp9, hv9⟩
                          (try simp only [List.cons_append, List.nil_append] at hp9)
                          replace HP := Lib.hid hp9
                          replace HV := Lib.hid hv9
                          clear hp9 hv9
                          dsimp only
                          refine hK.out _ _ trivial (fun hHeld => ?_)
                          clear hK K hHeld
                          (try simp only [List.getElem_toArray, List.getElem_cons_succ, List.getElem_cons_zero, Act.put, List.setIfInBounds_toArray, List.set_cons_zero, List.set_cons_succ])
                          refine wpAnyH_take (i := 5) (v := ?_) rfl (by kernel_rfl) (by kernel_rfl) (by kernel_rfl) (fun _ _ _ h => dec_put (by decide) (by decide) h) (.inl ⟨by first | (simp [Region.wanted]; done) | rfl, ?_⟩) HS0.out ?_
                          rotate_left
                          · intro w' hw
                            go_simp
                            (try with_reducible rfl)
                          (try simp only [List.getElem_toArray, List.getElem_cons_succ, List.getElem_cons_zero, Act.put, List.setIfInBounds_toArray, List.set_cons_zero, List.set_cons_succ])
                          refine wpAnyH_take (i := 6) (v := ?_) rfl (by kernel_rfl) (by kernel_rfl) (by kernel_rfl) (fun _ _ _ h => dec_put (by decide) (by decide) h) (.inl ⟨by first | (simp [Region.wanted]; done) | rfl, ?_⟩) HS0.out ?_
                          rotate_left
                          · intro w' hw
                            go_simp
                            (try with_reducible rfl)
                          (try simp only [List.getElem_toArray, List.getElem_cons_succ, List.getElem_cons_zero, Act.put, List.setIfInBounds_toArray, List.set_cons_zero, List.set_cons_succ])
                          refine wpAnyH_ready (rs := [7]) (by kernel_rfl) (by simp) ?_
                          refine AllReadyH.cons rfl (fun K hK => ?_) AllReadyH.nil
                          refine wanted_only rfl ?_
                          refine wpList_st0 rfl 3 _ _ rfl HP.out rfl rfl (by simp) rfl rfl (by kernel_rfl) ?_
                          clear HP; intro wst HP; replace HP := Lib.hid HP
                          replace HP := Lib.hid (show Hp w [Gc, ⟨w, Lt w.heap.size⟩] [.blk g6 46 [.int .i64 y0, .int .i64 y1, .int .i64 y2, .int .i64 y3, .int .i64 (immD xl (s + 1))], .row cv 46 5 j ((codeD r3 j).flatMap insEnc2), .blk g5 44 [.int .i64 x0, .int .i64 x1, cv], .blk g15 40 [V'], .row fv 44 3 k (((funsD rest k).zip us).flatMap funEnc2), .blk g2 26 [fv], .blk g3 27 [.int .i64 0]] _ by rw [← HIM.out]; exact HP.out)
                          refine wpList_nil ?_
                          refine hK.out _ _ trivial (fun hHeld => ?_)
                          clear hK K hHeld
                          (try simp only [List.getElem_toArray, List.getElem_cons_succ, List.getElem_cons_zero, Act.put, List.setIfInBounds_toArray, List.set_cons_zero, List.set_cons_succ])
                          refine wpAnyH_done (by kernel_rfl) ?_ _
                          (try simp only [List.getElem_toArray, List.getElem_cons_succ, List.getElem_cons_zero, Act.put, List.setIfInBounds_toArray, List.set_cons_zero, List.set_cons_succ])
                          clear HS0 HIM
                          go_wp2
                          go_roundw
                          case rel => exact ⟨s + 1, r', V', by omega, by go_num, HRF, HV, HP⟩
                          case measure => simp [intOf]; omega
                        · go_simp
                          refine (take_hp (A := [_, _, _]) (F := ⟨w, Lt w.heap.size⟩) HP.out (by simp) (b := c0) (rest := r') HV.out HC0.out).mono ?_
                          rintro e wtk ⟨rfl, V', hp9, hv9⟩
                          (try simp only [List.cons_append, List.nil_append] at hp9)
                          replace HP := Lib.hid hp9
                          replace HV := Lib.hid hv9
                          clear hp9 hv9
                          dsimp only
                          refine hK.out _ _ trivial (fun hHeld => ?_)
                          clear hK K hHeld
                          (try simp only [List.getElem_toArray, List.getElem_cons_succ, List.getElem_cons_zero, Act.put, List.setIfInBounds_toArray, List.set_cons_zero, List.set_cons_succ])
                          refine wpAnyH_ready (rs := [1]) (by kernel_rfl) (by simp) ?_
                          refine AllReadyH.cons rfl (fun K hK => ?_) AllReadyH.nil
                          refine wanted_only rfl ?_
                          refine wpList_ld0 rfl 3 _ rfl HP.out rfl rfl Tryd.underlying3 rfl ?_
                          refine wpList_nil ?_
                          refine hK.out _ _ trivial (fun hHeld => ?_)
                          clear hK K hHeld
                          (try simp only [List.getElem_toArray, List.getElem_cons_succ, List.getElem_cons_zero, Act.put, List.setIfInBounds_toArray, List.set_cons_zero, List.set_cons_succ])
                          refine wpAnyH_take (i := 2) (v := ?_) rfl (by kernel_rfl) (by kernel_rfl) (by kernel_rfl) (fun _ _ _ h => dec_put (by decide) (by decide) h) (.inl ⟨by first | (simp [Region.wanted]; done) | rfl, ?_⟩) HS0.out ?_
                          rotate_left
                          · intro w' hw
                            go_simp
                            (try with_reducible rfl)
                          (try simp only [List.getElem_toArray, List.getElem_cons_succ, List.getElem_cons_zero, Act.put, List.setIfInBounds_toArray, List.set_cons_zero, List.set_cons_succ])
                          refine wpAnyH_take (i := 5) (v := ?_) rfl (by kernel_rfl) (by kernel_rfl) (by kernel_rfl) (fun _ _ _ h => dec_put (by decide) (by decide) h) (.inl ⟨by first | (simp [Region.wanted]; done) | rfl, ?_⟩) HS0.out ?_
                          rotate_left
                          · intro w' hw
                            go_simp
                            (try with_reducible rfl)
                          (try simp only [List.getElem_toArray, List.getElem_cons_succ, List.getElem_cons_zero, Act.put, List.setIfInBounds_toArray, List.set_cons_zero, List.set_cons_succ])
                          refine wpAnyH_take (i := 6) (v := ?_) rfl (by kernel_rfl) (by kernel_rfl) (by kernel_rfl) (fun _ _ _ h => dec_put (by decide) (by decide) h) (.inl ⟨by first | (simp [Region.wanted]; done) | rfl, ?_⟩) HS0.out ?_
                          rotate_left
                          · intro w' hw
                            go_simp
                            (try with_reducible rfl)
                          (try simp only [List.getElem_toArray, List.getElem_cons_succ, List.getElem_cons_zero, Act.put, List.setIfInBounds_toArray, List.set_cons_zero, List.set_cons_succ])
                          refine wpAnyH_ready (rs := [7]) (by kernel_rfl) (by simp) ?_
                          refine AllReadyH.cons rfl (fun K hK => ?_) AllReadyH.nil
                          refine wanted_only rfl ?_
                          refine wpList_st0 rfl 3 _ _ rfl HP.out rfl rfl (by simp) rfl rfl (by kernel_rfl) ?_
                          clear HP; intro wst HP; replace HP := Lib.hid HP
                          replace HP := Lib.hid (show Hp w [Gc, ⟨w, Lt w.heap.size⟩] [.blk g6 46 [.int .i64 y0, .int .i64 y1, .int .i64 y2, .int .i64 y3, .int .i64 (immD xl (s + 1))], .row cv 46 5 j ((codeD r3 j).flatMap insEnc2), .blk g5 44 [.int .i64 x0, .int .i64 x1, cv], .blk g15 40 [V'], .row fv 44 3 k (((funsD rest k).zip us).flatMap funEnc2), .blk g2 26 [fv], .blk g3 27 [.int .i64 0]] _ by rw [← HIM.out]; exact HP.out)
                          refine wpList_nil ?_
                          refine hK.out _ _ trivial (fun hHeld => ?_)
                          clear hK K hHeld
                          (try simp only [List.getElem_toArray, List.getElem_cons_succ, List.getElem_cons_zero, Act.put, List.setIfInBounds_toArray, List.set_cons_zero, List.set_cons_succ])
                          refine wpAnyH_done (by kernel_rfl) ?_ _
                          (try simp only [List.getElem_toArray, List.getElem_cons_succ, List.getElem_cons_zero, Act.put, List.setIfInBounds_toArray, List.set_cons_zero, List.set_cons_succ])
                          clear HS0 HIM
                          go_wp2
                          go_roundw
                          case rel => exact ⟨s + 1, r', V', by omega, by go_num, HRF, HV, HP⟩
                          case measure => simp [intOf]; omega
                    · obtain rfl : s = 8 := by omega
                      have HCD := Lib.hid (show (codeD r3 (j + 1)).flatMap insEnc2 = (codeD r3 j).flatMap insEnc2 ++ [.int .i64 y0, .int .i64 y1, .int .i64 y2, .int .i64 y3, .int .i64 (immD xl 8)] by
                        rw [codeD, List.flatMap_append, ← HRD.out.1, HXL.out, List.flatMap_cons, List.flatMap_nil, List.append_nil]
                        unfold insEnc2 insD
                        rw [← HXL.out]
                        rfl)
                      have HRN := Lib.hid (show r = r3.drop (12 * (j + 1)) ∧ 12 * (j + 1) ≤ r3.length by
                        obtain ⟨e1, e2⟩ := HRD.out
                        obtain ⟨e3, e4⟩ := HRE.out
                        refine ⟨?_, ?_⟩
                        · rw [e3, show 12 * (j + 1) = 12 * j + 12 by omega, ← List.drop_drop, ← e1]; rfl
                        · have := congrArg List.length e1
                          rw [List.length_drop] at this
                          simp at this
                          omega)
                      obtain ⟨z, hz⟩ : ∃ z, immD xl 8 = z := ⟨_, rfl⟩
                      rw [hz] at HP HCD
                      clear hz HSH HC2 HC HCUT HRD HRE HXL
                      go_wp2_with (first | (refine wpList_ld0 rfl 42 _ rfl HP.out rfl rfl Tryd.underlying42 rfl ?_) | (refine wpList_ld1 rfl 42 _ rfl HP.out rfl rfl Tryd.underlying42 rfl ?_) | (refine wpList_ld2 rfl 42 _ rfl HP.out rfl rfl Tryd.underlying42 rfl ?_) | (refine wpList_ldR0 rfl 46 _ rfl HP.out rfl Tryd.underlying46 rfl (by kernel_rfl) ?_) | (refine wpList_slice_hp rfl 42 46 1 _ rfl HP.out Tryd.underlying42 #[.int .i64 y0, .int .i64 y1, .int .i64 y2, .int .i64 y3, .int .i64 z] (by kernel_rfl) ?_; clear HP; intro gi wi HP; replace HP := Lib.hid HP) | (at_builtin; refine wpList_app1 rfl _ _ 42 rfl i_Ins (.agg #[.int .i64 0, .int .i64 0, .int .i64 0, .int .i64 0, .int .i64 0]) Tryd.underlying42 hi_Ins hz_Ins hs_Ins rfl (by decide) hy_Ins (j + 1) (by omega) HP.out rfl rfl rfl (by simp [Value.oneCell']) (by unfold maxLen; omega) (by omega) ?_; clear HP; intro A4 c4 wap HP; replace HP := Lib.hid HP) | (refine wpList_st0 rfl 42 _ _ rfl HP.out rfl rfl (by simp) rfl rfl (by kernel_rfl) ?_; clear HP; intro wst HP; replace HP := Lib.hid HP) | (refine wpList_st1 rfl 42 _ _ rfl HP.out rfl rfl (by simp) rfl rfl (by kernel_rfl) ?_; clear HP; intro wst HP; replace HP := Lib.hid HP) | (refine wpList_st2 rfl 42 _ _ rfl HP.out rfl rfl (by simp) rfl rfl (by kernel_rfl) ?_; clear HP; intro wst HP; replace HP := Lib.hid HP))
                      go_roundw
                      case rel => exact ⟨j + 1, r, V, .slice A4 (j + 1) c4, by omega, by go_num, HRN, HV, Lib.hid (by
                        rw [HCD.out]
                        exact Hp.drop (A := []) HP.out)⟩
                      case measure => simp [intOf]; omega
              · obtain rfl : j = n := by omega
                obtain ⟨A3, c3, hcv⟩ := HP.out.rowShape2 (.head _)
                subst hcv
                have HLV := Lib.hid HFI.out.1.len
                obtain ⟨Gd, hp9, hfi⟩ := Hp.freezeFun (f := ⟨x0, x1, codeD r3 j⟩) HP.out HFI.out
                have HFJ := Lib.hid hfi
                replace HP := Lib.hid hp9
                clear hp9 hfi
                have HFD := Lib.hid (show funsD rest (k + 1) = funsD rest k ++ [⟨x0, x1, codeD r3 j⟩] by
                  rw [funsD, HR.out.1]
                  show _ ++ [funD (x0 :: x1 :: (j : Int) :: r3)] = _
                  unfold funD
                  rw [HCE.out]
                  rfl)
                have HRK := Lib.hid (show restD rest (k + 1) = some r ∧ (∀ x ∈ r, 0 ≤ x ∧ x < 256) ∧ r.length ≤ 4000 by
                  obtain ⟨e1, e2⟩ := HRD.out
                  refine ⟨?_, fun x hx => HB3.out x (List.mem_of_mem_drop (by rw [e1] at hx; exact hx)), ?_⟩
                  · rw [restD_step HR.out.1, enough_yes (by rw [HCE.out]; simp; omega), HCE.out, e1, Nat.add_comm]
                    rfl
                  · rw [e1, List.length_drop]; omega)
                have HZIP := Lib.hid (funs_zip HLV.out ⟨x0, x1, codeD r3 j⟩ (.slice A3 j c3))
                clear HRD HC HCUT HCE HR
                go_wp2_with (first | (refine wpList_ld0 rfl 24 _ rfl HP.out rfl rfl Tryd.underlying24 rfl ?_) | (refine wpList_ld1 rfl 24 _ rfl HP.out rfl rfl Tryd.underlying24 rfl ?_) | (refine wpList_ld2 rfl 24 _ rfl HP.out rfl rfl Tryd.underlying24 rfl ?_) | (refine wpList_ld3 rfl 24 _ rfl HP.out rfl rfl Tryd.underlying24 rfl ?_) | (refine wpList_ldR0 rfl 44 _ rfl HP.out rfl Tryd.underlying44 rfl (by kernel_rfl) ?_) | (refine wpList_ldR1 rfl 44 _ rfl HP.out rfl Tryd.underlying44 rfl (by kernel_rfl) ?_) | (refine wpList_slice_hp rfl 24 44 1 _ rfl HP.out Tryd.underlying24 #[.int .i64 x0, .int .i64 x1, .slice A3 j c3] (by kernel_rfl) ?_; clear HP; intro gi wi HP; replace HP := Lib.hid HP) | (at_builtin; refine wpList_app2 rfl _ _ 24 rfl i_Fun (.agg #[.int .i64 0, .int .i64 0, .slice none 0 0]) Tryd.underlying24 hi_Fun hz_Fun hs_Fun rfl (by decide) hy_Fun (k + 1) (by omega) HP.out rfl rfl rfl (by simp [Value.oneCell']) (by unfold maxLen; omega) (by omega) ?_; clear HP; intro A4 c4 wap HP; replace HP := Lib.hid HP) | (refine wpList_st0 rfl 24 _ _ rfl HP.out rfl rfl (by simp) rfl rfl (by kernel_rfl) ?_; clear HP; intro wst HP; replace HP := Lib.hid HP) | (refine wpList_st1 rfl 24 _ _ rfl HP.out rfl rfl (by simp) rfl rfl (by kernel_rfl) ?_; clear HP; intro wst HP; replace HP := Lib.hid HP) | (refine wpList_st2 rfl 24 _ _ rfl HP.out rfl rfl (by simp) rfl rfl (by kernel_rfl) ?_; clear HP; intro wst HP; replace HP := Lib.hid HP) | (refine wpList_st3 rfl 24 _ _ rfl HP.out rfl rfl (by simp) rfl rfl (by kernel_rfl) ?_; clear HP; intro wst HP; replace HP := Lib.hid HP))
                go_roundw
                case rel => exact ⟨k + 1, r, V, .slice A4 (k + 1) c4, us ++ [.slice A3 j c3], Gd, by omega, by go_num, HRK, HV, by rw [HFD.out]; exact HFJ, Lib.hid (by
                  rw [HFD.out, HZIP.out]
                  exact Hp.drop (A := []) HP.out)⟩
                case measure => simp [intOf]; omega
        · obtain rfl : k = N := by omega
          clear HCUT
          obtain ⟨A7, c7, rfl, -, hc7, -⟩ := id HV.out
          unfold maxLen at hc7
          rcases r with _ | ⟨x, r⟩
          · simp only [List.length_nil] at HP
            obtain ⟨A3, c3, hfv⟩ := HP.out.rowShape2 (.tail _ (.head _))
            subst hfv
            obtain ⟨e0, he0⟩ : ∃ e0, prgFault ⟨funsD rest k⟩ = e0 := ⟨_, rfl⟩
            have HPF := Lib.hid he0
            by_cases hz : e0 = 0
            · subst hz
              have HA := Lib.hid (show decAns ((k : Int) :: rest) = (⟨funsD rest k⟩, 0) from dec_ok HLL.out (by rw [Int.toNat_natCast]; exact HR.out.1) (by rw [Int.toNat_natCast]; exact HPF.out))
              clear he0
              go_wp2_with (first | (refine wpList_ld0 rfl 22 _ rfl HP.out rfl rfl Tryd.underlying22 rfl ?_) | (refine wpList_ldR0 rfl 26 _ rfl HP.out rfl Tryd.underlying26 rfl (by kernel_rfl) ?_) | (refine wpList_ldR1 rfl 26 _ rfl HP.out rfl Tryd.underlying26 rfl (by kernel_rfl) ?_) | (refine wpList_ldR2 rfl 26 _ rfl HP.out rfl Tryd.underlying26 rfl (by kernel_rfl) ?_) | (go_at_call 14; refine (codeCheck_any ⟨funsD rest k⟩ _ _ (rep_prg.2 (Lay.more (fun b hb => hb.2) (HP.out.rowFuns2 (.tail _ (.head _)) rfl HFI.out.1 HFI.out.2))) (HH.out.keep HP.out.below rfl)).mono ?_; rintro e wck ⟨rfl, hb⟩; replace HP := Lib.hid (HP.out.call0 hb); clear hb; rw [HPF.out]) | (refine wpList_stR0 rfl 26 _ _ rfl HP.out rfl (cs' := [_]) rfl rfl (by simp [Value.oneCell']) (by kernel_rfl) ?_; clear HP; intro wst HP; replace HP := Lib.hid HP) | (refine wpList_stR1 rfl 26 _ _ rfl HP.out rfl (cs' := [_]) rfl rfl (by simp [Value.oneCell']) (by kernel_rfl) ?_; clear HP; intro wst HP; replace HP := Lib.hid HP) | (refine wpList_stR2 rfl 26 _ _ rfl HP.out rfl (cs' := [_]) rfl rfl (by simp [Value.oneCell']) (by kernel_rfl) ?_; clear HP; intro wst HP; replace HP := Lib.hid HP) | (refine wpList_st0 rfl 27 _ _ rfl HP.out rfl rfl (by simp) rfl rfl (by kernel_rfl) ?_; clear HP; intro wst HP; replace HP := Lib.hid HP) | (refine wpList_st1 rfl 27 _ _ rfl HP.out rfl rfl (by simp) rfl rfl (by kernel_rfl) ?_; clear HP; intro wst HP; replace HP := Lib.hid HP) | (refine wpList_st2 rfl 27 _ _ rfl HP.out rfl rfl (by simp) rfl rfl (by kernel_rfl) ?_; clear HP; intro wst HP; replace HP := Lib.hid HP) | (refine wpList_st3 rfl 27 _ _ rfl HP.out rfl rfl (by simp) rfl rfl (by kernel_rfl) ?_; clear HP; intro wst HP; replace HP := Lib.hid HP))
              rw [HA.out]
              exact dec_returns rfl rfl (n := 0) (HP.out.perm (List.perm_append_comm (l₁ := [_, _]) (l₂ := [_, _]))) (rep_prg.2 (HP.out.rowFuns2 (.tail _ (.head _)) rfl HFI.out.1 HFI.out.2))
            · have hzb : (e0 != 0) = true := by simpa using hz
              have HA := Lib.hid (show decAns ((k : Int) :: rest) = (⟨[]⟩, e0) by rw [← HPF.out]; exact dec_bad HLL.out (by rw [Int.toNat_natCast]; exact HR.out.1) (by rw [Int.toNat_natCast, HPF.out]; exact hz))
              clear he0 hz
              go_wp2_with (first | (refine wpList_ld0 rfl 22 _ rfl HP.out rfl rfl Tryd.underlying22 rfl ?_) | (refine wpList_ldR0 rfl 26 _ rfl HP.out rfl Tryd.underlying26 rfl (by kernel_rfl) ?_) | (refine wpList_ldR1 rfl 26 _ rfl HP.out rfl Tryd.underlying26 rfl (by kernel_rfl) ?_) | (refine wpList_ldR2 rfl 26 _ rfl HP.out rfl Tryd.underlying26 rfl (by kernel_rfl) ?_) | (go_at_call 14; refine (codeCheck_any ⟨funsD rest k⟩ _ _ (rep_prg.2 (Lay.more (fun b hb => hb.2) (HP.out.rowFuns2 (.tail _ (.head _)) rfl HFI.out.1 HFI.out.2))) (HH.out.keep HP.out.below rfl)).mono ?_; rintro e wck ⟨rfl, hb⟩; replace HP := Lib.hid (HP.out.call0 hb); clear hb; rw [HPF.out]))
              (try dsimp only)
              show bodyPostD Tryd.prog Tryd.f6 (fun e w' => DecR w (decAns ((k : Int) :: rest)).1 (decAns ((k : Int) :: rest)).2 e w') (.panic [{ v := .iface 27 (.int .i64 e0), recovered := false }]) _ _
              rw [HA.out]
              exact dec_panic rfl rfl (HP.out.perm (List.perm_append_comm (l₁ := [_, _]) (l₂ := [_, _])))
          · have HA := Lib.hid (show decAns ((k : Int) :: rest) = (⟨[]⟩, 5) from dec_long HLL.out (by rw [Int.toNat_natCast]; exact HR.out.1) (by simp))
            have hln : (0 : Int) < ((x :: r).length : Int) := by rw [List.length_cons]; omega
            go_wp2_with (first | (refine wpList_ld0 rfl 22 _ rfl HP.out rfl rfl Tryd.underlying22 rfl ?_))
            (try dsimp only)
            show bodyPostD Tryd.prog Tryd.f6 (fun e w' => DecR w (decAns ((k : Int) :: rest)).1 (decAns ((k : Int) :: rest)).2 e w') (.panic [{ v := .iface 27 (.int .i64 5), recovered := false }]) _ _
            rw [HA.out]
            exact dec_panic rfl rfl (HP.out.perm (List.perm_append_comm (l₁ := [_, _]) (l₂ := [_, _])))
end Go.Proofs.YtohindaklpdeeaaDoor
