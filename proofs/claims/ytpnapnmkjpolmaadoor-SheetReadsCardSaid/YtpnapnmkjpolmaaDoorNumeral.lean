/- ref.numeral, ref.registerOf. -/
import Derived.Test.YtpnapnmkjpolmaaDoorSheetC
import Derived.Test.YtpnapnmkjpolmaaDoorNumLaw
import Derived.Test.YtpnapnmkjpolmaaDoorStrIdx
set_option linter.unusedSimpArgs false
set_option linter.unusedVariables false
namespace Go.Proofs.YtpnapnmkjpolmaaDoor
open Go.RowKit
attribute [local irreducible] wpList Code.wp Oper.wp
theorem numAns_nil : numAns [] = (0, false) := rfl
theorem numS_drop (l : List UInt8) : numS l = l.drop (if decide (l.head? = some 45) = true then 1 else 0) := by
  unfold numS
  by_cases h : l.head? = some 45
  · rw [if_pos h, if_pos (decide_eq_true h), List.drop_one]
  · rw [if_neg h, if_neg (by simpa using h), List.drop_zero]
set_option maxRecDepth 10000 in
set_option maxHeartbeats 1000000 in
theorem numeral_any (l : List UInt8) (hl : l.length ≤ 1000000) (w : World) :
    Calls Tryd.prog 25 #[.string (bstr l)] w fun e w' => e = .returned (.tuple #[.int .i64 (numAns l).1, .bool (numAns l).2]) ∧ Below w.heap.size w w' := by
  have hsz := bstr_size l
  obtain ⟨n, hn⟩ : ∃ n : Nat, l.length = n := ⟨_, rfl⟩
  rw [hn] at hsz hl
  go_enter Tryd.func25, Tryd.ntmps25
  by_cases hn0 : n = 0
  · subst hn0
    have HN := Lib.hid hn
    go_wp2
    (try simp only [Exit.inBlock, Exit.then])
    refine bodyPost_ret (results_tmp2 (by rfl) _ _ _) (by rfl) ?_
    obtain rfl : l = [] := List.eq_nil_of_length_eq_zero HN.out
    exact ⟨rfl, Below.refl _ _⟩
  · have h0 : decide (0 < n) = true := decide_eq_true (by omega)
    have HN := Lib.hid hn
    obtain ⟨m, hm⟩ : ∃ m : Bool, decide (l.head? = some 45) = m := ⟨_, rfl⟩
    have hb : ((((l[0]?.getD 0).toNat : Nat) : Int) == 45) = m := by
      rw [← hm]
      cases l with
      | nil => exact absurd hn.symm hn0
      | cons c r =>
        simp only [List.getElem?_cons_zero, Option.getD_some, List.head?_cons, Option.some.injEq]
        by_cases hc : c = 45
        · subst hc; rfl
        · have : c.toNat ≠ 45 := fun e => hc (UInt8.toNat_inj.1 (by rw [e]; rfl))
          rw [decide_eq_false hc]
          exact beq_eq_false_iff_ne.2 (by omega)
    have HM := Lib.hid hm
    clear hm
    obtain ⟨f, hf⟩ : ∃ f : Nat, (if m = true then 1 else 0) = f := ⟨_, rfl⟩
    have HS := Lib.hid (show numS l = l.drop f by rw [numS_drop, HM.out, hf])
    have HF := Lib.hid hf
    clear hf hn
    cases m with
    | false =>
      go_upto_region 6 with (first | (refine wpList_sidx_w rfl _ _ rfl l rfl 0 rfl (by omega) (by rw [HN.out]; omega) ?_))
      have hfF : f = 0 := HF.out.symm
      subst hfF
      by_cases hd : n = 0
      · have hg1 : ((n : Int) == 0) = true := beq_iff_eq.2 (by omega)
        go_wp2
        (try simp only [Exit.inBlock, Exit.then])
        refine bodyPost_ret (results_tmp2 (by rfl) _ _ _) (by rfl) ?_
        have he : numAns l = (0, false) := by
          unfold numAns
          rw [if_pos (.inl (by rw [HS.out]; exact List.drop_eq_nil_of_le (by rw [HN.out]; omega)))]
        exact ⟨by rw [he]; rfl, Below.refl _ _⟩
      have hg1 : ((n : Int) == 0) = false := beq_eq_false_iff_ne.2 (by omega)
      by_cases h20 : 20 < n
      · have hg2 : decide (20 < n) = true := decide_eq_true h20
        have hg3 : decide ((20 : Int) < (n : Int)) = true := decide_eq_true (by omega)
        go_wp2
        (try simp only [Exit.inBlock, Exit.then])
        refine bodyPost_ret (results_tmp2 (by rfl) _ _ _) (by rfl) ?_
        have he : numAns l = (0, false) := by
          unfold numAns
          rw [if_pos (.inr (.inl (by rw [HN.out]; exact h20)))]
        exact ⟨by rw [he]; rfl, Below.refl _ _⟩
      have hg2 : decide (20 < n) = false := decide_eq_false h20
      have hg3 : decide ((20 : Int) < (n : Int)) = false := decide_eq_false (by omega)
      go_upto_region 9 with fail
      clear hb hg1 hg2 hg3 h0
      obtain ⟨d, hdd⟩ : ∃ d, l.drop 0 = d := ⟨_, rfl⟩
      have HD := Lib.hid hdd
      have hdl : d.length = n - 0 := by rw [← hdd, List.length_drop, HN.out]
      clear hdd
      go_loopw [4, 7] (fun v i wr => wr = w ∧ ∃ k j : Nat, j = k + 0 ∧ k ≤ d.length ∧ Hid (∀ c ∈ d.take k, isDig c) ∧ v = .int .i64 (numN (d.take k)) ∧ i = .int .i64 (j : Int)) (fun _ i _ => n - (intOf i).toNat)
      case atStart => exact ⟨rfl, 0, 0, by omega, by omega, Lib.hid (by simp), rfl, rfl⟩
      case round =>
        obtain ⟨rfl, k, j, hj, hk, HA, rfl, rfl⟩ := hrel
        by_cases hlt : k < d.length
        · obtain ⟨c, hc⟩ : ∃ c, d[k] = c := ⟨_, rfl⟩
          have hdk : d[k]? = some c := by rw [List.getElem?_eq_getElem hlt, hc]
          have hlj : l[j]?.getD 0 = c := by
            rw [← HD.out, List.getElem?_drop, show 0 + k = j by omega] at hdk
            rw [hdk]; rfl
          have HT := Lib.hid (show d.take (k + 1) = d.take k ++ [c] by rw [List.take_add_one, hdk]; rfl)
          have hg1 : decide (j < n) = true := decide_eq_true (by omega)
          have hjl : (j : Int) < (l.length : Int) := by rw [HN.out]; omega
          have hjn : j < n := by omega
          have HJ := Lib.hid hj
          have HK := Lib.hid hlt
          have HC := Lib.hid (show c ∈ d by rw [← hc]; exact List.getElem_mem hlt)
          clear hc hdk hj hlt hk
          obtain ⟨v, hv⟩ : ∃ v, numN (d.take k) = v := ⟨_, rfl⟩
          have HV := Lib.hid hv
          rw [hv]
          clear hv
          by_cases hdig : isDig c
          · obtain ⟨hd1, hd2⟩ := id hdig
            have HDG := Lib.hid hdig
            have hg2 : decide (c.toNat < 48) = false := decide_eq_false (by omega)
            have hg3 : decide (57 < c.toNat) = false := decide_eq_false (by omega)
            have hg2' : decide ((c.toNat : Int) < 48) = false := decide_eq_false (by omega)
            have hg3' : decide ((57 : Int) < (c.toNat : Int)) = false := decide_eq_false (by omega)
            have hw8 : IntKind.u8.wrap ((c.toNat : Int) - 48) = (c.toNat : Int) - 48 := by simp [IntKind.wrap, IntKind.bits, IntKind.signed]; omega
            have HWJ := Lib.hid (show wrap64 ((j : Int) + 1) = ((j + 1 : Nat) : Int) by unfold wrap64; omega)
            have HNV := Lib.hid (show numN (d.take (k + 1)) = wrap64 (wrap64 (10 * v) - ((c.toNat : Int) - 48)) by rw [HT.out, numN_snoc, HV.out])
            have HA2 := Lib.hid (show ∀ x ∈ d.take (k + 1), isDig x by
              rw [HT.out]; intro x hx
              rcases List.mem_append.1 hx with hx | hx
              · exact HA.out x hx
              · obtain rfl := List.mem_singleton.1 hx; exact HDG.out)
            go_wp2_with (first | (refine wpList_sidx rfl _ _ rfl l rfl (j : Int) rfl (by omega) hjl ?_) | (refine wpList_sidx_w rfl _ _ rfl l rfl (j : Int) rfl (by omega) hjl ?_))
            (try go_roundw)
            case rel =>
              refine ⟨by trivial, k + 1, j + 1, by have := HJ.out; omega, HK.out, HA2, ?_, ?_⟩
              · rw [HNV.out]
              · rfl
            case measure =>
              simp only [intOf]
              omega
          · have he : numAns l = (0, false) := by
              unfold numAns
              rw [if_pos (.inr (.inr (by rw [HS.out, HD.out]; exact fun h => hdig (h c HC.out))))]
            have HE := Lib.hid he
            clear he
            by_cases h48 : c.toNat < 48
            · have hg2 : decide (c.toNat < 48) = true := decide_eq_true h48
              have hg2' : decide ((c.toNat : Int) < 48) = true := decide_eq_true (by omega)
              clear hdig h48
              go_wp2_with (first | (refine wpList_sidx rfl _ _ rfl l rfl (j : Int) rfl (by omega) hjl ?_) | (refine wpList_sidx_w rfl _ _ rfl l rfl (j : Int) rfl (by omega) hjl ?_))
              (try simp only [Exit.inBlock, Exit.then])
              refine bodyPost_ret (results_tmp2 (by rfl) _ _ _) (by rfl) ?_
              exact ⟨by rw [HE.out]; rfl, Below.refl _ _⟩
            · have h57 : 57 < c.toNat := by unfold isDig at hdig; omega
              have hg2 : decide (c.toNat < 48) = false := decide_eq_false (by omega)
              have hg3 : decide (57 < c.toNat) = true := decide_eq_true (by omega)
              have hg2' : decide ((c.toNat : Int) < 48) = false := decide_eq_false (by omega)
              have hg3' : decide ((57 : Int) < (c.toNat : Int)) = true := decide_eq_true (by omega)
              clear hdig h48 h57
              go_wp2_with (first | (refine wpList_sidx rfl _ _ rfl l rfl (j : Int) rfl (by omega) hjl ?_) | (refine wpList_sidx_w rfl _ _ rfl l rfl (j : Int) rfl (by omega) hjl ?_))
              (try simp only [Exit.inBlock, Exit.then])
              refine bodyPost_ret (results_tmp2 (by rfl) _ _ _) (by rfl) ?_
              exact ⟨by rw [HE.out]; rfl, Below.refl _ _⟩
        · have hg1 : decide (j < n) = false := decide_eq_false (by omega)
          have hkd : d.take k = d := List.take_of_length_le (by omega)
          obtain ⟨v, hv⟩ : ∃ v, numN (d.take k) = v := ⟨_, rfl⟩
          have HVR := Lib.hid (show -9223372036854775808 ≤ wrap64 (-v) ∧ wrap64 (-v) ≤ 9223372036854775807 from Plain64.wrap64_range _)
          obtain ⟨q, hq⟩ : ∃ q : Bool, ((bstr (Lib.itoa (wrap64 (-v)))).toList == (bstr l).toList) = q := ⟨_, rfl⟩
          have he : numAns l = (wrap64 (-v), q) := by
            unfold numAns
            rw [if_neg]
            · have hV : numV l = wrap64 (-v) := by
                unfold numV
                rw [HS.out, HD.out, ← hv, hkd]
                have := HM.out
                rw [if_neg (by simpa using this)]
              rw [hV, ← hq, bstr_toList, bstr_toList]
              exact Prod.ext rfl (Bool.eq_iff_iff.2 (by simp))
            · rintro (h | h | h)
              · rw [HS.out, HD.out] at h
                rw [h] at hdl
                simp only [List.length_nil] at hdl
                omega
              · rw [HN.out] at h
                omega
              · rw [HS.out, HD.out] at h
                rw [hkd] at HA
                exact h HA.out
          have HE := Lib.hid he
          have HJ := Lib.hid hj
          rw [hv]
          clear he hj hlt hk hv hkd
          go_wp2_with (first | (go_at_call 17; refine (Dec_any _ HVR.out _).mono ?_; rintro e w2 ⟨rfl, hb⟩; have HB := Lib.hid hb; clear hb))
          (try simp only [Exit.inBlock, Exit.then])
          refine bodyPost_ret (results_tmp2 (by rfl) _ _ _) (by rfl) ?_
          exact ⟨by rw [HE.out]; rfl, HB.out⟩
    | true =>
      go_upto_region 6 with (first | (refine wpList_sidx_w rfl _ _ rfl l rfl 0 rfl (by omega) (by rw [HN.out]; omega) ?_))
      have hfF : f = 1 := HF.out.symm
      subst hfF
      by_cases hd : n = 1
      · have hg1 : ((n : Int) == 1) = true := beq_iff_eq.2 (by omega)
        go_wp2
        (try simp only [Exit.inBlock, Exit.then])
        refine bodyPost_ret (results_tmp2 (by rfl) _ _ _) (by rfl) ?_
        have he : numAns l = (0, false) := by
          unfold numAns
          rw [if_pos (.inl (by rw [HS.out]; exact List.drop_eq_nil_of_le (by rw [HN.out]; omega)))]
        exact ⟨by rw [he]; rfl, Below.refl _ _⟩
      have hg1 : ((n : Int) == 1) = false := beq_eq_false_iff_ne.2 (by omega)
      by_cases h20 : 20 < n
      · have hg2 : decide (20 < n) = true := decide_eq_true h20
        have hg3 : decide ((20 : Int) < (n : Int)) = true := decide_eq_true (by omega)
        go_wp2
        (try simp only [Exit.inBlock, Exit.then])
        refine bodyPost_ret (results_tmp2 (by rfl) _ _ _) (by rfl) ?_
        have he : numAns l = (0, false) := by
          unfold numAns
          rw [if_pos (.inr (.inl (by rw [HN.out]; exact h20)))]
        exact ⟨by rw [he]; rfl, Below.refl _ _⟩
      have hg2 : decide (20 < n) = false := decide_eq_false h20
      have hg3 : decide ((20 : Int) < (n : Int)) = false := decide_eq_false (by omega)
      go_upto_region 9 with fail
      clear hb hg1 hg2 hg3 h0
      obtain ⟨d, hdd⟩ : ∃ d, l.drop 1 = d := ⟨_, rfl⟩
      have HD := Lib.hid hdd
      have hdl : d.length = n - 1 := by rw [← hdd, List.length_drop, HN.out]
      clear hdd
      go_loopw [4, 7] (fun v i wr => wr = w ∧ ∃ k j : Nat, j = k + 1 ∧ k ≤ d.length ∧ Hid (∀ c ∈ d.take k, isDig c) ∧ v = .int .i64 (numN (d.take k)) ∧ i = .int .i64 (j : Int)) (fun _ i _ => n - (intOf i).toNat)
      case atStart => exact ⟨rfl, 0, 1, by omega, by omega, Lib.hid (by simp), rfl, rfl⟩
      case round =>
        obtain ⟨rfl, k, j, hj, hk, HA, rfl, rfl⟩ := hrel
        by_cases hlt : k < d.length
        · obtain ⟨c, hc⟩ : ∃ c, d[k] = c := ⟨_, rfl⟩
          have hdk : d[k]? = some c := by rw [List.getElem?_eq_getElem hlt, hc]
          have hlj : l[j]?.getD 0 = c := by
            rw [← HD.out, List.getElem?_drop, show 1 + k = j by omega] at hdk
            rw [hdk]; rfl
          have HT := Lib.hid (show d.take (k + 1) = d.take k ++ [c] by rw [List.take_add_one, hdk]; rfl)
          have hg1 : decide (j < n) = true := decide_eq_true (by omega)
          have hjl : (j : Int) < (l.length : Int) := by rw [HN.out]; omega
          have hjn : j < n := by omega
          have HJ := Lib.hid hj
          have HK := Lib.hid hlt
          have HC := Lib.hid (show c ∈ d by rw [← hc]; exact List.getElem_mem hlt)
          clear hc hdk hj hlt hk
          obtain ⟨v, hv⟩ : ∃ v, numN (d.take k) = v := ⟨_, rfl⟩
          have HV := Lib.hid hv
          rw [hv]
          clear hv
          by_cases hdig : isDig c
          · obtain ⟨hd1, hd2⟩ := id hdig
            have HDG := Lib.hid hdig
            have hg2 : decide (c.toNat < 48) = false := decide_eq_false (by omega)
            have hg3 : decide (57 < c.toNat) = false := decide_eq_false (by omega)
            have hg2' : decide ((c.toNat : Int) < 48) = false := decide_eq_false (by omega)
            have hg3' : decide ((57 : Int) < (c.toNat : Int)) = false := decide_eq_false (by omega)
            have hw8 : IntKind.u8.wrap ((c.toNat : Int) - 48) = (c.toNat : Int) - 48 := by simp [IntKind.wrap, IntKind.bits, IntKind.signed]; omega
            have HWJ := Lib.hid (show wrap64 ((j : Int) + 1) = ((j + 1 : Nat) : Int) by unfold wrap64; omega)
            have HNV := Lib.hid (show numN (d.take (k + 1)) = wrap64 (wrap64 (10 * v) - ((c.toNat : Int) - 48)) by rw [HT.out, numN_snoc, HV.out])
            have HA2 := Lib.hid (show ∀ x ∈ d.take (k + 1), isDig x by
              rw [HT.out]; intro x hx
              rcases List.mem_append.1 hx with hx | hx
              · exact HA.out x hx
              · obtain rfl := List.mem_singleton.1 hx; exact HDG.out)
            go_wp2_with (first | (refine wpList_sidx rfl _ _ rfl l rfl (j : Int) rfl (by omega) hjl ?_) | (refine wpList_sidx_w rfl _ _ rfl l rfl (j : Int) rfl (by omega) hjl ?_))
            (try go_roundw)
            case rel =>
              refine ⟨by trivial, k + 1, j + 1, by have := HJ.out; omega, HK.out, HA2, ?_, ?_⟩
              · rw [HNV.out]
              · rfl
            case measure =>
              simp only [intOf]
              omega
          · have he : numAns l = (0, false) := by
              unfold numAns
              rw [if_pos (.inr (.inr (by rw [HS.out, HD.out]; exact fun h => hdig (h c HC.out))))]
            have HE := Lib.hid he
            clear he
            by_cases h48 : c.toNat < 48
            · have hg2 : decide (c.toNat < 48) = true := decide_eq_true h48
              have hg2' : decide ((c.toNat : Int) < 48) = true := decide_eq_true (by omega)
              clear hdig h48
              go_wp2_with (first | (refine wpList_sidx rfl _ _ rfl l rfl (j : Int) rfl (by omega) hjl ?_) | (refine wpList_sidx_w rfl _ _ rfl l rfl (j : Int) rfl (by omega) hjl ?_))
              (try simp only [Exit.inBlock, Exit.then])
              refine bodyPost_ret (results_tmp2 (by rfl) _ _ _) (by rfl) ?_
              exact ⟨by rw [HE.out]; rfl, Below.refl _ _⟩
            · have h57 : 57 < c.toNat := by unfold isDig at hdig; omega
              have hg2 : decide (c.toNat < 48) = false := decide_eq_false (by omega)
              have hg3 : decide (57 < c.toNat) = true := decide_eq_true (by omega)
              have hg2' : decide ((c.toNat : Int) < 48) = false := decide_eq_false (by omega)
              have hg3' : decide ((57 : Int) < (c.toNat : Int)) = true := decide_eq_true (by omega)
              clear hdig h48 h57
              go_wp2_with (first | (refine wpList_sidx rfl _ _ rfl l rfl (j : Int) rfl (by omega) hjl ?_) | (refine wpList_sidx_w rfl _ _ rfl l rfl (j : Int) rfl (by omega) hjl ?_))
              (try simp only [Exit.inBlock, Exit.then])
              refine bodyPost_ret (results_tmp2 (by rfl) _ _ _) (by rfl) ?_
              exact ⟨by rw [HE.out]; rfl, Below.refl _ _⟩
        · have hg1 : decide (j < n) = false := decide_eq_false (by omega)
          have hkd : d.take k = d := List.take_of_length_le (by omega)
          obtain ⟨v, hv⟩ : ∃ v, numN (d.take k) = v := ⟨_, rfl⟩
          have HVR := Lib.hid (show -9223372036854775808 ≤ v ∧ v ≤ 9223372036854775807 from (hv ▸ numN_range _))
          obtain ⟨q, hq⟩ : ∃ q : Bool, ((bstr (Lib.itoa (v))).toList == (bstr l).toList) = q := ⟨_, rfl⟩
          have he : numAns l = (v, q) := by
            unfold numAns
            rw [if_neg]
            · have hV : numV l = v := by
                unfold numV
                rw [HS.out, HD.out, ← hv, hkd]
                have := HM.out
                rw [if_pos (by simpa using this)]
              rw [hV, ← hq, bstr_toList, bstr_toList]
              exact Prod.ext rfl (Bool.eq_iff_iff.2 (by simp))
            · rintro (h | h | h)
              · rw [HS.out, HD.out] at h
                rw [h] at hdl
                simp only [List.length_nil] at hdl
                omega
              · rw [HN.out] at h
                omega
              · rw [HS.out, HD.out] at h
                rw [hkd] at HA
                exact h HA.out
          have HE := Lib.hid he
          have HJ := Lib.hid hj
          rw [hv]
          clear he hj hlt hk hv hkd
          go_wp2_with (first | (go_at_call 17; refine (Dec_any _ HVR.out _).mono ?_; rintro e w2 ⟨rfl, hb⟩; have HB := Lib.hid hb; clear hb))
          (try simp only [Exit.inBlock, Exit.then])
          refine bodyPost_ret (results_tmp2 (by rfl) _ _ _) (by rfl) ?_
          exact ⟨by rw [HE.out]; rfl, HB.out⟩
set_option maxRecDepth 10000 in
set_option maxHeartbeats 1000000 in
theorem registerOf_any (l : List UInt8) (hl : l.length ≤ 1000000) (w : World) :
    Calls Tryd.prog 48 #[.string (bstr l)] w fun e w' => e = .returned (.tuple #[.int .i64 (regAns l).1, .bool (regAns l).2]) ∧ Below w.heap.size w w' := by
  have hsz := bstr_size l
  obtain ⟨n, hn⟩ : ∃ n : Nat, l.length = n := ⟨_, rfl⟩
  rw [hn] at hsz hl
  have HN := Lib.hid hn
  go_enter Tryd.func48, Tryd.ntmps48
  by_cases h2 : n < 2
  · have hg1 : decide (n < 2) = true := decide_eq_true h2
    have hg2 : decide ((n : Int) < 2) = true := decide_eq_true (by omega)
    have HE := Lib.hid (show regAns l = (0, false) by unfold regAns; rw [if_pos (.inl (by omega))])
    clear hn
    go_wp2
    (try simp only [Exit.inBlock, Exit.then])
    refine bodyPost_ret (results_tmp2 (by rfl) _ _ _) (by rfl) ?_
    exact ⟨by rw [HE.out]; rfl, Below.refl _ _⟩
  · have hg1 : decide (n < 2) = false := decide_eq_false h2
    have hg2 : decide ((n : Int) < 2) = false := decide_eq_false (by omega)
    obtain ⟨m, hm⟩ : ∃ m : Bool, decide (l.head? ≠ some 114) = m := ⟨_, rfl⟩
    have hb : ((((l[0]?.getD 0).toNat : Nat) : Int) != 114) = m := by
      rw [← hm]
      cases l with
      | nil => exact absurd hn (by simp; omega)
      | cons c r =>
        simp only [List.getElem?_cons_zero, Option.getD_some, List.head?_cons, ne_eq, Option.some.injEq]
        by_cases hc : c = 114
        · subst hc; rfl
        · have : c.toNat ≠ 114 := fun e => hc (UInt8.toNat_inj.1 (by rw [e]; rfl))
          rw [decide_eq_true hc]
          exact bne_iff_ne.2 (by omega)
    have hl0 : (0 : Int) < (l.length : Int) := by omega
    have hl1 : 1 ≤ n := by omega
    have hl2 : n ≤ l.length := by omega
    have HM := Lib.hid hm
    clear hm
    cases m with
    | true =>
      have HE := Lib.hid (show regAns l = (0, false) by unfold regAns; rw [if_pos (.inr (of_decide_eq_true HM.out))])
      clear hn h2
      go_wp2_with (first | (refine wpList_sidx_w rfl _ _ rfl l rfl 0 rfl (by omega) hl0 ?_))
      (try simp only [Exit.inBlock, Exit.then])
      refine bodyPost_ret (results_tmp2 (by rfl) _ _ _) (by rfl) ?_
      exact ⟨by rw [HE.out]; rfl, Below.refl _ _⟩
    | false =>
      have HE := Lib.hid (show regAns l = numAns l.tail by unfold regAns; rw [if_neg (fun h => h.elim (by omega) (of_decide_eq_false HM.out))])
      have HL := Lib.hid (show ((l.drop 1).take (n - 1)) = l.tail by rw [List.take_of_length_le (by rw [List.length_drop]; omega), List.drop_one])
      have htl : l.tail.length ≤ 1000000 := by rw [List.length_tail]; omega
      clear hn h2
      go_wp2_with (first | (refine wpList_sidx_w rfl _ _ rfl l rfl 0 rfl (by omega) hl0 ?_) | (refine wpList_ssl rfl _ _ _ rfl l rfl 1 n (.inr ⟨_, rfl, rfl⟩) (.inl ⟨rfl, HN.out.symm⟩) hl1 hl2 ?_; rw [HL.out]) | (go_at_call 25; refine (numeral_any l.tail htl _).mono ?_; rintro e w2 ⟨rfl, hb⟩; have HB := Lib.hid hb; clear hb))
      (try simp only [Exit.inBlock, Exit.then])
      refine bodyPost_ret (results_tmp2 (by rfl) _ _ _) (by rfl) ?_
      exact ⟨by rw [HE.out]; rfl, HB.out⟩

end Go.Proofs.YtpnapnmkjpolmaaDoor
