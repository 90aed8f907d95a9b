/- ref.wordsOf. -/
import Derived.Test.YtpnapnmkjpolmaaDoorNumLaw
import Derived.Test.YtpnapnmkjpolmaaDoorStrIdx
import Derived.Test.YtpnapnmkjpolmaaDoorSheetTab
import Derived.Test.YtpnapnmkjpolmaaDoorHpRow
import Derived.Test.YtpnapnmkjpolmaaDoorMgFunsInPr2
set_option linter.unusedSimpArgs false
set_option linter.unusedVariables false
namespace Go.Proofs.YtpnapnmkjpolmaaDoor
open Go.RowKit
attribute [local irreducible] wpList Code.wp Oper.wp
theorem info_str : (Tryd.prog.info? 9).map (fun i => (i.zero, i.size, i.bytes)) = some (some (.string ByteArray.empty), 1, 16) := by kernel_rfl
/-- A row of strings reads as these strings. -/
theorem Hp.rowStrs {w0 w : World} {Fs : List Fro} {L : List Res} {v : Value} {e : TypeId} {n : Nat} {cs : List Value} {xs : List ByteArray} (h : Hp w0 Fs L w) (hm : Res.row v e 1 n cs ∈ L) (hx : cs = xs.map Value.string) : Lay.rep w (Fresh w0 w) xs [v] := by
  subst hx
  have ho := h.row hm
  have hf := (h.own _ hm).2
  rcases ho.2 with ⟨rfl, hn⟩ | ⟨g, cap, cur, rfl, hb, hg, hle, hmx, hs, ht⟩
  · have hl := ho.1
    subst hn
    have : xs = [] := by cases xs; rfl; simp at hl
    subst this
    exact ⟨none, 0, rfl, Nat.le_refl _, Nat.zero_le _, fun k x hx => by simp at hx⟩
  · have hl : xs.length = n := by have := ho.1; simpa using this
    subst hl
    refine ⟨_, _, rfl, hle, hmx, fun k x hx => ⟨_, [.string x], rfl, ⟨(hf g rfl).1, (hf g rfl).2.1⟩, fun j u hu => ?_, rfl⟩⟩
    have hj : j = 0 := by have := (List.getElem?_eq_some_iff.1 hu).1; simpa using this
    subst hj
    simp at hu
    subst hu
    have := ho.cells (g := g) rfl k (.string x) (by simp [hx])
    rw [add_of_add]
    show w.cell? ((⟨g, 0, none⟩ : Addr).add (k * 1 + 0)) = _
    rwa [Nat.mul_one, Nat.add_zero]
/-- What is cut off so far. -/
structure WdP (l : List UInt8) (i fr : Nat) (ws : List (List UInt8)) : Prop where
  len : ws.length ≤ i
  bd : fr ≤ l.length + 1
  go : i ≤ l.length → fr ≤ i ∧ splitSp l = ws ++ splitSp (l.drop fr) ∧ ∀ c ∈ (l.drop fr).take (i - fr), c ≠ 32
  done : l.length < i → ws = splitSp l
theorem WdP.next {l : List UInt8} {i fr : Nat} {ws : List (List UInt8)} (h : WdP l i fr ws) (hi : i < l.length) (hc : l.getD i 0 ≠ 32) : WdP l (i + 1) fr ws := by
  obtain ⟨h1, h2, h3⟩ := h.go (by omega)
  refine ⟨by have := h.len; omega, h.bd, fun _ => ⟨by omega, h2, fun c hm => ?_⟩, fun h' => by omega⟩
  rw [show i + 1 - fr = i - fr + 1 by omega, List.take_add_one] at hm
  rcases List.mem_append.1 hm with hm | hm
  · exact h3 c hm
  · rw [List.getElem?_drop, show fr + (i - fr) = i by omega, List.getElem?_eq_getElem hi] at hm
    have hm : c = l[i] := by simpa using hm
    rw [List.getD_eq_getElem?_getD, List.getElem?_eq_getElem hi] at hc
    rw [hm]; exact hc
theorem WdP.cut {l : List UInt8} {i fr : Nat} {ws : List (List UInt8)} (h : WdP l i fr ws) (hi : i < l.length) (hc : l.getD i 0 = 32) : WdP l (i + 1) (i + 1) (ws ++ [(l.drop fr).take (i - fr)]) := by
  obtain ⟨h1, h2, h3⟩ := h.go (by omega)
  have hl := h.len
  refine ⟨by simp; omega, by omega, fun _ => ⟨by omega, ?_, by simp⟩, fun h' => by omega⟩
  have hd : l.drop fr = (l.drop fr).take (i - fr) ++ 32 :: l.drop (i + 1) := by
    conv => lhs; rw [← List.take_append_drop (i - fr) (l.drop fr)]
    rw [List.drop_drop, show fr + (i - fr) = i by omega, List.drop_eq_getElem_cons hi]
    rw [List.getD_eq_getElem?_getD, List.getElem?_eq_getElem hi] at hc
    have hc : l[i] = 32 := hc
    rw [hc]
  rw [h2, hd, splitSp_app _ _ h3, ← hd]
  simp
theorem WdP.last {l : List UInt8} {fr : Nat} {ws : List (List UInt8)} (h : WdP l l.length fr ws) : WdP l (l.length + 1) (l.length + 1) (ws ++ [(l.drop fr).take (l.length - fr)]) := by
  obtain ⟨h1, h2, h3⟩ := h.go (Nat.le_refl _)
  have hl := h.len
  refine ⟨by simp; omega, by omega, fun _ => by omega, fun _ => ?_⟩
  rw [List.take_of_length_le (by simp)] at h3 ⊢
  rw [h2, splitSp_one _ h3]
theorem wd_end {l : List UInt8} {k fr : Nat} {ws : List (List UInt8)} {wd : List UInt8} (h : WdP l k fr ws) (e : k = l.length) (hw : (l.drop fr).take (k - fr) = wd) : WdP l (k + 1) (k + 1) (ws ++ [wd]) := by
  subst e hw
  exact h.last
theorem WdP.start (l : List UInt8) : WdP l 0 0 [] := ⟨by simp, by omega, fun _ => ⟨by omega, by simp, by simp⟩, fun h => by omega⟩
set_option maxRecDepth 10000 in
set_option maxHeartbeats 1000000 in
theorem wordsOf_any (l : List UInt8) (hl : l.length ≤ 1000000) (w : World) :
    Calls Tryd.prog 24 #[.string (bstr l)] w fun e w' => ∃ v, e = .returned v ∧ Lay.rep w' (Fresh w w') ((splitSp l).map bstr) [v] ∧ Below w.heap.size w w' := by
  have hsz := bstr_size l
  obtain ⟨n, hn⟩ : ∃ n : Nat, l.length = n := ⟨_, rfl⟩
  rw [hn] at hsz hl
  have HN := Lib.hid hn
  have HP := Lib.hid ((Hp.start w).nil 9 1)
  obtain ⟨i_S, hi_S, hz_S, hs_S, hy_S⟩ := info_parts info_str
  go_enter Tryd.func24, Tryd.ntmps24
  go_upto_region 4 with fail
  clear hn
  go_loopw [3, 4, 5] (fun v f i wr => ∃ (k fr : Nat) (ws : List (List UInt8)) (A : Option Addr) (c : Nat), k ≤ n + 1 ∧ v = .slice A ws.length c ∧ f = .int .i64 fr ∧ i = .int .i64 k ∧ Hid (WdP l k fr ws) ∧ Hid (Hp w [⟨w, Lt w.heap.size⟩] [.row (.slice A ws.length c) 9 1 ws.length ((ws.map bstr).map Value.string)] wr)) (fun _ _ i _ => n + 1 - (intOf i).toNat)
  case atStart => exact ⟨0, 0, [], none, 0, by omega, rfl, rfl, rfl, Lib.hid (WdP.start l), HP⟩
  case round =>
    clear HP
    obtain ⟨k, fr, ws, A, c, hk, rfl, rfl, rfl, HW, HP⟩ := hrel
    by_cases hlt : n < k
    · have hg1 : decide (k ≤ n) = false := decide_eq_false (by omega)
      have hg1' : decide ((k : Int) ≤ (n : Int)) = false := decide_eq_false (by omega)
      have HD := Lib.hid (HW.out.done (by rw [HN.out]; exact hlt))
      clear hlt hk
      go_wp2
      (try simp only [Exit.inBlock, Exit.then])
      refine bodyPost_ret (results_tmp (by rfl) _ _ _) (by rfl) ?_
      exact ⟨_, rfl, by rw [← HD.out]; exact Hp.rowStrs HP.out (.head _) rfl, HP.out.below⟩
    · have hg1 : decide (k ≤ n) = true := decide_eq_true (by omega)
      have hg1' : decide ((k : Int) ≤ (n : Int)) = true := decide_eq_true (by omega)
      have hwl := HW.out.len
      have HKN := Lib.hid (show k + 1 ≤ n + 1 by omega)
      have HWR := Lib.hid (show wrap64 ((k : Int) + 1) = ((k + 1 : Nat) : Int) by unfold wrap64; omega)
      obtain ⟨wd, hwd⟩ : ∃ wd, (l.drop fr).take (k - fr) = wd := ⟨_, rfl⟩
      have HWD := Lib.hid hwd
      have hfr := (HW.out.go (by rw [HN.out]; omega)).1
      by_cases he : k = n
      · have hg2 : ((k : Int) == (n : Int)) = true := beq_iff_eq.2 (by omega)
        have HE := Lib.hid he
        have hkl : k ≤ l.length := by rw [HN.out]; omega
        clear hwd he hlt
        go_wp2_with (first | (refine wpList_ssl rfl _ _ _ rfl l rfl fr k (.inr ⟨_, rfl, rfl⟩) (.inr ⟨_, rfl, rfl⟩) hfr hkl ?_; rw [HWD.out]) | (refine wpList_slice_hp rfl 55 9 1 _ rfl HP.out Tryd.underlying55 #[.string (bstr wd)] (by kernel_rfl) ?_; clear HP; intro gi wi HP; replace HP := Lib.hid HP) | (at_builtin; refine wpList_app0 rfl _ _ 55 rfl i_S (.string ByteArray.empty) Tryd.underlying55 hi_S hz_S hs_S rfl (by decide) hy_S (ws.length + 1) rfl HP.out rfl rfl rfl (by simp [Value.oneCell']) (by unfold maxLen; omega) (by omega) ?_; clear HP; intro A' c' wap HP; replace HP := Lib.hid HP))
        (try go_roundw)
        case rel =>
          refine ⟨k + 1, k + 1, ws ++ [wd], A', c', HKN.out, by rw [List.length_append]; rfl, rfl, rfl, Lib.hid ?_, Lib.hid (by simpa using HP.out)⟩
          exact wd_end HW.out (HE.out.trans HN.out.symm) HWD.out
        case measure =>
          have := HKN.out
          simp only [intOf]
          omega
      · have hg2 : ((k : Int) == (n : Int)) = false := beq_eq_false_iff_ne.2 (by omega)
        have hkl : k < l.length := by rw [HN.out]; omega
        have hkl2 : (k : Int) < (l.length : Int) := by omega
        have hkl3 : k ≤ l.length := by omega
        obtain ⟨c, hc⟩ : ∃ c, l[k]?.getD 0 = c := ⟨_, rfl⟩
        have hcD : l.getD k 0 = c := by rw [List.getD_eq_getElem?_getD]; exact hc
        have HC := Lib.hid hcD
        by_cases h32 : c = 32
        · have hb : ((c.toNat : Int) == 32) = true := by subst h32; rfl
          have HWN := Lib.hid (HW.out.cut hkl (by rw [HC.out, h32]))
          clear hwd he hlt hcD h32 hkl
          go_wp2_with (first | (refine wpList_sidx_w rfl _ _ rfl l rfl (k : Int) rfl (by omega) hkl2 ?_) | (refine wpList_ssl rfl _ _ _ rfl l rfl fr k (.inr ⟨_, rfl, rfl⟩) (.inr ⟨_, rfl, rfl⟩) hfr hkl3 ?_; rw [HWD.out]) | (refine wpList_slice_hp rfl 55 9 1 _ rfl HP.out Tryd.underlying55 #[.string (bstr wd)] (by kernel_rfl) ?_; clear HP; intro gi wi HP; replace HP := Lib.hid HP) | (at_builtin; refine wpList_app0 rfl _ _ 55 rfl i_S (.string ByteArray.empty) Tryd.underlying55 hi_S hz_S hs_S rfl (by decide) hy_S (ws.length + 1) rfl HP.out rfl rfl rfl (by simp [Value.oneCell']) (by unfold maxLen; omega) (by omega) ?_; clear HP; intro A' c' wap HP; replace HP := Lib.hid HP))
          (try go_roundw)
          case rel =>
            refine ⟨k + 1, k + 1, ws ++ [wd], A', c', HKN.out, by rw [List.length_append]; rfl, rfl, rfl, Lib.hid ?_, Lib.hid (by simpa using HP.out)⟩
            rw [← HWD.out]; exact HWN.out
          case measure =>
            have := HKN.out
            simp only [intOf]
            omega
        · have hb : ((c.toNat : Int) == 32) = false := by
            refine beq_eq_false_iff_ne.2 fun e => h32 (UInt8.toNat_inj.1 ?_)
            show c.toNat = 32
            omega
          have HWN := Lib.hid (HW.out.next hkl (by rw [HC.out]; exact h32))
          clear hwd he hlt hcD h32 hkl
          go_wp2_with (first | (refine wpList_sidx_w rfl _ _ rfl l rfl (k : Int) rfl (by omega) hkl2 ?_))
          (try go_roundw)
          case rel => exact ⟨k + 1, fr, ws, A, _, HKN.out, rfl, rfl, rfl, HWN, HP⟩
          case measure =>
            have := HKN.out
            simp only [intOf]
            omega
end Go.Proofs.YtpnapnmkjpolmaaDoor
