/- ref.Dec, ref.instrLine. -/
import Derived.Test.YtpnapnmkjpolmaaDoorBuild
import Derived.Test.YtpnapnmkjpolmaaDoorCat
set_option linter.unusedSimpArgs false
set_option linter.unusedVariables false
namespace Go.Proofs.YtpnapnmkjpolmaaDoor
open Go.RowKit
attribute [local irreducible] wpList Code.wp Oper.wp
theorem tmod_neg (u : Nat) : Int.tmod (-(u : Int)) 10 = -((u % 10 : Nat) : Int) := by
  rw [Int.neg_tmod]; rfl
theorem tdiv_neg (u : Nat) : Int.tdiv (-(u : Int)) 10 = -((u / 10 : Nat) : Int) := by
  rw [Int.neg_tdiv]; rfl
set_option maxRecDepth 10000 in
set_option maxHeartbeats 1000000 in
theorem digitsOf_any (u : Nat) (hu : u ≤ 9223372036854775808) (w : World) :
    Calls Tryd.prog 36 #[.int .i64 (-(u : Int))] w fun e w' => e = .returned (.string (bstr (Lib.decDigits u))) ∧ Below w.heap.size w w' := by
  induction u using Nat.strongRecOn generalizing w with
  | _ u ih =>
  have HIH := Lib.hid ih
  clear ih
  have hrem := tmod_neg u
  have hquo := tdiv_neg u
  have HP := Lib.hid (Hp.start w)
  go_enter Tryd.func36, Tryd.ntmps36
  go_upto_region 1 with fail
  obtain ⟨d, hd0⟩ : ∃ d : UInt8, UInt8.ofNat (48 + u % 10) = d := ⟨_, rfl⟩
  have hd : (d.toNat : Int) = 48 + (u : Int) % 10 := by
    rw [← hd0]
    have : (UInt8.ofNat (48 + u % 10)).toNat = 48 + u % 10 := by rw [UInt8.toNat_ofNat']; omega
    omega
  have hbel : ∀ t, Below w.heap.size w (w.alloc (.cells #[.int .u8 (48 + (u : Int) % 10)] t)) := fun t => (Below.refl _ _).alloc (Nat.le_refl _) _
  have hcell : ∀ t (j : Nat) (hj : j < [d].length), (w.alloc (.cells #[.int .u8 (48 + (u : Int) % 10)] t)).cell? ((⟨w.heap.size, 0, none⟩ : Addr).add j) = some (.int .u8 ([d][j].toNat : Int)) := fun t j hj => by
    obtain rfl : j = 0 := by simpa using hj
    have := (Blk.new w t #[.int .u8 (48 + (u : Int) % 10)]).cell 0
    rw [show ((⟨w.heap.size, 0, none⟩ : Addr).add 0) = ⟨w.heap.size, 0, none⟩ from rfl, this]
    show some (Value.int IntKind.u8 _) = some (Value.int IntKind.u8 (d.toNat : Int))
    rw [hd]
  have HCE := Lib.hid hcell
  have HBE := Lib.hid hbel
  have HD := Lib.hid hd0
  clear hcell hbel hd0 hd
  by_cases hs : u < 10
  · have hg : decide ((-10 : Int) < -(u : Int)) = true := decide_eq_true (by omega)
    have HE := Lib.hid (show Lib.decDigits u = [d] by rw [Lib.decDigits, dif_pos hs, ← HD.out, Nat.mod_eq_of_lt hs])
    clear HP
    go_wp2_with (first | (refine wpList_back rfl _ rfl ⟨w.heap.size, 0, none⟩ _ _ [d] rfl rfl (HCE.out _) ?_))
    (try simp only [Exit.inBlock, Exit.then])
    refine bodyPost_ret (results_tmp (by rfl) _ _ _) (by rfl) ?_
    exact ⟨by rw [HE.out]; rfl, HBE.out _⟩
  · have hg : decide ((-10 : Int) < -(u : Int)) = false := decide_eq_false (by omega)
    have HE := Lib.hid (show Lib.decDigits u = Lib.decDigits (u / 10) ++ [d] by rw [Lib.decDigits, dif_neg hs, ← HD.out])
    have hlen : (Lib.decDigits (u / 10)).length ≤ 20 := by rw [Lib.decDigits_length]; exact Lib.nDigits_le20 _ (by omega)
    obtain ⟨dl, hdl⟩ : ∃ dl, Lib.decDigits (u / 10) = dl := ⟨_, rfl⟩
    rw [hdl] at HE hlen
    have HIH2 := Lib.hid (show ∀ (i : Int), i = -((u / 10 : Nat) : Int) → ∀ w, Calls Tryd.prog 36 #[.int .i64 i] w fun e w' => e = .returned (.string (bstr dl)) ∧ Below w.heap.size w w' from fun i hi w1 => by rw [← hdl, hi]; exact HIH.out (u / 10) (by omega) (by omega) w1)
    clear HIH HP hdl
    go_wp2_with (first | (refine wpList_back rfl _ rfl ⟨w.heap.size, 0, none⟩ _ _ [d] rfl rfl (HCE.out _) ?_) | (go_at_call 36; refine (HIH2.out _ (by omega) _).mono ?_; rintro e w2 ⟨rfl, hb⟩; have HB := Lib.hid hb; clear hb) | (refine wpList_cat rfl _ _ rfl dl [d] rfl rfl (by simp; omega) ?_))
    (try simp only [Exit.inBlock, Exit.then])
    refine bodyPost_ret (results_tmp (by rfl) _ _ _) (by rfl) ?_
    refine ⟨by rw [HE.out]; rfl, ?_⟩
    exact below_alloc_new (Below.refl _ w) (Nat.le_refl _) _ (by simpa using HB.out)
set_option maxRecDepth 10000 in
set_option maxHeartbeats 1000000 in
theorem Dec_any (n : Int) (hn : I64 n) (w : World) :
    Calls Tryd.prog 17 #[.int .i64 n] w fun e w' => e = .returned (.string (bstr (Lib.itoa n))) ∧ Below w.heap.size w w' := by
  obtain ⟨h0, h1⟩ := hn
  by_cases hneg : n < 0
  · obtain ⟨u, rfl⟩ : ∃ u : Nat, n = -(u : Int) := ⟨n.natAbs, by omega⟩
    have HE := Lib.hid (Lib.itoa_neg u (by omega))
    have hlen : (Lib.decDigits u).length ≤ 20 := by rw [Lib.decDigits_length]; exact Lib.nDigits_le20 _ (by omega)
    have HD := Lib.hid (digitsOf_any u (by omega))
    obtain ⟨dl, hdl⟩ : ∃ dl, Lib.decDigits u = dl := ⟨_, rfl⟩
    rw [hdl] at HE hlen
    have HD2 := Lib.hid (show ∀ w, Calls Tryd.prog 36 #[.int .i64 (-(u : Int))] w fun e w' => e = .returned (.string (bstr dl)) ∧ Below w.heap.size w w' from fun w1 => by rw [← hdl]; exact HD.out w1)
    clear HD hdl
    obtain ⟨m, hm⟩ : ∃ m : Int, -(u : Int) = m := ⟨_, rfl⟩
    rw [hm] at HE HD2 hneg h0 h1 ⊢
    clear hm
    go_enter Tryd.func17, Tryd.ntmps17
    go_wp2_with (first | (go_at_call 36; refine (HD2.out _).mono ?_; rintro e w2 ⟨rfl, hb⟩; have HB := Lib.hid hb; clear hb) | (refine wpList_cat rfl _ _ rfl [45] dl rfl rfl (by simp; omega) ?_))
    (try simp only [Exit.inBlock, Exit.then])
    refine bodyPost_ret (results_tmp (by rfl) _ _ _) (by rfl) ?_
    exact ⟨by rw [HE.out]; rfl, HB.out⟩
  · obtain ⟨u, rfl⟩ := Int.eq_ofNat_of_zero_le (show 0 ≤ n by omega)
    have HE := Lib.hid (Lib.itoa_nonneg u)
    have HD := Lib.hid (digitsOf_any u (by omega))
    obtain ⟨dl, hdl⟩ : ∃ dl, Lib.decDigits u = dl := ⟨_, rfl⟩
    rw [hdl] at HE
    have HD2 := Lib.hid (show ∀ w, Calls Tryd.prog 36 #[.int .i64 (-(u : Int))] w fun e w' => e = .returned (.string (bstr dl)) ∧ Below w.heap.size w w' from fun w1 => by rw [← hdl]; exact HD.out w1)
    clear HD hdl
    go_enter Tryd.func17, Tryd.ntmps17
    go_wp2_with (first | (go_at_call 36; refine (HD2.out _).mono ?_; rintro e w2 ⟨rfl, hb⟩; have HB := Lib.hid hb; clear hb))
    (try simp only [Exit.inBlock, Exit.then])
    refine bodyPost_ret (results_tmp (by rfl) _ _ _) (by rfl) ?_
    exact ⟨by rw [HE.out]; rfl, HB.out⟩
end Go.Proofs.YtpnapnmkjpolmaaDoor
