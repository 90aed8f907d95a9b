/- ref.eightBytesOf, ref.eightBytes. -/
import Derived.Test.YtpgakmopkgbahaaDoorHpB
import Derived.Test.YtpgakmopkgbahaaDoorRows
import Derived.Test.YtpgakmopkgbahaaDoorPlain64
set_option linter.unusedSimpArgs false
set_option linter.unusedVariables false
namespace Go.Proofs.YtpgakmopkgbahaaDoor
open Go.RowKit Plain64
attribute [local irreducible] wpList Code.wp Oper.wp
theorem info_byte : (Tryd.prog.info? 5).map (fun i => (i.zero, i.size, i.bytes)) = some (some (.int .u8 0), 1, 1) := by kernel_rfl
theorem and255 (b : Int) : bits .and .i64 b 255 = b % 256 := by
  rw [bits_and]
  have h : (BitVec.ofInt 64 b &&& BitVec.ofInt 64 255).toNat = (BitVec.ofInt 64 b).toNat % 256 := by
    rw [BitVec.toNat_and]
    have : (BitVec.ofInt 64 255).toNat = 2 ^ 8 - 1 := by decide
    rw [this, Nat.and_two_pow_sub_one_eq_mod]
  have e := ofInt_toNat b
  rw [← wrap64_toNat, h, Int.natCast_emod, e]
  unfold wrap64; omega
theorem tdiv256 (m : Int) : (m - m % 256).tdiv 256 = m / 256 := by
  rw [Int.tdiv_eq_ediv_of_dvd (by omega)]
  omega
theorem pow256 (n : Int) (t : Nat) : n / 256 ^ t / 256 = n / 256 ^ (t + 1) := by
  rw [Int.pow_succ, Int.ediv_ediv_of_nonneg (Int.pow_nonneg (by decide))]
theorem eight_of {n : Int} {bs : List Int} (hl : bs.length = 8) (h : ∀ q, q < 8 → bs[q]? = some (n / 256 ^ (7 - q) % 256)) : bs = eightL n := by
  apply List.ext_getElem?
  intro q
  by_cases hq : q < 8
  · rw [h q hq]
    have h8 : q = 0 ∨ q = 1 ∨ q = 2 ∨ q = 3 ∨ q = 4 ∨ q = 5 ∨ q = 6 ∨ q = 7 := by omega
    rcases h8 with rfl | rfl | rfl | rfl | rfl | rfl | rfl | rfl <;> (unfold eightL; simp)
  · rw [List.getElem?_eq_none (by omega), List.getElem?_eq_none (by rw [eightL_len]; omega)]
set_option maxRecDepth 10000 in
set_option maxHeartbeats 1000000 in
theorem eightBytesOf_any (n : Int) (w : World) (hn : -36028797018963968 ≤ n ∧ n ≤ 36028797018963967) :
    Calls Tryd.prog 71 #[.int .i64 n] w fun e w' => ∃ g, e = .returned (.slice (some ⟨g, 0, none⟩) 8 8) ∧ Hp w [⟨w, Lt w.heap.size⟩] [.blk g 5 ((eightL n).map (Value.int .u8))] w' := by
  obtain ⟨i_byte, hi_byte, hz_byte, hs_byte, hy_byte⟩ := info_parts info_byte
  have h255 := and255
  have HP := Lib.hid (Hp.start w)
  go_enter Tryd.func71, Tryd.ntmps71
  go_wp2_with (first | (refine wpList_make_hp (o := ⟨some 6, _, _, _, _, _⟩) rfl _ _ _ rfl _ i_byte (.int .u8 0) Tryd.underlying36 hi_byte hz_byte rfl hs_byte 8 rfl rfl (by rw [hy_byte]; omega) (by unfold maxLen; omega) HP.out ?_; clear HP; intro g6 w6 HP; replace HP := Lib.hid HP))
  go_loopw [0, 4] (fun v i wr => ∃ (t : Nat) (m : Int) (bs : List Int), t ≤ 8 ∧ i = .int .i64 (7 - (t : Int)) ∧ v = .int .i64 m ∧ (-36028797018963968 ≤ m ∧ m ≤ 36028797018963967) ∧ Hid (m = n / 256 ^ t) ∧ Hid (bs.length = 8 ∧ ∀ q, q < 8 → 8 ≤ q + t → bs[q]? = some (n / 256 ^ (7 - q) % 256)) ∧ Hid (Hp w [{ w := w, S := Lt w.heap.size }] [Res.blk g6 5 (bs.map (Value.int .u8))] wr)) (fun _ i _ => ((intOf i) + 1).toNat)
  case atStart => exact ⟨0, n, List.replicate 8 0, by omega, by simp, rfl, hn, Lib.hid (by simp), Lib.hid ⟨rfl, fun q h1 h2 => by omega⟩, HP⟩
  case round =>
    clear HP
    obtain ⟨t, m, bs, ht, rfl, rfl, ⟨m1, m2⟩, HM, HB, HP⟩ := hrel
    obtain ⟨wo, rfl⟩ : ∃ wo : World, wo = wr := ⟨_, rfl⟩
    by_cases hlt : t < 8
    · obtain ⟨q, hq⟩ : ∃ q : Nat, (7 : Int) - (t : Int) = (q : Int) := ⟨7 - t, by omega⟩
      have hq8 : q < 8 := by omega
      have HQ := Lib.hid (show q + t = 7 by omega)
      have HBD := Lib.hid (show q < (bs.map (Value.int .u8)).length by rw [List.length_map, HB.out.1]; exact hq8)
      rw [hq]
      have hq8I : (q : Int) < 8 := by omega
      clear hq
      go_upto_region 7 with (first | (refine wpList_st0 rfl 5 _ _ rfl HP.out rfl rfl HBD.out rfl (List.map_set ..).symm (by kernel_rfl) ?_; clear HP; intro wst HP; replace HP := Lib.hid HP))
      have hdv := tdiv256 m
      go_wp2_with fail
      go_roundw
      case rel =>
        have hq7 := HQ.out
        refine ⟨t + 1, m / 256, bs.set q (m % 256), by omega, by go_num, by go_num, ⟨by omega, by omega⟩, Lib.hid (by rw [HM.out]; exact pow256 n t), Lib.hid ⟨by simp [HB.out.1], fun r h1 h2 => ?_⟩, HP⟩
        by_cases e : q = r
        · subst e
          rw [List.getElem?_set_self (by rw [HB.out.1]; exact hq8), HM.out, show 7 - q = t by omega]
        · rw [List.getElem?_set_ne e]; exact HB.out.2 r h1 (by omega)
      case measure => simp [intOf]
    · obtain rfl : t = 8 := by omega
      have hbs : bs = eightL n := eight_of HB.out.1 (fun q hq => HB.out.2 q hq (by omega))
      go_wp2_with fail
      go_ret
      subst hbs
      exact ⟨_, rfl, HP.out⟩
end Go.Proofs.YtpgakmopkgbahaaDoor
