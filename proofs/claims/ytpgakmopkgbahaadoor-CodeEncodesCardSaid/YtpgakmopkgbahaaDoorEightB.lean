/- ref.eightBytes. -/
import Derived.Test.YtpgakmopkgbahaaDoorEight
set_option linter.unusedSimpArgs false
set_option linter.unusedVariables false
namespace Go.Proofs.YtpgakmopkgbahaaDoor
open Go.RowKit Plain64
attribute [local irreducible] wpList Code.wp Oper.wp
theorem eight_small {n : Int} (h : n = n % 256) : [(0 : Int), 0, 0, 0, 0, 0, 0] ++ [n % 256] = eightL n := by
  unfold eightL
  have e1 : n / 72057594037927936 % 256 = 0 := by omega
  have e2 : n / 281474976710656 % 256 = 0 := by omega
  have e3 : n / 1099511627776 % 256 = 0 := by omega
  have e4 : n / 4294967296 % 256 = 0 := by omega
  have e5 : n / 16777216 % 256 = 0 := by omega
  have e6 : n / 65536 % 256 = 0 := by omega
  have e7 : n / 256 % 256 = 0 := by omega
  rw [e1, e2, e3, e4, e5, e6, e7]; rfl
theorem eight_more (n : Int) : (eightL (n / 256)).drop 1 ++ [n % 256] = eightL n := by
  unfold eightL
  have e1 : n / 256 / 281474976710656 % 256 = n / 72057594037927936 % 256 := by omega
  have e2 : n / 256 / 1099511627776 % 256 = n / 281474976710656 % 256 := by omega
  have e3 : n / 256 / 4294967296 % 256 = n / 1099511627776 % 256 := by omega
  have e4 : n / 256 / 16777216 % 256 = n / 4294967296 % 256 := by omega
  have e5 : n / 256 / 65536 % 256 = n / 16777216 % 256 := by omega
  have e6 : n / 256 / 256 % 256 = n / 65536 % 256 := by omega
  rw [e1, e2, e3, e4, e5, e6]; rfl
theorem eight_cell {w w' : World} {Fs : List Fro} {g : Nat} {t : TypeId} {m : Int} (h : Hp w Fs [.blk g t ((eightL m).map (Value.int .u8))] w') {j : Nat} {u : Value} (hu : (((eightL m).drop 1).map (Value.int .u8))[j]? = some u) : w'.cell? ((⟨g, 1, none⟩ : Addr).add j) = some u := by
  rw [Addr.add_lit]
  refine h.cell (.head _) _ _ ?_
  rw [List.map_drop, List.getElem?_drop] at hu
  exact hu
set_option maxRecDepth 10000 in
set_option maxHeartbeats 1000000 in
theorem eightBytes_any (n : Int) (w : World) (hn : I64 n) :
    Calls Tryd.prog 51 #[.int .i64 n] w fun e w' => ∃ v, e = .returned v ∧ RepB w' (fun b => w.heap.size ≤ b ∧ b < w'.heap.size) (eightL n) v ∧ Below w.heap.size w w' := by
  unfold I64 at hn
  obtain ⟨n1, n2⟩ := hn
  obtain ⟨i_byte, hi_byte, hz_byte, hs_byte, hy_byte⟩ := info_parts info_byte
  have h255 := and255
  have HP := Lib.hid (Hp.start w)
  go_enter Tryd.func51, Tryd.ntmps51
  go_upto_region 2 with fail
  by_cases hs : n = n % 256
  · have hsb : (n == n % 256) = true := by simpa using hs
    have HS := Lib.hid hs
    clear hs
    go_wp2_with (first | (refine wpList_u8s_hp rfl 36 5 7 _ rfl HP.out Tryd.underlying36 [0, 0, 0, 0, 0, 0, 0] rfl (by kernel_rfl) ?_; clear HP; intro gi wi HP; replace HP := Lib.hid (HP.rowOf (A := []) (n := 7) (sz := 1) rfl (by unfold maxLen; decide))) | (refine wpList_u8s_hp rfl 36 5 1 _ rfl HP.out Tryd.underlying36 [_] rfl (by kernel_rfl) ?_; clear HP; intro gi wi HP; replace HP := Lib.hid HP) | (at_builtin; refine wpList_app0 rfl _ _ 36 rfl i_byte (.int .u8 0) Tryd.underlying36 hi_byte hz_byte hs_byte rfl (by decide) hy_byte (8) rfl HP.out rfl rfl rfl (by simp [Value.oneCell']) (by unfold maxLen; omega) (by omega) ?_; clear HP; intro A' c' wap HP; replace HP := Lib.hid HP))
    go_ret
    exact ⟨_, rfl, HP.out.rowB (.head _) (by rw [← eight_small HS.out]; rfl), HP.out.below⟩
  · have hsb : (n == n % 256) = false := by simpa using hs
    have hdv := tdiv256 n
    have hlo : -9223372036854775808 ≤ n - n % 256 := by omega
    have hhi : n - n % 256 ≤ 9223372036854775807 := by omega
    clear hs
    go_wp2_with (first | (go_at_call 71; refine (eightBytesOf_any (n / 256) _ ⟨by omega, by omega⟩).mono ?_; rintro e w5 ⟨g, rfl, h5⟩; replace HP := Lib.hid (HP.out.call h5.below); have H5 := Lib.hid h5; have HG5 := Lib.hid ((h5.own _ (.head _)).2 g rfl); clear h5) | (refine wpList_u8s_hp rfl 36 5 1 _ rfl HP.out Tryd.underlying36 [_] rfl (by kernel_rfl) ?_; clear HP; intro gi wi HP; replace HP := Lib.hid HP) | (at_builtin; refine wpList_append_full rfl _ _ 36 rfl i_byte (.int .u8 0) Tryd.underlying36 hi_byte hz_byte hs_byte hy_byte (((eightL (n / 256)).drop 1).map (Value.int .u8)) ([n % 256].map (Value.int .u8)) rfl rfl rfl (fun j u hu => (HP.out.alike (F := ⟨w5, _⟩) (.head _) _ (by rw [block_of_add]; exact ⟨HG5.out.1, HG5.out.2.1⟩)).trans (eight_cell H5.out hu)) rfl (HP.out.blkAt (.head _) 0) (by omega) (by unfold maxLen; omega) (by omega) ?_; intro gz cz wz hbz hcz1 hcz2 hgz1 hgz2 hcells; have HC := Lib.hid hcells; have HBZ := Lib.hid hbz; have HZ1 := Lib.hid hgz1; clear hcells hbz hgz1))
    go_ret
    refine ⟨_, rfl, ⟨_, _, rfl, hcz1, hcz2, fun k x hx => ⟨_, rfl, ⟨?_, hgz2⟩, ?_⟩⟩, HP.out.below.trans (HBZ.out.mono HP.out.size)⟩
    · have := HP.out.size
      have h2 := HZ1.out
      show w.heap.size ≤ gz
      omega
    · rw [Addr.add_lit, Nat.zero_add]
      refine HC.out k _ ?_
      rw [← List.map_append, eight_more, List.getElem?_map, hx]; rfl
end Go.Proofs.YtpgakmopkgbahaaDoor
