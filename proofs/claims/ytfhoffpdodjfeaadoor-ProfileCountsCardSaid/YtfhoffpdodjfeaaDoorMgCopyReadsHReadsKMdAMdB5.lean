/- ref.Numbers, ref.StateCopy; the law's states. P3.4: what proof.Reads answers. Numbers of read registers as bits. tierlineref.ofBits. tierlineref.Made: the ways that need no bits; words for the others. -/
import Derived.Test.YtfhoffpdodjfeaaDoorMgReadsOfStateNextLaw3
import Derived.Test.YtfhoffpdodjfeaaDoorMgValidPureLaw2
import Derived.Test.YtfhoffpdodjfeaaDoorMgBitsBitsZ2
import Derived.Test.YtfhoffpdodjfeaaDoorMgCodeACodeB2
set_option linter.unusedSimpArgs false
set_option linter.unusedVariables false
namespace Go.Proofs.YtfhoffpdodjfeaaDoor
open Go.RowKit
attribute [local irreducible] wpList Code.wp Oper.wp
set_option maxRecDepth 10000 in
set_option maxHeartbeats 1000000 in
theorem Numbers_own (xs : List Int) (u : Value) (w : World) (hx : Lay.rep w (Lt w.heap.size) xs [u]) (hb : xs.length ≤ 17592186044000) :
    Calls Tryd.prog 48 #[u] w fun e w' => ∃ v, e = .returned v ∧ Hp w [⟨w, Lt w.heap.size⟩] [.row v 3 1 xs.length (xs.map (Value.int .i64))] w' := by
  obtain ⟨A, c, rfl, hc, hm, hx⟩ := rep_ints_at hx
  unfold maxLen at hm
  have HX := Lib.hid hx
  clear hx
  obtain ⟨i_int, hi_int, hz_int, hs_int, hy_int⟩ := info_parts info_int
  have HP := Lib.hid ((Hp.start w).nil 3 1)
  go_enter Tryd.func48, Tryd.ntmps48
  go_wp2
  go_loopw [3, 4] (fun v i wr => ∃ (k : Nat) (A' : Option Addr) (c' : Nat), k ≤ xs.length ∧ v = .slice A' k c' ∧ i = .int .i64 k ∧ Hid (Hp w [{ w := w, S := Lt w.heap.size }] [Res.row (.slice A' k c') 3 1 (k) (List.map (Value.int IntKind.i64) (xs.take k))] wr)) (fun _ i _ => xs.length - (intOf i).toNat)
  case atStart => exact ⟨0, none, 0, by omega, rfl, rfl, HP⟩
  case round =>
    clear HP
    obtain ⟨k, A', c', hk, rfl, rfl, HP⟩ := hrel
    obtain ⟨wo, rfl⟩ : ∃ wo : World, wo = wr := ⟨_, rfl⟩
    by_cases hlt : k < xs.length
    · obtain ⟨a, rfl, hab, hca⟩ := HX.out k hlt
      have hcw := (HP.out.alike (F := ⟨w, Lt w.heap.size⟩) (.head _) (a.add k) (by rw [block_of_add]; exact hab)).trans hca
      have hlt2 : (k : Int) < (xs.length : Int) := by omega
      have HTK := Lib.hid (show xs.take (k + 1) = xs.take k ++ [xs[k]] by rw [List.take_add_one, List.getElem?_eq_getElem hlt]; rfl)
      obtain ⟨x, hx⟩ : ∃ x, xs[k] = x := ⟨_, rfl⟩
      rw [hx] at hcw HTK
      clear hx hca
      go_wp2_with (first | (refine wpList_ints_hp rfl 25 3 1 _ rfl HP.out Tryd.underlying25 [_] rfl (by kernel_rfl) ?_; clear HP; intro gi wi HP; replace HP := Lib.hid HP) | (at_builtin; refine wpList_apg0 rfl _ _ 25 rfl i_int (.int .i64 0) Tryd.underlying25 hi_int hz_int hs_int rfl (by decide) hy_int (k + 1) rfl HP.out rfl rfl rfl (by simp [Value.oneCell']) (by unfold maxLen; omega) (by omega) (by omega) ?_; clear HP; intro gap cap wap HP; replace HP := Lib.hid HP))
      go_roundw
      case rel => exact ⟨k + 1, _, _, by omega, rfl, by go_num, Lib.hid (by rw [HTK.out, List.map_append]; exact HP.out)⟩
      case measure => simp [intOf]; omega
    · obtain rfl : k = xs.length := by omega
      go_wp2
      go_ret
      exact ⟨_, rfl, by have := HP.out; rwa [List.take_of_length_le (Nat.le_refl _)] at this⟩
theorem Numbers_any (xs : List Int) (u : Value) (w : World) (hx : Lay.rep w (Lt w.heap.size) xs [u]) (hb : xs.length ≤ 17592186044000) :
    Calls Tryd.prog 48 #[u] w fun e w' => ∃ v, e = .returned v ∧ Lay.rep w' (Fresh w w') xs [v] ∧ Below w.heap.size w w' :=
  (Numbers_own xs u w hx hb).mono fun _ _ ⟨v, he, H⟩ => ⟨v, he, H.rowInts (.head _) rfl, H.below⟩
/-- What a state's rows are, owned. -/
abbrev ownS (s : Sta) (u e a : Value) : List Res := [.row u 75 14 s.frames.length (s.frames.flatMap frmCells), .row e 3 1 s.events.length (s.events.map (Value.int .i64)), .row a 3 1 s.answers.length (s.answers.map (Value.int .i64))]
theorem info_Frm : (Tryd.prog.info? 75).map (fun i => (i.zero, i.size, i.bytes)) = some (some (.agg #[.int .i64 0, .int .i64 0, .int .i64 0, .int .i64 0, .int .i64 0, .int .i64 0, .int .i64 0, .int .i64 0, .int .i64 0, .int .i64 0, .int .i64 0, .int .i64 0, .int .i64 0, .int .i64 0]), 14, 112) := by kernel_rfl
set_option maxRecDepth 10000 in
set_option maxHeartbeats 1000000 in
theorem StateCopy_own (s : Sta) (u e a : Value) (w : World) (hf : Lay.rep w (Lt w.heap.size) s.frames [u]) (he : Lay.rep w (Lt w.heap.size) s.events [e]) (ha : Lay.rep w (Lt w.heap.size) s.answers [a]) (hlf : s.frames.length ≤ 1256584717421) (hle : s.events.length ≤ 17592186044000) (hla : s.answers.length ≤ 17592186044000) :
    Calls Tryd.prog 53 #[.agg (staCells s u e a).toArray] w fun r w' => ∃ u' e' a', r = .returned (.agg (staCells s u' e' a').toArray) ∧ Hp w [⟨w, Lt w.heap.size⟩] (ownS s u' e' a') w' := by
  obtain ⟨A, c, rfl, hc, hm, hx⟩ := rep_frames_at hf
  unfold maxLen at hm
  have HX := Lib.hid hx
  have HE := Lib.hid he
  have HAN := Lib.hid ha
  clear hx hf he ha
  unfold staCells
  have HP := Lib.hid ((Hp.start w).nil 75 14)
  obtain ⟨i_Frm, hi_Frm, hz_Frm, hs_Frm, hy_Frm⟩ := info_parts info_Frm
  go_enter Tryd.func53, Tryd.ntmps53
  go_wp2_with (first | (refine wpList_alloc_hp (o := ⟨some 2, _, _, _, _, _⟩) rfl _ rfl HP.out (.agg #[.int .i64 0, .int .i64 0, .slice none 0 0, .int .i64 0, .int .i64 0, .int .i64 0, .int .i64 0, .int .i64 0, .int .i64 0, .int .i64 0, .int .i64 0, .int .i64 0, .int .i64 0, .int .i64 0, .int .i64 0, .int .i64 0, .int .i64 0, .int .i64 0, .int .i64 0, .int .i64 0, .slice none 0 0, .slice none 0 0]) (by kernel_rfl) [_, _, _, _, _, _, _, _, _, _, _, _, _, _, _, _, _, _, _, _, _, _] rfl ?_; clear HP; intro g2 w2 HP; replace HP := Lib.hid HP) | (refine wpList_box_hp (o := ⟨some 1, _, _, _, _, _⟩) rfl _ _ rfl HP.out [_, _, _, _, _, _, _, _, _, _, _, _, _, _, _, _, _, _, _, _, _, _] rfl ?_; clear HP; intro g1 w1 HP; replace HP := Lib.hid HP))
  go_loopw [3, 4] (fun v i wr => ∃ (k : Nat) (A' : Option Addr) (c' : Nat), k ≤ s.frames.length ∧ v = .slice A' k c' ∧ i = .int .i64 k ∧ Hid (Hp w [{ w := w, S := Lt w.heap.size }] [Res.blk g2 29 [iV 0, iV 0, .slice none 0 0, iV 0, iV 0, iV 0, iV 0, iV 0, iV 0, iV 0, iV 0, iV 0, iV 0, iV 0, iV 0, iV 0, iV 0, iV 0, iV 0, iV 0, .slice none 0 0, .slice none 0 0], Res.blk g1 29 (staCells s (.slice A s.frames.length c) e a), Res.row (.slice A' k c') 75 14 (k) ((s.frames.take k).flatMap frmCells)] wr)) (fun _ i _ => s.frames.length - (intOf i).toNat)
  case atStart => exact ⟨0, none, 0, by omega, rfl, rfl, HP⟩
  case round =>
    clear HP
    obtain ⟨k, A', c', hk, rfl, rfl, HP⟩ := hrel
    obtain ⟨wo, rfl⟩ : ∃ wo : World, wo = wr := ⟨_, rfl⟩
    unfold staCells at HP
    by_cases hlt : k < s.frames.length
    · obtain ⟨ad, rfl, hab, hat⟩ := HX.out k hlt
      have hlt2 : (k : Int) < (s.frames.length : Int) := by omega
      have HTK := Lib.hid (show s.frames.take (k + 1) = s.frames.take k ++ [s.frames[k]] by rw [List.take_add_one, List.getElem?_eq_getElem hlt]; rfl)
      obtain ⟨x, hx⟩ : ∃ x, s.frames[k] = x := ⟨_, rfl⟩
      rw [hx] at hat HTK
      have HAT := Lib.hid (HP.out.at_ (F := ⟨w, Lt w.heap.size⟩) (.head _) hat (by rw [block_of_add]; exact hab))
      clear hx hat
      unfold frmCells at HAT
      go_wp2_with (first | (refine wpList_ld0 rfl 26 _ rfl HP.out rfl rfl Tryd.underlying26 rfl ?_) | (refine wpList_ld1 rfl 26 _ rfl HP.out rfl rfl Tryd.underlying26 rfl ?_) | (refine wpList_load_at rfl 75 _ rfl _ rfl _ _ HAT.out Tryd.underlying75 rfl (by kernel_rfl) ?_) | (refine wpList_slice_hp rfl 26 75 1 _ rfl HP.out Tryd.underlying26 (frmCells x).toArray (by kernel_rfl) ?_; clear HP; intro gi wi HP; replace HP := Lib.hid HP) | (at_builtin; refine wpList_app2 rfl _ _ 26 rfl i_Frm (.agg #[.int .i64 0, .int .i64 0, .int .i64 0, .int .i64 0, .int .i64 0, .int .i64 0, .int .i64 0, .int .i64 0, .int .i64 0, .int .i64 0, .int .i64 0, .int .i64 0, .int .i64 0, .int .i64 0]) Tryd.underlying26 hi_Frm hz_Frm hs_Frm rfl (by decide) hy_Frm (k + 1) (by omega) HP.out rfl rfl rfl (by simp [Value.oneCell', frmCells]) (by unfold maxLen; omega) (by omega) ?_; clear HP; intro A' c' wap HP; replace HP := Lib.hid HP))
      go_roundw
      case rel => exact ⟨k + 1, _, _, by omega, rfl, by go_num, Lib.hid (by rw [HTK.out, List.flatMap_append, show [x].flatMap frmCells = frmCells x by simp]; exact HP.out)⟩
      case measure => simp [intOf]; omega
    · obtain rfl : k = s.frames.length := by omega
      obtain ⟨AE, ce, rfl, hce, hme, -⟩ := rep_ints_at HE.out
      obtain ⟨AA, ca, rfl, hca, hma, -⟩ := rep_ints_at HAN.out
      go_wp2_with (first | (refine wpList_ld0 rfl 26 _ rfl HP.out rfl rfl Tryd.underlying26 rfl ?_) | (refine wpList_ld1 rfl 26 _ rfl HP.out rfl rfl Tryd.underlying26 rfl ?_) | (refine wpList_st0 rfl 26 _ _ rfl HP.out rfl rfl (by simp) rfl rfl (by kernel_rfl) ?_; clear HP; intro wst HP; replace HP := Lib.hid HP) | (refine wpList_st1 rfl 26 _ _ rfl HP.out rfl rfl (by simp) rfl rfl (by kernel_rfl) ?_; clear HP; intro wst HP; replace HP := Lib.hid HP) | (refine wpList_st0 rfl 25 _ _ rfl HP.out rfl rfl (by simp) rfl rfl (by kernel_rfl) ?_; clear HP; intro wst HP; replace HP := Lib.hid HP) | (refine wpList_st1 rfl 25 _ _ rfl HP.out rfl rfl (by simp) rfl rfl (by kernel_rfl) ?_; clear HP; intro wst HP; replace HP := Lib.hid HP) | (refine wpList_ld0 rfl 25 _ rfl HP.out rfl rfl Tryd.underlying25 rfl ?_) | (refine wpList_ld1 rfl 25 _ rfl HP.out rfl rfl Tryd.underlying25 rfl ?_) | (refine wpList_ldR0 rfl 29 _ rfl HP.out rfl Tryd.underlying29 rfl (by kernel_rfl) ?_) | (refine wpList_ldR1 rfl 29 _ rfl HP.out rfl Tryd.underlying29 rfl (by kernel_rfl) ?_) | (refine wpList_stR0 rfl 29 _ _ rfl HP.out rfl (cs' := staCells s (.slice A' s.frames.length c') (.slice A5 s.events.length c5) (.slice A6 s.answers.length c6)) rfl rfl (by simp [staCells, Value.oneCell']) (by kernel_rfl) ?_; clear HP; intro wst HP; replace HP := Lib.hid HP) | (go_at_call_of 48 (Value.slice AE s.events.length ce); refine (Numbers_own s.events _ _ (HP.out.rep (F := ⟨w, Lt w.heap.size⟩) (by simp) HE.out) hle).mono ?_; rintro e5 w5 ⟨v5, rfl, hb5⟩; obtain ⟨A5, c5, rfl, -, -, -⟩ := rep_ints_at (hb5.rowInts (.head _) rfl); replace HP := Lib.hid (by simpa only [List.cons_append, List.nil_append] using HP.out.takeEnd hb5); clear hb5) | (go_at_call_of 48 (Value.slice AA s.answers.length ca); refine (Numbers_own s.answers _ _ (HP.out.rep (F := ⟨w, Lt w.heap.size⟩) (by simp) HAN.out) hla).mono ?_; rintro e6 w6 ⟨v6, rfl, hb6⟩; obtain ⟨A6, c6, rfl, -, -, -⟩ := rep_ints_at (hb6.rowInts (.head _) rfl); replace HP := Lib.hid (by simpa only [List.cons_append, List.nil_append] using HP.out.takeEnd hb6); clear hb6))
      refine bodyPost_ret (results_cell_row rfl _ _ g2 29 (staCells s (.slice A' s.frames.length c') (.slice A5 s.events.length c5) (.slice A6 s.answers.length c6)).toArray (0, 0) _ rfl (HP.out.blk (.head _)) Tryd.underlying29 rfl (by kernel_rfl)) rfl ⟨_, _, _, rfl, ?_⟩
      have := (HP.out.drop (A := [])).drop (A := [])
      rw [List.take_of_length_le (Nat.le_refl _)] at this
      exact this
theorem StateCopy_any (s : Sta) (u e a : Value) (w : World) (hf : Lay.rep w (Lt w.heap.size) s.frames [u]) (he : Lay.rep w (Lt w.heap.size) s.events [e]) (ha : Lay.rep w (Lt w.heap.size) s.answers [a]) (hlf : s.frames.length ≤ 1256584717421) (hle : s.events.length ≤ 17592186044000) (hla : s.answers.length ≤ 17592186044000) :
    Calls Tryd.prog 53 #[.agg (staCells s u e a).toArray] w fun r w' => ∃ u' e' a', r = .returned (.agg (staCells s u' e' a').toArray) ∧ Lay.rep w' (Fresh w w') s.frames [u'] ∧ Lay.rep w' (Fresh w w') s.events [e'] ∧ Lay.rep w' (Fresh w w') s.answers [a'] ∧ Below w.heap.size w w' :=
  (StateCopy_own s u e a w hf he ha hlf hle hla).mono fun _ _ ⟨u', e', a', hr, H⟩ => ⟨u', e', a', hr, H.rowFrames (.head _) rfl, H.rowInts (.tail _ (.head _)) rfl, H.rowInts (.tail _ (.tail _ (.head _))) rfl, H.below⟩
end Go.Proofs.YtfhoffpdodjfeaaDoor
namespace Go.Proofs.YtfhoffpdodjfeaaDoor
open Go.RowKit Plain64
attribute [local irreducible] wpList Code.wp Oper.wp
/-- P3.4. -/
def readsAns (p : Prg) (fn pc : Int) : Int × Int × Int :=
  if prgFault p ≠ 0 then (0, 0, prgFault p) else
  match p.funcs[fn.toNat]? with
  | none => (0, 0, 2)
  | some f => match f.code[pc.toNat]? with
    | none => (0, 0, 2)
    | some x => if fn < 0 ∨ pc < 0 then (0, 0, 2) else (bitsL (readsL p x), if setsZ x.op then 2 ^ x.dst.toNat else 0, 0)
theorem sets_ok (op : Int) (h : 1 ≤ op) : (decide (op ≤ 13) || decide (op = 17) || decide (op = 18)) = setsZ op := by
  unfold setsZ; rw [Bool.eq_iff_iff]; simp; omega
theorem and_all_nat : ∀ d : Fin 12, bits .and .i64 (2 ^ d.1) 4095 = 2 ^ d.1 := by decide +kernel
theorem and_all (d : Int) (h : 0 ≤ d ∧ d ≤ 11) : bits .and .i64 (2 ^ d.toNat) 4095 = 2 ^ d.toNat := and_all_nat ⟨d.toNat, by omega⟩
theorem and_all0 : bits .and .i64 0 4095 = 0 := by decide +kernel
theorem rep_code {f : List Ins} {u : Value} {w : World} {S : Nat → Prop} (h : Lay.rep w S f [u]) : ∃ (A : Option Addr) (c : Nat), u = .slice A f.length c ∧ f.length ≤ c ∧ c ≤ maxLen ∧
    ∀ (k : Nat) (hk : k < f.length), ∃ (a : Addr), A = some a ∧ S a.block ∧ At w (a.add (k * 5)) [.int .i64 f[k].op, .int .i64 f[k].dst, .int .i64 f[k].a, .int .i64 f[k].b, .int .i64 f[k].imm] := rep_code_at h
end Go.Proofs.YtfhoffpdodjfeaaDoor
namespace Go.Proofs.YtfhoffpdodjfeaaDoor
open Go.RowKit Plain64
attribute [local irreducible] wpList Code.wp Oper.wp
theorem bit_pow_nat : ∀ a b : Fin 12, bitZ (2 ^ a.1) b.1 = decide ((a.1 : Int) = b.1) := by decide +kernel
theorem readsL_len (p : Prg) (x : Ins) : (readsL p x).length ≤ 2 := by
  unfold readsL; split <;> split <;> simp
theorem readsL_in (p : Prg) (x : Ins) {len funcs : Nat} (h : OkI x len funcs) : ∀ a ∈ readsL p x, 0 ≤ a ∧ a ≤ 11 := by
  unfold readsL
  intro a ha
  rcases List.mem_append.1 ha with ha | ha
  · split at ha
    · rw [List.mem_singleton.1 ha]; exact h.a
    · cases ha
  · split at ha
    · rw [List.mem_singleton.1 ha]; exact h.b
    · cases ha
theorem bits_step (l : List Int) (hl : l.length ≤ 2) (hb : ∀ a ∈ l, 0 ≤ a ∧ a ≤ 11) (k : Nat) (hk : k < l.length) :
    bitsL (l.take (k + 1)) = (if bitZ (bitsL (l.take k)) l[k].toNat then bitsL (l.take k) else bitsL (l.take k) + 2 ^ l[k].toNat) ∧ 0 ≤ bitsL (l.take k) ∧ bitsL (l.take k) ≤ 4095 ∧ 0 ≤ bitsL (l.take (k + 1)) ∧ bitsL (l.take (k + 1)) ≤ 4095 := by
  match l, hl, hk with
  | [a], _, hk =>
    obtain rfl : k = 0 := by simpa using hk
    have := pow_small a (hb a (by simp))
    simp [bitsL, bitZ]; omega
  | [a, b], _, hk =>
    have h1 := pow_small a (hb a (by simp))
    have h2 := pow_small b (hb b (by simp))
    have h3 : 0 ≤ bitsL [a, b] ∧ bitsL [a, b] ≤ 4095 := by
      show 0 ≤ (if a = b then _ else _) ∧ (if a = b then _ else _) ≤ _
      by_cases e : a = b
      · rw [if_pos e]; omega
      · rw [if_neg e]
        have : (2 : Int) ^ a.toNat + 2 ^ b.toNat ≤ 4095 := by
          have hn : ∀ a b : Fin 12, a ≠ b → (2 : Int) ^ a.1 + 2 ^ b.1 ≤ 4095 := by decide +kernel
          have ha := hb a (by simp)
          have hb' := hb b (by simp)
          exact hn ⟨a.toNat, by omega⟩ ⟨b.toNat, by omega⟩ (fun h => e (by have := congrArg Fin.val h; simp at this; omega))
        omega
    have hk2 : k = 0 ∨ k = 1 := by simp at hk; omega
    rcases hk2 with rfl | rfl
    · refine ⟨by simp [bitsL, bitZ], by simp [bitsL], by simp [bitsL], by simp [bitsL]; omega, by simp [bitsL]; omega⟩
    · have ha := hb a (by simp)
      have hb' := hb b (by simp)
      have := bit_pow_nat ⟨a.toNat, by omega⟩ ⟨b.toNat, by omega⟩
      simp only at this
      refine ⟨?_, by simp [bitsL]; omega, by simp [bitsL]; omega, h3⟩
      show (if a = b then _ else _) = if bitZ (2 ^ a.toNat) b.toNat then _ else _
      rw [this]
      by_cases e : a = b
      · rw [if_pos e, if_pos (by simp; omega)]; rfl
      · rw [if_neg e, if_neg (by simp; omega)]; rfl
end Go.Proofs.YtfhoffpdodjfeaaDoor
namespace Go.Proofs.YtfhoffpdodjfeaaDoor
open Go.RowKit Plain64
theorem vTop_step0 (f : Nat → Bool) (m : Nat) (h : f (63 - m) = false) : wrap64 (wrap64 (vTop f m : Nat) + wrap64 (vTop f m : Nat)) = wrap64 (vTop f (m + 1) : Nat) := by
  rw [vTop, h]; unfold wrap64; simp; omega
theorem vTop_step1 (f : Nat → Bool) (m : Nat) (h : f (63 - m) = true) : wrap64 (wrap64 (wrap64 (vTop f m : Nat) + wrap64 (vTop f m : Nat)) + 1) = wrap64 (vTop f (m + 1) : Nat) := by
  rw [vTop, h]; unfold wrap64; simp; omega
set_option maxRecDepth 100000 in
set_option maxHeartbeats 800000 in
theorem ofBits_any (f : Nat → Bool) (w : World) :
    Calls Tryd.prog 107 #[.agg (boolArr f)] w fun e w' => e = .returned (.int .i64 (wrap64 (vTop f 64 : Nat))) ∧ Below w.heap.size w w' := by
  go_enter Tryd.func107, Tryd.ntmps107
  go_wp2
  go_loopw [3, 4] (fun v i wr => ∃ m : Nat, m ≤ 64 ∧ i = .int .i64 (63 - m) ∧ v = .int .i64 (wrap64 (vTop f m : Nat)) ∧ Blk wr w.heap.size 132 (boolArr f) ∧ Below w.heap.size w wr) (fun _ i _ => (1 + intOf i).toNat)
  case atStart =>
    exact ⟨0, by omega, rfl, by simp [vTop, wrap64], heap_alloc_new w _, (Below.refl _ _).alloc (Nat.le_refl _) _⟩
  case round =>
    obtain ⟨m, hm, rfl, rfl, hb, hbel⟩ := hrel
    have hr := wrap64_range (vTop f m : Nat)
    have h0 := vTop_step0 f m
    have h1 := vTop_step1 f m
    generalize hx : wrap64 (vTop f m : Nat) = x at *
    have H1 := Lib.hid (And.intro hb (And.intro h0 h1))
    have H2 := Lib.hid hx
    clear hb h0 h1 hx
    by_cases hlt : m < 64
    · have hc : wr.cell? ⟨w.heap.size, 63 - m, none⟩ = some (.bool (f (63 - m))) := by
        rw [cell_of_row _ _ _ _ _ _ H1.out.1, boolArr_at _ _ (by omega)]
      cases hb : f (63 - m)
      all_goals
        rw [hb] at hc
        have HB := Lib.hid hb
        clear hb
        go_wp2
        go_roundw
        case rel =>
          obtain ⟨hb, h0, h1⟩ := H1.out
          refine ⟨m + 1, by omega, by go_num, ?_, hb, hbel⟩
          first | rw [h0 HB.out] | rw [h1 HB.out]
        case measure => simp [intOf]; omega
    · obtain rfl : m = 64 := by omega
      go_wp2
      go_ret
      exact ⟨by rw [H2.out]; rfl, hbel⟩

/-- What a shift is behind m of its bits. -/
def shTop (b : Int) (m : Nat) : Int := b % 64 / 2 ^ (6 - m)
theorem shTop_step (b : Int) (m : Nat) (h : m < 6) : shTop b (m + 1) = 2 * shTop b m + (if bitZ b (5 - m) then 1 else 0) := by
  unfold shTop bitZ
  have : m = 0 ∨ m = 1 ∨ m = 2 ∨ m = 3 ∨ m = 4 ∨ m = 5 := by omega
  rcases this with rfl | rfl | rfl | rfl | rfl | rfl <;> simp <;> split <;> omega
theorem shTop_range (b : Int) (m : Nat) : 0 ≤ shTop b m ∧ shTop b m ≤ 63 := by
  unfold shTop
  have h0 : 0 ≤ b % 64 := by omega
  have hp : (0 : Int) < 2 ^ (6 - m) := Int.pow_pos (by decide)
  exact ⟨Int.ediv_nonneg h0 (by omega), by have := Int.ediv_le_self (2 ^ (6 - m)) h0; omega⟩
theorem shTop_all (b : Int) : shTop b 6 = b % 64 := by simp [shTop]
theorem shTop_zero (b : Int) : shTop b 0 = 0 := by unfold shTop; simp; omega
end Go.Proofs.YtfhoffpdodjfeaaDoor
namespace Go.Proofs.YtfhoffpdodjfeaaDoor
open Go.RowKit Plain64
set_option maxHeartbeats 400000 in
theorem made_else (op a b imm : Int) (w : World) (h : op < 6 ∨ 10 < op) :
    Calls Tryd.prog 85 #[.int .i64 op, .int .i64 a, .int .i64 b, .int .i64 imm] w fun e w' => e = .returned (.tuple #[.int .i64 (pureV op a b imm), .int .i64 (makeE op b)]) ∧ w = w' := by
  by_cases hb : b = 0
  · have hb0 : (b == 0) = true := by simpa using hb
    have HB := Lib.hid hb
    clear hb
    go_enter Tryd.func85, Tryd.ntmps85
    go_wp2_with (go_at_call 47; refine (In_any _ _ _ _).mono ?_; rintro e w' ⟨rfl, rfl⟩)
    all_goals first
      | (go_ret2; refine ⟨?_, rfl⟩; have hb := HB.out; simp only [Bool.not_eq_true', Bool.not_eq_false', decide_eq_true_eq, decide_eq_false_iff_not, beq_iff_eq, beq_eq_false_iff_ne, ne_eq] at *; congr 3; simp [pureV, makeE, *]; try omega)
      | (exfalso; simp only [Bool.not_eq_true', Bool.not_eq_false', decide_eq_true_eq, decide_eq_false_iff_not, beq_iff_eq, beq_eq_false_iff_ne, ne_eq] at *; omega)
  · have HB := Lib.hid hb
    go_enter Tryd.func85, Tryd.ntmps85
    go_wp2_with (go_at_call 47; refine (In_any _ _ _ _).mono ?_; rintro e w' ⟨rfl, rfl⟩)
    all_goals first
      | (go_ret2; refine ⟨?_, rfl⟩; have hb := HB.out; simp only [Bool.not_eq_true', Bool.not_eq_false', decide_eq_true_eq, decide_eq_false_iff_not, beq_iff_eq, beq_eq_false_iff_ne, ne_eq] at *; congr 3; simp [pureV, makeE, *]; try omega)
      | (exfalso; simp only [Bool.not_eq_true', Bool.not_eq_false', decide_eq_true_eq, decide_eq_false_iff_not, beq_iff_eq, beq_eq_false_iff_ne, ne_eq] at *; omega)

/-- The first k of 64 truths are told. -/
def upTo (g : Nat → Bool) (k : Nat) : Array Value := boolArr fun j => decide (j < k) && g j
theorem upTo_size (g : Nat → Bool) (k : Nat) : (upTo g k).size = 64 := boolArr_size _
theorem upTo_all (g : Nat → Bool) : upTo g 64 = boolArr g := boolArr_congr fun j hj => by simp [hj]
theorem upTo_at (g : Nat → Bool) (k : Nat) (h : k < 64) : (upTo g k)[k]? = some (.bool false) := by rw [upTo, boolArr_at _ _ h]; simp
theorem upTo_succ (g : Nat → Bool) (k : Nat) (h : k < 64) : (upTo g k).setIfInBounds k (.bool (g k)) = upTo g (k + 1) := by
  unfold upTo
  rw [boolArr_set _ _ _ h]
  apply boolArr_congr
  intro j _
  by_cases e : j = k
  · subst e; simp
  · rw [if_neg e]; congr 1; rw [decide_eq_decide]; omega
theorem upTo_skip (g : Nat → Bool) (k : Nat) (h : k < 64) (hg : g k = false) : upTo g k = upTo g (k + 1) := by
  rw [← upTo_succ g k h, hg]
  unfold upTo
  rw [boolArr_set _ _ _ h]
  apply boolArr_congr
  intro j _
  by_cases e : j = k
  · subst e; simp
  · rw [if_neg e]


theorem vTop_congr {f g : Nat → Bool} (h : ∀ j, j < 64 → f j = g j) (m : Nat) (hm : m ≤ 64) : vTop f m = vTop g m := by
  induction m with
  | zero => rfl
  | succ m ih => rw [vTop, vTop, ih (by omega), h _ (by omega)]
theorem upTo_store {w : World} {b : Nat} {g : Nat → Bool} {k : Nat} {x : Bool} (h : Blk w b 132 (upTo g k)) (hk : k < 64) (hx : x = g k) : Blk (w.setCell ⟨b, k, none⟩ (.bool x)) b 132 (upTo g (k + 1)) := by
  subst hx
  have := heap_setCell_same _ _ k _ _ (Value.bool (g k)) h
  rwa [upTo_succ g k hk] at this
theorem upTo_done (g : Nat → Bool) : wrap64 (vTop (fun j => decide (j < 64) && g j) 64 : Nat) = wrap64 (vTop g 64 : Nat) := by
  rw [vTop_congr (f := fun j => decide (j < 64) && g j) (g := g) (fun j hj => by simp [hj]) 64 (Nat.le_refl _)]
end Go.Proofs.YtfhoffpdodjfeaaDoor
