/- slices.Contains, slices.BinarySearch: of numbers. Rows of rows: closed facts; the shape of a row. -/
import Derived.Test.YtnabeibnaoahmaaDoorMgPrNest2
set_option linter.unusedSimpArgs false
set_option linter.unusedVariables false
namespace Go.Proofs.YtnabeibnaoahmaaDoor
open Go.RowKit
attribute [local irreducible] wpList Code.wp Oper.wp
set_option maxRecDepth 10000 in
set_option maxHeartbeats 1000000 in
theorem Index_any (l : List Int) (v : Value) (n : Int) (w : World) (hv : Lay.rep w (Lt w.heap.size) l [v]) :
    Calls Tryd.prog 64 #[v, .int .i64 n] w fun e w' => (∃ k : Int, e = .returned (.int .i64 k) ∧ (0 ≤ k ↔ n ∈ l)) ∧ w = w' := by
  obtain ⟨A, c, rfl, hc, hm, hx⟩ := rep_ints_at hv
  unfold maxLen at hm
  have HX := Lib.hid hx
  clear hx hv
  go_enter Tryd.func64, Tryd.ntmps64
  go_wp2
  go_loop [8] (fun i => ∃ (k : Nat), k ≤ l.length ∧ i = .int .i64 k ∧ Hid (n ∉ l.take k)) (fun i => l.length - (intOf i).toNat)
  case atStart => exact ⟨0, by omega, rfl, Lib.hid (by simp)⟩
  case round =>
    obtain ⟨k, hk, rfl, HN⟩ := hrel
    by_cases hlt : k < l.length
    · have hlt2 : (k : Int) < (l.length : Int) := by omega
      obtain ⟨a, rfl, hab, hca⟩ := HX.out k hlt
      obtain ⟨x, hx⟩ : ∃ x, l[k] = x := ⟨_, rfl⟩
      replace hca := hca.trans (congrArg (fun z => some (Value.int IntKind.i64 z)) hx)
      have HXK := Lib.hid hx
      clear hx
      by_cases hxn : n = x
      · have hb : (n == x) = true := by simpa using hxn
        have HM := Lib.hid (show n ∈ l by rw [hxn, ← HXK.out]; exact List.getElem_mem hlt)
        clear hxn
        go_wp2
        go_ret
        exact ⟨⟨k, rfl, ⟨fun _ => HM.out, fun _ => by omega⟩⟩, rfl⟩
      · have hb : (n == x) = false := by simpa using hxn
        have HM := Lib.hid (show n ∉ l.take (k + 1) by
          rw [List.take_add_one, List.getElem?_eq_getElem hlt, HXK.out]
          intro h
          rcases List.mem_append.1 h with h | h
          · exact HN.out h
          · simp at h; exact hxn h)
        clear hxn
        go_wp2
        go_round
        case rel => exact ⟨k + 1, by omega, by go_num, HM⟩
        case measure => simp [intOf]; omega
    · obtain rfl : k = l.length := by omega
      have HM := Lib.hid (show n ∉ l by have h := HN.out; rw [List.take_length] at h; exact h)
      go_wp2
      go_ret
      exact ⟨⟨-1, rfl, ⟨fun h => absurd h (by decide), fun h => absurd h HM.out⟩⟩, rfl⟩
set_option maxRecDepth 10000 in
set_option maxHeartbeats 1000000 in
theorem Contains_any (l : List Int) (v : Value) (n : Int) (w : World) (hv : Lay.rep w (Lt w.heap.size) l [v]) :
    Calls Tryd.prog 37 #[v, .int .i64 n] w fun e w' => e = .returned (.bool (decide (n ∈ l))) ∧ w = w' := by
  have HV := Lib.hid hv
  clear hv
  go_enter Tryd.func37, Tryd.ntmps37
  go_wp2_with (go_at_call 64; refine (Index_any l _ n _ HV.out).mono ?_; rintro e w2 ⟨⟨k, rfl, hk⟩, rfl⟩)
  go_ret
  exact ⟨by rw [show decide (n ∈ l) = decide (0 ≤ k) from decide_eq_decide.2 hk.symm]; rfl, rfl⟩
theorem isNaNs_any (a : Int) (w : World) : Calls Tryd.prog 66 #[.int .i64 a] w fun e w' => e = .returned (.bool false) ∧ w = w' := by
  go_enter Tryd.func66, Tryd.ntmps66
  go_wp2
  go_ret
  exact ⟨rfl, rfl⟩
theorem isNaNc_any (a : Int) (w : World) : Calls Tryd.prog 76 #[.int .i64 a] w fun e w' => e = .returned (.bool false) ∧ w = w' := by
  go_enter Tryd.func76, Tryd.ntmps76
  go_wp2
  go_ret
  exact ⟨rfl, rfl⟩
theorem cmpLess_any (a b : Int) (w : World) : Calls Tryd.prog 65 #[.int .i64 a, .int .i64 b] w fun e w' => e = .returned (.bool (decide (a < b))) ∧ w = w' := by
  go_enter Tryd.func65, Tryd.ntmps65
  go_wp2_with (go_at_call 76; refine (isNaNc_any _ _).mono ?_; rintro e w2 ⟨rfl, rfl⟩)
  go_ret
  exact ⟨by simp, rfl⟩
set_option maxRecDepth 10000 in
set_option maxHeartbeats 1000000 in
theorem BinarySearch_any (l : List Int) (v : Value) (n : Int) (k : Nat) (hk : l[k]? = some n) (hs : l.Pairwise (· < ·)) (hl : l.length ≤ 1000) (w : World) (hv : Lay.rep w (Lt w.heap.size) l [v]) :
    Calls Tryd.prog 38 #[v, .int .i64 n] w fun e w' => e = .returned (.tuple #[.int .i64 k, .bool true]) ∧ w = w' := by
  obtain ⟨A, c, rfl, hc, hm, hx⟩ := rep_ints_at hv
  unfold maxLen at hm
  have HX := Lib.hid hx
  have HS := Lib.hid (List.pairwise_iff_getElem.1 hs)
  obtain ⟨hkl, hkn⟩ := List.getElem?_eq_some_iff.1 hk
  have HKN := Lib.hid hkn
  clear hx hv hs hk hkn
  go_enter Tryd.func38, Tryd.ntmps38
  go_wp2
  go_loop [7, 8] (fun i j => ∃ (a b : Nat), a ≤ k ∧ k ≤ b ∧ b ≤ l.length ∧ i = .int .i64 a ∧ j = .int .i64 b) (fun i j => (intOf j - intOf i).toNat)
  case atStart => exact ⟨0, l.length, by omega, by omega, by omega, rfl, rfl⟩
  case round =>
    obtain ⟨a, b, ha, hb, hbl, rfl, rfl⟩ := hrel
    by_cases hab : a < b
    · have hab2 : (a : Int) < (b : Int) := by omega
      obtain ⟨h, hh⟩ : ∃ h : Nat, (a + b) / 2 = h := ⟨_, rfl⟩
      have hhl : h < l.length := by omega
      have hhl2 : (h : Int) < (l.length : Int) := by omega
      obtain ⟨ad, rfl, hab3, hca⟩ := HX.out h hhl
      obtain ⟨x, hx⟩ : ∃ x, l[h] = x := ⟨_, rfl⟩
      replace hca := hca.trans (congrArg (fun z => some (Value.int IntKind.i64 z)) hx)
      have HXE := Lib.hid hx
      have HH := Lib.hid hh
      have hmid : ((a : Int) + (b : Int)) / 2 = (h : Int) := by omega
      clear hx
      by_cases hlk : h < k
      · have HXN := Lib.hid (show decide (x < n) = true from decide_eq_true (by rw [← HXE.out, ← HKN.out]; exact HS.out h k hhl hkl hlk))
        go_wp2_with (go_at_call 65; refine (cmpLess_any _ _ _).mono ?_; rintro e w2 ⟨rfl, rfl⟩; rw [HXN.out])
        go_round
        case rel => exact ⟨h + 1, b, by omega, hb, hbl, by go_num, rfl⟩
        case measure => simp [intOf]; omega
      · have HXN := Lib.hid (show decide (x < n) = false from decide_eq_false (by
          rw [← HXE.out, ← HKN.out]
          rcases Nat.lt_or_ge k h with h1 | h1
          · have := HS.out k h hkl hhl h1; omega
          · obtain rfl : h = k := by omega
            omega))
        go_wp2_with (go_at_call 65; refine (cmpLess_any _ _ _).mono ?_; rintro e w2 ⟨rfl, rfl⟩; rw [HXN.out])
        go_round
        case rel => exact ⟨a, h, ha, by omega, by omega, rfl, by go_num⟩
        case measure => simp [intOf]; omega
    · obtain rfl : a = k := by omega
      obtain rfl : a = b := by omega
      have hkl2 : (a : Int) < (l.length : Int) := by omega
      obtain ⟨ad, rfl, hab3, hca⟩ := HX.out a hkl
      replace hca := hca.trans (congrArg (fun z => some (Value.int IntKind.i64 z)) HKN.out)
      go_wp2_with (go_at_call 66; refine (isNaNs_any _ _).mono ?_; rintro e w2 ⟨rfl, rfl⟩)
      (try simp only [Exit.inBlock, Exit.then])
      refine bodyPost_ret (results_tmp2 (by rfl) _ _ _) (by rfl) ⟨rfl, rfl⟩
end Go.Proofs.YtnabeibnaoahmaaDoor
namespace Go.Proofs.YtnabeibnaoahmaaDoor
open Go.RowKit
theorem info_ints : (Tryd.prog.info? 25).map (fun i => (i.zero, i.size, i.bytes)) = some (some (.slice none 0 0), 1, 24) := by kernel_rfl
theorem rep_rows_nil {w : World} {S : Nat → Prop} : Lay.rep w S ([] : List (List Int)) [.slice none 0 0] := ⟨none, 0, rfl, Nat.le_refl _, by unfold maxLen; omega, fun k x h => by simp at h⟩
theorem Hp.rowShape {w0 w : World} {Fs : List Fro} {L : List Res} {v : Value} {e : TypeId} {sz n : Nat} {cs : List Value} (h : Hp w0 Fs L w) (hm : Res.row v e sz n cs ∈ L) : ∃ A c, v = .slice A n c ∧ (0 < n → ∃ g, A = some ⟨g, 0, none⟩) := by
  rcases (h.row hm).2 with ⟨rfl, hn⟩ | ⟨g, cap, cur, rfl, _⟩
  · subst hn; exact ⟨none, 0, rfl, fun h => absurd h (by omega)⟩
  · exact ⟨_, cap, rfl, fun _ => ⟨g, rfl⟩⟩
theorem nestB_len {t : TypeId} {gs : List Nat} {xss : List (List Int)} : nestB t gs xss = (gs.zip xss).map fun x => .blk x.1 t (x.2.map (Value.int .i64)) := rfl
end Go.Proofs.YtnabeibnaoahmaaDoor
