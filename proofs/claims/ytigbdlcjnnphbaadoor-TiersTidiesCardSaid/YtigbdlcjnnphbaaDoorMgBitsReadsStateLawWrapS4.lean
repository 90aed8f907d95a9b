/- ref.oneBit, ref.hasBit; bits of small numbers. proof.reads. P4.2: a state of a program. No program is named here. One more, wrapped. -/
import Derived.Test.YtigbdlcjnnphbaaDoorHpOps
import Derived.Test.YtigbdlcjnnphbaaDoorRows
import Derived.Test.YtigbdlcjnnphbaaDoorPlain64
import Derived.Test.YtigbdlcjnnphbaaDoorMgPrNestNestB3
import Derived.Test.YtigbdlcjnnphbaaDoorMgValidPureLaw2
import Derived.BigQuiet
import Derived.Test.YtigbdlcjnnphbaaDoorProvenLaw
set_option linter.unusedSimpArgs false
set_option linter.unusedVariables false
namespace Go.Proofs.YtigbdlcjnnphbaaDoor
open Go.RowKit Plain64
attribute [local irreducible] wpList Code.wp Oper.wp

theorem pow_pos' (k : Nat) : (1 : Int) ≤ 2 ^ k := by
  have : (0 : Int) < 2 ^ k := Int.pow_pos (by decide)
  omega
theorem pow_le' {j k : Nat} (h : j ≤ k) : (2 : Int) ^ j ≤ 2 ^ k := by
  have := Nat.pow_le_pow_right (n := 2) (by decide) h
  have e : ∀ n : Nat, ((2 ^ n : Nat) : Int) = 2 ^ n := fun n => by simp
  rw [← e, ← e]; omega
set_option maxHeartbeats 400000 in
theorem hasBit_any (n : Int) (k : Nat) (hk : k ≤ 60) (hn : 0 ≤ n ∧ n ≤ 9223372036854775807) (w : World) :
    Calls Tryd.prog 15 #[.int .i64 n, .int .i64 k] w fun e w' => e = .returned (.bool (bitZ n k)) ∧ w = w' := by
  go_enter Tryd.func15, Tryd.ntmps15
  go_wp2
  go_loop [0, 5] (fun n' i => ∃ (j : Nat) (m : Int), j ≤ k ∧ i = .int .i64 j ∧ n' = .int .i64 m ∧ Hid (m = n / 2 ^ j) ∧ 0 ≤ m ∧ m ≤ 9223372036854775807) (fun _ i => k - (intOf i).toNat)
  case atStart => exact ⟨0, n, by omega, rfl, rfl, Lib.hid (by simp), hn.1, hn.2⟩
  case round =>
    obtain ⟨j, m, hj, rfl, rfl, hm, h1, h2⟩ := hrel
    by_cases hlt : j < k
    · go_wp2
      go_round
      case rel => exact ⟨j + 1, m / 2, by omega, by go_num, by go_num, Lib.hid (by rw [hm.out, half_step]), by omega, by omega⟩
      case measure => simp [intOf]; omega
    · obtain rfl : j = k := by omega
      go_wp2
      go_ret
      refine ⟨ret_bool ?_, rfl⟩
      rw [bitZ, ← hm.out, Bool.eq_iff_iff]
      simp
end Go.Proofs.YtigbdlcjnnphbaaDoor
namespace Go.Proofs.YtigbdlcjnnphbaaDoor
open Go.RowKit Plain64
attribute [local irreducible] wpList Code.wp Oper.wp
theorem rep_prg_at {p : Prg} {u : Value} {w : World} {S : Nat → Prop} (h : Lay.rep w S p [u]) : ∃ (A : Option Addr) (c : Nat), u = .slice A p.funcs.length c ∧ p.funcs.length ≤ c ∧ c ≤ maxLen ∧
    ∀ (k : Nat) (hk : k < p.funcs.length), ∃ (a : Addr) (v : Value), A = some a ∧ S a.block ∧ At w (a.add (k * 3)) [.int .i64 p.funcs[k].params, .int .i64 p.funcs[k].regs, v] ∧ Lay.rep w S p.funcs[k].code [v] := rep_funs_at (rep_prg.1 h)
theorem index0 (a b c : Int) (w : World) : (Instr.index 83 (.agg #[.int .i64 a, .int .i64 b, .int .i64 c]) (.int .i64 0)).run Tryd.prog w = .ok (.int .i64 a) w := by kernel_rfl
theorem index1 (a b c : Int) (w : World) : (Instr.index 83 (.agg #[.int .i64 a, .int .i64 b, .int .i64 c]) (.int .i64 1)).run Tryd.prog w = .ok (.int .i64 b) w := by kernel_rfl
theorem index2 (a b c : Int) (w : World) : (Instr.index 83 (.agg #[.int .i64 a, .int .i64 b, .int .i64 c]) (.int .i64 2)).run Tryd.prog w = .ok (.int .i64 c) w := by kernel_rfl
set_option maxRecDepth 10000 in
set_option maxHeartbeats 1000000 in
theorem reads_any (p : Prg) (u : Value) (x : Ins) (len : Nat) (w : World) (hp : Lay.rep w (Lt w.heap.size) p [u]) (ok : OkP p) (okx : OkI x len p.funcs.length) :
    Calls Tryd.prog 44 #[.agg #[u], .agg #[.int .i64 x.op, .int .i64 x.dst, .int .i64 x.a, .int .i64 x.b, .int .i64 x.imm]] w fun e w' => e = .returned (.int .i64 (bitsL (readsL p x))) ∧ Below w.heap.size w w' := by
  obtain ⟨A, c, rfl, hc, hm, hx⟩ := rep_prg_at hp
  unfold maxLen at hm
  have HX := Lib.hid hx
  have HO := Lib.hid okx
  have HK := Lib.hid ok
  obtain ⟨a1, a2⟩ := okx.a
  obtain ⟨b1, b2⟩ := okx.b
  obtain ⟨n1, n2⟩ := ok.len
  clear hx hp ok okx
  have HP := Lib.hid (Hp.start w)
  go_enter Tryd.func44, Tryd.ntmps44
  go_upto_region 1 with (first | (refine wpList_box_hp (o := ⟨some 2, _, _, _, _, _⟩) rfl _ _ rfl HP.out [_] rfl ?_; clear HP; intro g2 w2 HP; replace HP := Lib.hid HP) | (refine wpList_box_hp (o := ⟨some 3, _, _, _, _, _⟩) rfl _ _ rfl HP.out [_, _, _, _, _] rfl ?_; clear HP; intro g3 w3 HP; replace HP := Lib.hid HP))
  have ha := HP.out.cell (.head _) 2 _ rfl
  have hb := HP.out.cell (.head _) 3 _ rfl
  have hop := HP.out.cell (.head _) 0 _ rfl
  have himm := HP.out.cell (.head _) 4 _ rfl
  have hfs := HP.out.cell (.tail _ (.head _)) 0 _ rfl
  have ea : wrap64 (2 ^ x.a.toNat) = 2 ^ x.a.toNat := by have := pow_small x.a ⟨a1, a2⟩; unfold wrap64; omega
  have eb : wrap64 (2 ^ x.b.toNat) = 2 ^ x.b.toNat := by have := pow_small x.b ⟨b1, b2⟩; unfold wrap64; omega
  by_cases h17 : x.op = 17
  · obtain ⟨i1, i2⟩ := HO.out.cal h17
    obtain ⟨k, hk⟩ := Int.eq_ofNat_of_zero_le i1
    have hkl : k < p.funcs.length := by omega
    have hki : (k : Int) < (p.funcs.length : Int) := by omega
    obtain ⟨ad, v, rfl, hab, hat, _⟩ := HX.out k hkl
    have hpar : parZ p x.imm = p.funcs[k].params := by unfold parZ; rw [hk]; simp [hkl]
    have hq := (HK.out.fns _ (List.getElem_mem hkl)).params
    have hcp := (HP.out.at_ (F := ⟨w, Lt w.heap.size⟩) (by simp) hat (by rw [block_of_add]; exact hab)).cell 0 rfl
    have e0 : (ad.add (k * 3)).add 0 = ad.add (k * 3) := by simp [Addr.add]
    rw [e0] at hcp
    have HO17 := Lib.hid h17
    have HPAR := Lib.hid hpar
    rw [hk] at himm
    rw [h17] at hop
    have HKK := Lib.hid hk
    obtain ⟨r, hr⟩ : ∃ r, p.funcs[k].params = r := ⟨_, rfl⟩
    rw [hr] at hcp hq HPAR
    clear h17 hk hpar hat hr e0 i1 i2
    have hr3 : r = 0 ∨ r = 1 ∨ r = 2 := by omega
    clear hq
    rcases hr3 with rfl | rfl | rfl
    all_goals
      go_quiet (fail)
      have i0 := index0
      have i1 := index1
      have i2 := index2
      go_wp2
      go_ret
      refine ⟨ret_int ?_, (HP.out.drewN nq).below⟩
      unfold readsL
      rw [HPAR.out, HO17.out]
      first | rfl | exact or_bits _ _ ⟨a1, a2⟩ ⟨b1, b2⟩
  · have h17b : (x.op == 17) = false := by simpa using h17
    have HN := Lib.hid h17
    clear h17
    go_quiet (fail)
    go_wp2
    all_goals
      go_ret
      refine ⟨ret_int ?_, (HP.out.drewN nq).below⟩
      have h17 := HN.out
      simp only [beq_iff_eq, beq_eq_false_iff_ne, ne_eq] at *
      have h1 := HO.out.op
      unfold readsL
      (try rw [ea]); (try rw [eb])
      first
        | (rw [show readsAZ x.op = false by unfold readsAZ; simp; omega, show readsBZ x.op = false by unfold readsBZ; simp; omega]; rfl)
        | (rw [show readsAZ x.op = true by unfold readsAZ; simp; omega, show readsBZ x.op = false by unfold readsBZ; simp; omega, decide_eq_true h17]; rfl)
        | (rw [show readsAZ x.op = true by unfold readsAZ; simp; omega, show readsBZ x.op = true by unfold readsBZ; simp; omega, decide_eq_true h17]; exact or_bits _ _ ⟨a1, a2⟩ ⟨b1, b2⟩)
end Go.Proofs.YtigbdlcjnnphbaaDoor
namespace Go.Proofs.YtigbdlcjnnphbaaDoor
open Go.RowKit Plain64
def codeOf (p : Prg) (fn : Int) : List Ins := ((p.funcs[fn.toNat]?).map Fun.code).getD []
def ownF (p : Prg) (f : Frm) : Prop := 0 ≤ f.fn ∧ f.fn < p.funcs.length ∧ 0 ≤ f.pc ∧ f.pc < (codeOf p f.fn).length
def insAt (p : Prg) (f : Frm) : Ins := ((codeOf p f.fn)[f.pc.toNat]?).getD default
def linkF (p : Prg) (f g : Frm) : Prop := (insAt p f).op = 17 ∧ (insAt p f).imm = g.fn
structure FramesOk (p : Prg) (fs : List Frm) : Prop where
  own : ∀ f ∈ fs, ownF p f
  link : ∀ (i : Nat) f g, fs[i]? = some f → fs[i + 1]? = some g → linkF p f g
structure HeadOk (s : Sta) : Prop where
  status : 0 ≤ s.status ∧ s.status ≤ 5
  fuel : 0 ≤ s.fuel ∧ s.fuel ≤ 10000
  frames : s.frames.length ≤ 8
  answers : s.answers.length ≤ 100
  value : s.status ≠ 1 → s.value = 0
  done : s.frames.length = 0 ↔ s.status = 1
open Classical in
/-- P4.2, at every argument. -/
noncomputable def stateFault (p : Prg) (s : Sta) : Int := if proven p ≠ 0 then proven p else if HeadOk s ∧ FramesOk p s.frames then 0 else 8
theorem sf_bad {p : Prg} {s : Sta} (h : proven p ≠ 0) : stateFault p s = proven p := by unfold stateFault; rw [if_pos h]
theorem sf_head {p : Prg} {s : Sta} (h : proven p = 0) (hh : ¬ HeadOk s) : stateFault p s = 8 := by
  unfold stateFault; rw [if_neg (by simpa using h), if_neg (fun x => hh x.1)]
theorem sf_frames {p : Prg} {s : Sta} (h : proven p = 0) (hh : ¬ FramesOk p s.frames) : stateFault p s = 8 := by
  unfold stateFault; rw [if_neg (by simpa using h), if_neg (fun x => hh x.2)]
theorem sf_ok {p : Prg} {s : Sta} (h : proven p = 0) (hh : HeadOk s) (hf : FramesOk p s.frames) : stateFault p s = 0 := by
  unfold stateFault; rw [if_neg (by simpa using h), if_pos ⟨hh, hf⟩]
theorem codeOf_eq {p : Prg} {k : Nat} {f : Fun} (h : p.funcs[k]? = some f) : codeOf p (k : Int) = f.code := by unfold codeOf; rw [Int.toNat_natCast, h]; rfl
theorem insAt_eq {p : Prg} {g : Frm} {k j : Nat} {f : Fun} {x : Ins} (hk : g.fn = k) (hj : g.pc = j) (h : p.funcs[k]? = some f) (hx : f.code[j]? = some x) : insAt p g = x := by
  unfold insAt; rw [hk, hj, codeOf_eq h, Int.toNat_natCast, hx]; rfl
theorem proven_prg {p : Prg} (h : proven p = 0) : prgFault p = 0 := by
  by_cases hz : prgFault p = 0
  · exact hz
  · unfold proven at h; rw [if_pos hz] at h; exact h
/-- What of a head may be wrong, the first first: as the program asks. -/
theorem head_cases (s : Sta) : (HeadOk s ∧ 0 ≤ s.status ∧ s.status ≤ 5 ∧ 0 ≤ s.fuel ∧ s.fuel ≤ 10000 ∧ (s.frames.length : Int) ≤ 8 ∧ (s.answers.length : Int) ≤ 100 ∧ ((s.status == 1) = true ∧ ((s.frames.length : Int) == 0) = true ∨ (s.status == 1) = false ∧ (s.value == 0) = true ∧ ((s.frames.length : Int) == 0) = false)) ∨
    s.status < 0 ∨ (0 ≤ s.status ∧ 5 < s.status) ∨ (0 ≤ s.status ∧ s.status ≤ 5 ∧ s.fuel < 0) ∨ (0 ≤ s.status ∧ s.status ≤ 5 ∧ 0 ≤ s.fuel ∧ 10000 < s.fuel) ∨ (0 ≤ s.status ∧ s.status ≤ 5 ∧ 0 ≤ s.fuel ∧ s.fuel ≤ 10000 ∧ 8 < (s.frames.length : Int)) ∨ (0 ≤ s.status ∧ s.status ≤ 5 ∧ 0 ≤ s.fuel ∧ s.fuel ≤ 10000 ∧ (s.frames.length : Int) ≤ 8 ∧ 100 < (s.answers.length : Int)) ∨
    (0 ≤ s.status ∧ s.status ≤ 5 ∧ 0 ≤ s.fuel ∧ s.fuel ≤ 10000 ∧ (s.frames.length : Int) ≤ 8 ∧ (s.answers.length : Int) ≤ 100 ∧ (s.status == 1) = false ∧ (s.value == 0) = false) ∨ (0 ≤ s.status ∧ s.status ≤ 5 ∧ 0 ≤ s.fuel ∧ s.fuel ≤ 10000 ∧ (s.frames.length : Int) ≤ 8 ∧ (s.answers.length : Int) ≤ 100 ∧ (s.status == 1) = false ∧ (s.value == 0) = true ∧ ((s.frames.length : Int) == 0) = true) ∨ (0 ≤ s.status ∧ s.status ≤ 5 ∧ 0 ≤ s.fuel ∧ s.fuel ≤ 10000 ∧ (s.frames.length : Int) ≤ 8 ∧ (s.answers.length : Int) ≤ 100 ∧ (s.status == 1) = true ∧ ((s.frames.length : Int) == 0) = false) := by
  by_cases h1 : s.status < 0
  · exact .inr (.inl h1)
  by_cases h2 : 5 < s.status
  · exact .inr (.inr (.inl ⟨by omega, h2⟩))
  by_cases h3 : s.fuel < 0
  · exact .inr (.inr (.inr (.inl ⟨by omega, by omega, h3⟩)))
  by_cases h4 : 10000 < s.fuel
  · exact .inr (.inr (.inr (.inr (.inl ⟨by omega, by omega, by omega, h4⟩))))
  by_cases h5 : 8 < s.frames.length
  · exact .inr (.inr (.inr (.inr (.inr (.inl ⟨by omega, by omega, by omega, by omega, by omega⟩)))))
  by_cases h6 : 100 < s.answers.length
  · exact .inr (.inr (.inr (.inr (.inr (.inr (.inl ⟨by omega, by omega, by omega, by omega, by omega, by omega⟩))))))
  by_cases hs : s.status = 1
  · by_cases hl : s.frames.length = 0
    · exact .inl ⟨⟨by omega, by omega, by omega, by omega, fun h => absurd hs h, ⟨fun _ => hs, fun _ => hl⟩⟩, by omega, by omega, by omega, by omega, by omega, by omega, .inl ⟨by simpa using hs, by rw [beq_iff_eq]; omega⟩⟩
    · exact .inr (.inr (.inr (.inr (.inr (.inr (.inr (.inr (.inr ⟨by omega, by omega, by omega, by omega, by omega, by omega, by simpa using hs, by rw [beq_eq_false_iff_ne]; omega⟩))))))))
  · by_cases hv : s.value = 0
    · by_cases hl : s.frames.length = 0
      · exact .inr (.inr (.inr (.inr (.inr (.inr (.inr (.inr (.inl ⟨by omega, by omega, by omega, by omega, by omega, by omega, by simpa using hs, by simpa using hv, by rw [beq_iff_eq]; omega⟩))))))))
      · exact .inl ⟨⟨by omega, by omega, by omega, by omega, fun _ => hv, ⟨fun h => absurd h hl, fun h => absurd h hs⟩⟩, by omega, by omega, by omega, by omega, by omega, by omega, .inr ⟨by simpa using hs, by simpa using hv, by rw [beq_eq_false_iff_ne]; omega⟩⟩
    · exact .inr (.inr (.inr (.inr (.inr (.inr (.inr (.inl ⟨by omega, by omega, by omega, by omega, by omega, by omega, by simpa using hs, by simpa using hv⟩)))))))
theorem head_not {s : Sta} (h : s.status < 0 ∨ (0 ≤ s.status ∧ 5 < s.status) ∨ s.fuel < 0 ∨ 10000 < s.fuel ∨ 8 < (s.frames.length : Int) ∨ 100 < (s.answers.length : Int) ∨ ((s.status == 1) = false ∧ (s.value == 0) = false) ∨ ((s.status == 1) = false ∧ ((s.frames.length : Int) == 0) = true) ∨ ((s.status == 1) = true ∧ ((s.frames.length : Int) == 0) = false)) : ¬ HeadOk s := by
  intro hk
  have h1 := hk.status
  have h2 := hk.fuel
  have h3 := hk.frames
  have h4 := hk.answers
  simp only [beq_iff_eq, beq_eq_false_iff_ne, ne_eq] at h
  rcases h with h | h | h | h | h | h | h | h | h
  · omega
  · omega
  · omega
  · omega
  · omega
  · omega
  · exact h.2 (hk.value h.1)
  · exact h.1 (hk.done.1 (by omega))
  · exact h.2 (by have := hk.done.2 h.1; omega)
end Go.Proofs.YtigbdlcjnnphbaaDoor
namespace Go.Proofs.YtigbdlcjnnphbaaDoor
open Go.RowKit
theorem wrap64_succ (k k1 : Nat) (h : k + 1 = k1) (hk : k ≤ 1000) : wrap64 ((k : Int) + 1) = (k1 : Int) := by
  subst h
  exact IntWalk.wrap64_in _ ⟨by omega, by omega⟩
theorem wrapI_succ (k k1 : Nat) (h : k + 1 = k1) (hk : k ≤ 1000) : IntKind.i64.wrap ((k : Int) + 1) = (k1 : Int) := by
  rw [IntWalk.i64_left]
  exact wrap64_succ k k1 h hk
end Go.Proofs.YtigbdlcjnnphbaaDoor
