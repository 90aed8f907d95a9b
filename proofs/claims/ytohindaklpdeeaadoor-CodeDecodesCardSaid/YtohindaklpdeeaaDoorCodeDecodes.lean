/- The law CodeDecodes, walked. -/
import Derived.Test.YtohindaklpdeeaaDoorDecode
import Derived.Test.YtohindaklpdeeaaDoorProgOf
import Derived.Test.YtohindaklpdeeaaDoorSameB
import Derived.Test.YtohindaklpdeeaaDoorCodeE
import Derived.Test.YtohindaklpdeeaaDoorOpen
set_option linter.unusedSimpArgs false
set_option linter.unusedVariables false
namespace Go.Proofs.YtohindaklpdeeaaDoor
open Go.RowKit Plain64
attribute [local irreducible] wpList Code.wp Oper.wp
theorem repB_bytes {w : World} {S : Nat → Prop} {xs : List UInt8} {v : Value} (h : Lay.rep w S xs [v]) : RepB w S (xs.map fun b => (b.toNat : Int)) v := by
  obtain ⟨A, c, e, h1, h2, h3⟩ := h
  obtain rfl : v = _ := (List.cons.inj e).1
  refine ⟨A, c, by simp, by simpa using h1, h2, fun k x hx => ?_⟩
  rw [List.getElem?_map] at hx
  cases hk : xs[k]? with
  | none => rw [hk] at hx; cases hx
  | some b =>
    rw [hk] at hx; cases hx
    obtain ⟨a, ds, rfl, hS, hat, hr⟩ := h3 k b hk
    obtain rfl : ds = _ := hr
    refine ⟨a, rfl, hS, ?_⟩
    have := hat 0 _ rfl
    rw [add_of_add] at this
    have hs : k * Lay.size UInt8 + 0 = k := by show k * 1 + 0 = k; omega
    rw [hs] at this
    exact this
theorem octets_ok (xs : List UInt8) : ∀ x ∈ xs.map (fun b => (b.toNat : Int)), 0 ≤ x ∧ x < 256 := fun x hx => by
  obtain ⟨b, -, rfl⟩ := List.mem_map.1 hx
  have := b.toNat_lt
  omega
theorem wpList_load_wp {P : Program} {w : World} {ops : Array Oper} {rest : List Oper} {o : Oper} {a : Act} {Q : Exit → Act → World → Prop} (hw : Region.wanted o (yielded ops a.tmps) = true) (ty : TypeId) (x : Operand) (ho : o.op = .load ty x)
    (ad : Addr) (hx : a.eval x = .pointer (some ad)) (cs : List Value) (d : TypeDesc) (hc : At w ad cs)
    (hu : P.underlying ty = some d) (hd : d.isRow = true) (hi : (P.info? ty).map (·.size) = some cs.length)
    (h : wpList P ops Q rest (a.put o.dst (.agg cs.toArray)) w) : wpList P ops Q (o :: rest) a w :=
  wpList_step fun K hK => by
    rw [if_pos hw]
    unfold Oper.wp execOp
    simp only [ho, hx, Instr.loadAt, Instr.sureAddr, Sem.run_bind, Sem.run_pure, Result.andThen_ok, run_loadVar_at w ad ty cs d hc hu hd hi]
    exact hK _ _ h
set_option maxRecDepth 10000 in
set_option maxHeartbeats 1000000 in
theorem codeDecodes_any (xs : List UInt8) (u : Value) (w : World) (hp : Lay.rep w (Lt w.heap.size) xs [u]) (hok : Lay.ok xs) (hh : Has w) :
    Calls Tryd.prog 3 #[u] w fun e w' => e = .returned (.bool true) ∧ Below w.heap.size w w' := by
  have hlen : (xs.map fun b => (b.toNat : Int)).length ≤ 140737488355328 := by
    have h1 : xs.length * 1 ≤ 140737488351232 := hok.1
    rw [List.length_map]; omega
  have HB := Lib.hid (octets_ok xs)
  have HR := Lib.hid (repB_bytes hp)
  have HH := Lib.hid hh
  clear hp hok hh
  obtain ⟨l, hl⟩ : ∃ l, (xs.map fun b => (b.toNat : Int)) = l := ⟨_, rfl⟩
  rw [hl] at hlen HB HR
  clear hl
  have HP := Lib.hid (Hp.start w)
  go_enter Tryd.func3, Tryd.ntmps3
  go_upto_region 4 with (first | (refine wpList_alloc_hp (o := ⟨some 4, _, _, _, _, _⟩) rfl _ rfl HP.out (.agg #[.slice none 0 0]) (by kernel_rfl) [_] rfl ?_; clear HP; intro g4 w4 HP; replace HP := Lib.hid HP) | (refine wpList_alloc_hp (o := ⟨some 6, _, _, _, _, _⟩) rfl _ rfl HP.out (.agg #[.slice none 0 0]) (by kernel_rfl) [_] rfl ?_; clear HP; intro g6 w6 HP; replace HP := Lib.hid HP) | (refine wpList_stR0 rfl 26 _ _ rfl HP.out rfl (cs' := [_]) rfl rfl (by simp [Value.oneCell']) (by kernel_rfl) ?_; clear HP; intro wst HP; replace HP := Lib.hid HP) | (go_at_call 5; refine (octets_any l _ _ (HP.out.repB (F := ⟨w, Lt w.heap.size⟩) (by simp) HR.out) hlen).mono ?_; rintro e w1 ⟨v, rfl, hv, hb1⟩; replace HP := Lib.hid (HP.out.call hb1); have HV := Lib.hid hv; clear hb1 hv) | (go_at_call 6; refine (Decode_any l _ _ (HP.out.repB (.head _) HV.out) HB.out (HH.out.keep HP.out.below rfl)).mono ?_; rintro e w2 ⟨v2, rfl, hv2, hb⟩; obtain ⟨A2, c2, rfl, -, -, -⟩ := rep_funs_at (rep_prg.1 hv2); replace HP := Lib.hid (HP.out.call hb); have HV2 := Lib.hid hv2; clear hb hv2) | (go_at_call 7; refine (ProgramOf_any l _ _ (HP.out.repB (F := ⟨w, Lt w.heap.size⟩) (by simp) HR.out) HB.out).mono ?_; rintro e w3 ⟨v3, rfl, hv3, hb⟩; obtain ⟨A3, c3, rfl, -, -, -⟩ := rep_funs_at (rep_prg.1 hv3); replace HP := Lib.hid (HP.out.call hb); have HV3 := Lib.hid hv3; clear hb hv3))
  (try simp only [Act.put, List.setIfInBounds_toArray, List.set_cons_zero, List.set_cons_succ])
  have HM6 := Lib.hid (HP.out.blkAt (.head _) 0); have HM4 := Lib.hid (HP.out.blkAt (.tail _ (.head _)) 0)
  go_wp2_with (first | (refine wpList_load_wp rfl 26 _ rfl _ rfl _ _ HM6.out Tryd.underlying26 rfl (by kernel_rfl) ?_) | (refine wpList_load_wp rfl 26 _ rfl _ rfl _ _ HM4.out Tryd.underlying26 rfl (by kernel_rfl) ?_) | (go_at_call 8; refine (sameProgram_any (decAns l).1 (decAns l).1 _ _ _ (HP.out.rep (.tail _ (.head _)) HV2.out) (HP.out.rep (.head _) HV3.out)).mono ?_; rintro e w4 ⟨rfl, hb⟩; replace HP := Lib.hid (HP.out.call0 hb); clear hb HM6 HM4; rw [decide_eq_true rfl]) | (go_at_call 9; refine (sameBytes_any l _ _ _ (HP.out.repB (.tail _ (.tail _ (.head _))) HV.out) (HP.out.repB (F := ⟨w, Lt w.heap.size⟩) (by simp) HR.out)).mono ?_; rintro e w5 ⟨rfl, hb⟩; replace HP := Lib.hid (HP.out.call0 hb); clear hb))
  go_ret
  exact ⟨ret_bool (by simp), HP.out.below⟩
theorem opensBytes : Opens Tryd.prog 22 (List UInt8) := opens_slice (α := UInt8) Tryd.underlying22 (by kernel_rfl) (by kernel_rfl) (by decide) (opens_byte Tryd.underlying5)
end Go.Proofs.YtohindaklpdeeaaDoor
