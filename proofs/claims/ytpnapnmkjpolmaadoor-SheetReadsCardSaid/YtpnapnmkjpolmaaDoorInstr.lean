/- sheet.instr. -/
import Derived.Test.YtpnapnmkjpolmaaDoorStrIdx
import Derived.Test.YtpnapnmkjpolmaaDoorReadLaw
import Derived.Test.YtpnapnmkjpolmaaDoorSheetA
import Derived.Test.YtpnapnmkjpolmaaDoorAtoi
import Derived.Test.YtpnapnmkjpolmaaDoorSplit
import Derived.Test.YtpnapnmkjpolmaaDoorInstrOf
import Derived.WalkSmall
set_option linter.unusedSimpArgs false
set_option linter.unusedVariables false
namespace Go.Proofs.YtpnapnmkjpolmaaDoor
open Go.RowKit
attribute [local irreducible] wpList Code.wp Oper.wp
theorem Below.var {w w' : World} {n : String} {cs : Array Value} (h : Below w.heap.size w w') (hv : w.var? Tryd.prog n = some cs) : w'.var? Tryd.prog n = some cs := by
  unfold World.var? at hv ⊢
  cases hg : Tryd.prog.globalNamed n with
  | none => rw [hg] at hv; cases hv
  | some g =>
    rw [hg] at hv
    simp only [Option.bind_some] at hv ⊢
    have hlt : g < w.heap.size := by
      rcases Nat.lt_or_ge g w.heap.size with hlt | hge
      · exact hlt
      · rw [Array.getElem?_eq_none hge] at hv; cases hv
    rw [h.block g hlt]
    exact hv
theorem AtoiW.keep {w w' : World} (h : AtoiW w) (hb : Below w.heap.size w w') : AtoiW w' :=
  ⟨let ⟨tp, p, e⟩ := h.syn; ⟨tp, p, Below.var hb e⟩, let ⟨tp, p, e⟩ := h.rng; ⟨tp, p, Below.var hb e⟩⟩
section
variable {ops : Array Oper} {rest : List Oper} {o oi : Oper} {a : Act} {Q : Exit → Act → World → Prop} {w : World}
theorem exec_aidx (x y : Operand) (ho : o.op = .index 67 x y) (ta : List Value) (hx : a.eval x = .agg ta.toArray) (k : Nat) (hy : a.eval y = .int .i64 k) (hk : k < 20) (s : ByteArray) (hv : ta[k]? = some (.string s)) (w : World) :
    (execOp a.eval o).run Tryd.prog w = .ok (.value (.string s)) w := by
  have h20 : (k : Int) < 20 := by omega
  unfold execOp
  simp only [ho, hx, hy]
  unfold Instr.index
  simp [Sem.run_bind, run_underlying Tryd.underlying67, Result.andThen, asIntOf, h20, part, hk, hv]
theorem wpList_aidx (hgd : o.guard = none) (x y : Operand) (ho : o.op = .index 67 x y) (ta : List Value) (hx : a.eval x = .agg ta.toArray) (k : Nat) (hy : a.eval y = .int .i64 k) (hk : k < 20) (s : ByteArray) (hv : ta[k]? = some (.string s))
    (h : wpList Tryd.prog ops Q rest (a.put o.dst (.string s)) w) : wpList Tryd.prog ops Q (o :: rest) a w := by
  refine wpList_plain hgd fun K hK => ?_
  unfold Oper.wp
  rw [exec_aidx x y ho ta hx k hy hk s hv]
  exact hK _ _ h
end
theorem argIns_snoc (l : List (List UInt8)) : ∀ (cs : List UInt8) (c : UInt8) (i : Nat) (x : Ins), argIns l (cs ++ [c]) i x = if i + cs.length + 1 < l.length then setF (argIns l cs i x) c (atoiV (Lib.trimPrefix (l.getD (i + cs.length + 1) []) [114])) else argIns l cs i x
  | [], c, i, x => by simp [argIns]
  | d :: cs, c, i, x => by
    rw [List.cons_append, argIns, argIns_snoc l cs c (i + 1), argIns]
    simp only [List.length_cons, show i + 1 + cs.length + 1 = i + (cs.length + 1) + 1 by omega]
def insL (x : Ins) : List Value := [.int .i64 x.op, .int .i64 x.dst, .int .i64 x.a, .int .i64 x.b, .int .i64 x.imm]
theorem insL_set (x : Ins) (c : UInt8) (v : Int) : (insL x).set (fieldN c) (.int .i64 v) = insL (setF x c v) := by
  unfold insL fieldN setF
  by_cases h1 : c = 100
  · simp [h1]
  by_cases h2 : c = 97
  · simp [h2]
  by_cases h3 : c = 98
  · simp [h3]
  · simp [h1, h2, h3]
theorem opUp_yes {w : List UInt8} {k : Nat} (h0 : 0 < k) (h : wordsT.getD k [] = w) : opUp w (k + 1) = k := by rw [opUp, if_pos ⟨h0, h⟩]
theorem opUp_no {w : List UInt8} {k : Nat} (h : ¬ (0 < k ∧ wordsT.getD k [] = w)) : opUp w (k + 1) = opUp w k := by rw [opUp, if_neg h]
theorem trimPrefix_le (w p : List UInt8) : (Lib.trimPrefix w p).length ≤ w.length := by
  unfold Lib.trimPrefix
  split
  · simp
  · exact Nat.le_refl _
set_option maxRecDepth 10000 in
set_option maxHeartbeats 4000000 in
theorem instrP_any (ws : List (List UInt8)) (hne : ws ≠ []) (hwl : ∀ x ∈ ws, x.length ≤ 1000000) (hn : ws.length ≤ 1000001) (u : Value) (w : World) (hu : Lay.rep w (Lt w.heap.size) (ws.map bstr) [u]) (hA : AtoiW w) (hW : Wds w) :
    Calls Tryd.prog 23 #[u] w fun e w' => e = .returned (.agg (insL (parseIns ws)).toArray) ∧ Below w.heap.size w w' := by
  obtain ⟨A, c, rfl, hcell⟩ := rep_strs hu (by simpa using hne)
  rw [List.length_map]
  obtain ⟨n, hln⟩ : ∃ n, ws.length = n := ⟨_, rfl⟩
  have hn0 : 0 < n := by rw [← hln]; exact List.length_pos_iff.2 hne
  have HX := Lib.hid (show ∀ k, k < n → w.cell? (A.add k) = some (.string (bstr (ws.getD k []))) ∧ A.block < w.heap.size from fun k hk => by
    have hk2 : k < ws.length := by rw [hln]; exact hk
    obtain ⟨h1, h2⟩ := hcell k (by rw [List.length_map]; exact hk2)
    refine ⟨?_, h2⟩
    rw [h1, List.getElem_map, List.getD_eq_getElem?_getD, List.getElem?_eq_getElem hk2, Option.getD_some])
  have HWL := Lib.hid (show ∀ k, k < n → (ws.getD k []).length ≤ 1000000 from fun k hk => by
    have hk2 : k < ws.length := by rw [hln]; exact hk
    rw [List.getD_eq_getElem?_getD, List.getElem?_eq_getElem hk2, Option.getD_some]
    exact hwl _ (List.getElem_mem hk2))
  rw [hln] at hn ⊢
  have HLN := Lib.hid hln
  obtain ⟨w0, hw0⟩ : ∃ w0, ws.headD [] = w0 := ⟨_, rfl⟩
  have HW0 := Lib.hid (show ws.getD 0 [] = w0 by rw [← hw0]; cases ws <;> rfl)
  have HWH := Lib.hid hw0
  obtain ⟨ta, hta, htl, hat⟩ : ∃ ta : List Value, (∀ k, k < 20 → ta[k]? = some (.string (bstr (wordsT.getD k [])))) ∧ ta.length = 20 ∧ At w ⟨0, 0, none⟩ ta := by
    refine ⟨wordsT.map fun l => .string (bstr l), fun k hk => ?_, rfl, fun j v hv => ?_⟩
    · have hk2 : k < wordsT.length := hk
      rw [List.getElem?_map, List.getElem?_eq_getElem hk2, List.getD_eq_getElem?_getD, List.getElem?_eq_getElem hk2]
      rfl
    · have hj : j < wordsT.length := by have := (List.getElem?_eq_some_iff.1 hv).1; simpa using this
      rw [List.getElem?_map, List.getElem?_eq_getElem hj] at hv
      have := hW j hj
      rw [List.getD_eq_getElem?_getD, List.getElem?_eq_getElem hj] at this
      rw [Addr.add_lit]
      simp only [Nat.zero_add]
      rw [this]
      exact hv
  have hgl : 0 < w.heap.size := World.block_lt_of_cell? w _ (hW 0 (by omega))
  have HTA := Lib.hid hta
  have HAT := Lib.hid hat
  have HA := Lib.hid hA
  clear hta hat hA hW hu hcell hne hwl hln hw0
  have HP := Lib.hid (Hp.start w)
  go_enter Tryd.func23, Tryd.ntmps23
  go_upto_region 3 with (first | (refine wpList_alloc_hp (o := ⟨some 2, _, _, _, _, _⟩) rfl _ rfl HP.out (.agg #[.int .i64 0, .int .i64 0, .int .i64 0, .int .i64 0, .int .i64 0]) (by kernel_rfl) [_, _, _, _, _] rfl ?_; clear HP; intro g2 w2 HP; replace HP := Lib.hid HP) | (refine wpList_alloc_hp (o := ⟨some 3, _, _, _, _, _⟩) rfl _ rfl HP.out (.agg #[.int .i64 0, .int .i64 0, .int .i64 0, .int .i64 0, .int .i64 0]) (by kernel_rfl) [_, _, _, _, _] rfl ?_; clear HP; intro g3 w3 HP; replace HP := Lib.hid HP) | (refine wpList_load_at rfl 67 _ rfl ⟨0, 0, none⟩ rfl ta _ (HP.out.at_ (F := ⟨w, Lt w.heap.size⟩) (by simp) HAT.out hgl) Tryd.underlying67 rfl (by rw [htl]; kernel_rfl) ?_))
  go_loopw [9] (fun i wr => ∃ k : Nat, k ≤ 20 ∧ i = .int .i64 k ∧ Hid (Hp w [⟨w, Lt w.heap.size⟩] [.blk g3 48 [.int .i64 (opUp w0 k : Int), .int .i64 0, .int .i64 0, .int .i64 0, .int .i64 0], .blk g2 48 [.int .i64 0, .int .i64 0, .int .i64 0, .int .i64 0, .int .i64 0]] wr)) (fun i _ => 20 - (intOf i).toNat)
  case atStart => exact ⟨0, by omega, rfl, HP⟩
  case round =>
    clear HP
    obtain ⟨k, hk9, rfl, HP⟩ := hrel
    obtain ⟨wo, rfl⟩ : ∃ wo : World, wo = wr := ⟨_, rfl⟩
    by_cases hk : k < 20
    · have hk2 : (k : Int) < 20 := by omega
      have HTK := Lib.hid (HTA.out k hk)
      have hcg := (HP.out.alike (F := ⟨w, Lt w.heap.size⟩) (by simp) (A.add 0) (by rw [block_of_add]; exact (HX.out 0 hn0).2)).trans (HX.out 0 hn0).1
      rw [HW0.out, show A.add 0 = A by simp [Addr.add]] at hcg
      obtain ⟨ou, hou⟩ : ∃ ou, opUp w0 k = ou := ⟨_, rfl⟩
      have HOU := Lib.hid hou
      rw [hou] at HP
      obtain ⟨wk, hwk⟩ : ∃ wk, wordsT.getD k [] = wk := ⟨_, rfl⟩
      have HWK := Lib.hid hwk
      rw [hwk] at HTK
      clear hwk hou
      by_cases hk0 : k = 0
      · have hg1 : decide (0 < k) = false := decide_eq_false (by omega)
        have HEN := Lib.hid (show opUp w0 (k + 1) = ou by rw [opUp_no (fun h => by omega), HOU.out])
        clear hk0
        go_wp2_with (first | (refine wpList_aidx rfl _ _ rfl ta rfl k rfl hk _ HTK.out ?_))
        go_roundw
        case rel => exact ⟨k + 1, by omega, by go_num, by rw [HEN.out]; exact HP⟩
        case measure => simp [intOf]; omega
      · have hg1 : decide (0 < k) = true := decide_eq_true (by omega)
        by_cases heq : wk = w0
        · have hb : ((bstr wk).toList == (bstr w0).toList) = true := by rw [heq]; exact beq_self_eq_true _
          have HEN := Lib.hid (show opUp w0 (k + 1) = k from opUp_yes (by omega) (by rw [HWK.out, heq]))
          clear heq hk0
          go_wp2_with (first | (refine wpList_aidx rfl _ _ rfl ta rfl k rfl hk _ HTK.out ?_) | (refine wpList_st0 rfl 3 _ _ rfl HP.out rfl rfl (by simp) rfl rfl (by kernel_rfl) ?_; clear HP; intro wst HP; replace HP := Lib.hid HP))
          go_roundw
          case rel => exact ⟨k + 1, by omega, by go_num, by rw [HEN.out]; exact HP⟩
          case measure => simp [intOf]; omega
        · have hb : ((bstr wk).toList == (bstr w0).toList) = false := by rw [bstr_toList, bstr_toList]; exact beq_eq_false_iff_ne.2 heq
          have HEN := Lib.hid (show opUp w0 (k + 1) = ou by rw [opUp_no (fun h => heq (by rw [← HWK.out]; exact h.2)), HOU.out])
          clear heq hk0
          go_wp2_with (first | (refine wpList_aidx rfl _ _ rfl ta rfl k rfl hk _ HTK.out ?_))
          go_roundw
          case rel => exact ⟨k + 1, by omega, by go_num, by rw [HEN.out]; exact HP⟩
          case measure => simp [intOf]; omega
    · obtain rfl : k = 20 := by omega
      have hg20 : ¬ (20 : Nat) < 20 := by omega
      obtain ⟨op, hop⟩ : ∃ op : Nat, opUp w0 20 = op := ⟨_, rfl⟩
      rw [hop] at HP
      have HOP := Lib.hid (show opOf w0 = op by unfold opOf; rw [hop])
      clear hop hk hk9
      go_upto_region 8 with fail
      by_cases hop0 : op = 0
      · subst hop0
        have HE := Lib.hid (show parseIns ws = ⟨0, 0, 0, 0, 0⟩ by unfold parseIns; rw [if_pos (by rw [HWH.out, HOP.out]; rfl)])
        go_wp2_with (first | (refine wpList_ld0 rfl 3 _ rfl HP.out rfl rfl Tryd.underlying3 rfl ?_) | (refine wpList_ldR0 rfl 48 _ rfl HP.out rfl Tryd.underlying48 rfl (by kernel_rfl) ?_) | (refine wpList_stR0 rfl 48 _ _ rfl HP.out rfl (cs' := [_, _, _, _, _]) rfl rfl (by simp [Value.oneCell']) (by kernel_rfl) ?_; clear HP; intro wst HP; replace HP := Lib.hid HP) | (refine wpList_stR1 rfl 48 _ _ rfl HP.out rfl (cs' := [_, _, _, _, _]) rfl rfl (by simp [Value.oneCell']) (by kernel_rfl) ?_; clear HP; intro wst HP; replace HP := Lib.hid HP))
        (try simp only [Exit.inBlock, Exit.then])
        refine bodyPost_ret (results_cell_row rfl _ _ g2 48 [.int .i64 0, .int .i64 0, .int .i64 0, .int .i64 0, .int .i64 0].toArray (0, 0) _ rfl (HP.out.blk (.tail _ (.head _))) Tryd.underlying48 rfl (by kernel_rfl)) (by rfl) ?_
        exact ⟨by rw [HE.out]; rfl, HP.out.below⟩
      · have hg0 : ((op : Int) == 0) = false := beq_eq_false_iff_ne.2 (by omega)
        have hoi := opOf_is (w := w0) (by rw [HOP.out]; omega)
        rw [HOP.out] at hoi
        obtain ⟨fl, hfl0⟩ : ∃ fl, formL (op : Int) = fl := ⟨_, rfl⟩
        have HFL := Lib.hid hfl0
        have hfl := form_len (op : Int)
        rw [hfl0] at hfl
        obtain ⟨x0, hx0⟩ : ∃ x0 : Ins, (⟨op, 0, 0, 0, 0⟩ : Ins) = x0 := ⟨_, rfl⟩
        have HE := Lib.hid (show parseIns ws = argIns ws fl 0 x0 by unfold parseIns; rw [HWH.out, HOP.out, if_neg (by omega), HFL.out, hx0])
        clear hfl0 hop0
        go_upto_region 11 with (first | (refine wpList_ld0 rfl 3 _ rfl HP.out rfl rfl Tryd.underlying3 rfl ?_) | (go_at_call 31; refine (form_any _ _).mono ?_; rintro e wfo ⟨rfl, rfl⟩; rw [HFL.out]) | (refine wpList_conv rfl _ rfl fl rfl HP.out ?_; clear HP; intro gc cc wc HP hgc hcells; replace HP := Lib.hid HP; have HCC := Lib.hid hcells; clear hcells))
        obtain ⟨GB, HP, hgc, HCC⟩ : ∃ GB : Fro, Hid (Hp w [GB, ⟨w, Lt w.heap.size⟩] [.blk g3 48 (insL x0), .blk g2 48 [.int .i64 0, .int .i64 0, .int .i64 0, .int .i64 0, .int .i64 0]] wc) ∧ GB.S gc ∧ Hid (∀ (j : Nat) (y : UInt8), fl[j]? = some y → GB.w.cell? ⟨gc, j, none⟩ = some (.int .u8 y.toNat)) := ⟨_, by rw [← hx0]; exact HP, hgc, HCC⟩
        clear hx0
        go_loopw [34] (fun jv wr => ∃ (j : Nat), j ≤ fl.length ∧ jv = .int .i64 j ∧ Hid (Hp w [GB, ⟨w, Lt w.heap.size⟩] [.blk g3 48 (insL (argIns ws (fl.take j) 0 x0)), .blk g2 48 [.int .i64 0, .int .i64 0, .int .i64 0, .int .i64 0, .int .i64 0]] wr)) (fun jv _ => fl.length - (intOf jv).toNat)
        case atStart => exact ⟨0, by omega, rfl, HP⟩
        case round =>
          clear HP
          obtain ⟨j, hj9, rfl, HP⟩ := hrel
          obtain ⟨wo, rfl⟩ : ∃ wo : World, wo = wr := ⟨_, rfl⟩
          by_cases hj : j < fl.length
          · have hj2 : (j : Int) < (fl.length : Int) := by omega
            obtain ⟨c, hc⟩ : ∃ c, fl[j]? = some c := ⟨_, List.getElem?_eq_getElem hj⟩
            have HCJ := Lib.hid hc
            have hcc := (HP.out.alike (F := GB) (.head _) ⟨gc, j, none⟩ hgc).trans (HCC.out j c hc)
            have HST := Lib.hid (show argIns ws (fl.take (j + 1)) 0 x0 = if j + 1 < n then setF (argIns ws (fl.take j) 0 x0) c (atoiV (Lib.trimPrefix (ws.getD (j + 1) []) [114])) else argIns ws (fl.take j) 0 x0 by
              rw [List.take_add_one, hc, Option.toList_some, argIns_snoc, List.length_take, show min j fl.length = j by omega, HLN.out]
              simp only [Nat.zero_add])
            obtain ⟨y, hy⟩ : ∃ y, argIns ws (fl.take j) 0 x0 = y := ⟨_, rfl⟩
            rw [hy] at HP HST
            have hw1 : IntKind.i64.wrap ((j : Int) + 1) = ((j + 1 : Nat) : Int) := by rw [IntKind.wrap_i64]; omega
            obtain ⟨z, hz⟩ : ∃ z : Int, (c.toNat : Int) = z := ⟨_, rfl⟩
            rw [hz] at hcc
            clear hc hy
            by_cases hjn : j + 1 < n
            · have hjn2 : ((j + 1 : Nat) : Int) < (n : Int) := by omega
              have hjn3 : (j : Int) + 1 < (n : Int) := by omega
              have hjn4 : 0 ≤ (j : Int) + 1 := by omega
              rw [if_pos hjn] at HST
              obtain ⟨wk, hwk⟩ : ∃ wk, ws.getD (j + 1) [] = wk := ⟨_, rfl⟩
              have HXK := HX.out (j + 1) hjn
              have hwkl := HWL.out (j + 1) hjn
              rw [hwk] at HXK hwkl HST
              replace HXK := Lib.hid HXK
              clear hwk
              go_upto_region 14 with fail
              have hcs : ∀ cs w', Hp w [GB, ⟨w, Lt w.heap.size⟩] [.blk g3 48 cs, .blk g2 48 [.int .i64 0, .int .i64 0, .int .i64 0, .int .i64 0, .int .i64 0]] w' → w'.cell? ⟨A.block, A.off + (j + 1), none⟩ = some (.string (bstr wk)) := fun cs w' hp => by
                have := hp.cellOf (F := ⟨w, Lt w.heap.size⟩) (by simp) HXK.out.1 (by rw [block_of_add]; exact HXK.out.2)
                simpa [Addr.add] using this
              have HCS := Lib.hid hcs
              clear hcs
              refine wp_region_held_drew (S := fun wq => wq.cell? ⟨A.block, A.off + (j + 1), none⟩ = some (.string (bstr wk))) (by kernel_rfl) (HCS.out _ _ HP.out.drew) (fun hHeld => ?_)
              have HS0 := Lib.hid hHeld
              clear hHeld
              replace HP := Lib.hid HP.out.drew
              (try simp only [Act.put, List.setIfInBounds_toArray, List.set_cons_zero, List.set_cons_succ])
              refine wpAnyH_take (i := 0) (v := ?_) rfl (by kernel_rfl) (by kernel_rfl) (by kernel_rfl) (fun _ _ _ h => h) (.inl ⟨by first | (simp [Region.wanted]; done) | rfl, ?_⟩) HS0.out ?_
              rotate_left
              · intro w' hw
                go_simp
                (try with_reducible rfl)
              (try simp only [List.getElem_toArray, List.getElem_cons_succ, List.getElem_cons_zero, Act.put, List.setIfInBounds_toArray, List.set_cons_zero, List.set_cons_succ])
              refine wpAnyH_take (i := 2) (v := ?_) rfl (by kernel_rfl) (by kernel_rfl) (by kernel_rfl) (fun _ _ _ h => h) (.inl ⟨by first | (simp [Region.wanted]; done) | rfl, ?_⟩) HS0.out ?_
              rotate_left
              · intro w' hw
                go_simp
                (try with_reducible rfl)
              (try simp only [List.getElem_toArray, List.getElem_cons_succ, List.getElem_cons_zero, Act.put, List.setIfInBounds_toArray, List.set_cons_zero, List.set_cons_succ])
              refine wpAnyH_take (i := 3) (v := ?_) rfl (by kernel_rfl) (by kernel_rfl) (by kernel_rfl) (fun _ _ _ h => h) (.inl ⟨by first | (simp [Region.wanted]; done) | rfl, ?_⟩) HS0.out ?_
              rotate_left
              · intro w' hw
                go_simp
                (try with_reducible rfl)
              (try simp only [List.getElem_toArray, List.getElem_cons_succ, List.getElem_cons_zero, Act.put, List.setIfInBounds_toArray, List.set_cons_zero, List.set_cons_succ])
              refine wpAnyH_take (i := 4) (v := ?_) rfl (by kernel_rfl) (by kernel_rfl) (by kernel_rfl) (fun _ _ _ h => h) (.inl ⟨by first | (simp [Region.wanted]; done) | rfl, ?_⟩) HS0.out ?_
              rotate_left
              · intro w' hw
                go_simp
                (try with_reducible rfl)
              (try simp only [List.getElem_toArray, List.getElem_cons_succ, List.getElem_cons_zero, Act.put, List.setIfInBounds_toArray, List.set_cons_zero, List.set_cons_succ])
              refine wpAnyH_take (i := 5) (v := ?_) rfl (by kernel_rfl) (by kernel_rfl) (by kernel_rfl) (fun _ _ _ h => h) (.inl ⟨by first | (simp [Region.wanted]; done) | rfl, ?_⟩) HS0.out ?_
              rotate_left
              · intro w' hw
                go_simp
                (try with_reducible rfl)
              (try simp only [List.getElem_toArray, List.getElem_cons_succ, List.getElem_cons_zero, Act.put, List.setIfInBounds_toArray, List.set_cons_zero, List.set_cons_succ])
              refine wpAnyH_take (i := 6) (v := ?_) rfl (by kernel_rfl) (by kernel_rfl) (by kernel_rfl) (fun _ _ _ h => h) (.inl ⟨by first | (simp [Region.wanted]; done) | rfl, ?_⟩) HS0.out ?_
              rotate_left
              · intro w' hw
                go_simp
                (try with_reducible rfl)
              (try simp only [List.getElem_toArray, List.getElem_cons_succ, List.getElem_cons_zero, Act.put, List.setIfInBounds_toArray, List.set_cons_zero, List.set_cons_succ])
              refine wpAnyH_ready (rs := [1]) (by kernel_rfl) (by simp) ?_
              refine AllReadyH.cons rfl (fun K hK => ?_) AllReadyH.nil
              go_simp
              rw [show Value.int IntKind.u8 z = .int .u8 c.toNat by rw [← hz]]
              refine (field_any g3 c _).mono ?_
              rintro e w1 ⟨rfl, rfl⟩
              dsimp only
              refine hK.out _ _ (HCS.out _ _ HP.out) (fun hHeld => ?_)
              replace HS0 := Lib.hid hHeld
              clear hK K hHeld
              (try simp only [List.getElem_toArray, List.getElem_cons_succ, List.getElem_cons_zero, Act.put, List.setIfInBounds_toArray, List.set_cons_zero, List.set_cons_succ])
              refine wpAnyH_ready (rs := [7]) (by kernel_rfl) (by simp) ?_
              refine AllReadyH.cons rfl (fun K hK => ?_) AllReadyH.nil
              go_simp
              refine (Tryd.strings_TrimPrefix (bstr wk) ⟨#[114]⟩ _).mono ?_
              rintro e w1 ⟨rfl, rfl⟩
              rw [bstr_data]
              dsimp only
              refine hK.out _ _ (HCS.out _ _ HP.out) (fun hHeld => ?_)
              replace HS0 := Lib.hid hHeld
              clear hK K hHeld
              (try simp only [List.getElem_toArray, List.getElem_cons_succ, List.getElem_cons_zero, Act.put, List.setIfInBounds_toArray, List.set_cons_zero, List.set_cons_succ])
              refine wpAnyH_ready (rs := [8]) (by kernel_rfl) (by simp) ?_
              refine AllReadyH.cons rfl (fun K hK => ?_) AllReadyH.nil
              go_simp
              obtain ⟨vk, hvk⟩ : ∃ vk, Lib.trimPrefix wk [114] = vk := ⟨_, rfl⟩
              have hvl : vk.length ≤ 1000000 := by
                rw [← hvk]
                have := trimPrefix_le wk [114]
                omega
              rw [hvk] at HST ⊢
              refine (Atoi_any vk hvl _ (HA.out.keep HP.out.below)).mono ?_
              rintro e w1 ⟨ev, rfl, hb⟩
              replace HP := Lib.hid (HP.out.call0 hb)
              clear hb hvk
              dsimp only
              refine hK.out _ _ (HCS.out _ _ HP.out) (fun hHeld => ?_)
              replace HS0 := Lib.hid hHeld
              clear hK K hHeld
              (try simp only [List.getElem_toArray, List.getElem_cons_succ, List.getElem_cons_zero, Act.put, List.setIfInBounds_toArray, List.set_cons_zero, List.set_cons_succ])
              refine wpAnyH_take (i := 9) (v := ?_) rfl (by kernel_rfl) (by kernel_rfl) (by kernel_rfl) (fun _ _ _ h => h) (.inl ⟨by first | (simp [Region.wanted]; done) | rfl, ?_⟩) HS0.out ?_
              rotate_left
              · intro w' hw
                go_simp
                (try with_reducible rfl)
              (try simp only [List.getElem_toArray, List.getElem_cons_succ, List.getElem_cons_zero, Act.put, List.setIfInBounds_toArray, List.set_cons_zero, List.set_cons_succ])
              refine wpAnyH_take (i := 10) (v := ?_) rfl (by kernel_rfl) (by kernel_rfl) (by kernel_rfl) (fun _ _ _ h => h) (.inl ⟨by first | (simp [Region.wanted]; done) | rfl, ?_⟩) HS0.out ?_
              rotate_left
              · intro w' hw
                go_simp
                (try with_reducible rfl)
              (try simp only [List.getElem_toArray, List.getElem_cons_succ, List.getElem_cons_zero, Act.put, List.setIfInBounds_toArray, List.set_cons_zero, List.set_cons_succ])
              refine wpAnyH_take (i := 11) (v := ?_) rfl (by kernel_rfl) (by kernel_rfl) (by kernel_rfl) (fun _ _ _ h => h) (.inl ⟨by first | (simp [Region.wanted]; done) | rfl, ?_⟩) HS0.out ?_
              rotate_left
              · intro w' hw
                go_simp
                (try with_reducible rfl)
              (try simp only [List.getElem_toArray, List.getElem_cons_succ, List.getElem_cons_zero, Act.put, List.setIfInBounds_toArray, List.set_cons_zero, List.set_cons_succ])
              refine wpAnyH_take (i := 12) (v := ?_) rfl (by kernel_rfl) (by kernel_rfl) (by kernel_rfl) (fun _ _ _ h => h) (.inl ⟨by first | (simp [Region.wanted]; done) | rfl, ?_⟩) HS0.out ?_
              rotate_left
              · intro w' hw
                go_simp
                (try with_reducible rfl)
              (try simp only [List.getElem_toArray, List.getElem_cons_succ, List.getElem_cons_zero, Act.put, List.setIfInBounds_toArray, List.set_cons_zero, List.set_cons_succ])
              refine wpAnyH_ready (rs := [13]) (by kernel_rfl) (by simp) ?_
              refine AllReadyH.cons rfl (fun K hK => ?_) AllReadyH.nil
              refine wanted_only rfl ?_
              refine wpList_st0 rfl 3 _ _ rfl HP.out rfl rfl (by unfold fieldN insL; simp; split <;> (try split) <;> (try split) <;> omega) rfl (insL_set y c _) (by kernel_rfl) ?_
              clear HP; intro wst HP; replace HP := Lib.hid HP
              refine wpList_nil ?_
              refine hK.out _ _ (HCS.out _ _ HP.out) (fun hHeld => ?_)
              clear hK K hHeld HS0
              (try simp only [List.getElem_toArray, List.getElem_cons_succ, List.getElem_cons_zero, Act.put, List.setIfInBounds_toArray, List.set_cons_zero, List.set_cons_succ])
              refine wpAnyH_done (by kernel_rfl) ?_ _
              (try simp only [List.getElem_toArray, List.getElem_cons_succ, List.getElem_cons_zero, Act.put, List.setIfInBounds_toArray, List.set_cons_zero, List.set_cons_succ])
              go_wp2
              go_roundw
              case rel => exact ⟨j + 1, by omega, by go_num, by rw [HST.out]; exact HP⟩
              case measure => simp [intOf]; omega
            · have hjn2 : ¬ ((j : Int) + 1) < (n : Int) := by omega
              rw [if_neg hjn] at HST
              clear hjn
              go_wp2
              go_roundw
              case rel => exact ⟨j + 1, by omega, by go_num, by rw [HST.out]; exact HP⟩
              case measure => simp [intOf]; omega
          · obtain rfl : j = fl.length := by omega
            have hnl : ¬ (fl.length : Int) < (fl.length : Int) := by omega
            rw [List.take_length, ← HE.out] at HP
            go_wp2_with (first | (refine wpList_ldR0 rfl 48 _ rfl HP.out rfl Tryd.underlying48 rfl (by kernel_rfl) ?_) | (refine wpList_stR1 rfl 48 _ _ rfl HP.out rfl (cs' := insL (parseIns ws)) rfl rfl (by simp [insL, Value.oneCell']) (by kernel_rfl) ?_; clear HP; intro wst HP; replace HP := Lib.hid HP))
            (try simp only [Exit.inBlock, Exit.then])
            refine bodyPost_ret (results_cell_row rfl _ _ g2 48 (insL (parseIns ws)).toArray (0, 0) _ rfl (HP.out.blk (.tail _ (.head _))) Tryd.underlying48 rfl (by kernel_rfl)) (by rfl) ?_
            exact ⟨rfl, HP.out.below⟩
end Go.Proofs.YtpnapnmkjpolmaaDoor
