/- sheet.head, sheet.line. -/
import Derived.Test.YtpnapnmkjpolmaaDoorBuild
import Derived.Test.YtpnapnmkjpolmaaDoorCat
set_option linter.unusedSimpArgs false
set_option linter.unusedVariables false
namespace Go.Proofs.YtpnapnmkjpolmaaDoor
open Go.RowKit
attribute [local irreducible] wpList Code.wp Oper.wp
theorem itoa_len (n : Int) (h : I64 n) : (Lib.itoa n).length ≤ 21 := Lib.itoa_length_le n h.1 h.2
/-- The table of words. -/
def Wds (w : World) : Prop := ∀ k, k < 20 → w.cell? ⟨0, k, none⟩ = some (.string (bstr (wordsT.getD k [])))
theorem Wds.keep {w w' : World} {B : Nat} (h : Wds w) (hb : Below B w w') (hB : B = w.heap.size) : Wds w' := fun k hk => by
  have hlt := World.block_lt_of_cell? w _ (h k hk)
  rw [hb.cell (by rw [hB]; exact hlt)]
  exact h k hk
set_option maxRecDepth 10000 in
set_option maxHeartbeats 1000000 in
theorem head_any (p r : Int) (v : Value) (hp : I64 p) (hr : I64 r) (w : World) (ht : Pow w) :
    Calls Tryd.prog 13 #[.agg #[.int .i64 p, .int .i64 r, v]] w fun e w' => e = .returned (.string (bstr ([102, 117, 110, 99, 32] ++ Lib.itoa p ++ [32] ++ Lib.itoa r ++ [10]))) ∧ Below w.heap.size w w' := by
  have HT := Lib.hid ht
  have hl1 := itoa_len p hp
  have hl2 := itoa_len r hr
  have HP1 := Lib.hid hp
  have HP2 := Lib.hid hr
  clear ht
  have HP := Lib.hid (Hp.start w)
  go_enter Tryd.func13, Tryd.ntmps13
  go_upto_region 1 with (first | (refine wpList_box_hp (o := ⟨some 1, _, _, _, _, _⟩) rfl _ _ rfl HP.out [_, _, _] rfl ?_; clear HP; intro g1 w1 HP; replace HP := Lib.hid HP))
  refine wp_region_held_drew (S := fun wq => wq.cell? ⟨g1, 0, none⟩ = some (.int .i64 p) ∧ wq.cell? ⟨g1, 1, none⟩ = some (.int .i64 r)) (by kernel_rfl) ⟨HP.out.cell (.head _) 0 _ rfl, HP.out.cell (.head _) 1 _ rfl⟩ (fun hHeld => ?_)
  have HS0 := Lib.hid hHeld
  clear hHeld
  replace HP := Lib.hid HP.out.drew
  (try simp only [Act.put, List.setIfInBounds_toArray, List.set_cons_zero, List.set_cons_succ])
  refine wpAnyH_take (i := 0) (v := ?_) rfl (by kernel_rfl) (by kernel_rfl) (by kernel_rfl) (fun _ _ _ h => h) (.inl ⟨by first | (simp [Region.wanted]; done) | rfl, ?_⟩) HS0.out ?_
  rotate_left
  · intro w' hw
    obtain ⟨k0, k1⟩ := hw
    go_simp
    (try with_reducible rfl)
  (try simp only [List.getElem_toArray, List.getElem_cons_succ, List.getElem_cons_zero, Act.put, List.setIfInBounds_toArray, List.set_cons_zero, List.set_cons_succ])
  refine wpAnyH_take (i := 1) (v := ?_) rfl (by kernel_rfl) (by kernel_rfl) (by kernel_rfl) (fun _ _ _ h => h) (.inl ⟨by first | (simp [Region.wanted]; done) | rfl, ?_⟩) HS0.out ?_
  rotate_left
  · intro w' hw
    obtain ⟨k0, k1⟩ := hw
    go_simp
    (try with_reducible rfl)
  (try simp only [List.getElem_toArray, List.getElem_cons_succ, List.getElem_cons_zero, Act.put, List.setIfInBounds_toArray, List.set_cons_zero, List.set_cons_succ])
  refine wpAnyH_take (i := 5) (v := ?_) rfl (by kernel_rfl) (by kernel_rfl) (by kernel_rfl) (fun _ _ _ h => h) (.inl ⟨by first | (simp [Region.wanted]; done) | rfl, ?_⟩) HS0.out ?_
  rotate_left
  · intro w' hw
    obtain ⟨k0, k1⟩ := hw
    go_simp
    (try with_reducible rfl)
  (try simp only [List.getElem_toArray, List.getElem_cons_succ, List.getElem_cons_zero, Act.put, List.setIfInBounds_toArray, List.set_cons_zero, List.set_cons_succ])
  refine wpAnyH_take (i := 6) (v := ?_) rfl (by kernel_rfl) (by kernel_rfl) (by kernel_rfl) (fun _ _ _ h => h) (.inl ⟨by first | (simp [Region.wanted]; done) | rfl, ?_⟩) HS0.out ?_
  rotate_left
  · intro w' hw
    obtain ⟨k0, k1⟩ := hw
    go_simp
    (try with_reducible rfl)
  (try simp only [List.getElem_toArray, List.getElem_cons_succ, List.getElem_cons_zero, Act.put, List.setIfInBounds_toArray, List.set_cons_zero, List.set_cons_succ])
  refine wpAnyH_ready (rs := [2]) (by kernel_rfl) (by simp) ?_
  refine AllReadyH.cons rfl (fun K hK => ?_) AllReadyH.nil
  go_simp
  refine (Itoa_any p HP1.out _ (HT.out.keep HP.out.below rfl)).mono ?_
  rintro e w1 ⟨rfl, hb⟩
  replace HP := Lib.hid (HP.out.call0 hb)
  clear hb
  dsimp only
  refine hK.out _ _ ⟨HP.out.cell (.head _) 0 _ rfl, HP.out.cell (.head _) 1 _ rfl⟩ (fun hHeld => ?_)
  replace HS0 := Lib.hid hHeld
  clear hK K hHeld
  (try simp only [List.getElem_toArray, List.getElem_cons_succ, List.getElem_cons_zero, Act.put, List.setIfInBounds_toArray, List.set_cons_zero, List.set_cons_succ])
  refine wpAnyH_cat (i := 3) rfl (by kernel_rfl) (by kernel_rfl) (by kernel_rfl) (fun _ _ _ _ h => h) rfl _ _ rfl _ _ rfl rfl (by simp; omega) HS0.out ?_
  (try simp only [List.getElem_toArray, List.getElem_cons_succ, List.getElem_cons_zero, Act.put, List.setIfInBounds_toArray, List.set_cons_zero, List.set_cons_succ])
  refine wpAnyH_cat (i := 4) rfl (by kernel_rfl) (by kernel_rfl) (by kernel_rfl) (fun _ _ _ _ h => h) rfl _ _ rfl _ _ rfl rfl (by simp; omega) HS0.out ?_
  (try simp only [List.getElem_toArray, List.getElem_cons_succ, List.getElem_cons_zero, Act.put, List.setIfInBounds_toArray, List.set_cons_zero, List.set_cons_succ])
  refine wpAnyH_ready (rs := [7]) (by kernel_rfl) (by simp) ?_
  refine AllReadyH.cons rfl (fun K hK => ?_) AllReadyH.nil
  go_simp
  refine (Itoa_any r HP2.out _ (HT.out.keep HP.out.below rfl)).mono ?_
  rintro e w2 ⟨rfl, hb⟩
  replace HP := Lib.hid (HP.out.call0 hb)
  clear hb
  dsimp only
  refine hK.out _ _ ⟨HP.out.cell (.head _) 0 _ rfl, HP.out.cell (.head _) 1 _ rfl⟩ (fun hHeld => ?_)
  replace HS0 := Lib.hid hHeld
  clear hK K hHeld
  (try simp only [List.getElem_toArray, List.getElem_cons_succ, List.getElem_cons_zero, Act.put, List.setIfInBounds_toArray, List.set_cons_zero, List.set_cons_succ])
  refine wpAnyH_cat (i := 8) rfl (by kernel_rfl) (by kernel_rfl) (by kernel_rfl) (fun _ _ _ _ h => h) rfl _ _ rfl _ _ rfl rfl (by simp; omega) HS0.out ?_
  (try simp only [List.getElem_toArray, List.getElem_cons_succ, List.getElem_cons_zero, Act.put, List.setIfInBounds_toArray, List.set_cons_zero, List.set_cons_succ])
  refine wpAnyH_cat (i := 9) rfl (by kernel_rfl) (by kernel_rfl) (by kernel_rfl) (fun _ _ _ _ h => h) rfl _ _ rfl _ _ rfl rfl (by simp; omega) HS0.out ?_
  (try simp only [List.getElem_toArray, List.getElem_cons_succ, List.getElem_cons_zero, Act.put, List.setIfInBounds_toArray, List.set_cons_zero, List.set_cons_succ])
  refine wpAnyH_ready (rs := [10]) (by kernel_rfl) (by simp) ?_
  refine AllReadyH.cons rfl (fun K hK => ?_) AllReadyH.nil
  go_simp
  refine hK.out _ _ ⟨HP.out.cell (.head _) 0 _ rfl, HP.out.cell (.head _) 1 _ rfl⟩ (fun hHeld => ?_)
  replace HS0 := Lib.hid hHeld
  clear hK K hHeld
  (try simp only [List.getElem_toArray, List.getElem_cons_succ, List.getElem_cons_zero, Act.put, List.setIfInBounds_toArray, List.set_cons_zero, List.set_cons_succ])
  refine wpAnyH_done (by kernel_rfl) ?_ _
  (try simp only [List.getElem_toArray, List.getElem_cons_succ, List.getElem_cons_zero, Act.put, List.setIfInBounds_toArray, List.set_cons_zero, List.set_cons_succ])
  go_wp2
  (try simp only [Exit.inBlock, Exit.then])
  refine bodyPost_ret (results_tmp (by rfl) _ _ _) (by rfl) ?_
  exact ⟨by show Ending.returned (Value.string (bstr _)) = _; simp, HP.out.below⟩
theorem form_any (op : Int) (w : World) : Calls Tryd.prog 31 #[.int .i64 op] w fun e w' => e = .returned (.string (bstr (formL op))) ∧ w = w' := by
  have key : ∀ (n : Int) (l : List UInt8), formL n = l → Hid (formL n = l) := fun _ _ h => Lib.hid h
  by_cases h1 : op = 1
  · subst h1
    go_enter Tryd.func31, Tryd.ntmps31
    go_wp2
    go_ret
    exact ⟨rfl, rfl⟩
  by_cases h2 : op = 13
  · subst h2
    go_enter Tryd.func31, Tryd.ntmps31
    go_wp2
    go_ret
    exact ⟨rfl, rfl⟩
  by_cases h3 : op = 18
  · subst h3
    go_enter Tryd.func31, Tryd.ntmps31
    go_wp2
    go_ret
    exact ⟨rfl, rfl⟩
  by_cases h4 : op = 14
  · subst h4
    go_enter Tryd.func31, Tryd.ntmps31
    go_wp2
    go_ret
    exact ⟨rfl, rfl⟩
  by_cases h5 : op = 15
  · subst h5
    go_enter Tryd.func31, Tryd.ntmps31
    go_wp2
    go_ret
    exact ⟨rfl, rfl⟩
  by_cases h6 : op = 16
  · subst h6
    go_enter Tryd.func31, Tryd.ntmps31
    go_wp2
    go_ret
    exact ⟨rfl, rfl⟩
  by_cases h7 : op = 17
  · subst h7
    go_enter Tryd.func31, Tryd.ntmps31
    go_wp2
    go_ret
    exact ⟨rfl, rfl⟩
  by_cases h8 : op = 19
  · subst h8
    go_enter Tryd.func31, Tryd.ntmps31
    go_wp2
    go_ret
    exact ⟨rfl, rfl⟩
  have HF := Lib.hid (show formL op = [100, 97, 98] by unfold formL; rw [if_neg h1, if_neg (by omega), if_neg h4, if_neg h5, if_neg h6, if_neg h7, if_neg h8])
  clear key
  go_enter Tryd.func31, Tryd.ntmps31
  go_wp2
  go_ret
  exact ⟨by rw [HF.out]; rfl, rfl⟩
def fieldN (c : UInt8) : Nat := if c = 100 then 1 else if c = 97 then 2 else if c = 98 then 3 else 4
theorem field_any (g : Nat) (c : UInt8) (w : World) : Calls Tryd.prog 33 #[.pointer (some ⟨g, 0, none⟩), .int .u8 c.toNat] w fun e w' => e = .returned (.pointer (some ⟨g, fieldN c, none⟩)) ∧ w = w' := by
  by_cases h1 : c = 100
  · subst h1
    go_enter Tryd.func33, Tryd.ntmps33
    go_wp2
    go_ret
    exact ⟨rfl, rfl⟩
  by_cases h2 : c = 97
  · subst h2
    go_enter Tryd.func33, Tryd.ntmps33
    go_wp2
    go_ret
    exact ⟨rfl, rfl⟩
  by_cases h3 : c = 98
  · subst h3
    go_enter Tryd.func33, Tryd.ntmps33
    go_wp2
    go_ret
    exact ⟨rfl, rfl⟩
  have HF := Lib.hid (show fieldN c = 4 by unfold fieldN; rw [if_neg h1, if_neg h2, if_neg h3])
  have ne : ∀ k : UInt8, c ≠ k → ((c.toNat : Int) == (k.toNat : Int)) = false := fun k h => by
    rw [beq_eq_false_iff_ne]
    intro e
    exact h (UInt8.toNat_inj.1 (by omega))
  have n1 := ne 100 h1
  have n2 := ne 97 h2
  have n3 := ne 98 h3
  obtain ⟨z, hz⟩ : ∃ z : Int, (c.toNat : Int) = z := ⟨_, rfl⟩
  rw [hz] at n1 n2 n3 ⊢
  replace n1 : (z == 100) = false := n1
  replace n2 : (z == 97) = false := n2
  replace n3 : (z == 98) = false := n3
  clear hz ne h1 h2 h3
  go_enter Tryd.func33, Tryd.ntmps33
  go_wp2
  go_ret
  exact ⟨by rw [HF.out]; rfl, rfl⟩
theorem argS_len (x : Ins) (c : UInt8) (h : I64 (fieldZ x c)) : (argS x c).length ≤ 23 := by
  unfold argS
  have := itoa_len _ h
  simp only [List.length_append, List.length_cons, List.length_nil]
  split <;> simp <;> omega
theorem args_len (x : Ins) (h : ∀ c, I64 (fieldZ x c)) : ∀ l : List UInt8, (l.flatMap (argS x)).length ≤ 23 * l.length
  | [] => by simp
  | c :: l => by
    rw [List.flatMap_cons, List.length_append, List.length_cons]
    have := args_len x h l
    have := argS_len x c (h c)
    omega
theorem field_i64 {x : Ins} (h1 : I64 x.dst) (h2 : I64 x.a) (h3 : I64 x.b) (h4 : I64 x.imm) (c : UInt8) : I64 (fieldZ x c) := by
  unfold fieldZ
  split
  · exact h1
  · split
    · exact h2
    · split
      · exact h3
      · exact h4
theorem field_cell (x : Ins) (c : UInt8) : ([.int .i64 x.op, .int .i64 x.dst, .int .i64 x.a, .int .i64 x.b, .int .i64 x.imm] : List Value)[fieldN c]? = some (.int .i64 (fieldZ x c)) := by
  unfold fieldN fieldZ
  split
  · rfl
  · split
    · rfl
    · split <;> rfl
theorem form_len (op : Int) : (formL op).length ≤ 4 := by
  unfold formL
  repeat' split
  all_goals decide
theorem word_len (op : Int) : (wordL op).length ≤ 5 := by
  unfold wordL
  by_cases h : op.toNat < 20
  · have : op.toNat = 0 ∨ op.toNat = 1 ∨ op.toNat = 2 ∨ op.toNat = 3 ∨ op.toNat = 4 ∨ op.toNat = 5 ∨ op.toNat = 6 ∨ op.toNat = 7 ∨ op.toNat = 8 ∨ op.toNat = 9 ∨ op.toNat = 10 ∨ op.toNat = 11 ∨ op.toNat = 12 ∨ op.toNat = 13 ∨ op.toNat = 14 ∨ op.toNat = 15 ∨ op.toNat = 16 ∨ op.toNat = 17 ∨ op.toNat = 18 ∨ op.toNat = 19 := by omega
    rcases this with e | e | e | e | e | e | e | e | e | e | e | e | e | e | e | e | e | e | e | e <;> rw [e] <;> decide
  · rw [List.getD_eq_getElem?_getD, List.getElem?_eq_none (by simp [wordsT]; omega)]; decide
theorem lineB_len (x : Ins) (h : ∀ c, I64 (fieldZ x c)) : (lineB x).length ≤ 97 := by
  unfold lineB
  rw [List.length_append]
  have := word_len x.op
  have := form_len x.op
  have := args_len x h (formL x.op)
  omega
set_option maxRecDepth 10000 in
set_option maxHeartbeats 4000000 in
theorem line_any (x : Ins) (w : World) (hop : 1 ≤ x.op ∧ x.op ≤ 19) (hx : ∀ c, I64 (fieldZ x c)) (ht : Pow w) (hw : Wds w) :
    Calls Tryd.prog 14 #[.agg #[.int .i64 x.op, .int .i64 x.dst, .int .i64 x.a, .int .i64 x.b, .int .i64 x.imm]] w fun e w' => e = .returned (.string (bstr (lineS x))) ∧ Below w.heap.size w w' := by
  have HT := Lib.hid ht
  have HW := Lib.hid hw
  have HX := Lib.hid hx
  obtain ⟨q, hq⟩ := Int.eq_ofNat_of_zero_le (show 0 ≤ x.op by omega)
  have HWQ := Lib.hid (show wordsT.getD q [] = wordL x.op by unfold wordL; rw [hq, Int.toNat_natCast])
  have HFA := Lib.hid (args_len x hx)
  have hwl := word_len x.op
  have hfl := form_len x.op
  have HQ := Lib.hid hq
  have hq20 : q < 20 := by omega
  have hq3 : (q : Int) < 20 := by omega
  clear ht hw hx
  have HP := Lib.hid (Hp.start w)
  obtain ⟨wl, hwl0⟩ : ∃ wl, wordL x.op = wl := ⟨_, rfl⟩
  have HWL := Lib.hid hwl0
  rw [hwl0] at hwl HWQ
  rw [hq]
  clear hq hwl0 hop
  go_enter Tryd.func14, Tryd.ntmps14
  go_upto_region 2 with (first | (refine wpList_box_hp (o := ⟨some 1, _, _, _, _, _⟩) rfl _ _ rfl HP.out [_, _, _, _, _] rfl ?_; clear HP; intro g1 w1 HP; replace HP := Lib.hid HP) | (refine wpList_alloc_hp (o := ⟨some 3, _, _, _, _, _⟩) rfl _ rfl HP.out (.agg #[.pointer none, .slice none 0 0]) (by kernel_rfl) [_, _] rfl ?_; clear HP; intro g3 w3 HP; replace HP := Lib.hid HP))
  replace HP := Lib.hid ((HP.out.nil 5 1).perm (.swap _ _ _))
  obtain ⟨fl, hfl0⟩ : ∃ fl, formL x.op = fl := ⟨_, rfl⟩
  have HFL := Lib.hid hfl0
  rw [hfl0] at hfl
  have hwc : w3.cell? ⟨0, q, none⟩ = some (.string (bstr wl)) := by
    rw [← HWQ.out]
    exact (HW.out.keep HP.out.below rfl) q hq20
  replace HP := Lib.hid (show Hp w [⟨w, Lt w.heap.size⟩] (bldL g3 (.pointer none) (.slice none 0 0) [] ++ [.blk g1 48 [.int .i64 (q : Int), .int .i64 x.dst, .int .i64 x.a, .int .i64 x.b, .int .i64 x.imm]]) _ from HP.out)
  go_upto_region 4 with (first | (refine wpList_ld2 rfl 3 _ rfl HP.out rfl rfl Tryd.underlying3 rfl ?_) | (go_at_call 12; refine (WriteString_hp (l := []) wl HP.out (.inl rfl) (by simp; omega)).mono ?_; rintro e wws ⟨⟨x9, rfl⟩, v', hp9⟩; replace HP := Lib.hid hp9; clear hp9) | (go_at_call 31; refine (form_any _ _).mono ?_; rintro e wfo ⟨rfl, rfl⟩; rw [← HQ.out, HFL.out]) | (refine wpList_conv rfl _ rfl fl rfl HP.out ?_; clear HP; intro gc cc wc HP hgc hcells; replace HP := Lib.hid HP; have HCC := Lib.hid hcells; clear hcells))
  clear hwc
  obtain ⟨GB, HP, hgc, HCC⟩ : ∃ GB : Fro, Hid (Hp w [GB, ⟨w, Lt w.heap.size⟩] (bldL g3 (.pointer (some ⟨g3, 0, none⟩)) v' ([] ++ wl) ++ [.blk g1 48 [.int .i64 (q : Int), .int .i64 x.dst, .int .i64 x.a, .int .i64 x.b, .int .i64 x.imm]]) _) ∧ GB.S gc ∧ Hid (∀ (j : Nat) (y : UInt8), fl[j]? = some y → GB.w.cell? ⟨gc, j, none⟩ = some (.int .u8 y.toNat)) := ⟨_, HP, hgc, HCC⟩
  go_loopw [16] (fun jv wr => ∃ (j : Nat) (v : Value), j ≤ fl.length ∧ jv = .int .i64 j ∧ Hid (Hp w [GB, ⟨w, Lt w.heap.size⟩] (bldL g3 (.pointer (some ⟨g3, 0, none⟩)) v (wl ++ (fl.take j).flatMap (argS x)) ++ [.blk g1 48 [.int .i64 (q : Int), .int .i64 x.dst, .int .i64 x.a, .int .i64 x.b, .int .i64 x.imm]]) wr)) (fun jv _ => fl.length - (intOf jv).toNat)
  case atStart => exact ⟨0, _, by omega, rfl, by simpa using HP⟩
  case round =>
    clear HP
    obtain ⟨j, v, hj9, rfl, HP⟩ := hrel
    obtain ⟨wo, rfl⟩ : ∃ wo : World, wo = wr := ⟨_, rfl⟩
    have hal : (wl ++ (fl.take j).flatMap (argS x)).length ≤ 97 := by
      have h1 := HFA.out (fl.take j)
      rw [List.length_take] at h1
      rw [List.length_append]
      omega
    obtain ⟨acc, hacc⟩ : ∃ acc, wl ++ (fl.take j).flatMap (argS x) = acc := ⟨_, rfl⟩
    rw [hacc] at HP hal
    have HACC := Lib.hid hacc
    clear hacc
    by_cases hj : j < fl.length
    · have hj2 : (j : Int) < (fl.length : Int) := by omega
      obtain ⟨c, hc⟩ : ∃ c, fl[j]? = some c := ⟨_, List.getElem?_eq_getElem hj⟩
      have HCJ := Lib.hid hc
      have hcc := (HP.out.alike (F := GB) (.head _) ⟨gc, j, none⟩ hgc).trans (HCC.out j c hc)
      obtain ⟨n, hn⟩ : ∃ n, fieldZ x c = n := ⟨_, rfl⟩
      have HN64 := Lib.hid (show I64 n by rw [← hn]; exact HX.out c)
      have HNL := Lib.hid (itoa_len n HN64.out)
      have HFZ := Lib.hid (show ([.int .i64 (q : Int), .int .i64 x.dst, .int .i64 x.a, .int .i64 x.b, .int .i64 x.imm] : List Value)[fieldN c]? = some (.int .i64 n) by rw [← hn, ← HQ.out]; exact field_cell x c)
      obtain ⟨z, hz⟩ : ∃ z : Int, (c.toNat : Int) = z := ⟨_, rfl⟩
      rw [hz] at hcc
      clear hc
      by_cases hci : c = 105
      · have hnq : (z != 105) = false := by rw [← hz, hci]; rfl
        have HAR := Lib.hid (show argS x c = [32] ++ Lib.itoa n by unfold argS; rw [hn]; rw [if_pos hci]; simp)
        clear hci
        go_wp2_with (first | (go_at_call_of 32 ([Value.int IntKind.u8 32]); refine (WriteByte_hp (l := acc) 32 (z := 32) rfl HP.out (.inr rfl) (by omega)).mono ?_; rintro e wwb ⟨⟨x9, rfl⟩, v', hp9⟩; replace HP := Lib.hid hp9; clear hp9) | (go_at_call 33; rw [show Value.int IntKind.u8 z = .int .u8 c.toNat by rw [← hz]]; refine (field_any g1 c _).mono ?_; rintro e wfi ⟨rfl, rfl⟩) | (refine wpList_ld2 rfl 3 _ rfl HP.out rfl HFZ.out Tryd.underlying3 rfl ?_) | (go_at_call 30; refine (Itoa_any n HN64.out _ (HT.out.keep HP.out.below rfl)).mono ?_; rintro e wit ⟨rfl, hb⟩; replace HP := Lib.hid (HP.out.call0 hb); clear hb) | (go_at_call 12; refine (WriteString_hp (l := (acc ++ [32])) (Lib.itoa n) HP.out (.inr rfl) (by have := HNL.out; simp; omega)).mono ?_; rintro e wws ⟨⟨x9, rfl⟩, v', hp9⟩; replace HP := Lib.hid hp9; clear hp9))
        go_roundw
        case rel => exact ⟨j + 1, _, by omega, by go_num, Lib.hid (by
          have h1 := HP.out
          rw [List.take_add_one, HCJ.out, List.flatMap_append, ← List.append_assoc, HACC.out]
          simp only [Option.toList_some, List.flatMap_cons, List.flatMap_nil, List.append_nil]
          rw [HAR.out]
          simpa [List.append_assoc] using h1)⟩
        case measure => simp [intOf]; omega
      · have hnq : (z != 105) = true := by rw [bne_iff_ne, ← hz]; intro e; exact hci (UInt8.toNat_inj.1 (by show c.toNat = 105; omega))
        have HAR := Lib.hid (show argS x c = [32] ++ [114] ++ Lib.itoa n by unfold argS; rw [hn]; rw [if_neg hci])
        clear hci
        go_wp2_with (first | (go_at_call_of 32 ([Value.int IntKind.u8 32]); refine (WriteByte_hp (l := acc) 32 (z := 32) rfl HP.out (.inr rfl) (by omega)).mono ?_; rintro e wwb ⟨⟨x9, rfl⟩, v', hp9⟩; replace HP := Lib.hid hp9; clear hp9) | (go_at_call_of 32 ([Value.int IntKind.u8 114]); refine (WriteByte_hp (l := acc ++ [32]) 114 (z := 114) rfl HP.out (.inr rfl) (by simp; omega)).mono ?_; rintro e wwb ⟨⟨x9, rfl⟩, v', hp9⟩; replace HP := Lib.hid hp9; clear hp9) | (go_at_call 33; rw [show Value.int IntKind.u8 z = .int .u8 c.toNat by rw [← hz]]; refine (field_any g1 c _).mono ?_; rintro e wfi ⟨rfl, rfl⟩) | (refine wpList_ld2 rfl 3 _ rfl HP.out rfl HFZ.out Tryd.underlying3 rfl ?_) | (go_at_call 30; refine (Itoa_any n HN64.out _ (HT.out.keep HP.out.below rfl)).mono ?_; rintro e wit ⟨rfl, hb⟩; replace HP := Lib.hid (HP.out.call0 hb); clear hb) | (go_at_call 12; refine (WriteString_hp (l := (acc ++ [32] ++ [114])) (Lib.itoa n) HP.out (.inr rfl) (by have := HNL.out; simp; omega)).mono ?_; rintro e wws ⟨⟨x9, rfl⟩, v', hp9⟩; replace HP := Lib.hid hp9; clear hp9))
        go_roundw
        case rel => exact ⟨j + 1, _, by omega, by go_num, Lib.hid (by
          have h1 := HP.out
          rw [List.take_add_one, HCJ.out, List.flatMap_append, ← List.append_assoc, HACC.out]
          simp only [Option.toList_some, List.flatMap_cons, List.flatMap_nil, List.append_nil]
          rw [HAR.out]
          simpa [List.append_assoc] using h1)⟩
        case measure => simp [intOf]; omega
    · obtain rfl : j = fl.length := by omega
      have HEND := Lib.hid (show lineS x = acc ++ [10] by unfold lineS lineB; rw [HWL.out, HFL.out, ← HACC.out, List.take_length])
      have hnl : ¬ (fl.length : Int) < (fl.length : Int) := by omega
      go_wp2_with (first | (go_at_call 15; refine (String_hp HP.out (.inr rfl)).mono ?_; rintro e wse ⟨rfl, hb9⟩; have HB9 := Lib.hid hb9; clear hb9) | (refine wpList_cat rfl _ _ rfl acc [10] rfl rfl (by simp; omega) ?_))
      (try simp only [Exit.inBlock, Exit.then])
      refine bodyPost_ret (results_tmp (by rfl) _ _ _) (by rfl) ?_
      exact ⟨by rw [HEND.out]; rfl, HB9.out⟩
end Go.Proofs.YtpnapnmkjpolmaaDoor
