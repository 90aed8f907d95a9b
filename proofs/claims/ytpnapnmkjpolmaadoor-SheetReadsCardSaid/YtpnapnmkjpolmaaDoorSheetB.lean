/- sheet.Show. -/
import Derived.Test.YtpnapnmkjpolmaaDoorSheetA
import Derived.Test.YtpnapnmkjpolmaaDoorCodeC
import Derived.Test.YtpnapnmkjpolmaaDoorValid
set_option linter.unusedSimpArgs false
set_option linter.unusedVariables false
namespace Go.Proofs.YtpnapnmkjpolmaaDoor
open Go.RowKit
attribute [local irreducible] wpList Code.wp Oper.wp
theorem bld_in {w0 w : World} {Fs : List Fro} {B : List Res} {b : Nat} {p v : Value} {l : List UInt8} {r : Res} (h : Hp w0 Fs (r :: (bldL b p v l ++ B)) w) : Hp w0 Fs (bldL b p v l ++ r :: B) w := h.perm List.perm_middle.symm
theorem lines_len (xs : List Ins) (h : ∀ x ∈ xs, ∀ c, I64 (fieldZ x c)) : (xs.flatMap lineS).length ≤ 98 * xs.length := by
  induction xs with
  | nil => simp
  | cons x xs ih =>
    rw [List.flatMap_cons, List.length_append, List.length_cons]
    have h1 := ih (fun y hy => h y (by simp [hy]))
    have h2 := lineB_len x (h x (by simp))
    have h3 : (lineS x).length = (lineB x).length + 1 := by unfold lineS; simp
    omega
theorem headS_len (f : Fun) (h1 : I64 f.params) (h2 : I64 f.regs) : (headS f).length ≤ 49 := by
  unfold headS
  have := itoa_len _ h1
  have := itoa_len _ h2
  simp; omega
/-- A program whose numbers are numbers. -/
structure NumP (p : Prg) : Prop where
  ok : OkP p
  par : ∀ f ∈ p.funcs, I64 f.params ∧ I64 f.regs
  fld : ∀ f ∈ p.funcs, ∀ x ∈ f.code, ∀ c, I64 (fieldZ x c)
theorem numP_of {p : Prg} (h : Lay.ok p) (hz : prgFault p = 0) : NumP p := by
  refine ⟨okP_of hz, fun f hf => ?_, fun f hf x hx c => ?_⟩
  · have h1 : Lay.ok f := h.2 f hf
    exact ⟨h1.1, h1.2.1⟩
  · have h1 : Lay.ok f := h.2 f hf
    obtain ⟨_, q1, q2, q3, q4⟩ := (show Lay.ok x from h1.2.2.2 x hx)
    exact field_i64 q1 q2 q3 q4 c
theorem funS_len {p : Prg} (h : NumP p) {f : Fun} (hf : f ∈ p.funcs) : (funS f).length ≤ 4000 := by
  unfold funS
  have h1 := headS_len f (h.par f hf).1 (h.par f hf).2
  have h2 := lines_len f.code (h.fld f hf)
  have h3 := (h.ok.fns f hf).len
  rw [List.length_append]
  omega
theorem show_len {p : Prg} (h : NumP p) (k : Nat) : ((p.funcs.take k).flatMap funS).length ≤ 16000 := by
  have key : ∀ l : List Fun, (∀ f ∈ l, f ∈ p.funcs) → (l.flatMap funS).length ≤ 4000 * l.length := by
    intro l
    induction l with
    | nil => simp
    | cons f l ih =>
      intro hl
      rw [List.flatMap_cons, List.length_append, List.length_cons]
      have h1 := ih (fun g hg => hl g (by simp [hg]))
      have h2 := funS_len h (hl f (by simp))
      omega
  have h1 := key (p.funcs.take k) (fun f hf => List.mem_of_mem_take hf)
  have h2 := h.ok.len.2
  rw [List.length_take] at h1
  omega
set_option maxRecDepth 10000 in
set_option maxHeartbeats 4000000 in
theorem Show_any (p : Prg) (u : Value) (w : World) (hp : Lay.rep w (Lt w.heap.size) p [u]) (hok : Lay.ok p) (hh : Has w) (ht : Pow w) (hw : Wds w) :
    Calls Tryd.prog 6 #[.agg #[u]] w fun e w' => e = .returned (.tuple #[.string (bstr (showAns p).1), .int .i64 (showAns p).2]) ∧ Below w.heap.size w w' := by
  obtain ⟨A, c, rfl, hc, hm, hx⟩ := rep_funs_at hp
  unfold maxLen at hm
  have HX := Lib.hid hx
  have HR := Lib.hid hp
  have HH := Lib.hid hh
  have HT := Lib.hid ht
  have HW := Lib.hid hw
  clear hx hp hh ht hw
  have HP := Lib.hid (Hp.start w)
  by_cases hz : prgFault p = 0
  · have HN := Lib.hid (numP_of hok hz)
    have HA := Lib.hid (show_ok hz)
    have HZ := Lib.hid hz
    obtain ⟨n1, n2⟩ := HN.out.ok.len
    obtain ⟨ad, hA⟩ : ∃ ad, A = some ad := by
      obtain ⟨a, _, e, _⟩ := HX.out 0 (show 0 < p.funcs.length by omega)
      exact ⟨a, e⟩
    subst hA
    clear hz hok
    go_enter Tryd.func6, Tryd.ntmps6
    go_upto_region 5 with (first | (refine wpList_box_hp (o := ⟨some 1, _, _, _, _, _⟩) rfl _ _ rfl HP.out [_] rfl ?_; clear HP; intro g1 w1 HP; replace HP := Lib.hid HP) | (refine wpList_ldR0 rfl 24 _ rfl HP.out rfl Tryd.underlying24 rfl (by kernel_rfl) ?_) | (go_at_call 11; refine (codeCheck_any p _ _ (HP.out.rep (F := ⟨w, Lt w.heap.size⟩) (by simp) HR.out) (HH.out.keep HP.out.below rfl)).mono ?_; rintro e wck ⟨rfl, hb⟩; replace HP := Lib.hid (HP.out.call0 hb); clear hb; rw [HZ.out]) | (refine wpList_alloc_hp (o := ⟨some 5, _, _, _, _, _⟩) rfl _ rfl HP.out (.agg #[.pointer none, .slice none 0 0]) (by kernel_rfl) [_, _] rfl ?_; clear HP; intro g5 w5 HP; replace HP := Lib.hid HP))
    replace HP := Lib.hid ((HP.out.nil 5 1).perm (.swap _ _ _))
    replace HP := Lib.hid (show Hp w [⟨w, Lt w.heap.size⟩] (bldL g5 (.pointer none) (.slice none 0 0) [] ++ [.blk g1 24 [.slice (some ad) p.funcs.length c]]) _ from HP.out)
    go_upto_region 6 with (first | (refine wpList_ld2 rfl 22 _ rfl HP.out rfl rfl Tryd.underlying22 rfl ?_))
    go_loopw [18] (fun iv wr => ∃ (k : Nat) (pb v : Value), k ≤ p.funcs.length ∧ iv = .int .i64 k ∧ BldP g5 pb ∧ Hid (Hp w [⟨w, Lt w.heap.size⟩] (bldL g5 pb v ((p.funcs.take k).flatMap funS) ++ [.blk g1 24 [.slice (some ad) p.funcs.length c]]) wr)) (fun iv _ => p.funcs.length - (intOf iv).toNat)
    case atStart => exact ⟨0, _, _, by omega, rfl, .inl rfl, by simpa using HP⟩
    case round =>
      clear HP
      obtain ⟨k, pb, v, hk9, rfl, hpb, HP⟩ := hrel
      obtain ⟨wo, rfl⟩ : ∃ wo : World, wo = wr := ⟨_, rfl⟩
      have hal := show_len HN.out k
      obtain ⟨acc, hacc⟩ : ∃ acc, (p.funcs.take k).flatMap funS = acc := ⟨_, rfl⟩
      rw [hacc] at HP hal
      have HACC := Lib.hid hacc
      clear hacc
      by_cases hk : k < p.funcs.length
      · have hk2 : (k : Int) < (p.funcs.length : Int) := by omega
        obtain ⟨ad', v0, e0, hab, hat, hcode⟩ := HX.out k hk
        cases e0
        obtain ⟨f, hf⟩ : ∃ f, p.funcs[k] = f := ⟨_, rfl⟩
        rw [hf] at hat hcode
        have hfm : f ∈ p.funcs := hf ▸ List.getElem_mem hk
        have HFK := Lib.hid (show p.funcs[k]? = some f by rw [← hf, List.getElem?_eq_getElem hk])
        obtain ⟨A2, c2, rfl, hc2, hm2, hx2⟩ := rep_code_at hcode
        unfold maxLen at hm2
        have HX2 := Lib.hid hx2
        have HAT := Lib.hid hat
        have HPR := Lib.hid (HN.out.par f hfm)
        have HFL := Lib.hid (HN.out.fld f hfm)
        have HOI := Lib.hid ((HN.out.ok.fns f hfm).ins)
        obtain ⟨l1, l2⟩ := (HN.out.ok.fns f hfm).len
        have hhl := headS_len f HPR.out.1 HPR.out.2
        clear hf hat hcode hx2 hfm
        have HHS := Lib.hid (show headS f = [102, 117, 110, 99, 32] ++ Lib.itoa f.params ++ [32] ++ Lib.itoa f.regs ++ [10] from rfl)
        obtain ⟨hs, hhs⟩ : ∃ hs, headS f = hs := ⟨_, rfl⟩
        rw [hhs] at HHS hhl
        have HHD := Lib.hid hhs
        clear hhs
        go_upto_region 10 with (first | (refine wpList_load_at rfl 36 _ rfl _ rfl _ _ (HP.out.at_ (F := ⟨w, Lt w.heap.size⟩) (by simp) HAT.out (by rw [block_of_add]; exact hab)) Tryd.underlying36 rfl (by kernel_rfl) ?_) | (refine wpList_alloc_hp (o := ⟨some 7, _, _, _, _, _⟩) rfl _ rfl HP.out (.agg #[.int .i64 0, .int .i64 0, .slice none 0 0]) (by kernel_rfl) [_, _, _] rfl ?_; clear HP; intro g7 w7 HP; replace HP := Lib.hid (bld_in HP)) | (refine wpList_stR2 rfl 36 _ _ rfl HP.out rfl (cs' := [_, _, _]) rfl rfl (by simp [Value.oneCell']) (by kernel_rfl) ?_; clear HP; intro wst HP; replace HP := Lib.hid HP) | (refine wpList_ldR2 rfl 36 _ rfl HP.out rfl Tryd.underlying36 rfl (by kernel_rfl) ?_) | (go_at_call 13; refine (head_any f.params f.regs _ HPR.out.1 HPR.out.2 _ (HT.out.keep HP.out.below rfl)).mono ?_; rintro e whd ⟨rfl, hb⟩; replace HP := Lib.hid (HP.out.call0 hb); clear hb; rw [← HHS.out]) | (go_at_call 12; refine (WriteString_hp (l := acc) hs HP.out hpb (by omega)).mono ?_; rintro e wws ⟨⟨x9, rfl⟩, v', hp9⟩; replace HP := Lib.hid hp9; clear hp9) | (refine wpList_ld2 rfl 34 _ rfl HP.out rfl rfl Tryd.underlying34 rfl ?_))
        go_loopw [28] (fun jv wr => ∃ (j : Nat) (v : Value), j ≤ f.code.length ∧ jv = .int .i64 j ∧ Hid (Hp w [⟨w, Lt w.heap.size⟩] (bldL g5 (.pointer (some ⟨g5, 0, none⟩)) v (acc ++ hs ++ (f.code.take j).flatMap lineS) ++ [.blk g7 36 [.int .i64 f.params, .int .i64 f.regs, .slice A2 f.code.length c2], .blk g1 24 [.slice (some ad) p.funcs.length c]]) wr)) (fun jv _ => f.code.length - (intOf jv).toNat)
        case atStart => exact ⟨0, _, by omega, rfl, by simpa using HP⟩
        case round =>
          clear HP
          obtain ⟨j, v, hj9, rfl, HP⟩ := hrel
          obtain ⟨wi, rfl⟩ : ∃ wo : World, wo = wr := ⟨_, rfl⟩
          have hal2 : (acc ++ hs ++ (f.code.take j).flatMap lineS).length ≤ 21000 := by
            have h1 := lines_len (f.code.take j) (fun x hx => HFL.out x (List.mem_of_mem_take hx))
            rw [List.length_take] at h1
            rw [List.length_append, List.length_append]
            omega
          obtain ⟨ac2, hac2⟩ : ∃ ac2, acc ++ hs ++ (f.code.take j).flatMap lineS = ac2 := ⟨_, rfl⟩
          rw [hac2] at HP hal2
          have HAC2 := Lib.hid hac2
          clear hac2
          by_cases hj : j < f.code.length
          · have hj2 : (j : Int) < (f.code.length : Int) := by omega
            obtain ⟨ai, rfl, hib, hia⟩ := HX2.out j hj
            obtain ⟨x, hx⟩ : ∃ x, f.code[j] = x := ⟨_, rfl⟩
            rw [hx] at hia
            have hxm : x ∈ f.code := hx ▸ List.getElem_mem hj
            have HIA := Lib.hid hia
            have HXJ := Lib.hid (show f.code[j]? = some x by rw [← hx, List.getElem?_eq_getElem hj])
            have HX64 := Lib.hid (HFL.out x hxm)
            have HXOP := Lib.hid (HOI.out x hxm).op
            have hll : (lineS x).length ≤ 98 := by have := lineB_len x HX64.out; unfold lineS; simp; omega
            obtain ⟨ls, hls⟩ : ∃ ls, lineS x = ls := ⟨_, rfl⟩
            rw [hls] at hll
            have HLS := Lib.hid hls
            clear hia hx hxm hls
            go_wp2_with (first | (refine wpList_load_at rfl 48 _ rfl _ rfl _ _ (HP.out.at_ (F := ⟨w, Lt w.heap.size⟩) (by simp) HIA.out (by rw [block_of_add]; exact hib)) Tryd.underlying48 rfl (by kernel_rfl) ?_) | (refine wpList_alloc_hp (o := ⟨some 9, _, _, _, _, _⟩) rfl _ rfl HP.out (.agg #[.int .i64 0, .int .i64 0, .int .i64 0, .int .i64 0, .int .i64 0]) (by kernel_rfl) [_, _, _, _, _] rfl ?_; clear HP; intro g9 w9 HP; replace HP := Lib.hid (bld_in HP)) | (refine wpList_stR2 rfl 48 _ _ rfl HP.out rfl (cs' := [_, _, _, _, _]) rfl rfl (by simp [Value.oneCell']) (by kernel_rfl) ?_; clear HP; intro wst HP; replace HP := Lib.hid HP) | (refine wpList_ldR2 rfl 48 _ rfl HP.out rfl Tryd.underlying48 rfl (by kernel_rfl) ?_) | (go_at_call 14; refine (line_any x _ HXOP.out HX64.out (HT.out.keep HP.out.below rfl) (HW.out.keep HP.out.below rfl)).mono ?_; rintro e wln ⟨rfl, hb⟩; replace HP := Lib.hid (HP.out.call0 hb); clear hb; rw [HLS.out]) | (go_at_call 12; refine (WriteString_hp (l := ac2) ls HP.out (.inr rfl) (by omega)).mono ?_; rintro e wws ⟨⟨x9, rfl⟩, v', hp9⟩; replace HP := Lib.hid hp9; clear hp9))
            go_roundw
            case rel => exact ⟨j + 1, _, by omega, by go_num, Lib.hid (by
              have h1 := Hp.drop (A := bldL _ _ _ _) HP.out
              rw [List.take_add_one, HXJ.out, List.flatMap_append, ← List.append_assoc, HAC2.out]
              simp only [Option.toList_some, List.flatMap_cons, List.flatMap_nil, List.append_nil]
              rw [HLS.out]
              exact h1)⟩
            case measure => simp [intOf]; omega
          · obtain rfl : j = f.code.length := by omega
            have HF1 := Lib.hid (show (p.funcs.take (k + 1)).flatMap funS = ac2 by
              rw [List.take_add_one, HFK.out, List.flatMap_append, HACC.out]
              simp only [Option.toList_some, List.flatMap_cons, List.flatMap_nil, List.append_nil]
              unfold funS
              rw [← HAC2.out, List.take_length, HHD.out, List.append_assoc])
            go_wp2
            go_roundw
            case rel => exact ⟨k + 1, _, _, by omega, by go_num, .inr rfl, Lib.hid (by
              rw [HF1.out]
              exact Hp.drop (A := bldL _ _ _ _) HP.out)⟩
            case measure => simp [intOf]; omega
      · obtain rfl : k = p.funcs.length := by omega
        have HEND := Lib.hid (show showAns p = (acc, 0) by rw [HA.out]; unfold showS; rw [← HACC.out, List.take_length])
        go_wp2_with (first | (go_at_call 15; refine (String_hp HP.out hpb).mono ?_; rintro e wse ⟨rfl, hb9⟩; have HB9 := Lib.hid hb9; clear hb9))
        (try simp only [Exit.inBlock, Exit.then])
        refine bodyPost_ret (results_tmp2 (by rfl) _ _ _) (by rfl) ?_
        exact ⟨by rw [HEND.out]; rfl, HB9.out⟩
  · have HA := Lib.hid (show_bad hz)
    obtain ⟨e0, he0⟩ : ∃ e0, prgFault p = e0 := ⟨_, rfl⟩
    rw [he0] at HA hz
    have HZ := Lib.hid he0
    have hzb : (e0 != 0) = true := by simpa using hz
    clear hz he0
    go_enter Tryd.func6, Tryd.ntmps6
    go_wp2_with (first | (refine wpList_box_hp (o := ⟨some 1, _, _, _, _, _⟩) rfl _ _ rfl HP.out [_] rfl ?_; clear HP; intro g1 w1 HP; replace HP := Lib.hid HP) | (refine wpList_ldR0 rfl 24 _ rfl HP.out rfl Tryd.underlying24 rfl (by kernel_rfl) ?_) | (go_at_call 11; refine (codeCheck_any p _ _ (HP.out.rep (F := ⟨w, Lt w.heap.size⟩) (by simp) HR.out) (HH.out.keep HP.out.below rfl)).mono ?_; rintro e wck ⟨rfl, hb⟩; replace HP := Lib.hid (HP.out.call0 hb); clear hb; rw [HZ.out]))
    (try simp only [Exit.inBlock, Exit.then])
    refine bodyPost_ret (results_tmp2 (by rfl) _ _ _) (by rfl) ?_
    exact ⟨by rw [HA.out]; rfl, HP.out.below⟩
end Go.Proofs.YtpnapnmkjpolmaaDoor
