/- trim.where. -/
import Derived.Test.YtfhoffpdodjfeaaDoorTrimLaw
import Derived.Test.YtfhoffpdodjfeaaDoorSureT
set_option linter.unusedSimpArgs false
set_option linter.unusedVariables false
namespace Go.Proofs.YtfhoffpdodjfeaaDoor
open Go.RowKit Plain64
attribute [local irreducible] wpList Code.wp Oper.wp
set_option maxRecDepth 10000 in
set_option maxHeartbeats 1000000 in
theorem twhere_any (p : Prg) (u : Value) (k : Nat) (f : Fun) (hf : p.funcs[k]? = some f) (w : World) (hp : Lay.rep w (Lt w.heap.size) p [u]) (hz : prgFault p = 0) (hh : Has w) :
    Calls Tryd.prog 49 #[.agg #[u], .int .i64 k] w fun e w' => ∃ v, e = .returned v ∧ Lay.rep w' (Fresh w w') (whereL f) [v] ∧ Below w.heap.size w w' := by
  have HR := Lib.hid hp
  have HH := Lib.hid hh
  have HANS := Lib.hid (sureAns_in hz hf)
  have ok := okP_of hz
  have HOF := Lib.hid (ok.fns f (List.mem_of_getElem? hf))
  obtain ⟨l1, l2⟩ := HOF.out.len
  clear hp hh hz hf ok
  obtain ⟨i_int, hi_int, hz_int, hs_int, hy_int⟩ := info_parts info_int
  have HP := Lib.hid (Hp.start w)
  go_enter Tryd.func49, Tryd.ntmps49
  go_upto_region 2 with (first | (refine wpList_box_hp (o := ⟨some 2, _, _, _, _, _⟩) rfl _ _ rfl HP.out [_] rfl ?_; clear HP; intro g2 w2 HP; replace HP := Lib.hid HP) | (refine wpList_ldR0 rfl 24 _ rfl HP.out rfl Tryd.underlying24 rfl (by kernel_rfl) ?_) | (go_at_call 71; refine (Sure_any p _ (k : Int) _ (HP.out.rep (F := ⟨w, Lt w.heap.size⟩) (by simp) HR.out) (HH.out.keep HP.out.below rfl)).mono ?_; rintro e wS ⟨v2, rfl, hv2, hb⟩; replace HP := Lib.hid (HP.out.call hb); rw [HANS.out] at hv2; rw [HANS.out]; obtain ⟨A2, c2, rfl, hc2, hm2, hx2⟩ := rep_ints_at hv2; unfold maxLen at hm2; have HX2 := Lib.hid hx2; clear hb hv2 hx2))
  rw [show min f.code.length (sureL f).length = f.code.length by rw [sureL_len]; omega]
  have HX3 : Hid (∀ q, q < f.code.length → ∃ a : Addr, A2 = some a ∧ (wS.heap.size > a.block ∧ w2.heap.size ≤ a.block) ∧ wS.cell? (a.add q) = some (.int .i64 (sureUpto f 12 q))) := Lib.hid (fun q hq => by
    obtain ⟨a, h1, h2, h3⟩ := HX2.out q (by rw [List.length_take, sureL_len]; omega)
    refine ⟨a, h1, ⟨h2.2, h2.1⟩, ?_⟩
    rw [h3, List.getElem_take]
    congr 2
    have : (sureL f)[q]? = some (sureUpto f 12 q) := by rw [sureL, List.getElem?_map, List.getElem?_range (by omega)]; rfl
    exact (List.getElem?_eq_some_iff.1 this).2)
  clear HX2
  go_wp2_with (first | (refine wpList_make_hp (o := ⟨some 19, _, _, _, _, _⟩) rfl _ _ _ rfl _ i_int (.int .i64 0) Tryd.underlying25 hi_int hz_int rfl hs_int f.code.length rfl rfl (by rw [hy_int]; omega) (by unfold maxLen; omega) HP.out ?_; clear HP; intro gm wm HP; replace HP := Lib.hid HP))
  rw [← List.map_replicate] at HP
  go_loopw [8, 22] (fun n i wr => ∃ (q : Nat) (os : List Int), q ≤ f.code.length ∧ i = .int .i64 q ∧ n = .int .i64 (cntW f q : Nat) ∧ Hid (os.length = f.code.length ∧ ∀ r, r < q → os[r]? = some (whereZ f r)) ∧ Hid (Hp w [{ w := wS, S := fun b => w2.heap.size ≤ b ∧ b < wS.heap.size }, { w := w, S := Lt w.heap.size }] [Res.blk gm 3 (List.map (Value.int .i64) os), Res.blk g2 24 [u]] wr)) (fun _ i _ => f.code.length - (intOf i).toNat)
  case atStart => exact ⟨0, _, by omega, rfl, rfl, Lib.hid ⟨by simp, fun r hr => by omega⟩, HP⟩
  case round =>
    clear HP
    obtain ⟨q, os, hq, rfl, rfl, HO, HP⟩ := hrel
    obtain ⟨wo, rfl⟩ : ∃ wo : World, wo = wr := ⟨_, rfl⟩
    have hcl := cntW_le f q
    have HCS := Lib.hid (show cntW f (q + 1) = cntW f q + (wayB f q).toNat from rfl)
    obtain ⟨n, hn⟩ : ∃ n, cntW f q = n := ⟨_, rfl⟩
    rw [hn] at hcl HCS
    rw [hn]
    have HN := Lib.hid hn
    clear hn
    by_cases hlt : q < f.code.length
    · obtain ⟨a, rfl, hab, hca⟩ := HX3.out q hlt
      have hcw := (HP.out.alike (F := ⟨wS, fun b => w2.heap.size ≤ b ∧ b < wS.heap.size⟩) (.head _) (a.add q) (by rw [block_of_add]; exact ⟨hab.2, hab.1⟩)).trans hca
      have hrg := sureUpto_range f 12 q (by omega)
      have HSW := Lib.hid (sure_way f q)
      obtain ⟨o, ho⟩ : ∃ o, sureUpto f 12 q = o := ⟨_, rfl⟩
      rw [ho] at hcw hrg HSW
      have HBD := Lib.hid (show q < (List.map (Value.int IntKind.i64) os).length by rw [List.length_map, HO.out.1]; exact hlt)
      have HBD2 := Lib.hid (show q < (List.map (Value.int IntKind.i64) (os.set q (-1))).length by rw [List.length_map, List.length_set, HO.out.1]; exact hlt)
      have hlt2 : (q : Int) < (f.code.length : Int) := by omega
      have hset : ∀ y, whereZ f q = y → ((os.set q (-1)).set q y).length = f.code.length ∧ ∀ r, r < q + 1 → ((os.set q (-1)).set q y)[r]? = some (whereZ f r) := fun y hy => ⟨by simp [HO.out.1], fun r hr => by
        by_cases e : q = r
        · subst e; rw [List.getElem?_set_self (by rw [List.length_set, HO.out.1]; omega), hy]
        · rw [List.getElem?_set_ne e, List.getElem?_set_ne e]; exact HO.out.2 r (by omega)⟩
      have HSET := Lib.hid hset
      clear hca ho hset hab
      by_cases h0 : 0 ≤ o
      · have HB := Lib.hid (HSW.out.1 h0)
        go_wp2_with (first | (refine wpList_st0 rfl 3 _ _ rfl HP.out rfl rfl HBD.out rfl (List.map_set ..).symm (by kernel_rfl) ?_; clear HP; intro wst HP; replace HP := Lib.hid HP) | (refine wpList_st0 rfl 3 _ _ rfl HP.out rfl rfl HBD2.out rfl (List.map_set ..).symm (by kernel_rfl) ?_; clear HP; intro wst HP; replace HP := Lib.hid HP))
        go_roundw
        case rel => exact ⟨q + 1, _, by omega, by go_num, by rw [HCS.out, HB.out]; rfl, Lib.hid (HSET.out (n : Int) (by rw [whereZ_yes HB.out, HN.out])), HP⟩
        case measure => simp [intOf]; omega
      · have HB := Lib.hid (show wayB f q = false by
          cases h : wayB f q
          · rfl
          · exact absurd (HSW.out.2 h) h0)
        go_wp2_with (first | (refine wpList_st0 rfl 3 _ _ rfl HP.out rfl rfl HBD.out rfl (List.map_set ..).symm (by kernel_rfl) ?_; clear HP; intro wst HP; replace HP := Lib.hid HP))
        go_roundw
        case rel => exact ⟨q + 1, _, by omega, by go_num, by rw [HCS.out, HB.out]; rfl, Lib.hid (by have h := HSET.out (-1) (whereZ_no HB.out); rwa [List.set_set] at h), HP⟩
        case measure => simp [intOf]; omega
    · obtain rfl : q = f.code.length := by omega
      have hos := whereL_of HO.out.1 HO.out.2
      subst hos
      go_wp2_with fail
      go_ret
      exact ⟨_, rfl, HP.out.ints (.head _) rfl (by rw [whereL_len]) (by unfold maxLen; omega), HP.out.below⟩
end Go.Proofs.YtfhoffpdodjfeaaDoor
