/- ref.ProgramOf. -/
import Derived.Test.YtohindaklpdeeaaDoorDecDoor
import Derived.Test.YtohindaklpdeeaaDoorByteAt
import Derived.Test.YtohindaklpdeeaaDoorCodeChecks
import Derived.Test.YtohindaklpdeeaaDoorHeldB
import Derived.Laws.ResultCell
set_option linter.unusedSimpArgs false
set_option linter.unusedVariables false
namespace Go.Proofs.YtohindaklpdeeaaDoor
open Go.RowKit Plain64
attribute [local irreducible] wpList Code.wp Oper.wp
theorem results_cell_two2 {P : Program} {fn : Func} {p u : Tmp} {ty : TypeId} (h : fn.results = #[.cell p ty, .tmp u]) (tmps : Array Value) (w : World) (g : Nat) (t : TypeId) (cs : Array Value) (fr : Nat × Nat) (d : TypeDesc)
    (hp : tmps.getD p undef = .pointer (some ⟨g, 0, none⟩)) (hg : w.heap[g]? = some (.cells cs t fr))
    (hu : P.underlying ty = some d) (hd : (match d with | .struct _ | .array _ _ => true | _ => false) = true) (hi : (P.info? ty).map (·.size) = some cs.size) :
    (results fn tmps).run P w = .ok (.tuple #[.agg cs, tmps.getD u undef]) w := by
  rw [results_cell_tmp h, hp]
  simp [asAddr, run_loadVar_row w g t ty cs fr d hg hu hd hi, Result.andThen]
theorem rep_prg_nil2 {w : World} {S : Nat → Prop} : Lay.rep w S (⟨[]⟩ : Prg) [.slice none 0 0] := rep_prg.2 ⟨none, 0, rfl, Nat.le_refl _, by unfold maxLen; omega, fun k x h => by simp at h⟩
theorem enough_no2 {r : List Int} (h : r.length < 3 + 12 * cntD r) : enough r = false := by unfold enough; exact decide_eq_false (by omega)
theorem enough_yes2 {r : List Int} (h : 3 + 12 * cntD r ≤ r.length) : enough r = true := by unfold enough; exact decide_eq_true h
theorem dec_cut2 {b : Nat} {rest : List Int} {k : Nat} {r : List Int} (hl : ((b : Int) :: rest).length ≤ 4000) (hk : k < b) (hr : restD rest k = some r) (he : enough r = false) : decAns ((b : Int) :: rest) = (⟨[]⟩, 4) := by
  have h1 : restD rest (k + 1) = none := by rw [restD_step hr, he]; rfl
  refine dec_short hl ?_
  rw [Int.toNat_natCast, show b = (k + 1) + (b - (k + 1)) by omega]
  exact restD_none h1 _
theorem byteAt_at (l : List Int) (v : Value) (i : Int) (k : Nat) (w : World) (hi : i = k) (hl : RepB w (Lt w.heap.size) l v) (hb : ∀ x ∈ l, 0 ≤ x ∧ x < 256) (hk : k ≤ 1000000) :
    Calls Tryd.prog 15 #[v, .int .i64 i] w fun e w' => e = .returned (.int .i64 (byteZ l k)) ∧ Below w.heap.size w w' := by
  subst hi
  exact byteAt_any l v k w hl hb hk
set_option maxRecDepth 100000 in
set_option maxHeartbeats 8000000 in
theorem ProgramOf_any (l : List Int) (u : Value) (w : World) (hl : RepB w (Lt w.heap.size) l u) (hb : ∀ x ∈ l, 0 ≤ x ∧ x < 256) :
    Calls Tryd.prog 7 #[u] w fun e w' => ∃ v, e = .returned (.tuple #[.agg #[v], .int .i64 (decAns l).2]) ∧ Lay.rep w' (FreshD w w') (decAns l).1 [v] ∧ Below w.heap.size w w' := by
  obtain ⟨A, c, rfl, hn, hcm, hx⟩ := id hl
  unfold maxLen at hcm
  have HB := Lib.hid hb
  have HL := Lib.hid hl
  have HX := Lib.hid hx
  clear hb hx hl
  have HP := Lib.hid (Hp.start w)
  obtain ⟨i_Ins, hi_Ins, hz_Ins, hs_Ins, hy_Ins⟩ := info_parts info_ins
  obtain ⟨i_Fun, hi_Fun, hz_Fun, hs_Fun, hy_Fun⟩ := info_parts info_fun
  by_cases hbig : 4000 < l.length
  · have HA := Lib.hid (dec_big hbig)
    have hbg : (4000 : Int) < (l.length : Int) := by omega
    rw [HA.out]
    clear HA HB HL HX
    go_enter Tryd.func7, Tryd.ntmps7
    go_wp2_with (first | (refine wpList_alloc_hp (o := ⟨some 2, _, _, _, _, _⟩) rfl _ rfl HP.out (.agg #[.slice none 0 0]) (by kernel_rfl) [_] rfl ?_; clear HP; intro g2 w2 HP; replace HP := Lib.hid HP) | (refine wpList_stR0 rfl 26 _ _ rfl HP.out rfl (cs' := [_]) rfl rfl (by simp [Value.oneCell']) (by kernel_rfl) ?_; clear HP; intro wst HP; replace HP := Lib.hid HP))
    (try simp only [Exit.inBlock, Exit.then])
    refine bodyPost_ret (results_cell_two2 (by rfl) _ _ g2 26 #[.slice none 0 0] (0, 0) _ rfl (HP.out.blk (.head _)) Tryd.underlying26 rfl (by kernel_rfl)) (by rfl) ?_
    exact ⟨_, rfl, rep_prg_nil2, HP.out.below⟩
  · have hbg : ¬ (4000 : Int) < (l.length : Int) := by omega
    cases l with
    | nil =>
      have HA := Lib.hid dec_nil
      have HZ0 := Lib.hid (show byteZ [] 0 = -1 from rfl)
      rw [HA.out]
      clear HA HX
      go_enter Tryd.func7, Tryd.ntmps7
      go_wp2_with (first | (refine wpList_alloc_hp (o := ⟨some 2, _, _, _, _, _⟩) rfl _ rfl HP.out (.agg #[.slice none 0 0]) (by kernel_rfl) [_] rfl ?_; clear HP; intro g2 w2 HP; replace HP := Lib.hid HP) | (refine wpList_alloc_hp (o := ⟨some 4, _, _, _, _, _⟩) rfl _ rfl HP.out (.agg #[.slice none 0 0]) (by kernel_rfl) [_] rfl ?_; clear HP; intro g4 w4 HP; replace HP := Lib.hid HP))
      go_loopw [5, 6] (fun a i wr => a = .int .i64 1 ∧ i = .int .i64 0 ∧ Hid (Hp w [⟨w, Lt w.heap.size⟩] [.blk g4 26 [.slice none 0 0], .blk g2 26 [.slice none 0 0]] wr)) (fun _ _ _ => 0)
      case atStart => exact ⟨rfl, rfl, HP⟩
      case round =>
        clear HP
        obtain ⟨rfl, rfl, HP⟩ := hrel
        obtain ⟨wo, rfl⟩ : ∃ wo : World, wo = wr := ⟨_, rfl⟩
        go_wp2_with (first | (refine wpList_stR0 rfl 26 _ _ rfl HP.out rfl (cs' := [_]) rfl rfl (by simp [Value.oneCell']) (by kernel_rfl) ?_; clear HP; intro wst HP; replace HP := Lib.hid HP) | (refine wpList_stR1 rfl 26 _ _ rfl HP.out rfl (cs' := [_]) rfl rfl (by simp [Value.oneCell']) (by kernel_rfl) ?_; clear HP; intro wst HP; replace HP := Lib.hid HP) | (go_at_call 15; refine (byteAt_at [] _ _ (0) _ (by omega) (HP.out.repB (F := ⟨w, Lt w.heap.size⟩) (by simp) HL.out) HB.out (by omega)).mono ?_; rintro e wby ⟨rfl, hb⟩; replace HP := Lib.hid (HP.out.call0 hb); clear hb; rw [HZ0.out]))
        (try simp only [Exit.inBlock, Exit.then])
        refine bodyPost_ret (results_cell_two2 (by rfl) _ _ g2 26 #[.slice none 0 0] (0, 0) _ rfl (HP.out.blk (.tail _ (.head _))) Tryd.underlying26 rfl (by kernel_rfl)) (by rfl) ?_
        exact ⟨_, rfl, rep_prg_nil2, HP.out.below⟩
    | cons b rest =>
      obtain ⟨hb0, hb1⟩ := HB.out b (by simp)
      obtain ⟨N, rfl⟩ := Int.eq_ofNat_of_zero_le hb0
      have HLL := Lib.hid (show ((N : Int) :: rest).length ≤ 4000 by omega)
      have HBR := Lib.hid (show ∀ x ∈ rest, 0 ≤ x ∧ x < 256 from fun x hx => HB.out x (by simp [hx]))
      have hN256 : N < 256 := by omega
      have HCUT := Lib.hid (fun (k : Nat) (r : List Int) (hk : k < N) (hr : restD rest k = some r) (he : enough r = false) => dec_cut2 HLL.out hk hr he)
      have HZ0 := Lib.hid (show byteZ ((N : Int) :: rest) 0 = N from rfl)
      obtain ⟨l, hl⟩ : ∃ l, (N : Int) :: rest = l := ⟨_, rfl⟩
      rw [hl] at HLL HL HB HX HZ0 hbig hbg hn ⊢
      have HCUT2 := Lib.hid (fun (k : Nat) (r : List Int) (hk : k < N) (hr : restD rest k = some r) (he : enough r = false) => show decAns l = (⟨[]⟩, 4) by rw [← hl]; exact HCUT.out k r hk hr he)
      have HDL := Lib.hid hl
      have hll := HLL.out
      clear hb0 hb1 hbig HCUT hl
      go_enter Tryd.func7, Tryd.ntmps7
      go_upto_region 4 with (first | (refine wpList_alloc_hp (o := ⟨some 2, _, _, _, _, _⟩) rfl _ rfl HP.out (.agg #[.slice none 0 0]) (by kernel_rfl) [_] rfl ?_; clear HP; intro g2 w2 HP; replace HP := Lib.hid HP) | (refine wpList_alloc_hp (o := ⟨some 4, _, _, _, _, _⟩) rfl _ rfl HP.out (.agg #[.slice none 0 0]) (by kernel_rfl) [_] rfl ?_; clear HP; intro g4 w4 HP; replace HP := Lib.hid HP))
      replace HP := Lib.hid (HP.out.nil 44 3)
      obtain ⟨Gc0, hp9, hfi⟩ := HP.out.funsStart
      have HFI := Lib.hid hfi
      replace HP := Lib.hid hp9
      clear hp9 hfi
      have HR0 := Lib.hid (show restD rest 0 = some rest ∧ rest = l.drop 1 from ⟨rfl, by rw [← HDL.out]; rfl⟩)
      have hl1 : 1 ≤ l.length := by rw [← HDL.out]; simp
      go_wp2
      go_loopw [5, 6] (fun a i wr => ∃ (k at9 : Nat) (r : List Int) (fv : Value) (us : List Value) (Gc : Fro), k ≤ N ∧ i = .int .i64 k ∧ a = .int .i64 at9 ∧ at9 ≤ l.length ∧ Hid (restD rest k = some r ∧ r = l.drop at9) ∧ Hid (FunsOwn w Gc (funsD rest k) us) ∧ Hid (Hp w [Gc, ⟨w, Lt w.heap.size⟩] [.row fv 44 3 k (((funsD rest k).zip us).flatMap funEnc2), .blk g4 26 [fv], .blk g2 26 [.slice none 0 0]] wr)) (fun _ i _ => N - (intOf i).toNat)
      case atStart => exact ⟨0, 1, rest, _, [], Gc0, by omega, rfl, rfl, hl1, HR0, HFI, HP⟩
      case round =>
        clear HP HFI HR0 HBR
        obtain ⟨k, at9, r, fv, us, Gc, hk9, rfl, rfl, hat, HR, HFI, HP⟩ := hrel
        obtain ⟨wo, rfl⟩ : ∃ wo : World, wo = wr := ⟨_, rfl⟩
        by_cases hk : k < N
        · have hk2 : (k : Int) < (N : Int) := by omega
          have HC := Lib.hid (fun he => HCUT2.out k r hk HR.out.1 he)
          have hrl : r.length = l.length - at9 := by rw [HR.out.2, List.length_drop]
          by_cases hr3 : r.length < 3
          · have HSH := Lib.hid (HC.out (enough_no2 (by omega)))
            have HZ2 := Lib.hid (show byteZ l (at9 + 2) = -1 by unfold byteZ; rw [List.getElem?_eq_none (by omega)])
            clear HC HCUT2
            go_wp2_with (first | (go_at_call 15; refine (byteAt_at l _ _ (0) _ (by omega) (HP.out.repB (F := ⟨w, Lt w.heap.size⟩) (by simp) HL.out) HB.out (by omega)).mono ?_; rintro e wby ⟨rfl, hb⟩; replace HP := Lib.hid (HP.out.call0 hb); clear hb; rw [HZ0.out]) | (go_at_call 15; refine (byteAt_at l _ _ (at9 + 2) _ (by omega) (HP.out.repB (F := ⟨w, Lt w.heap.size⟩) (by simp) HL.out) HB.out (by omega)).mono ?_; rintro e wby ⟨rfl, hb⟩; replace HP := Lib.hid (HP.out.call0 hb); clear hb; rw [HZ2.out]) | (refine wpList_stR0 rfl 26 _ _ rfl HP.out rfl (cs' := [_]) rfl rfl (by simp [Value.oneCell']) (by kernel_rfl) ?_; clear HP; intro wst HP; replace HP := Lib.hid HP) | (refine wpList_stR1 rfl 26 _ _ rfl HP.out rfl (cs' := [_]) rfl rfl (by simp [Value.oneCell']) (by kernel_rfl) ?_; clear HP; intro wst HP; replace HP := Lib.hid HP) | (refine wpList_stR2 rfl 26 _ _ rfl HP.out rfl (cs' := [_]) rfl rfl (by simp [Value.oneCell']) (by kernel_rfl) ?_; clear HP; intro wst HP; replace HP := Lib.hid HP))
            (try simp only [Exit.inBlock, Exit.then])
            refine bodyPost_ret (results_cell_two2 (by rfl) _ _ g2 26 #[.slice none 0 0] (0, 0) _ rfl (HP.out.blk (.tail _ (.tail _ (.head _)))) Tryd.underlying26 rfl (by kernel_rfl)) (by rfl) ?_
            rw [HSH.out]
            exact ⟨_, rfl, rep_prg_nil2, HP.out.below⟩
          · obtain ⟨x0, x1, x2, r3, hre⟩ : ∃ x0 x1 x2 r3, r = x0 :: x1 :: x2 :: r3 := by
              rcases r with _ | ⟨x0, _ | ⟨x1, _ | ⟨x2, r3⟩⟩⟩
              · simp at hr3
              · simp at hr3
              · simp at hr3
              · exact ⟨_, _, _, _, rfl⟩
            subst hre
            have hd := HR.out.2
            have hg : ∀ (i : Nat) x, (x0 :: x1 :: x2 :: r3)[i]? = some x → l[at9 + i]? = some x := fun i x h => by rw [hd, List.getElem?_drop] at h; exact h
            have HG3 := Lib.hid (show ∀ (i : Nat) x, r3[i]? = some x → l[at9 + 3 + i]? = some x from fun i x h => by rw [Nat.add_assoc, Nat.add_comm 3 i]; exact hg (i + 3) x h)
            have g0 := hg 0 x0 rfl
            have g1 := hg 1 x1 rfl
            have g2' := hg 2 x2 rfl
            obtain ⟨hx0, hx1⟩ := HB.out x2 (List.mem_of_getElem? g2')
            obtain ⟨n, rfl⟩ := Int.eq_ofNat_of_zero_le hx0
            have HZ2 := Lib.hid (show byteZ l (at9 + 2) = n by unfold byteZ; rw [g2'])
            have HX0 := Lib.hid (HB.out x0 (List.mem_of_getElem? g0))
            have HX1 := Lib.hid (HB.out x1 (List.mem_of_getElem? g1))
            have HCE := Lib.hid (show cntD (x0 :: x1 :: (n : Int) :: r3) = n by unfold cntD; simp)
            simp only [List.length_cons] at hrl
            have HG0 := Lib.hid (And.intro g0 g1)
            clear hg hd hr3 g0 g1 g2' hx0
            have hlc : (l.length : Int) ≤ 4000 := by omega
            have hac : (at9 : Int) ≤ 4000 := by omega
            by_cases hsh : r3.length < 12 * n
            · have HSH := Lib.hid (HC.out (enough_no2 (by rw [HCE.out]; simp; omega)))
              have hcm2 : (l.length : Int) < (at9 : Int) + 3 + 12 * (n : Int) := by omega
              clear HC HCUT2
              go_wp2_with (first | (go_at_call 15; refine (byteAt_at l _ _ (0) _ (by omega) (HP.out.repB (F := ⟨w, Lt w.heap.size⟩) (by simp) HL.out) HB.out (by omega)).mono ?_; rintro e wby ⟨rfl, hb⟩; replace HP := Lib.hid (HP.out.call0 hb); clear hb; rw [HZ0.out]) | (go_at_call 15; refine (byteAt_at l _ _ (at9 + 2) _ (by omega) (HP.out.repB (F := ⟨w, Lt w.heap.size⟩) (by simp) HL.out) HB.out (by omega)).mono ?_; rintro e wby ⟨rfl, hb⟩; replace HP := Lib.hid (HP.out.call0 hb); clear hb; rw [HZ2.out]) | (refine wpList_stR0 rfl 26 _ _ rfl HP.out rfl (cs' := [_]) rfl rfl (by simp [Value.oneCell']) (by kernel_rfl) ?_; clear HP; intro wst HP; replace HP := Lib.hid HP) | (refine wpList_stR1 rfl 26 _ _ rfl HP.out rfl (cs' := [_]) rfl rfl (by simp [Value.oneCell']) (by kernel_rfl) ?_; clear HP; intro wst HP; replace HP := Lib.hid HP) | (refine wpList_stR2 rfl 26 _ _ rfl HP.out rfl (cs' := [_]) rfl rfl (by simp [Value.oneCell']) (by kernel_rfl) ?_; clear HP; intro wst HP; replace HP := Lib.hid HP))
              (try simp only [Exit.inBlock, Exit.then])
              refine bodyPost_ret (results_cell_two2 (by rfl) _ _ g2 26 #[.slice none 0 0] (0, 0) _ rfl (HP.out.blk (.tail _ (.tail _ (.head _)))) Tryd.underlying26 rfl (by kernel_rfl)) (by rfl) ?_
              rw [HSH.out]
              exact ⟨_, rfl, rep_prg_nil2, HP.out.below⟩
            · have hcm2 : ¬ (l.length : Int) < (at9 : Int) + 3 + 12 * (n : Int) := by omega
              clear HC
              go_upto_region 11 with (first | (go_at_call 15; refine (byteAt_at l _ _ (0) _ (by omega) (HP.out.repB (F := ⟨w, Lt w.heap.size⟩) (by simp) HL.out) HB.out (by omega)).mono ?_; rintro e wby ⟨rfl, hb⟩; replace HP := Lib.hid (HP.out.call0 hb); clear hb; rw [HZ0.out]) | (go_at_call 15; refine (byteAt_at l _ _ (at9 + 2) _ (by omega) (HP.out.repB (F := ⟨w, Lt w.heap.size⟩) (by simp) HL.out) HB.out (by omega)).mono ?_; rintro e wby ⟨rfl, hb⟩; replace HP := Lib.hid (HP.out.call0 hb); clear hb; rw [HZ2.out]))
              obtain ⟨ad, rfl, hlt, -⟩ := HX.out at9 x0 HG0.out.1
              have HAT := Lib.hid (show ∀ (i : Nat) x (wq : World), Alike (Lt w.heap.size) w wq → l[i]? = some x → wq.cell? (ad.add i) = some (.int .u8 x) from fun i x wq hq h => by
                obtain ⟨a, e, _, hc⟩ := HX.out i x h
                cases e
                exact (hq (ad.add i) (by rw [block_of_add]; exact hlt)).trans hc)
              clear hlt
              have hk31 : (at9 : Int) < (l.length : Int) := by omega
              obtain ⟨p1, hp1⟩ : ∃ p1, at9 + 1 = p1 := ⟨_, rfl⟩
              have hw1 : IntKind.i64.wrap ((at9 : Int) + 1) = (p1 : Int) := by rw [IntKind.wrap_i64]; omega
              have hk32 : (p1 : Int) < (l.length : Int) := by omega
              have HG1 := Lib.hid (show l[at9]? = some x0 ∧ l[p1]? = some x1 from ⟨HG0.out.1, by rw [← hp1]; exact HG0.out.2⟩)
              refine wp_region_held_drew (S := fun wq => wq.cell? (ad.add at9) = some (.int .u8 x0) ∧ wq.cell? (ad.add p1) = some (.int .u8 x1)) (by kernel_rfl) (⟨HAT.out _ _ _ (HP.out.alike (F := ⟨w, Lt w.heap.size⟩) (by simp)) HG1.out.1, HAT.out _ _ _ (HP.out.alike (F := ⟨w, Lt w.heap.size⟩) (by simp)) HG1.out.2⟩) (fun hHeld => ?_)
              have HS0 := Lib.hid hHeld
              clear hHeld
              replace HP := Lib.hid HP.out.drew
              (try simp only [Act.put, List.setIfInBounds_toArray, List.set_cons_zero, List.set_cons_succ])
              refine wpAnyH_take (i := 0) (v := ?_) rfl (by kernel_rfl) (by kernel_rfl) (by kernel_rfl) (fun _ _ _ h => h) (.inl ⟨by first | (simp [Region.wanted]; done) | rfl, ?_⟩) HS0.out ?_
              rotate_left
              · intro w' hw
                obtain ⟨k0, k1⟩ := hw
                go_simp
                (try with_reducible rfl)
              (try simp only [List.getElem_toArray, List.getElem_cons_succ, List.getElem_cons_zero, Act.put, List.setIfInBounds_toArray, List.set_cons_zero, List.set_cons_succ])
              refine wpAnyH_take (i := 1) (v := ?_) rfl (by kernel_rfl) (by kernel_rfl) (by kernel_rfl) (fun _ _ _ h => h) (.inl ⟨by first | (simp [Region.wanted]; done) | rfl, ?_⟩) HS0.out ?_
              rotate_left
              · intro w' hw
                obtain ⟨k0, k1⟩ := hw
                go_simp
                (try with_reducible rfl)
              (try simp only [List.getElem_toArray, List.getElem_cons_succ, List.getElem_cons_zero, Act.put, List.setIfInBounds_toArray, List.set_cons_zero, List.set_cons_succ])
              refine wpAnyH_take (i := 2) (v := ?_) rfl (by kernel_rfl) (by kernel_rfl) (by kernel_rfl) (fun _ _ _ h => h) (.inl ⟨by first | (simp [Region.wanted]; done) | rfl, ?_⟩) HS0.out ?_
              rotate_left
              · intro w' hw
                obtain ⟨k0, k1⟩ := hw
                go_simp
                (try with_reducible rfl)
              (try simp only [List.getElem_toArray, List.getElem_cons_succ, List.getElem_cons_zero, Act.put, List.setIfInBounds_toArray, List.set_cons_zero, List.set_cons_succ])
              refine wpAnyH_take (i := 3) (v := ?_) rfl (by kernel_rfl) (by kernel_rfl) (by kernel_rfl) (fun _ _ _ h => h) (.inl ⟨by first | (simp [Region.wanted]; done) | rfl, ?_⟩) HS0.out ?_
              rotate_left
              · intro w' hw
                obtain ⟨k0, k1⟩ := hw
                go_simp
                (try with_reducible rfl)
              (try simp only [List.getElem_toArray, List.getElem_cons_succ, List.getElem_cons_zero, Act.put, List.setIfInBounds_toArray, List.set_cons_zero, List.set_cons_succ])
              refine wpAnyH_take (i := 4) (v := ?_) rfl (by kernel_rfl) (by kernel_rfl) (by kernel_rfl) (fun _ _ _ h => h) (.inl ⟨by first | (simp [Region.wanted]; done) | rfl, ?_⟩) HS0.out ?_
              rotate_left
              · intro w' hw
                obtain ⟨k0, k1⟩ := hw
                go_simp
                (try with_reducible rfl)
              (try simp only [List.getElem_toArray, List.getElem_cons_succ, List.getElem_cons_zero, Act.put, List.setIfInBounds_toArray, List.set_cons_zero, List.set_cons_succ])
              refine wpAnyH_take (i := 5) (v := ?_) rfl (by kernel_rfl) (by kernel_rfl) (by kernel_rfl) (fun _ _ _ h => h) (.inl ⟨by first | (simp [Region.wanted]; done) | rfl, ?_⟩) HS0.out ?_
              rotate_left
              · intro w' hw
                obtain ⟨k0, k1⟩ := hw
                go_simp
                (try with_reducible rfl)
              (try simp only [List.getElem_toArray, List.getElem_cons_succ, List.getElem_cons_zero, Act.put, List.setIfInBounds_toArray, List.set_cons_zero, List.set_cons_succ])
              refine wpAnyH_take (i := 6) (v := ?_) rfl (by kernel_rfl) (by kernel_rfl) (by kernel_rfl) (fun _ _ _ h => h) (.inl ⟨by first | (simp [Region.wanted]; done) | rfl, ?_⟩) HS0.out ?_
              rotate_left
              · intro w' hw
                obtain ⟨k0, k1⟩ := hw
                go_simp
                (try with_reducible rfl)
              (try simp only [List.getElem_toArray, List.getElem_cons_succ, List.getElem_cons_zero, Act.put, List.setIfInBounds_toArray, List.set_cons_zero, List.set_cons_succ])
              refine wpAnyH_take (i := 7) (v := ?_) rfl (by kernel_rfl) (by kernel_rfl) (by kernel_rfl) (fun _ _ _ h => h) (.inl ⟨by first | (simp [Region.wanted]; done) | rfl, ?_⟩) HS0.out ?_
              rotate_left
              · intro w' hw
                obtain ⟨k0, k1⟩ := hw
                go_simp
                (try with_reducible rfl)
              (try simp only [List.getElem_toArray, List.getElem_cons_succ, List.getElem_cons_zero, Act.put, List.setIfInBounds_toArray, List.set_cons_zero, List.set_cons_succ])
              refine wpAnyH_take (i := 8) (v := ?_) rfl (by kernel_rfl) (by kernel_rfl) (by kernel_rfl) (fun _ _ _ h => h) (.inl ⟨by first | (simp [Region.wanted]; done) | rfl, ?_⟩) HS0.out ?_
              rotate_left
              · intro w' hw
                obtain ⟨k0, k1⟩ := hw
                go_simp
                (try with_reducible rfl)
              (try simp only [List.getElem_toArray, List.getElem_cons_succ, List.getElem_cons_zero, Act.put, List.setIfInBounds_toArray, List.set_cons_zero, List.set_cons_succ])
              refine wpAnyH_take (i := 9) (v := ?_) rfl (by kernel_rfl) (by kernel_rfl) (by kernel_rfl) (fun _ _ _ h => h) (.inl ⟨by first | (simp [Region.wanted]; done) | rfl, ?_⟩) HS0.out ?_
              rotate_left
              · intro w' hw
                obtain ⟨k0, k1⟩ := hw
                go_simp
                (try with_reducible rfl)
              (try simp only [List.getElem_toArray, List.getElem_cons_succ, List.getElem_cons_zero, Act.put, List.setIfInBounds_toArray, List.set_cons_zero, List.set_cons_succ])
              refine wpAnyH_take (i := 10) (v := ?_) rfl (by kernel_rfl) (by kernel_rfl) (by kernel_rfl) (fun _ _ _ h => h) (.inl ⟨by first | (simp [Region.wanted]; done) | rfl, ?_⟩) HS0.out ?_
              rotate_left
              · intro w' hw
                obtain ⟨k0, k1⟩ := hw
                go_simp
                (try with_reducible rfl)
              (try simp only [List.getElem_toArray, List.getElem_cons_succ, List.getElem_cons_zero, Act.put, List.setIfInBounds_toArray, List.set_cons_zero, List.set_cons_succ])
              refine wpAnyH_take (i := 11) (v := ?_) rfl (by kernel_rfl) (by kernel_rfl) (by kernel_rfl) (fun _ _ _ h => h) (.inl ⟨by first | (simp [Region.wanted]; done) | rfl, ?_⟩) HS0.out ?_
              rotate_left
              · intro w' hw
                obtain ⟨k0, k1⟩ := hw
                go_simp
                (try with_reducible rfl)
              (try simp only [List.getElem_toArray, List.getElem_cons_succ, List.getElem_cons_zero, Act.put, List.setIfInBounds_toArray, List.set_cons_zero, List.set_cons_succ])
              refine wpAnyH_ready (rs := [12]) (by kernel_rfl) (by simp) ?_
              refine AllReadyH.cons rfl (fun K hK => ?_) AllReadyH.nil
              refine wanted_only rfl ?_
              (refine wpList_alloc_hp (o := ⟨some 8, _, _, _, _, _⟩) rfl _ rfl HP.out (.agg #[.int .i64 0, .int .i64 0, .slice none 0 0]) (by kernel_rfl) [_, _, _] rfl ?_; clear HP; intro g8 w8 HP; replace HP := Lib.hid HP)
              refine wpList_nil ?_
              refine hK.out _ _ (⟨HAT.out _ _ _ (HP.out.alike (F := ⟨w, Lt w.heap.size⟩) (by simp)) HG1.out.1, HAT.out _ _ _ (HP.out.alike (F := ⟨w, Lt w.heap.size⟩) (by simp)) HG1.out.2⟩) (fun hHeld => ?_)
              replace HS0 := Lib.hid hHeld
              clear hK K hHeld
              (try simp only [List.getElem_toArray, List.getElem_cons_succ, List.getElem_cons_zero, Act.put, List.setIfInBounds_toArray, List.set_cons_zero, List.set_cons_succ])
              refine wpAnyH_ready (rs := [13]) (by kernel_rfl) (by simp) ?_
              refine AllReadyH.cons rfl (fun K hK => ?_) AllReadyH.nil
              refine wanted_only rfl ?_
              refine wpList_stR0 rfl 44 _ _ rfl HP.out rfl (cs' := [_, _, _]) rfl rfl (by simp [Value.oneCell']) (by kernel_rfl) ?_
              clear HP; intro wst HP; replace HP := Lib.hid HP
              refine wpList_nil ?_
              refine hK.out _ _ (⟨HAT.out _ _ _ (HP.out.alike (F := ⟨w, Lt w.heap.size⟩) (by simp)) HG1.out.1, HAT.out _ _ _ (HP.out.alike (F := ⟨w, Lt w.heap.size⟩) (by simp)) HG1.out.2⟩) (fun hHeld => ?_)
              replace HS0 := Lib.hid hHeld
              clear hK K hHeld
              (try simp only [List.getElem_toArray, List.getElem_cons_succ, List.getElem_cons_zero, Act.put, List.setIfInBounds_toArray, List.set_cons_zero, List.set_cons_succ])
              refine wpAnyH_done (by kernel_rfl) ?_ _
              (try simp only [List.getElem_toArray, List.getElem_cons_succ, List.getElem_cons_zero, Act.put, List.setIfInBounds_toArray, List.set_cons_zero, List.set_cons_succ])
              clear HS0
              rw [show IntKind.i64.wrap x0 = x0 by have := HX0.out; rw [IntKind.wrap_i64]; omega, show IntKind.i64.wrap x1 = x1 by have := HX1.out; rw [IntKind.wrap_i64]; omega] at HP
              clear hw1 hk31 hk32 HG1
              replace HP := Lib.hid (HP.out.nil 46 5)
              obtain ⟨q0, hq0⟩ : ∃ q0, at9 + 3 = q0 := ⟨_, rfl⟩
              have hq0i : (at9 : Int) + 3 = (q0 : Int) := by omega
              go_wp2
              rw [hq0i]
              go_loopw [5, 9] (fun a i wr => ∃ (j : Nat) (cv : Value), j ≤ n ∧ i = .int .i64 j ∧ a = .int .i64 ((q0 + 12 * j : Nat) : Int) ∧ Hid (Hp w [Gc, ⟨w, Lt w.heap.size⟩] [.row cv 46 5 j ((codeD r3 j).flatMap insEnc2), .blk g8 44 [.int .i64 x0, .int .i64 x1, cv], .row fv 44 3 k (((funsD rest k).zip us).flatMap funEnc2), .blk g4 26 [fv], .blk g2 26 [.slice none 0 0]] wr)) (fun _ i _ => n - (intOf i).toNat)
              case atStart => exact ⟨0, _, by omega, rfl, rfl, HP⟩
              case round =>
                clear HP
                obtain ⟨j, cv, hj9, rfl, rfl, HP⟩ := hrel
                obtain ⟨wj, rfl⟩ : ∃ wo : World, wo = wr := ⟨_, rfl⟩
                by_cases hj : j < n
                · have hj2 : (j : Int) < (n : Int) := by omega
                  obtain ⟨xl, hxl⟩ : ∃ xl, r3.drop (12 * j) = xl := ⟨_, rfl⟩
                  have HXL := Lib.hid hxl
                  obtain ⟨q, hq⟩ : ∃ q, q0 + 12 * j = q := ⟨_, rfl⟩
                  rw [hq]
                  have hql : q + 12 ≤ l.length := by omega
                  have HXG := Lib.hid (show ∀ i, i < 12 → l[q + i]? = some (xl.getD i 0) ∧ 0 ≤ xl.getD i 0 ∧ xl.getD i 0 < 256 from fun i hi => by
                    have hi3 : 12 * j + i < r3.length := by omega
                    have e1 : r3[12 * j + i]? = some (xl.getD i 0) := by
                      rw [← HXL.out, List.getD_eq_getElem?_getD, List.getElem?_drop, List.getElem?_eq_getElem hi3]; rfl
                    have e2 := HG3.out _ _ e1
                    rw [show at9 + 3 + (12 * j + i) = q + i by omega] at e2
                    exact ⟨e2, HB.out _ (List.mem_of_getElem? e2)⟩)
                  clear hxl
                  go_wp2
                  go_loopw [10, 11] (fun a i wr => ∃ (s : Nat), s ≤ 8 ∧ i = .int .i64 ((s + 4 : Nat) : Int) ∧ a = .int .i64 (immD xl s) ∧ Hid (Hp w [Gc, ⟨w, Lt w.heap.size⟩] [.row cv 46 5 j ((codeD r3 j).flatMap insEnc2), .blk g8 44 [.int .i64 x0, .int .i64 x1, cv], .row fv 44 3 k (((funsD rest k).zip us).flatMap funEnc2), .blk g4 26 [fv], .blk g2 26 [.slice none 0 0]] wr)) (fun _ i _ => 12 - (intOf i).toNat)
                  case atStart => exact ⟨0, by omega, rfl, rfl, HP⟩
                  case round =>
                    clear HP
                    obtain ⟨s, hs9, rfl, rfl, HP⟩ := hrel
                    obtain ⟨ws, rfl⟩ : ∃ wo : World, wo = wr := ⟨_, rfl⟩
                    by_cases hs : s < 8
                    · obtain ⟨s4, hs4⟩ : ∃ s4, s + 4 = s4 := ⟨_, rfl⟩
                      rw [hs4]
                      have hs2 : (s4 : Int) < 12 := by omega
                      obtain ⟨qs, hqs⟩ : ∃ qs, q + s4 = qs := ⟨_, rfl⟩
                      have hqi : (q : Int) + (s4 : Int) = (qs : Int) := by omega
                      have hqw : IntKind.i64.wrap ((q : Int) + (s4 : Int)) = (qs : Int) := by rw [IntKind.wrap_i64]; omega
                      have hql2 : (qs : Int) < (l.length : Int) := by omega
                      obtain ⟨hy1, hy2⟩ := HXG.out s4 (by omega)
                      have HIM := Lib.hid (show wrap64 (wrap64 (immD xl s * 256) + xl.getD s4 0) = immD xl (s + 1) by
                        rw [immD, ← (immN_ok (immD xl s) _ (HXG.out (4 + s) (by omega)).2).1, show s4 = 4 + s by omega])
                      obtain ⟨yb, hyb⟩ : ∃ yb, xl.getD s4 0 = yb := ⟨_, rfl⟩
                      rw [hyb] at HIM hy1 hy2
                      have hcy := HAT.out _ _ _ (HP.out.alike (F := ⟨w, Lt w.heap.size⟩) (by simp)) (by rw [hqs] at hy1; exact hy1)
                      have hwy : IntKind.i64.wrap yb = yb := by rw [IntKind.wrap_i64]; omega
                      obtain ⟨z, hz⟩ : ∃ z, immD xl s = z := ⟨_, rfl⟩
                      rw [hz] at HIM ⊢
                      clear hz hyb hy1 hqi
                      go_wp2
                      go_roundw
                      case rel => exact ⟨s + 1, by omega, by go_num, by rw [HIM.out], HP⟩
                      case measure => simp [intOf]; omega
                    · obtain rfl : s = 8 := by omega
                      obtain ⟨p1, hp1⟩ : ∃ p1, q + 1 = p1 := ⟨_, rfl⟩
                      have hw1 : IntKind.i64.wrap ((q : Int) + 1) = (p1 : Int) := by rw [IntKind.wrap_i64]; omega
                      have hk1 : (p1 : Int) < (l.length : Int) := by omega
                      obtain ⟨p2, hp2⟩ : ∃ p2, q + 2 = p2 := ⟨_, rfl⟩
                      have hw2 : IntKind.i64.wrap ((q : Int) + 2) = (p2 : Int) := by rw [IntKind.wrap_i64]; omega
                      have hk2 : (p2 : Int) < (l.length : Int) := by omega
                      obtain ⟨p3, hp3⟩ : ∃ p3, q + 3 = p3 := ⟨_, rfl⟩
                      have hw3 : IntKind.i64.wrap ((q : Int) + 3) = (p3 : Int) := by rw [IntKind.wrap_i64]; omega
                      have hk3 : (p3 : Int) < (l.length : Int) := by omega
                      obtain ⟨y0, hy0⟩ : ∃ y0, xl.getD 0 0 = y0 := ⟨_, rfl⟩
                      have HY0 := Lib.hid (show l[q]? = some y0 ∧ 0 ≤ y0 ∧ y0 < 256 by have h := HXG.out 0 (by omega); rw [hy0] at h; exact h)
                      have hv0 : IntKind.i64.wrap y0 = y0 := by have := HY0.out.2; rw [IntKind.wrap_i64]; omega
                      obtain ⟨y1, hy1⟩ : ∃ y1, xl.getD 1 0 = y1 := ⟨_, rfl⟩
                      have HY1 := Lib.hid (show l[p1]? = some y1 ∧ 0 ≤ y1 ∧ y1 < 256 by have h := HXG.out 1 (by omega); rw [hy1, hp1] at h; exact h)
                      have hv1 : IntKind.i64.wrap y1 = y1 := by have := HY1.out.2; rw [IntKind.wrap_i64]; omega
                      obtain ⟨y2, hy2⟩ : ∃ y2, xl.getD 2 0 = y2 := ⟨_, rfl⟩
                      have HY2 := Lib.hid (show l[p2]? = some y2 ∧ 0 ≤ y2 ∧ y2 < 256 by have h := HXG.out 2 (by omega); rw [hy2, hp2] at h; exact h)
                      have hv2 : IntKind.i64.wrap y2 = y2 := by have := HY2.out.2; rw [IntKind.wrap_i64]; omega
                      obtain ⟨y3, hy3⟩ : ∃ y3, xl.getD 3 0 = y3 := ⟨_, rfl⟩
                      have HY3 := Lib.hid (show l[p3]? = some y3 ∧ 0 ≤ y3 ∧ y3 < 256 by have h := HXG.out 3 (by omega); rw [hy3, hp3] at h; exact h)
                      have hv3 : IntKind.i64.wrap y3 = y3 := by have := HY3.out.2; rw [IntKind.wrap_i64]; omega
                      have hk0 : (q : Int) < (l.length : Int) := by omega
                      obtain ⟨z, hz⟩ : ∃ z, immD xl 8 = z := ⟨_, rfl⟩
                      have HCD := Lib.hid (show (codeD r3 (j + 1)).flatMap insEnc2 = (codeD r3 j).flatMap insEnc2 ++ [.int .i64 y0, .int .i64 y1, .int .i64 y2, .int .i64 y3, .int .i64 z] by
                        rw [codeD, List.flatMap_append, List.flatMap_cons, List.flatMap_nil, List.append_nil, HXL.out]
                        unfold insEnc2 insD
                        rw [hz, hy0, hy1, hy2, hy3])
                      rw [hz]
                      obtain ⟨A3, c3, hcv⟩ := HP.out.rowShape2 (.head _)
                      go_upto_region 21 with fail
                      refine wp_region_held_drew (S := fun wq => wq.cell? (ad.add q) = some (.int .u8 y0) ∧ wq.cell? (ad.add p1) = some (.int .u8 y1) ∧ wq.cell? (ad.add p2) = some (.int .u8 y2) ∧ wq.cell? (ad.add p3) = some (.int .u8 y3)) (by kernel_rfl) ⟨HAT.out _ _ _ (HP.out.alike (F := ⟨w, Lt w.heap.size⟩) (by simp)) HY0.out.1, HAT.out _ _ _ (HP.out.alike (F := ⟨w, Lt w.heap.size⟩) (by simp)) HY1.out.1, HAT.out _ _ _ (HP.out.alike (F := ⟨w, Lt w.heap.size⟩) (by simp)) HY2.out.1, HAT.out _ _ _ (HP.out.alike (F := ⟨w, Lt w.heap.size⟩) (by simp)) HY3.out.1⟩ (fun hHeld => ?_)
                      have HS0 := Lib.hid hHeld
                      clear hHeld
                      replace HP := Lib.hid HP.out.drew
                      (try simp only [Act.put, List.setIfInBounds_toArray, List.set_cons_zero, List.set_cons_succ])
                      refine wpAnyH_take (i := 0) (v := ?_) rfl (by kernel_rfl) (by kernel_rfl) (by kernel_rfl) (fun _ _ _ h => h) (.inl ⟨by first | (simp [Region.wanted]; done) | rfl, ?_⟩) HS0.out ?_
                      rotate_left
                      · intro w' hw
                        obtain ⟨k0, k1, k2, k3⟩ := hw
                        go_simp
                        (try with_reducible rfl)
                      (try simp only [List.getElem_toArray, List.getElem_cons_succ, List.getElem_cons_zero, Act.put, List.setIfInBounds_toArray, List.set_cons_zero, List.set_cons_succ])
                      refine wpAnyH_take (i := 2) (v := ?_) rfl (by kernel_rfl) (by kernel_rfl) (by kernel_rfl) (fun _ _ _ h => h) (.inl ⟨by first | (simp [Region.wanted]; done) | rfl, ?_⟩) HS0.out ?_
                      rotate_left
                      · intro w' hw
                        obtain ⟨k0, k1, k2, k3⟩ := hw
                        go_simp
                        (try with_reducible rfl)
                      (try simp only [List.getElem_toArray, List.getElem_cons_succ, List.getElem_cons_zero, Act.put, List.setIfInBounds_toArray, List.set_cons_zero, List.set_cons_succ])
                      refine wpAnyH_take (i := 3) (v := ?_) rfl (by kernel_rfl) (by kernel_rfl) (by kernel_rfl) (fun _ _ _ h => h) (.inl ⟨by first | (simp [Region.wanted]; done) | rfl, ?_⟩) HS0.out ?_
                      rotate_left
                      · intro w' hw
                        obtain ⟨k0, k1, k2, k3⟩ := hw
                        go_simp
                        (try with_reducible rfl)
                      (try simp only [List.getElem_toArray, List.getElem_cons_succ, List.getElem_cons_zero, Act.put, List.setIfInBounds_toArray, List.set_cons_zero, List.set_cons_succ])
                      refine wpAnyH_take (i := 4) (v := ?_) rfl (by kernel_rfl) (by kernel_rfl) (by kernel_rfl) (fun _ _ _ h => h) (.inl ⟨by first | (simp [Region.wanted]; done) | rfl, ?_⟩) HS0.out ?_
                      rotate_left
                      · intro w' hw
                        obtain ⟨k0, k1, k2, k3⟩ := hw
                        go_simp
                        (try with_reducible rfl)
                      (try simp only [List.getElem_toArray, List.getElem_cons_succ, List.getElem_cons_zero, Act.put, List.setIfInBounds_toArray, List.set_cons_zero, List.set_cons_succ])
                      refine wpAnyH_take (i := 5) (v := ?_) rfl (by kernel_rfl) (by kernel_rfl) (by kernel_rfl) (fun _ _ _ h => h) (.inl ⟨by first | (simp [Region.wanted]; done) | rfl, ?_⟩) HS0.out ?_
                      rotate_left
                      · intro w' hw
                        obtain ⟨k0, k1, k2, k3⟩ := hw
                        go_simp
                        (try with_reducible rfl)
                      (try simp only [List.getElem_toArray, List.getElem_cons_succ, List.getElem_cons_zero, Act.put, List.setIfInBounds_toArray, List.set_cons_zero, List.set_cons_succ])
                      refine wpAnyH_take (i := 6) (v := ?_) rfl (by kernel_rfl) (by kernel_rfl) (by kernel_rfl) (fun _ _ _ h => h) (.inl ⟨by first | (simp [Region.wanted]; done) | rfl, ?_⟩) HS0.out ?_
                      rotate_left
                      · intro w' hw
                        obtain ⟨k0, k1, k2, k3⟩ := hw
                        go_simp
                        (try with_reducible rfl)
                      (try simp only [List.getElem_toArray, List.getElem_cons_succ, List.getElem_cons_zero, Act.put, List.setIfInBounds_toArray, List.set_cons_zero, List.set_cons_succ])
                      refine wpAnyH_take (i := 7) (v := ?_) rfl (by kernel_rfl) (by kernel_rfl) (by kernel_rfl) (fun _ _ _ h => h) (.inl ⟨by first | (simp [Region.wanted]; done) | rfl, ?_⟩) HS0.out ?_
                      rotate_left
                      · intro w' hw
                        obtain ⟨k0, k1, k2, k3⟩ := hw
                        go_simp
                        (try with_reducible rfl)
                      (try simp only [List.getElem_toArray, List.getElem_cons_succ, List.getElem_cons_zero, Act.put, List.setIfInBounds_toArray, List.set_cons_zero, List.set_cons_succ])
                      refine wpAnyH_take (i := 8) (v := ?_) rfl (by kernel_rfl) (by kernel_rfl) (by kernel_rfl) (fun _ _ _ h => h) (.inl ⟨by first | (simp [Region.wanted]; done) | rfl, ?_⟩) HS0.out ?_
                      rotate_left
                      · intro w' hw
                        obtain ⟨k0, k1, k2, k3⟩ := hw
                        go_simp
                        (try with_reducible rfl)
                      (try simp only [List.getElem_toArray, List.getElem_cons_succ, List.getElem_cons_zero, Act.put, List.setIfInBounds_toArray, List.set_cons_zero, List.set_cons_succ])
                      refine wpAnyH_take (i := 9) (v := ?_) rfl (by kernel_rfl) (by kernel_rfl) (by kernel_rfl) (fun _ _ _ h => h) (.inl ⟨by first | (simp [Region.wanted]; done) | rfl, ?_⟩) HS0.out ?_
                      rotate_left
                      · intro w' hw
                        obtain ⟨k0, k1, k2, k3⟩ := hw
                        go_simp
                        (try with_reducible rfl)
                      (try simp only [List.getElem_toArray, List.getElem_cons_succ, List.getElem_cons_zero, Act.put, List.setIfInBounds_toArray, List.set_cons_zero, List.set_cons_succ])
                      refine wpAnyH_take (i := 10) (v := ?_) rfl (by kernel_rfl) (by kernel_rfl) (by kernel_rfl) (fun _ _ _ h => h) (.inl ⟨by first | (simp [Region.wanted]; done) | rfl, ?_⟩) HS0.out ?_
                      rotate_left
                      · intro w' hw
                        obtain ⟨k0, k1, k2, k3⟩ := hw
                        go_simp
                        (try with_reducible rfl)
                      (try simp only [List.getElem_toArray, List.getElem_cons_succ, List.getElem_cons_zero, Act.put, List.setIfInBounds_toArray, List.set_cons_zero, List.set_cons_succ])
                      refine wpAnyH_take (i := 11) (v := ?_) rfl (by kernel_rfl) (by kernel_rfl) (by kernel_rfl) (fun _ _ _ h => h) (.inl ⟨by first | (simp [Region.wanted]; done) | rfl, ?_⟩) HS0.out ?_
                      rotate_left
                      · intro w' hw
                        obtain ⟨k0, k1, k2, k3⟩ := hw
                        go_simp
                        (try with_reducible rfl)
                      (try simp only [List.getElem_toArray, List.getElem_cons_succ, List.getElem_cons_zero, Act.put, List.setIfInBounds_toArray, List.set_cons_zero, List.set_cons_succ])
                      refine wpAnyH_take (i := 12) (v := ?_) rfl (by kernel_rfl) (by kernel_rfl) (by kernel_rfl) (fun _ _ _ h => h) (.inl ⟨by first | (simp [Region.wanted]; done) | rfl, ?_⟩) HS0.out ?_
                      rotate_left
                      · intro w' hw
                        obtain ⟨k0, k1, k2, k3⟩ := hw
                        go_simp
                        (try with_reducible rfl)
                      (try simp only [List.getElem_toArray, List.getElem_cons_succ, List.getElem_cons_zero, Act.put, List.setIfInBounds_toArray, List.set_cons_zero, List.set_cons_succ])
                      refine wpAnyH_take (i := 13) (v := ?_) rfl (by kernel_rfl) (by kernel_rfl) (by kernel_rfl) (fun _ _ _ h => h) (.inl ⟨by first | (simp [Region.wanted]; done) | rfl, ?_⟩) HS0.out ?_
                      rotate_left
                      · intro w' hw
                        obtain ⟨k0, k1, k2, k3⟩ := hw
                        go_simp
                        (try with_reducible rfl)
                      (try simp only [List.getElem_toArray, List.getElem_cons_succ, List.getElem_cons_zero, Act.put, List.setIfInBounds_toArray, List.set_cons_zero, List.set_cons_succ])
                      refine wpAnyH_take (i := 14) (v := ?_) rfl (by kernel_rfl) (by kernel_rfl) (by kernel_rfl) (fun _ _ _ h => h) (.inl ⟨by first | (simp [Region.wanted]; done) | rfl, ?_⟩) HS0.out ?_
                      rotate_left
                      · intro w' hw
                        obtain ⟨k0, k1, k2, k3⟩ := hw
                        go_simp
                        (try with_reducible rfl)
                      (try simp only [List.getElem_toArray, List.getElem_cons_succ, List.getElem_cons_zero, Act.put, List.setIfInBounds_toArray, List.set_cons_zero, List.set_cons_succ])
                      refine wpAnyH_take (i := 15) (v := ?_) rfl (by kernel_rfl) (by kernel_rfl) (by kernel_rfl) (fun _ _ _ h => h) (.inl ⟨by first | (simp [Region.wanted]; done) | rfl, ?_⟩) HS0.out ?_
                      rotate_left
                      · intro w' hw
                        obtain ⟨k0, k1, k2, k3⟩ := hw
                        go_simp
                        (try with_reducible rfl)
                      (try simp only [List.getElem_toArray, List.getElem_cons_succ, List.getElem_cons_zero, Act.put, List.setIfInBounds_toArray, List.set_cons_zero, List.set_cons_succ])
                      refine wpAnyH_take (i := 16) (v := ?_) rfl (by kernel_rfl) (by kernel_rfl) (by kernel_rfl) (fun _ _ _ h => h) (.inl ⟨by first | (simp [Region.wanted]; done) | rfl, ?_⟩) HS0.out ?_
                      rotate_left
                      · intro w' hw
                        obtain ⟨k0, k1, k2, k3⟩ := hw
                        go_simp
                        (try with_reducible rfl)
                      (try simp only [List.getElem_toArray, List.getElem_cons_succ, List.getElem_cons_zero, Act.put, List.setIfInBounds_toArray, List.set_cons_zero, List.set_cons_succ])
                      refine wpAnyH_take (i := 17) (v := ?_) rfl (by kernel_rfl) (by kernel_rfl) (by kernel_rfl) (fun _ _ _ h => h) (.inl ⟨by first | (simp [Region.wanted]; done) | rfl, ?_⟩) HS0.out ?_
                      rotate_left
                      · intro w' hw
                        obtain ⟨k0, k1, k2, k3⟩ := hw
                        go_simp
                        (try with_reducible rfl)
                      (try simp only [List.getElem_toArray, List.getElem_cons_succ, List.getElem_cons_zero, Act.put, List.setIfInBounds_toArray, List.set_cons_zero, List.set_cons_succ])
                      refine wpAnyH_take (i := 18) (v := ?_) rfl (by kernel_rfl) (by kernel_rfl) (by kernel_rfl) (fun _ _ _ h => h) (.inl ⟨by first | (simp [Region.wanted]; done) | rfl, ?_⟩) HS0.out ?_
                      rotate_left
                      · intro w' hw
                        obtain ⟨k0, k1, k2, k3⟩ := hw
                        go_simp
                        (try with_reducible rfl)
                      (try simp only [List.getElem_toArray, List.getElem_cons_succ, List.getElem_cons_zero, Act.put, List.setIfInBounds_toArray, List.set_cons_zero, List.set_cons_succ])
                      refine wpAnyH_take (i := 19) (v := ?_) rfl (by kernel_rfl) (by kernel_rfl) (by kernel_rfl) (fun _ _ _ h => h) (.inl ⟨by first | (simp [Region.wanted]; done) | rfl, ?_⟩) HS0.out ?_
                      rotate_left
                      · intro w' hw
                        obtain ⟨k0, k1, k2, k3⟩ := hw
                        go_simp
                        (try with_reducible rfl)
                      (try simp only [List.getElem_toArray, List.getElem_cons_succ, List.getElem_cons_zero, Act.put, List.setIfInBounds_toArray, List.set_cons_zero, List.set_cons_succ])
                      refine wpAnyH_take (i := 20) (v := ?_) rfl (by kernel_rfl) (by kernel_rfl) (by kernel_rfl) (fun _ _ _ h => h) (.inl ⟨by first | (simp [Region.wanted]; done) | rfl, ?_⟩) HS0.out ?_
                      rotate_left
                      · intro w' hw
                        obtain ⟨k0, k1, k2, k3⟩ := hw
                        go_simp
                        (try with_reducible rfl)
                      (try simp only [List.getElem_toArray, List.getElem_cons_succ, List.getElem_cons_zero, Act.put, List.setIfInBounds_toArray, List.set_cons_zero, List.set_cons_succ])
                      refine wpAnyH_take (i := 21) (v := ?_) rfl (by kernel_rfl) (by kernel_rfl) (by kernel_rfl) (fun _ _ _ h => h) (.inl ⟨by first | (simp [Region.wanted]; done) | rfl, ?_⟩) HS0.out ?_
                      rotate_left
                      · intro w' hw
                        obtain ⟨k0, k1, k2, k3⟩ := hw
                        go_simp
                        (try with_reducible rfl)
                      (try simp only [List.getElem_toArray, List.getElem_cons_succ, List.getElem_cons_zero, Act.put, List.setIfInBounds_toArray, List.set_cons_zero, List.set_cons_succ])
                      refine wpAnyH_take (i := 22) (v := ?_) rfl (by kernel_rfl) (by kernel_rfl) (by kernel_rfl) (fun _ _ _ h => h) (.inl ⟨by first | (simp [Region.wanted]; done) | rfl, ?_⟩) HS0.out ?_
                      rotate_left
                      · intro w' hw
                        obtain ⟨k0, k1, k2, k3⟩ := hw
                        go_simp
                        (try with_reducible rfl)
                      (try simp only [List.getElem_toArray, List.getElem_cons_succ, List.getElem_cons_zero, Act.put, List.setIfInBounds_toArray, List.set_cons_zero, List.set_cons_succ])
                      refine wpAnyH_take (i := 23) (v := ?_) rfl (by kernel_rfl) (by kernel_rfl) (by kernel_rfl) (fun _ _ _ h => h) (.inl ⟨by first | (simp [Region.wanted]; done) | rfl, ?_⟩) HS0.out ?_
                      rotate_left
                      · intro w' hw
                        obtain ⟨k0, k1, k2, k3⟩ := hw
                        go_simp
                        (try with_reducible rfl)
                      (try simp only [List.getElem_toArray, List.getElem_cons_succ, List.getElem_cons_zero, Act.put, List.setIfInBounds_toArray, List.set_cons_zero, List.set_cons_succ])
                      refine wpAnyH_take (i := 24) (v := ?_) rfl (by kernel_rfl) (by kernel_rfl) (by kernel_rfl) (fun _ _ _ h => h) (.inl ⟨by first | (simp [Region.wanted]; done) | rfl, ?_⟩) HS0.out ?_
                      rotate_left
                      · intro w' hw
                        obtain ⟨k0, k1, k2, k3⟩ := hw
                        go_simp
                        (try with_reducible rfl)
                      (try simp only [List.getElem_toArray, List.getElem_cons_succ, List.getElem_cons_zero, Act.put, List.setIfInBounds_toArray, List.set_cons_zero, List.set_cons_succ])
                      refine wpAnyH_take (i := 25) (v := ?_) rfl (by kernel_rfl) (by kernel_rfl) (by kernel_rfl) (fun _ _ _ h => h) (.inl ⟨by first | (simp [Region.wanted]; done) | rfl, ?_⟩) HS0.out ?_
                      rotate_left
                      · intro w' hw
                        obtain ⟨k0, k1, k2, k3⟩ := hw
                        go_simp
                        (try with_reducible rfl)
                      (try simp only [List.getElem_toArray, List.getElem_cons_succ, List.getElem_cons_zero, Act.put, List.setIfInBounds_toArray, List.set_cons_zero, List.set_cons_succ])
                      refine wpAnyH_take (i := 26) (v := ?_) rfl (by kernel_rfl) (by kernel_rfl) (by kernel_rfl) (fun _ _ _ h => h) (.inl ⟨by first | (simp [Region.wanted]; done) | rfl, ?_⟩) HS0.out ?_
                      rotate_left
                      · intro w' hw
                        obtain ⟨k0, k1, k2, k3⟩ := hw
                        go_simp
                        (try with_reducible rfl)
                      (try simp only [List.getElem_toArray, List.getElem_cons_succ, List.getElem_cons_zero, Act.put, List.setIfInBounds_toArray, List.set_cons_zero, List.set_cons_succ])
                      subst hcv
                      refine wpAnyH_ready (rs := [1, 27]) (by kernel_rfl) (by simp) ?_
                      refine AllReadyH.cons rfl (fun K hK => ?_) (AllReadyH.cons rfl (fun K hK => ?_) AllReadyH.nil)
                      · refine wanted_only rfl ?_
                        refine wpList_ld1 rfl 42 _ rfl HP.out rfl rfl Tryd.underlying42 rfl ?_
                        refine wpList_nil ?_
                        refine hK.out _ _ ⟨HAT.out _ _ _ (HP.out.alike (F := ⟨w, Lt w.heap.size⟩) (by simp)) HY0.out.1, HAT.out _ _ _ (HP.out.alike (F := ⟨w, Lt w.heap.size⟩) (by simp)) HY1.out.1, HAT.out _ _ _ (HP.out.alike (F := ⟨w, Lt w.heap.size⟩) (by simp)) HY2.out.1, HAT.out _ _ _ (HP.out.alike (F := ⟨w, Lt w.heap.size⟩) (by simp)) HY3.out.1⟩ (fun hHeld => ?_)
                        replace HS0 := Lib.hid hHeld
                        clear hK K hHeld
                        (try simp only [List.getElem_toArray, List.getElem_cons_succ, List.getElem_cons_zero, Act.put, List.setIfInBounds_toArray, List.set_cons_zero, List.set_cons_succ])
                        refine wpAnyH_ready (rs := [27]) (by kernel_rfl) (by simp) ?_
                        refine AllReadyH.cons rfl (fun K hK => ?_) AllReadyH.nil
                        refine wanted_only rfl ?_
                        refine wpList_slice_hp rfl 42 46 1 _ rfl HP.out Tryd.underlying42 #[.int .i64 y0, .int .i64 y1, .int .i64 y2, .int .i64 y3, .int .i64 z] (by kernel_rfl) ?_
                        clear HP; intro gi wi HP; replace HP := Lib.hid HP
                        refine wpList_nil ?_
                        refine hK.out _ _ ⟨HAT.out _ _ _ (HP.out.alike (F := ⟨w, Lt w.heap.size⟩) (by simp)) HY0.out.1, HAT.out _ _ _ (HP.out.alike (F := ⟨w, Lt w.heap.size⟩) (by simp)) HY1.out.1, HAT.out _ _ _ (HP.out.alike (F := ⟨w, Lt w.heap.size⟩) (by simp)) HY2.out.1, HAT.out _ _ _ (HP.out.alike (F := ⟨w, Lt w.heap.size⟩) (by simp)) HY3.out.1⟩ (fun hHeld => ?_)
                        replace HS0 := Lib.hid hHeld
                        clear hK K hHeld
                        (try simp only [List.getElem_toArray, List.getElem_cons_succ, List.getElem_cons_zero, Act.put, List.setIfInBounds_toArray, List.set_cons_zero, List.set_cons_succ])
                        refine wpAnyH_ready (rs := [28]) (by kernel_rfl) (by simp) ?_
                        refine AllReadyH.cons rfl (fun K hK => ?_) AllReadyH.nil
                        refine wanted_only rfl ?_
                        refine wpList_app0 rfl _ _ 42 rfl i_Ins (.agg #[.int .i64 0, .int .i64 0, .int .i64 0, .int .i64 0, .int .i64 0]) Tryd.underlying42 hi_Ins hz_Ins hs_Ins rfl (by decide) hy_Ins (j + 1) (by omega) HP.out rfl rfl rfl (by simp [Value.oneCell']) (by unfold maxLen; omega) (by omega) ?_
                        clear HP; intro A4 c4 wap HP; replace HP := Lib.hid HP
                        refine wpList_nil ?_
                        refine hK.out _ _ ⟨HAT.out _ _ _ (HP.out.alike (F := ⟨w, Lt w.heap.size⟩) (by simp)) HY0.out.1, HAT.out _ _ _ (HP.out.alike (F := ⟨w, Lt w.heap.size⟩) (by simp)) HY1.out.1, HAT.out _ _ _ (HP.out.alike (F := ⟨w, Lt w.heap.size⟩) (by simp)) HY2.out.1, HAT.out _ _ _ (HP.out.alike (F := ⟨w, Lt w.heap.size⟩) (by simp)) HY3.out.1⟩ (fun hHeld => ?_)
                        replace HS0 := Lib.hid hHeld
                        clear hK K hHeld
                        (try simp only [List.getElem_toArray, List.getElem_cons_succ, List.getElem_cons_zero, Act.put, List.setIfInBounds_toArray, List.set_cons_zero, List.set_cons_succ])
                        refine wpAnyH_take (i := 29) (v := ?_) rfl (by kernel_rfl) (by kernel_rfl) (by kernel_rfl) (fun _ _ _ h => h) (.inl ⟨by first | (simp [Region.wanted]; done) | rfl, ?_⟩) HS0.out ?_
                        rotate_left
                        · intro w' hw
                          obtain ⟨k0, k1, k2, k3⟩ := hw
                          go_simp
                          (try with_reducible rfl)
                        (try simp only [List.getElem_toArray, List.getElem_cons_succ, List.getElem_cons_zero, Act.put, List.setIfInBounds_toArray, List.set_cons_zero, List.set_cons_succ])
                        refine wpAnyH_ready (rs := [30]) (by kernel_rfl) (by simp) ?_
                        refine AllReadyH.cons rfl (fun K hK => ?_) AllReadyH.nil
                        refine wanted_only rfl ?_
                        refine wpList_st1 rfl 42 _ _ rfl HP.out rfl (v := .slice A4 (j + 1) c4) rfl (by simp) rfl rfl (by kernel_rfl) ?_
                        clear HP; intro wst HP; replace HP := Lib.hid HP
                        refine wpList_nil ?_
                        refine hK.out _ _ ⟨HAT.out _ _ _ (HP.out.alike (F := ⟨w, Lt w.heap.size⟩) (by simp)) HY0.out.1, HAT.out _ _ _ (HP.out.alike (F := ⟨w, Lt w.heap.size⟩) (by simp)) HY1.out.1, HAT.out _ _ _ (HP.out.alike (F := ⟨w, Lt w.heap.size⟩) (by simp)) HY2.out.1, HAT.out _ _ _ (HP.out.alike (F := ⟨w, Lt w.heap.size⟩) (by simp)) HY3.out.1⟩ (fun hHeld => ?_)
                        replace HS0 := Lib.hid hHeld
                        clear hK K hHeld
                        (try simp only [List.getElem_toArray, List.getElem_cons_succ, List.getElem_cons_zero, Act.put, List.setIfInBounds_toArray, List.set_cons_zero, List.set_cons_succ])
                        refine wpAnyH_done (by kernel_rfl) ?_ _
                        (try simp only [List.getElem_toArray, List.getElem_cons_succ, List.getElem_cons_zero, Act.put, List.setIfInBounds_toArray, List.set_cons_zero, List.set_cons_succ])
                        clear HS0 hw1 hw2 hw3 hk0 hk1 hk2 hk3 hv0 hv1 hv2 hv3 HXG
                        have hqn : (q : Int) + 12 = ((q0 + 12 * (j + 1) : Nat) : Int) := by omega
                        go_wp2
                        go_roundw
                        case rel => exact ⟨j + 1, .slice A4 (j + 1) c4, by omega, by go_num, by go_num, Lib.hid (by
                          rw [HCD.out]
                          exact HP.out)⟩
                        case measure => simp [intOf]; omega
                        
                      · refine wanted_only rfl ?_
                        refine wpList_slice_hp rfl 42 46 1 _ rfl HP.out Tryd.underlying42 #[.int .i64 y0, .int .i64 y1, .int .i64 y2, .int .i64 y3, .int .i64 z] (by kernel_rfl) ?_
                        clear HP; intro gi wi HP; replace HP := Lib.hid HP
                        refine wpList_nil ?_
                        refine hK.out _ _ ⟨HAT.out _ _ _ (HP.out.alike (F := ⟨w, Lt w.heap.size⟩) (by simp)) HY0.out.1, HAT.out _ _ _ (HP.out.alike (F := ⟨w, Lt w.heap.size⟩) (by simp)) HY1.out.1, HAT.out _ _ _ (HP.out.alike (F := ⟨w, Lt w.heap.size⟩) (by simp)) HY2.out.1, HAT.out _ _ _ (HP.out.alike (F := ⟨w, Lt w.heap.size⟩) (by simp)) HY3.out.1⟩ (fun hHeld => ?_)
                        replace HS0 := Lib.hid hHeld
                        clear hK K hHeld
                        (try simp only [List.getElem_toArray, List.getElem_cons_succ, List.getElem_cons_zero, Act.put, List.setIfInBounds_toArray, List.set_cons_zero, List.set_cons_succ])
                        refine wpAnyH_ready (rs := [1]) (by kernel_rfl) (by simp) ?_
                        refine AllReadyH.cons rfl (fun K hK => ?_) AllReadyH.nil
                        refine wanted_only rfl ?_
                        refine wpList_ld2 rfl 42 _ rfl HP.out rfl rfl Tryd.underlying42 rfl ?_
                        refine wpList_nil ?_
                        refine hK.out _ _ ⟨HAT.out _ _ _ (HP.out.alike (F := ⟨w, Lt w.heap.size⟩) (by simp)) HY0.out.1, HAT.out _ _ _ (HP.out.alike (F := ⟨w, Lt w.heap.size⟩) (by simp)) HY1.out.1, HAT.out _ _ _ (HP.out.alike (F := ⟨w, Lt w.heap.size⟩) (by simp)) HY2.out.1, HAT.out _ _ _ (HP.out.alike (F := ⟨w, Lt w.heap.size⟩) (by simp)) HY3.out.1⟩ (fun hHeld => ?_)
                        replace HS0 := Lib.hid hHeld
                        clear hK K hHeld
                        (try simp only [List.getElem_toArray, List.getElem_cons_succ, List.getElem_cons_zero, Act.put, List.setIfInBounds_toArray, List.set_cons_zero, List.set_cons_succ])
                        refine wpAnyH_ready (rs := [28]) (by kernel_rfl) (by simp) ?_
                        refine AllReadyH.cons rfl (fun K hK => ?_) AllReadyH.nil
                        refine wanted_only rfl ?_
                        refine wpList_app0 rfl _ _ 42 rfl i_Ins (.agg #[.int .i64 0, .int .i64 0, .int .i64 0, .int .i64 0, .int .i64 0]) Tryd.underlying42 hi_Ins hz_Ins hs_Ins rfl (by decide) hy_Ins (j + 1) (by omega) HP.out rfl rfl rfl (by simp [Value.oneCell']) (by unfold maxLen; omega) (by omega) ?_
                        clear HP; intro A4 c4 wap HP; replace HP := Lib.hid HP
                        refine wpList_nil ?_
                        refine hK.out _ _ ⟨HAT.out _ _ _ (HP.out.alike (F := ⟨w, Lt w.heap.size⟩) (by simp)) HY0.out.1, HAT.out _ _ _ (HP.out.alike (F := ⟨w, Lt w.heap.size⟩) (by simp)) HY1.out.1, HAT.out _ _ _ (HP.out.alike (F := ⟨w, Lt w.heap.size⟩) (by simp)) HY2.out.1, HAT.out _ _ _ (HP.out.alike (F := ⟨w, Lt w.heap.size⟩) (by simp)) HY3.out.1⟩ (fun hHeld => ?_)
                        replace HS0 := Lib.hid hHeld
                        clear hK K hHeld
                        (try simp only [List.getElem_toArray, List.getElem_cons_succ, List.getElem_cons_zero, Act.put, List.setIfInBounds_toArray, List.set_cons_zero, List.set_cons_succ])
                        refine wpAnyH_take (i := 29) (v := ?_) rfl (by kernel_rfl) (by kernel_rfl) (by kernel_rfl) (fun _ _ _ h => h) (.inl ⟨by first | (simp [Region.wanted]; done) | rfl, ?_⟩) HS0.out ?_
                        rotate_left
                        · intro w' hw
                          obtain ⟨k0, k1, k2, k3⟩ := hw
                          go_simp
                          (try with_reducible rfl)
                        (try simp only [List.getElem_toArray, List.getElem_cons_succ, List.getElem_cons_zero, Act.put, List.setIfInBounds_toArray, List.set_cons_zero, List.set_cons_succ])
                        refine wpAnyH_ready (rs := [30]) (by kernel_rfl) (by simp) ?_
                        refine AllReadyH.cons rfl (fun K hK => ?_) AllReadyH.nil
                        refine wanted_only rfl ?_
                        refine wpList_st1 rfl 42 _ _ rfl HP.out rfl (v := .slice A4 (j + 1) c4) rfl (by simp) rfl rfl (by kernel_rfl) ?_
                        clear HP; intro wst HP; replace HP := Lib.hid HP
                        refine wpList_nil ?_
                        refine hK.out _ _ ⟨HAT.out _ _ _ (HP.out.alike (F := ⟨w, Lt w.heap.size⟩) (by simp)) HY0.out.1, HAT.out _ _ _ (HP.out.alike (F := ⟨w, Lt w.heap.size⟩) (by simp)) HY1.out.1, HAT.out _ _ _ (HP.out.alike (F := ⟨w, Lt w.heap.size⟩) (by simp)) HY2.out.1, HAT.out _ _ _ (HP.out.alike (F := ⟨w, Lt w.heap.size⟩) (by simp)) HY3.out.1⟩ (fun hHeld => ?_)
                        replace HS0 := Lib.hid hHeld
                        clear hK K hHeld
                        (try simp only [List.getElem_toArray, List.getElem_cons_succ, List.getElem_cons_zero, Act.put, List.setIfInBounds_toArray, List.set_cons_zero, List.set_cons_succ])
                        refine wpAnyH_done (by kernel_rfl) ?_ _
                        (try simp only [List.getElem_toArray, List.getElem_cons_succ, List.getElem_cons_zero, Act.put, List.setIfInBounds_toArray, List.set_cons_zero, List.set_cons_succ])
                        clear HS0 hw1 hw2 hw3 hk0 hk1 hk2 hk3 hv0 hv1 hv2 hv3 HXG
                        have hqn : (q : Int) + 12 = ((q0 + 12 * (j + 1) : Nat) : Int) := by omega
                        go_wp2
                        go_roundw
                        case rel => exact ⟨j + 1, .slice A4 (j + 1) c4, by omega, by go_num, by go_num, Lib.hid (by
                          rw [HCD.out]
                          exact HP.out)⟩
                        case measure => simp [intOf]; omega
                        
                · obtain rfl : j = n := by omega
                  clear HAT
                  obtain ⟨A3, c3, hcv⟩ := HP.out.rowShape2 (.head _)
                  subst hcv
                  have HLV := Lib.hid HFI.out.1.len
                  obtain ⟨Gd, hp9, hfi⟩ := Hp.freezeFun (f := ⟨x0, x1, codeD r3 j⟩) HP.out HFI.out
                  have HFJ := Lib.hid hfi
                  replace HP := Lib.hid hp9
                  clear hp9 hfi
                  have HFD := Lib.hid (show funsD rest (k + 1) = funsD rest k ++ [⟨x0, x1, codeD r3 j⟩] by
                    rw [funsD, HR.out.1]
                    show _ ++ [funD (x0 :: x1 :: (j : Int) :: r3)] = _
                    unfold funD
                    rw [HCE.out]
                    rfl)
                  have HRK := Lib.hid (show restD rest (k + 1) = some (r3.drop (12 * j)) ∧ r3.drop (12 * j) = l.drop (q0 + 12 * j) by
                    refine ⟨?_, ?_⟩
                    · rw [restD_step HR.out.1, enough_yes2 (by rw [HCE.out]; simp; omega), HCE.out, Nat.add_comm]
                      rfl
                    · have e1 := congrArg (List.drop (3 + 12 * j)) HR.out.2
                      rw [List.drop_drop] at e1
                      rw [show q0 + 12 * j = at9 + (3 + 12 * j) by omega, ← e1, Nat.add_comm 3]
                      rfl)
                  have HZIP := Lib.hid (funs_zip HLV.out ⟨x0, x1, codeD r3 j⟩ (.slice A3 j c3))
                  have hal : q0 + 12 * j ≤ l.length := by omega
                  clear HCUT2 HCE HR HG3 HG0
                  go_wp2_with (first | (refine wpList_ld0 rfl 24 _ rfl HP.out rfl rfl Tryd.underlying24 rfl ?_) | (refine wpList_ld1 rfl 24 _ rfl HP.out rfl rfl Tryd.underlying24 rfl ?_) | (refine wpList_ld2 rfl 24 _ rfl HP.out rfl rfl Tryd.underlying24 rfl ?_) | (refine wpList_ld3 rfl 24 _ rfl HP.out rfl rfl Tryd.underlying24 rfl ?_) | (refine wpList_ldR0 rfl 44 _ rfl HP.out rfl Tryd.underlying44 rfl (by kernel_rfl) ?_) | (refine wpList_ldR1 rfl 44 _ rfl HP.out rfl Tryd.underlying44 rfl (by kernel_rfl) ?_) | (refine wpList_slice_hp rfl 24 44 1 _ rfl HP.out Tryd.underlying24 #[.int .i64 x0, .int .i64 x1, .slice A3 j c3] (by kernel_rfl) ?_; clear HP; intro gi wi HP; replace HP := Lib.hid HP) | (at_builtin; refine wpList_app1 rfl _ _ 24 rfl i_Fun (.agg #[.int .i64 0, .int .i64 0, .slice none 0 0]) Tryd.underlying24 hi_Fun hz_Fun hs_Fun rfl (by decide) hy_Fun (k + 1) (by omega) HP.out rfl rfl rfl (by simp [Value.oneCell']) (by unfold maxLen; omega) (by omega) ?_; clear HP; intro A4 c4 wap HP; replace HP := Lib.hid HP) | (refine wpList_st0 rfl 24 _ _ rfl HP.out rfl rfl (by simp) rfl rfl (by kernel_rfl) ?_; clear HP; intro wst HP; replace HP := Lib.hid HP) | (refine wpList_st1 rfl 24 _ _ rfl HP.out rfl rfl (by simp) rfl rfl (by kernel_rfl) ?_; clear HP; intro wst HP; replace HP := Lib.hid HP) | (refine wpList_st2 rfl 24 _ _ rfl HP.out rfl rfl (by simp) rfl rfl (by kernel_rfl) ?_; clear HP; intro wst HP; replace HP := Lib.hid HP) | (refine wpList_st3 rfl 24 _ _ rfl HP.out rfl rfl (by simp) rfl rfl (by kernel_rfl) ?_; clear HP; intro wst HP; replace HP := Lib.hid HP))
                  go_roundw
                  case rel => exact ⟨k + 1, q0 + 12 * j, _, .slice A4 (k + 1) c4, us ++ [.slice A3 j c3], Gd, by omega, by go_num, by go_num, hal, HRK, by rw [HFD.out]; exact HFJ, Lib.hid (by
                    rw [HFD.out, HZIP.out]
                    exact Hp.drop (A := []) HP.out)⟩
                  case measure => simp [intOf]; omega
        · obtain rfl : k = N := by omega
          clear HCUT2
          have hlnz : ¬ ((l.length : Int) = 0) := by omega
          obtain ⟨e0, he0⟩ : ∃ e0, prgFault ⟨funsD rest k⟩ = e0 := ⟨_, rfl⟩
          have HPF := Lib.hid he0
          by_cases hat2 : at9 < l.length
          · have hat3 : (at9 : Int) < (l.length : Int) := by omega
            have HA := Lib.hid (show decAns l = (⟨[]⟩, 5) by
              rw [← HDL.out]
              exact dec_long (by rw [HDL.out]; exact hll) (by rw [Int.toNat_natCast]; exact HR.out.1) (by rw [HR.out.2]; intro h; have := congrArg List.length h; simp at this; omega))
            clear he0
            go_wp2_with (first | (go_at_call 15; refine (byteAt_at l _ _ (0) _ (by omega) (HP.out.repB (F := ⟨w, Lt w.heap.size⟩) (by simp) HL.out) HB.out (by omega)).mono ?_; rintro e wby ⟨rfl, hb⟩; replace HP := Lib.hid (HP.out.call0 hb); clear hb; rw [HZ0.out]) | (refine wpList_stR0 rfl 26 _ _ rfl HP.out rfl (cs' := [_]) rfl rfl (by simp [Value.oneCell']) (by kernel_rfl) ?_; clear HP; intro wst HP; replace HP := Lib.hid HP) | (refine wpList_stR1 rfl 26 _ _ rfl HP.out rfl (cs' := [_]) rfl rfl (by simp [Value.oneCell']) (by kernel_rfl) ?_; clear HP; intro wst HP; replace HP := Lib.hid HP) | (refine wpList_stR2 rfl 26 _ _ rfl HP.out rfl (cs' := [_]) rfl rfl (by simp [Value.oneCell']) (by kernel_rfl) ?_; clear HP; intro wst HP; replace HP := Lib.hid HP))
            (try simp only [Exit.inBlock, Exit.then])
            refine bodyPost_ret (results_cell_two2 (by rfl) _ _ g2 26 #[.slice none 0 0] (0, 0) _ rfl (HP.out.blk (.tail _ (.tail _ (.head _)))) Tryd.underlying26 rfl (by kernel_rfl)) (by rfl) ?_
            rw [HA.out]
            exact ⟨_, rfl, rep_prg_nil2, HP.out.below⟩
          · have hat3 : ¬ (at9 : Int) < (l.length : Int) := by omega
            have HRN := Lib.hid (show restD rest k = some [] by rw [HR.out.1, HR.out.2, List.drop_eq_nil_of_le (by omega)])
            obtain ⟨A3, c3, hfv⟩ := HP.out.rowShape2 (.head _)
            subst hfv
            by_cases hz : e0 = 0
            · subst hz
              have HA := Lib.hid (show decAns l = (⟨funsD rest k⟩, 0) by
                rw [← HDL.out]
                have h := dec_ok (b := (k : Int)) (rest := rest) (by rw [HDL.out]; exact hll) (by rw [Int.toNat_natCast]; exact HRN.out) (by rw [Int.toNat_natCast]; exact HPF.out)
                rw [Int.toNat_natCast] at h
                exact h)
              clear he0
              go_wp2_with (first | (go_at_call 15; refine (byteAt_at l _ _ (0) _ (by omega) (HP.out.repB (F := ⟨w, Lt w.heap.size⟩) (by simp) HL.out) HB.out (by omega)).mono ?_; rintro e wby ⟨rfl, hb⟩; replace HP := Lib.hid (HP.out.call0 hb); clear hb; rw [HZ0.out]) | (refine wpList_ldR0 rfl 26 _ rfl HP.out rfl Tryd.underlying26 rfl (by kernel_rfl) ?_) | (refine wpList_ldR1 rfl 26 _ rfl HP.out rfl Tryd.underlying26 rfl (by kernel_rfl) ?_) | (refine wpList_ldR2 rfl 26 _ rfl HP.out rfl Tryd.underlying26 rfl (by kernel_rfl) ?_) | (go_at_call 16; refine (progFault_any ⟨funsD rest k⟩ _ _ (rep_prg.2 (Lay.more (fun b hb => hb.2) (HP.out.rowFuns2 (.head _) rfl HFI.out.1 HFI.out.2)))).mono ?_; rintro e wck ⟨rfl, hb⟩; replace HP := Lib.hid (HP.out.call0 hb); clear hb; rw [HPF.out]) | (refine wpList_stR0 rfl 26 _ _ rfl HP.out rfl (cs' := [_]) rfl rfl (by simp [Value.oneCell']) (by kernel_rfl) ?_; clear HP; intro wst HP; replace HP := Lib.hid HP) | (refine wpList_stR1 rfl 26 _ _ rfl HP.out rfl (cs' := [_]) rfl rfl (by simp [Value.oneCell']) (by kernel_rfl) ?_; clear HP; intro wst HP; replace HP := Lib.hid HP) | (refine wpList_stR2 rfl 26 _ _ rfl HP.out rfl (cs' := [_]) rfl rfl (by simp [Value.oneCell']) (by kernel_rfl) ?_; clear HP; intro wst HP; replace HP := Lib.hid HP))
              (try simp only [Exit.inBlock, Exit.then])
              refine bodyPost_ret (results_cell_two2 (by rfl) _ _ g2 26 #[.slice A3 k c3] (0, 0) _ rfl (HP.out.blk (.tail _ (.tail _ (.head _)))) Tryd.underlying26 rfl (by kernel_rfl)) (by rfl) ?_
              rw [HA.out]
              exact ⟨_, rfl, rep_prg.2 (HP.out.rowFuns2 (.head _) rfl HFI.out.1 HFI.out.2), HP.out.below⟩
            · have hzb : (e0 != 0) = true := by simpa using hz
              have HA := Lib.hid (show decAns l = (⟨[]⟩, e0) by
                rw [← HDL.out]
                have h := dec_bad (b := (k : Int)) (rest := rest) (by rw [HDL.out]; exact hll) (by rw [Int.toNat_natCast]; exact HRN.out) (by rw [Int.toNat_natCast, HPF.out]; exact hz)
                rw [Int.toNat_natCast, HPF.out] at h
                exact h)
              clear he0 hz
              go_wp2_with (first | (go_at_call 15; refine (byteAt_at l _ _ (0) _ (by omega) (HP.out.repB (F := ⟨w, Lt w.heap.size⟩) (by simp) HL.out) HB.out (by omega)).mono ?_; rintro e wby ⟨rfl, hb⟩; replace HP := Lib.hid (HP.out.call0 hb); clear hb; rw [HZ0.out]) | (refine wpList_ldR0 rfl 26 _ rfl HP.out rfl Tryd.underlying26 rfl (by kernel_rfl) ?_) | (refine wpList_ldR1 rfl 26 _ rfl HP.out rfl Tryd.underlying26 rfl (by kernel_rfl) ?_) | (refine wpList_ldR2 rfl 26 _ rfl HP.out rfl Tryd.underlying26 rfl (by kernel_rfl) ?_) | (go_at_call 16; refine (progFault_any ⟨funsD rest k⟩ _ _ (rep_prg.2 (Lay.more (fun b hb => hb.2) (HP.out.rowFuns2 (.head _) rfl HFI.out.1 HFI.out.2)))).mono ?_; rintro e wck ⟨rfl, hb⟩; replace HP := Lib.hid (HP.out.call0 hb); clear hb; rw [HPF.out]) | (refine wpList_stR0 rfl 26 _ _ rfl HP.out rfl (cs' := [_]) rfl rfl (by simp [Value.oneCell']) (by kernel_rfl) ?_; clear HP; intro wst HP; replace HP := Lib.hid HP) | (refine wpList_stR1 rfl 26 _ _ rfl HP.out rfl (cs' := [_]) rfl rfl (by simp [Value.oneCell']) (by kernel_rfl) ?_; clear HP; intro wst HP; replace HP := Lib.hid HP) | (refine wpList_stR2 rfl 26 _ _ rfl HP.out rfl (cs' := [_]) rfl rfl (by simp [Value.oneCell']) (by kernel_rfl) ?_; clear HP; intro wst HP; replace HP := Lib.hid HP))
              (try simp only [Exit.inBlock, Exit.then])
              refine bodyPost_ret (results_cell_two2 (by rfl) _ _ g2 26 #[.slice none 0 0] (0, 0) _ rfl (HP.out.blk (.tail _ (.tail _ (.head _)))) Tryd.underlying26 rfl (by kernel_rfl)) (by rfl) ?_
              rw [HA.out]
              exact ⟨_, rfl, rep_prg_nil2, HP.out.below⟩
end Go.Proofs.YtohindaklpdeeaaDoor
