/- step.engine: next. -/
import Derived.Test.YtceilfmfidmfpaaDoorMgEngEngRStepdL3
import Derived.Test.YtceilfmfidmfpaaDoorPure
import Derived.StillTailTactics
set_option linter.unusedSimpArgs false
set_option linter.unusedVariables false
namespace Go.Proofs.YtceilfmfidmfpaaDoor
open Go.RowKit
attribute [local irreducible] wpList Code.wp Oper.wp
theorem eng_done {w0 w' : World} {Fs : List Fro} {L : List Res} {ge : Nat} {G : Fro} {s' t : Sta} {F' E' A' vP : Value} {n m : Nat} {cs ds : List Value} (h : s' = t) (HA : Lay.rep G.w G.S t.answers [A']) (hn : t.frames.length = n) (hc : t.frames.flatMap frmCells = cs) (hm : t.events.length = m) (hd : t.events.map (Value.int .i64) = ds)
    (HP : Hp w0 Fs (.blk ge 74 (engCells t F' E' A' vP) :: .row F' 39 14 n cs :: .row E' 3 1 m ds :: L) w') :
    ∃ F' E' A', Lay.rep G.w G.S s'.answers [A'] ∧ Hp w0 Fs (.blk ge 74 (engCells s' F' E' A' vP) :: .row F' 39 14 s'.frames.length (s'.frames.flatMap frmCells) :: .row E' 3 1 s'.events.length (s'.events.map (Value.int .i64)) :: L) w' := by
  subst h hn hc hm hd
  exact ⟨F', E', A', HA, HP⟩
theorem eng_in {w0 w : World} {Fs : List Fro} {R : List Res} {ge : Nat} {s : Sta} {F E A vP : Value} {n : Nat} {cs : List Value} (hn : s.frames.length = n) (hc : s.frames.flatMap frmCells = cs)
    (HP : Hp w0 Fs (.blk ge 74 (engCells s F E A vP) :: .row F 39 14 n cs :: R) w) : Hp w0 Fs (.blk ge 74 (engCells s F E A vP) :: .row F 39 14 s.frames.length (s.frames.flatMap frmCells) :: R) w := by
  subst hn hc; exact HP
theorem eng_mem (s : Sta) (u e a p : Value) (i : Nat) (hi : i < 16) : (engCells s u e a p)[3 + i]? = some (iV (s.mm i)) := by
  have : i = 0 ∨ i = 1 ∨ i = 2 ∨ i = 3 ∨ i = 4 ∨ i = 5 ∨ i = 6 ∨ i = 7 ∨ i = 8 ∨ i = 9 ∨ i = 10 ∨ i = 11 ∨ i = 12 ∨ i = 13 ∨ i = 14 ∨ i = 15 := by omega
  rcases this with rfl | rfl | rfl | rfl | rfl | rfl | rfl | rfl | rfl | rfl | rfl | rfl | rfl | rfl | rfl | rfl <;> rfl
theorem eng_store (s : Sta) (u e a p : Value) (i : Nat) (hi : i < 16) (n : Int) : (engCells s u e a p).set (3 + i) (iV n) = engCells { s with memory := s.memory.setIfInBounds i n } u e a p := by
  unfold engCells
  simp only [mm_set]
  have : i = 0 ∨ i = 1 ∨ i = 2 ∨ i = 3 ∨ i = 4 ∨ i = 5 ∨ i = 6 ∨ i = 7 ∨ i = 8 ∨ i = 9 ∨ i = 10 ∨ i = 11 ∨ i = 12 ∨ i = 13 ∨ i = 14 ∨ i = 15 := by omega
  rcases this with rfl | rfl | rfl | rfl | rfl | rfl | rfl | rfl | rfl | rfl | rfl | rfl | rfl | rfl | rfl | rfl <;> rfl
theorem retS_answers (p : Prg) (s : Sta) (fs : List Frm) (v : Int) : (retS p s fs v).answers = s.answers := by unfold retS; split <;> rfl
theorem retS_events (p : Prg) (s : Sta) (fs : List Frm) (v : Int) : (retS p s fs v).events = s.events := by unfold retS; split <;> rfl
set_option maxRecDepth 10000 in
set_option maxHeartbeats 4000000 in
theorem gnext_any (s : Sta) (fs : List Frm) (f : Frm) (hfr : s.frames = fs ++ [f]) (F E A vP : Value) (ge : Nat) (p : Prg) (w0 w : World) (Fs : List Fro) (L : List Res) (hl : s.frames.length ≤ 8) (hev : s.events.length ≤ 17592186043999) (hfu : 0 ≤ s.fuel ∧ s.fuel ≤ 10000) (ok : OkP p) (own : ∀ g ∈ s.frames, ownF p g)
    (G : Fro) (hG : G ∈ Fs) (hP : Lay.rep G.w G.S p [vP]) (hA : Lay.rep G.w G.S s.answers [A])
    (H : Hp w0 Fs (.blk ge 74 (engCells s F E A vP) :: .row F 39 14 s.frames.length (s.frames.flatMap frmCells) :: .row E 3 1 s.events.length (s.events.map (Value.int .i64)) :: L) w) :
    Calls Tryd.prog 32 #[.pointer (some ⟨ge, 0, none⟩)] w fun r w' => r = .returned (.tuple #[]) ∧ ∃ F' E' A', Lay.rep G.w G.S (nextOf p s fs f).answers [A'] ∧
      Hp w0 Fs (.blk ge 74 (engCells (nextOf p s fs f) F' E' A' vP) :: .row F' 39 14 (nextOf p s fs f).frames.length ((nextOf p s fs f).frames.flatMap frmCells) :: .row E' 3 1 (nextOf p s fs f).events.length ((nextOf p s fs f).events.map (Value.int .i64)) :: L) w' := by
  have HP := Lib.hid H
  have HA := Lib.hid hA
  have HPR := Lib.hid hP
  obtain ⟨gF, c2, rfl⟩ := H.rowSome (v := F) (.tail _ (.head _)) (by rw [hfr]; simp)
  obtain ⟨_, _, e, hc2, hm2, -⟩ := rep_frames_at (H.rowFrames (.tail _ (.head _)) rfl)
  cases e
  unfold maxLen at hm2
  clear H
  unfold engCells at HP
  by_cases hf0 : s.fuel = 0
  · have HN := Lib.hid (show nextOf p s fs f = { s with status := 2 } by unfold nextOf; rw [if_pos hf0])
    have HF := Lib.hid hfr
    clear hfr hP hA own
    go_enter Tryd.func32, Tryd.ntmps32
    go_wp2_with (first | (refine wpList_ld0 rfl 3 _ rfl HP.out rfl rfl Tryd.underlying3 rfl ?_) | (go_at_call 51; refine (halt_any s _ _ _ _ _ _ _ _ _ _ HP.out).mono ?_; clear HP; rintro r w6 ⟨rfl, HP⟩; replace HP := Lib.hid HP))
    ((try simp only [Exit.inBlock, Exit.then]); first | refine bodyPost_end (results_none rfl _ _ _) rfl ?_ | refine bodyPost_ret (results_none rfl _ _ _) rfl ?_)
    exact ⟨rfl, eng_done HN.out HA.out rfl rfl rfl rfl HP.out⟩
  · have hof : ownF p f := own f (by rw [hfr]; simp)
    obtain ⟨aP, ac, cP, k, j, l, cc, x0, x1, rfl, hfk, hfj, hkl, hjl, hSa, hSc, hat1, hat2, -, hl40, oki⟩ := ins_at hP ok hof
    obtain ⟨x, hx⟩ : ∃ x, insAt p f = x := ⟨_, rfl⟩
    rw [hx] at hat2 oki
    obtain ⟨d, hd⟩ : ∃ d : Nat, x.dst = d := ⟨x.dst.toNat, by have := oki.dst; omega⟩
    obtain ⟨ia, hia⟩ : ∃ d : Nat, x.a = d := ⟨x.a.toNat, by have := oki.a; omega⟩
    obtain ⟨ib, hib⟩ : ∃ d : Nat, x.b = d := ⟨x.b.toNat, by have := oki.b; omega⟩
    have hd11 : d ≤ 11 := by have := oki.dst; omega
    have ha11 : ia ≤ 11 := by have := oki.a; omega
    have hb11 : ib ≤ 11 := by have := oki.b; omega
    obtain ⟨q, hq⟩ : ∃ q, fs.length = q := ⟨_, rfl⟩
    have HQ := Lib.hid hq
    have hlq : s.frames.length = q + 1 := by rw [hfr, List.length_append, hq]; rfl
    rw [hlq] at HP hc2 hl
    rw [hfr, frms_snoc] at HP
    have hfb : (s.fuel == 0) = false := by rw [beq_eq_false_iff_ne]; exact hf0
    obtain ⟨va, hva⟩ : ∃ a, f.rg ia = a := ⟨_, rfl⟩
    obtain ⟨vb, hvb⟩ : ∃ b, f.rg ib = b := ⟨_, rfl⟩
    rw [hd, hia, hib] at hat2
    have HAT1 := Lib.hid hat1
    have HAT2 := Lib.hid hat2
    have HOK := Lib.hid oki
    have HFK := Lib.hid hfk
    have HFJ := Lib.hid hfj
    have HX := Lib.hid hx
    have HFR := Lib.hid hfr
    have HFZ := Lib.hid hf0
    have HOW := Lib.hid own
    have HD := Lib.hid (And.intro hd (And.intro hia hib))
    have HV := Lib.hid (And.intro hva hvb)
    clear hat1 hat2 oki hfk hfj hx hfr hd hia hib hva hvb hP hA hof own hq hlq hf0
    go_enter Tryd.func32, Tryd.ntmps32
    go_upto_region 2 with (first | (refine wpList_ld0 rfl 3 _ rfl HP.out rfl rfl Tryd.underlying3 rfl ?_))
    have hwr : IntKind.i64.wrap ((q : Int) + 1 - 1) = (q : Int) := by rw [IntKind.wrap_i64]; omega
    have hqc3 : decide ((q : Int) < (q : Int) + 1) = true := decide_eq_true (by omega)
    have hcf := HP.out.cell (.head _) 2 _ rfl
    go_quiet (fail)
    replace HP := Lib.hid (HP.out.drewN nq)
    clear hcf hwr hqc3
    go_upto_region 3 with (fail)
    replace HP := Lib.hid HP.out.drew
    refine wp_region_held_drew (S := fun w' => w'.cell? ⟨ge, 22, none⟩ = some (.slice (some aP) p.funcs.length cP) ∧ w'.cell? ⟨gF, q * 14, none⟩ = some (.int .i64 k) ∧ w'.cell? ⟨gF, q * 14 + 1, none⟩ = some (.int .i64 j) ∧ w'.cell? ⟨(aP.add (k * 3)).block, (aP.add (k * 3)).off + (1 + 1), none⟩ = some (.slice (some ac) l cc) ∧ At w' (ac.add (j * 5)) [iV x.op, iV d, iV ia, iV ib, iV x.imm]) (by kernel_rfl) ⟨HP.out.cell (.head _) 22 _ rfl, (HP.out.rowCell (g := gF) (.tail _ (.head _)) (q * 14) _ (frms_fn HQ.out rfl)).trans (by rw [HFK.out]), (HP.out.rowCell (g := gF) (.tail _ (.head _)) (q * 14 + 1) _ (frms_pcAt HQ.out rfl)).trans (by rw [HFJ.out]), (HP.out.at_ hG HAT1.out (by rw [block_of_add]; exact hSa)).fld 1 rfl, HP.out.at_ hG HAT2.out (by rw [block_of_add]; exact hSc)⟩ (fun hHeld => ?_)
    have HS0 := Lib.hid hHeld
    clear hHeld
    (try simp only [Act.put, List.setIfInBounds_toArray, List.set_cons_zero, List.set_cons_succ])
    refine wpAnyH_take (i := 0) (v := .pointer (some ⟨ge, 0, none⟩)) rfl (by kernel_rfl) (by kernel_rfl) (by kernel_rfl) (fun _ _ _ h => h) (.inl ⟨by simp [Region.wanted], fun w' hw => ?_⟩) HS0.out ?_
    · skip
      obtain ⟨k0, k1, k2, k3, k4⟩ := hw
      go_simp
    (try simp only [List.getElem_toArray, List.getElem_cons_succ, List.getElem_cons_zero, Act.put, List.setIfInBounds_toArray, List.set_cons_zero, List.set_cons_succ])
    refine wpAnyH_take (i := 1) (v := .pointer (some ⟨ge, 0, none⟩)) rfl (by kernel_rfl) (by kernel_rfl) (by kernel_rfl) (fun _ _ _ h => h) (.inl ⟨by simp [Region.wanted], fun w' hw => ?_⟩) HS0.out ?_
    · skip
      obtain ⟨k0, k1, k2, k3, k4⟩ := hw
      go_simp
    (try simp only [List.getElem_toArray, List.getElem_cons_succ, List.getElem_cons_zero, Act.put, List.setIfInBounds_toArray, List.set_cons_zero, List.set_cons_succ])
    refine wpAnyH_take (i := 2) (v := .pointer (some ⟨ge, 22, none⟩)) rfl (by kernel_rfl) (by kernel_rfl) (by kernel_rfl) (fun _ _ _ h => h) (.inl ⟨by simp [Region.wanted], fun w' hw => ?_⟩) HS0.out ?_
    · skip
      obtain ⟨k0, k1, k2, k3, k4⟩ := hw
      go_simp
    (try simp only [List.getElem_toArray, List.getElem_cons_succ, List.getElem_cons_zero, Act.put, List.setIfInBounds_toArray, List.set_cons_zero, List.set_cons_succ])
    refine wpAnyH_take (i := 3) (v := .pointer (some ⟨ge, 22, none⟩)) rfl (by kernel_rfl) (by kernel_rfl) (by kernel_rfl) (fun _ _ _ h => h) (.inl ⟨by simp [Region.wanted], fun w' hw => ?_⟩) HS0.out ?_
    · skip
      obtain ⟨k0, k1, k2, k3, k4⟩ := hw
      go_simp
    (try simp only [List.getElem_toArray, List.getElem_cons_succ, List.getElem_cons_zero, Act.put, List.setIfInBounds_toArray, List.set_cons_zero, List.set_cons_succ])
    refine wpAnyH_take (i := 4) (v := .slice (some aP) p.funcs.length cP) rfl (by kernel_rfl) (by kernel_rfl) (by kernel_rfl) (fun _ _ _ h => h) (.inl ⟨by simp [Region.wanted], fun w' hw => ?_⟩) HS0.out ?_
    · skip
      obtain ⟨k0, k1, k2, k3, k4⟩ := hw
      go_simp
    (try simp only [List.getElem_toArray, List.getElem_cons_succ, List.getElem_cons_zero, Act.put, List.setIfInBounds_toArray, List.set_cons_zero, List.set_cons_succ])
    refine wpAnyH_take (i := 5) (v := .pointer (some ⟨gF, q * 14, none⟩)) rfl (by kernel_rfl) (by kernel_rfl) (by kernel_rfl) (fun _ _ _ h => h) (.inl ⟨by simp [Region.wanted], fun w' hw => ?_⟩) HS0.out ?_
    · skip
      obtain ⟨k0, k1, k2, k3, k4⟩ := hw
      go_simp
    (try simp only [List.getElem_toArray, List.getElem_cons_succ, List.getElem_cons_zero, Act.put, List.setIfInBounds_toArray, List.set_cons_zero, List.set_cons_succ])
    refine wpAnyH_take (i := 6) (v := .pointer (some ⟨gF, q * 14, none⟩)) rfl (by kernel_rfl) (by kernel_rfl) (by kernel_rfl) (fun _ _ _ h => h) (.inl ⟨by simp [Region.wanted], fun w' hw => ?_⟩) HS0.out ?_
    · skip
      obtain ⟨k0, k1, k2, k3, k4⟩ := hw
      go_simp
    (try simp only [List.getElem_toArray, List.getElem_cons_succ, List.getElem_cons_zero, Act.put, List.setIfInBounds_toArray, List.set_cons_zero, List.set_cons_succ])
    refine wpAnyH_take (i := 7) (v := .pointer (some ⟨gF, q * 14, none⟩)) rfl (by kernel_rfl) (by kernel_rfl) (by kernel_rfl) (fun _ _ _ h => h) (.inl ⟨by simp [Region.wanted], fun w' hw => ?_⟩) HS0.out ?_
    · skip
      obtain ⟨k0, k1, k2, k3, k4⟩ := hw
      go_simp
    (try simp only [List.getElem_toArray, List.getElem_cons_succ, List.getElem_cons_zero, Act.put, List.setIfInBounds_toArray, List.set_cons_zero, List.set_cons_succ])
    refine wpAnyH_take (i := 8) (v := .int .i64 k) rfl (by kernel_rfl) (by kernel_rfl) (by kernel_rfl) (fun _ _ _ h => h) (.inl ⟨by simp [Region.wanted], fun w' hw => ?_⟩) HS0.out ?_
    · skip
      obtain ⟨k0, k1, k2, k3, k4⟩ := hw
      go_simp
    (try simp only [List.getElem_toArray, List.getElem_cons_succ, List.getElem_cons_zero, Act.put, List.setIfInBounds_toArray, List.set_cons_zero, List.set_cons_succ])
    refine wpAnyH_take (i := 9) (v := .pointer (some (aP.add (k * 3)))) rfl (by kernel_rfl) (by kernel_rfl) (by kernel_rfl) (fun _ _ _ h => h) (.inl ⟨by simp [Region.wanted], fun w' hw => ?_⟩) HS0.out ?_
    · skip
      obtain ⟨k0, k1, k2, k3, k4⟩ := hw
      go_simp
    (try simp only [List.getElem_toArray, List.getElem_cons_succ, List.getElem_cons_zero, Act.put, List.setIfInBounds_toArray, List.set_cons_zero, List.set_cons_succ])
    refine wpAnyH_take (i := 10) (v := .pointer (some ⟨(aP.add (k * 3)).block, (aP.add (k * 3)).off + 2, none⟩)) rfl (by kernel_rfl) (by kernel_rfl) (by kernel_rfl) (fun _ _ _ h => h) (.inl ⟨by simp [Region.wanted], fun w' hw => ?_⟩) HS0.out ?_
    · skip
      obtain ⟨k0, k1, k2, k3, k4⟩ := hw
      go_simp
    (try simp only [List.getElem_toArray, List.getElem_cons_succ, List.getElem_cons_zero, Act.put, List.setIfInBounds_toArray, List.set_cons_zero, List.set_cons_succ])
    refine wpAnyH_take (i := 11) (v := .slice (some ac) l cc) rfl (by kernel_rfl) (by kernel_rfl) (by kernel_rfl) (fun _ _ _ h => h) (.inl ⟨by simp [Region.wanted], fun w' hw => ?_⟩) HS0.out ?_
    · skip
      obtain ⟨k0, k1, k2, k3, k4⟩ := hw
      go_simp
    (try simp only [List.getElem_toArray, List.getElem_cons_succ, List.getElem_cons_zero, Act.put, List.setIfInBounds_toArray, List.set_cons_zero, List.set_cons_succ])
    refine wpAnyH_take (i := 12) (v := .pointer (some ⟨gF, q * 14, none⟩)) rfl (by kernel_rfl) (by kernel_rfl) (by kernel_rfl) (fun _ _ _ h => h) (.inl ⟨by simp [Region.wanted], fun w' hw => ?_⟩) HS0.out ?_
    · skip
      obtain ⟨k0, k1, k2, k3, k4⟩ := hw
      go_simp
    (try simp only [List.getElem_toArray, List.getElem_cons_succ, List.getElem_cons_zero, Act.put, List.setIfInBounds_toArray, List.set_cons_zero, List.set_cons_succ])
    refine wpAnyH_take (i := 13) (v := .pointer (some ⟨gF, q * 14, none⟩)) rfl (by kernel_rfl) (by kernel_rfl) (by kernel_rfl) (fun _ _ _ h => h) (.inl ⟨by simp [Region.wanted], fun w' hw => ?_⟩) HS0.out ?_
    · skip
      obtain ⟨k0, k1, k2, k3, k4⟩ := hw
      go_simp
    (try simp only [List.getElem_toArray, List.getElem_cons_succ, List.getElem_cons_zero, Act.put, List.setIfInBounds_toArray, List.set_cons_zero, List.set_cons_succ])
    refine wpAnyH_take (i := 14) (v := .pointer (some ⟨gF, q * 14 + 1, none⟩)) rfl (by kernel_rfl) (by kernel_rfl) (by kernel_rfl) (fun _ _ _ h => h) (.inl ⟨by simp [Region.wanted], fun w' hw => ?_⟩) HS0.out ?_
    · skip
      obtain ⟨k0, k1, k2, k3, k4⟩ := hw
      go_simp
    (try simp only [List.getElem_toArray, List.getElem_cons_succ, List.getElem_cons_zero, Act.put, List.setIfInBounds_toArray, List.set_cons_zero, List.set_cons_succ])
    refine wpAnyH_take (i := 15) (v := .int .i64 j) rfl (by kernel_rfl) (by kernel_rfl) (by kernel_rfl) (fun _ _ _ h => h) (.inl ⟨by simp [Region.wanted], fun w' hw => ?_⟩) HS0.out ?_
    · skip
      obtain ⟨k0, k1, k2, k3, k4⟩ := hw
      go_simp
    (try simp only [List.getElem_toArray, List.getElem_cons_succ, List.getElem_cons_zero, Act.put, List.setIfInBounds_toArray, List.set_cons_zero, List.set_cons_succ])
    refine wpAnyH_take (i := 16) (v := .pointer (some (ac.add (j * 5)))) rfl (by kernel_rfl) (by kernel_rfl) (by kernel_rfl) (fun _ _ _ h => h) (.inl ⟨by simp [Region.wanted], fun w' hw => ?_⟩) HS0.out ?_
    · skip
      obtain ⟨k0, k1, k2, k3, k4⟩ := hw
      go_simp
    (try simp only [List.getElem_toArray, List.getElem_cons_succ, List.getElem_cons_zero, Act.put, List.setIfInBounds_toArray, List.set_cons_zero, List.set_cons_succ])
    refine wpAnyH_row (i := 17) rfl (by kernel_rfl) (by kernel_rfl) (by kernel_rfl) (fun _ _ _ _ h => h) rfl 56 _ rfl _ rfl _ _ (fun _ h => h.2.2.2.2) Tryd.underlying56 rfl (by kernel_rfl) HS0.out ?_
    (try simp only [List.getElem_toArray, List.getElem_cons_succ, List.getElem_cons_zero, Act.put, List.setIfInBounds_toArray, List.set_cons_zero, List.set_cons_succ])
    refine wpAnyH_ready (rs := [18]) (by kernel_rfl) (by simp) ?_
    refine AllReadyH.cons rfl (fun K hK => ?_) AllReadyH.nil
    refine wanted_only rfl ?_
    (refine wpList_alloc_hp (o := ⟨some 3, _, _, _, _, _⟩) rfl _ rfl HP.out (.agg #[.int .i64 0, .int .i64 0, .int .i64 0, .int .i64 0, .int .i64 0]) (by kernel_rfl) [_, _, _, _, _] rfl ?_; clear HP; intro g3 w3 HP; replace HP := Lib.hid HP)
    refine wpList_nil ?_
    refine hK.out _ _ ⟨HP.out.cell (.tail _ (.head _)) 22 _ rfl, (HP.out.rowCell (g := gF) (.tail _ (.tail _ (.head _))) (q * 14) _ (frms_fn HQ.out rfl)).trans (by rw [HFK.out]), (HP.out.rowCell (g := gF) (.tail _ (.tail _ (.head _))) (q * 14 + 1) _ (frms_pcAt HQ.out rfl)).trans (by rw [HFJ.out]), (HP.out.at_ hG HAT1.out (by rw [block_of_add]; exact hSa)).fld 1 rfl, HP.out.at_ hG HAT2.out (by rw [block_of_add]; exact hSc)⟩ (fun hHeld => ?_)
    clear hK K hHeld
    (try simp only [List.getElem_toArray, List.getElem_cons_succ, List.getElem_cons_zero, Act.put, List.setIfInBounds_toArray, List.set_cons_zero, List.set_cons_succ])
    refine wpAnyH_ready (rs := [19]) (by kernel_rfl) (by simp) ?_
    refine AllReadyH.cons rfl (fun K hK => ?_) AllReadyH.nil
    refine wanted_only rfl ?_
    (first | (refine wpList_stR0 rfl 56 _ _ rfl HP.out rfl (cs' := [_, _, _, _, _]) rfl rfl (by simp [Value.oneCell']) (by kernel_rfl) ?_; clear HP; intro wst HP; replace HP := Lib.hid HP))
    refine wpList_nil ?_
    refine hK.out _ _ ⟨HP.out.cell (.tail _ (.head _)) 22 _ rfl, (HP.out.rowCell (g := gF) (.tail _ (.tail _ (.head _))) (q * 14) _ (frms_fn HQ.out rfl)).trans (by rw [HFK.out]), (HP.out.rowCell (g := gF) (.tail _ (.tail _ (.head _))) (q * 14 + 1) _ (frms_pcAt HQ.out rfl)).trans (by rw [HFJ.out]), (HP.out.at_ hG HAT1.out (by rw [block_of_add]; exact hSa)).fld 1 rfl, HP.out.at_ hG HAT2.out (by rw [block_of_add]; exact hSc)⟩ (fun hHeld => ?_)
    clear hK K hHeld HS0
    refine wpAnyH_done (by kernel_rfl) ?_ _
    (try simp only [List.getElem_toArray, List.getElem_cons_succ, List.getElem_cons_zero, Act.put, List.setIfInBounds_toArray, List.set_cons_zero, List.set_cons_succ])
    go_upto_region 4 with (fail)
    have c1 := HP.out.cell (.head _) 2 _ rfl
    have c2' := HP.out.cell (.head _) 3 _ rfl
    have c3 := (HP.out.rowCell (g := gF) (.tail _ (.tail _ (.head _))) (q * 14 + 2 + ia) _ (frms_rg (d := ia) HQ.out (by omega) (by omega))).trans (by rw [HV.out.1])
    have c4 := (HP.out.rowCell (g := gF) (.tail _ (.tail _ (.head _))) (q * 14 + 2 + ib) _ (frms_rg (d := ib) HQ.out (by omega) (by omega))).trans (by rw [HV.out.2])
    go_quiet (fail)
    replace HP := Lib.hid (HP.out.drewN nq)
    clear c1 c2' c3 c4
    generalize wst.drewN nq = wx at HP ⊢
    obtain ⟨op, hop⟩ : ∃ o, x.op = o := ⟨_, rfl⟩
    obtain ⟨im, him⟩ : ∃ o, x.imm = o := ⟨_, rfl⟩
    have HOP := Lib.hid (And.intro hop him)
    rw [hop, him] at HP
    have ho19 : 1 ≤ op ∧ op ≤ 19 := by rw [← hop]; exact HOK.out.op
    clear hop him
    have hwf : wrap64 (s.fuel - 1) = s.fuel - 1 := by unfold wrap64; omega
    have hwp : wrap64 (f.pc + 1) = f.pc + 1 := by rw [HFJ.out]; unfold wrap64; omega
    have HWF := Lib.hid hwf
    have HWP := Lib.hid hwp
    clear hwf hwp
    obtain ⟨n, hn⟩ : ∃ n, pureV op va vb im = n := ⟨_, rfl⟩
    have HPU := Lib.hid (fun w => pure_any op va vb im w)
    rw [hn] at HPU
    have HNV := Lib.hid hn
    clear hn
    cases hpb : pureB op vb with
    | true =>
      rw [hpb] at HPU
      have HN := Lib.hid (show nextOf p s fs f = { s with frames := fs ++ [⟨f.fn, wrap64 (f.pc + 1), f.regs.setIfInBounds d n⟩], fuel := s.fuel - 1 } by
        rw [HWP.out]
        unfold nextOf putF
        rw [if_neg HFZ.out, HX.out, HOP.out.1, HOP.out.2, HD.out.2.2, HD.out.2.1, HD.out.1]
        simp only [Int.toNat_natCast, HV.out.1, HV.out.2, hpb, HNV.out, if_true])
      clear hpb
      go_upto_region 7 with (first | (refine wpList_ld0 rfl 3 _ rfl HP.out rfl rfl Tryd.underlying3 rfl ?_) | (go_at_call 52; refine (HPU.out _).mono ?_; rintro e w6 ⟨rfl, rfl⟩))
      have HDR := Lib.hid HP.out.drew
      have c1 : wx.cell? ⟨g3, 1, none⟩ = some (.int .i64 d) := HP.out.cell (.head _) 1 _ rfl
      refine wp_region_still_tail 6 (by kernel_rfl) (by kernel_rfl) ?_
      simp only [List.take_succ_cons, List.take_zero, List.drop_succ_cons, List.drop_zero]
      repeat still_step
      try refine wpStill_nil ?_
      clear c1
      replace HP := HDR
      clear HDR
      go_wp2_with (first | (refine wpList_stW2 rfl 3 _ _ rfl HP.out rfl rfl (frms_lt HQ.out (by omega)) rfl (frms_put (d := d) HQ.out (by omega) (by omega) _) (by kernel_rfl) ?_; clear HP; intro wst HP; replace HP := Lib.hid HP) | (refine wpList_stW2 rfl 3 _ _ rfl HP.out rfl rfl (frms_lt HQ.out (by omega)) rfl (frms_pc HQ.out (by omega) _) (by kernel_rfl) ?_; clear HP; intro wst HP; replace HP := Lib.hid HP) | (refine wpList_ldW2 rfl 3 _ rfl HP.out rfl (frms_pcAt HQ.out (by omega)) Tryd.underlying3 rfl ?_) | (refine wpList_ld0 rfl 3 _ rfl HP.out rfl rfl Tryd.underlying3 rfl ?_) | (refine wpList_ld1 rfl 3 _ rfl HP.out rfl rfl Tryd.underlying3 rfl ?_) | (refine wpList_ld2 rfl 3 _ rfl HP.out rfl rfl Tryd.underlying3 rfl ?_) | (refine wpList_st0 rfl 3 _ _ rfl HP.out rfl rfl (by simp) rfl rfl (by kernel_rfl) ?_; clear HP; intro wst HP; replace HP := Lib.hid HP) | (refine wpList_st1 rfl 3 _ _ rfl HP.out rfl rfl (by simp) rfl rfl (by kernel_rfl) ?_; clear HP; intro wst HP; replace HP := Lib.hid HP) | (refine wpList_st2 rfl 3 _ _ rfl HP.out rfl rfl (by simp) rfl rfl (by kernel_rfl) ?_; clear HP; intro wst HP; replace HP := Lib.hid HP))
      ((try simp only [Exit.inBlock, Exit.then]); first | refine bodyPost_end (results_none rfl _ _ _) rfl ?_ | refine bodyPost_ret (results_none rfl _ _ _) rfl ?_)
      have HH := HP.out.drop (A := [])
      exact ⟨rfl, eng_done HN.out HA.out (by rw [List.length_append, HQ.out]; try rfl) (frms_snoc _ _) rfl rfl HH⟩
    | false =>
      rw [hpb] at HPU
      have hcs : (op = 5 ∧ vb = 0) ∨ op = 13 ∨ op = 14 ∨ op = 15 ∨ op = 16 ∨ op = 17 ∨ op = 18 ∨ op = 19 := by
        by_cases h13 : 13 ≤ op
        · omega
        · left
          unfold pureB at hpb
          rw [decide_eq_true ho19.1, decide_eq_true (show op ≤ 12 by omega)] at hpb
          simpa using hpb
      rcases hcs with ⟨rfl, rfl⟩ | rfl | rfl | rfl | rfl | rfl | rfl | rfl
      · skip
        have HN := Lib.hid (show nextOf p s fs f = { s with status := 3 } by
          unfold nextOf putF goF
          rw [if_neg HFZ.out, HX.out, HOP.out.1, HOP.out.2, HD.out.2.2, HD.out.2.1, HD.out.1]
          simp only [Int.toNat_natCast, HV.out.1, HV.out.2, hpb, HNV.out, Bool.false_eq_true, if_false]
          rfl)
        clear hpb
        go_wp2_with (first | (refine wpList_ld0 rfl 3 _ rfl HP.out rfl rfl Tryd.underlying3 rfl ?_) | (go_at_call 52; refine (HPU.out _).mono ?_; rintro e w6 ⟨rfl, rfl⟩) | (go_at_call 51; refine (halt_any s _ _ _ _ _ _ _ _ _ _ (HP.out.drop (A := []))).mono ?_; clear HP; rintro r w6 ⟨rfl, HP⟩; replace HP := Lib.hid HP))
        ((try simp only [Exit.inBlock, Exit.then]); first | refine bodyPost_end (results_none rfl _ _ _) rfl ?_ | refine bodyPost_ret (results_none rfl _ _ _) rfl ?_)
        exact ⟨rfl, eng_done HN.out HA.out (by rw [HFR.out, List.length_append, HQ.out]; try rfl) (by rw [HFR.out]; exact frms_snoc _ _) rfl rfl HP.out⟩
      · by_cases hva : va < 0 ∨ 15 < va
        · skip
          have HN := Lib.hid (show nextOf p s fs f = { s with status := 4 } by
            unfold nextOf putF goF
            rw [if_neg HFZ.out, HX.out, HOP.out.1, HOP.out.2, HD.out.2.2, HD.out.2.1, HD.out.1]
            simp only [Int.toNat_natCast, HV.out.1, HV.out.2, hpb, HNV.out, Bool.false_eq_true, if_false]
            rw [if_neg (by decide), if_pos ⟨by decide, hva⟩])
          clear hpb
          rcases hva with hva | hva
          · have hd1 : decide (va < 0) = true := decide_eq_true hva
            go_wp2_with (first | (refine wpList_ld0 rfl 3 _ rfl HP.out rfl rfl Tryd.underlying3 rfl ?_) | (go_at_call 52; refine (HPU.out _).mono ?_; rintro e w6 ⟨rfl, rfl⟩) | (go_at_call 51; refine (halt_any s _ _ _ _ _ _ _ _ _ _ (HP.out.drop (A := []))).mono ?_; clear HP; rintro r w6 ⟨rfl, HP⟩; replace HP := Lib.hid HP))
            ((try simp only [Exit.inBlock, Exit.then]); first | refine bodyPost_end (results_none rfl _ _ _) rfl ?_ | refine bodyPost_ret (results_none rfl _ _ _) rfl ?_)
            exact ⟨rfl, eng_done HN.out HA.out (by rw [HFR.out, List.length_append, HQ.out]; try rfl) (by rw [HFR.out]; exact frms_snoc _ _) rfl rfl HP.out⟩
          · have hd1 : decide (va < 0) = false := decide_eq_false (by omega)
            have hd2 : decide (16 ≤ va) = true := decide_eq_true (by omega)
            go_wp2_with (first | (refine wpList_ld0 rfl 3 _ rfl HP.out rfl rfl Tryd.underlying3 rfl ?_) | (go_at_call 52; refine (HPU.out _).mono ?_; rintro e w6 ⟨rfl, rfl⟩) | (go_at_call 51; refine (halt_any s _ _ _ _ _ _ _ _ _ _ (HP.out.drop (A := []))).mono ?_; clear HP; rintro r w6 ⟨rfl, HP⟩; replace HP := Lib.hid HP))
            ((try simp only [Exit.inBlock, Exit.then]); first | refine bodyPost_end (results_none rfl _ _ _) rfl ?_ | refine bodyPost_ret (results_none rfl _ _ _) rfl ?_)
            exact ⟨rfl, eng_done HN.out HA.out (by rw [HFR.out, List.length_append, HQ.out]; try rfl) (by rw [HFR.out]; exact frms_snoc _ _) rfl rfl HP.out⟩
        · obtain ⟨m, hm⟩ : ∃ m : Nat, va = m := ⟨va.toNat, by omega⟩
          have hm16 : m < 16 := by omega
          have HN := Lib.hid (show nextOf p s fs f = { s with frames := fs ++ [⟨f.fn, wrap64 (f.pc + 1), f.regs.setIfInBounds d (s.mm m)⟩], fuel := s.fuel - 1 } by
            unfold nextOf putF goF
            rw [if_neg HFZ.out, HX.out, HOP.out.1, HOP.out.2, HD.out.2.2, HD.out.2.1, HD.out.1]
            simp only [Int.toNat_natCast, HV.out.1, HV.out.2, hpb, HNV.out, Bool.false_eq_true, if_false]
            rw [if_neg (by decide), if_neg (fun h => hva h.2), hm, HWP.out]
            rfl)
          clear hpb hva
          subst hm
          have hd1 : decide ((m : Int) < 0) = false := decide_eq_false (by omega)
          have hd2 : decide (16 ≤ m) = false := decide_eq_false (by omega)
          have hd3 : decide (16 ≤ (m : Int)) = false := decide_eq_false (by omega)
          have hd4 : decide (m < 16) = true := decide_eq_true (by omega)
          go_upto_region 18 with (first | (refine wpList_ld0 rfl 3 _ rfl HP.out rfl rfl Tryd.underlying3 rfl ?_) | (refine wpList_ld1 rfl 3 _ rfl HP.out rfl rfl Tryd.underlying3 rfl ?_) | (go_at_call 52; refine (HPU.out _).mono ?_; rintro e w6 ⟨rfl, rfl⟩) | (refine wpList_st0 rfl 3 _ _ rfl HP.out rfl rfl (by simp) rfl rfl (by kernel_rfl) ?_; clear HP; intro wst HP; replace HP := Lib.hid HP) | (refine wpList_st1 rfl 3 _ _ rfl HP.out rfl rfl (by simp) rfl rfl (by kernel_rfl) ?_; clear HP; intro wst HP; replace HP := Lib.hid HP) | (refine wpList_st2 rfl 3 _ _ rfl HP.out rfl rfl (by simp) rfl rfl (by kernel_rfl) ?_; clear HP; intro wst HP; replace HP := Lib.hid HP))
          replace HP := Lib.hid (show Hp w0 Fs (.blk g3 56 [iV 13, iV d, iV ia, iV ib, iV im] :: .blk ge 74 (engCells { s with fuel := s.fuel - 1 } (.slice (some ⟨gF, 0, none⟩) (q + 1) c2) E A (.slice (some aP) p.funcs.length cP)) :: .row (.slice (some ⟨gF, 0, none⟩) (q + 1) c2) 39 14 (q + 1) (fs.flatMap frmCells ++ frmCells f) :: .row E 3 1 s.events.length (s.events.map (Value.int .i64)) :: L) _ from HP.out)
          go_upto_region 21 with (first | (refine wpList_ld0 rfl 3 _ rfl HP.out rfl rfl Tryd.underlying3 rfl ?_))
          have HDR := Lib.hid HP.out.drew
          have c1 := HP.out.cell (.head _) 1 _ rfl
          have c2' := HP.out.cell (.tail _ (.head _)) (3 + m) _ (eng_mem _ _ _ _ _ m hm16)
          have hm0 : (0 : Int) ≤ (m : Int) := by omega
          have hm17 : (m : Int) < 16 := by omega
          refine wp_region_still_tail 12 (by kernel_rfl) (by kernel_rfl) ?_
          simp only [List.take_succ_cons, List.take_zero, List.drop_succ_cons, List.drop_zero]
          repeat still_step
          try refine wpStill_nil ?_
          clear c1 c2'
          replace HP := HDR
          clear HDR
          go_wp2_with (first | (refine wpList_stW2 rfl 3 _ _ rfl HP.out rfl rfl (frms_lt HQ.out (by omega)) rfl (frms_put (d := d) HQ.out (by omega) (by omega) _) (by kernel_rfl) ?_; clear HP; intro wst HP; replace HP := Lib.hid HP) | (refine wpList_stW2 rfl 3 _ _ rfl HP.out rfl rfl (frms_lt HQ.out (by omega)) rfl (frms_pc HQ.out (by omega) _) (by kernel_rfl) ?_; clear HP; intro wst HP; replace HP := Lib.hid HP) | (refine wpList_ldW2 rfl 3 _ rfl HP.out rfl (frms_pcAt HQ.out (by omega)) Tryd.underlying3 rfl ?_))
          ((try simp only [Exit.inBlock, Exit.then]); first | refine bodyPost_end (results_none rfl _ _ _) rfl ?_ | refine bodyPost_ret (results_none rfl _ _ _) rfl ?_)
          exact ⟨rfl, eng_done HN.out HA.out (by rw [List.length_append, HQ.out]; try rfl) (frms_snoc _ _) rfl rfl (HP.out.drop (A := []))⟩
      · by_cases hva : va < 0 ∨ 15 < va
        · skip
          have HN := Lib.hid (show nextOf p s fs f = { s with status := 4 } by
            unfold nextOf putF goF
            rw [if_neg HFZ.out, HX.out, HOP.out.1, HOP.out.2, HD.out.2.2, HD.out.2.1, HD.out.1]
            simp only [Int.toNat_natCast, HV.out.1, HV.out.2, hpb, HNV.out, Bool.false_eq_true, if_false]
            rw [if_neg (by decide), if_pos ⟨by decide, hva⟩])
          clear hpb
          rcases hva with hva | hva
          · have hd1 : decide (va < 0) = true := decide_eq_true hva
            go_wp2_with (first | (refine wpList_ld0 rfl 3 _ rfl HP.out rfl rfl Tryd.underlying3 rfl ?_) | (go_at_call 52; refine (HPU.out _).mono ?_; rintro e w6 ⟨rfl, rfl⟩) | (go_at_call 51; refine (halt_any s _ _ _ _ _ _ _ _ _ _ (HP.out.drop (A := []))).mono ?_; clear HP; rintro r w6 ⟨rfl, HP⟩; replace HP := Lib.hid HP))
            ((try simp only [Exit.inBlock, Exit.then]); first | refine bodyPost_end (results_none rfl _ _ _) rfl ?_ | refine bodyPost_ret (results_none rfl _ _ _) rfl ?_)
            exact ⟨rfl, eng_done HN.out HA.out (by rw [HFR.out, List.length_append, HQ.out]; try rfl) (by rw [HFR.out]; exact frms_snoc _ _) rfl rfl HP.out⟩
          · have hd1 : decide (va < 0) = false := decide_eq_false (by omega)
            have hd2 : decide (16 ≤ va) = true := decide_eq_true (by omega)
            go_wp2_with (first | (refine wpList_ld0 rfl 3 _ rfl HP.out rfl rfl Tryd.underlying3 rfl ?_) | (go_at_call 52; refine (HPU.out _).mono ?_; rintro e w6 ⟨rfl, rfl⟩) | (go_at_call 51; refine (halt_any s _ _ _ _ _ _ _ _ _ _ (HP.out.drop (A := []))).mono ?_; clear HP; rintro r w6 ⟨rfl, HP⟩; replace HP := Lib.hid HP))
            ((try simp only [Exit.inBlock, Exit.then]); first | refine bodyPost_end (results_none rfl _ _ _) rfl ?_ | refine bodyPost_ret (results_none rfl _ _ _) rfl ?_)
            exact ⟨rfl, eng_done HN.out HA.out (by rw [HFR.out, List.length_append, HQ.out]; try rfl) (by rw [HFR.out]; exact frms_snoc _ _) rfl rfl HP.out⟩
        · obtain ⟨m, hm⟩ : ∃ m : Nat, va = m := ⟨va.toNat, by omega⟩
          have hm16 : m < 16 := by omega
          have HN := Lib.hid (show nextOf p s fs f = { s with frames := fs ++ [⟨f.fn, wrap64 (f.pc + 1), f.regs⟩], memory := s.memory.setIfInBounds m vb, fuel := s.fuel - 1 } by
            unfold nextOf putF goF
            rw [if_neg HFZ.out, HX.out, HOP.out.1, HOP.out.2, HD.out.2.2, HD.out.2.1, HD.out.1]
            simp only [Int.toNat_natCast, HV.out.1, HV.out.2, hpb, HNV.out, Bool.false_eq_true, if_false]
            rw [if_neg (by decide), if_neg (fun h => hva h.2), hm, HWP.out]
            rfl)
          clear hpb hva
          subst hm
          have hd1 : decide ((m : Int) < 0) = false := decide_eq_false (by omega)
          have hd2 : decide (16 ≤ m) = false := decide_eq_false (by omega)
          have hd3 : decide (16 ≤ (m : Int)) = false := decide_eq_false (by omega)
          have hd4 : decide (m < 16) = true := decide_eq_true (by omega)
          go_upto_region 18 with (first | (refine wpList_ld0 rfl 3 _ rfl HP.out rfl rfl Tryd.underlying3 rfl ?_) | (refine wpList_ld1 rfl 3 _ rfl HP.out rfl rfl Tryd.underlying3 rfl ?_) | (go_at_call 52; refine (HPU.out _).mono ?_; rintro e w6 ⟨rfl, rfl⟩) | (refine wpList_st0 rfl 3 _ _ rfl HP.out rfl rfl (by simp) rfl rfl (by kernel_rfl) ?_; clear HP; intro wst HP; replace HP := Lib.hid HP) | (refine wpList_st1 rfl 3 _ _ rfl HP.out rfl rfl (by simp) rfl rfl (by kernel_rfl) ?_; clear HP; intro wst HP; replace HP := Lib.hid HP) | (refine wpList_st2 rfl 3 _ _ rfl HP.out rfl rfl (by simp) rfl rfl (by kernel_rfl) ?_; clear HP; intro wst HP; replace HP := Lib.hid HP))
          replace HP := Lib.hid (show Hp w0 Fs (.blk g3 56 [iV 14, iV d, iV ia, iV ib, iV im] :: .blk ge 74 (engCells { s with fuel := s.fuel - 1 } (.slice (some ⟨gF, 0, none⟩) (q + 1) c2) E A (.slice (some aP) p.funcs.length cP)) :: .row (.slice (some ⟨gF, 0, none⟩) (q + 1) c2) 39 14 (q + 1) (fs.flatMap frmCells ++ frmCells f) :: .row E 3 1 s.events.length (s.events.map (Value.int .i64)) :: L) _ from HP.out)
          go_wp2_with (first | (refine wpList_st1 rfl 3 _ _ rfl HP.out rfl rfl (by show 3 + m < 23; omega) rfl (eng_store _ _ _ _ _ m hm16 vb) (by kernel_rfl) ?_; clear HP; intro wst HP; replace HP := Lib.hid HP) | (refine wpList_stW2 rfl 3 _ _ rfl HP.out rfl rfl (frms_lt HQ.out (by omega)) rfl (frms_pc HQ.out (by omega) _) (by kernel_rfl) ?_; clear HP; intro wst HP; replace HP := Lib.hid HP) | (refine wpList_ldW2 rfl 3 _ rfl HP.out rfl (frms_pcAt HQ.out (by omega)) Tryd.underlying3 rfl ?_) | (refine wpList_ld0 rfl 3 _ rfl HP.out rfl rfl Tryd.underlying3 rfl ?_))
          ((try simp only [Exit.inBlock, Exit.then]); first | refine bodyPost_end (results_none rfl _ _ _) rfl ?_ | refine bodyPost_ret (results_none rfl _ _ _) rfl ?_)
          exact ⟨rfl, eng_done HN.out HA.out (by rw [List.length_append, HQ.out]; try rfl) (frms_snoc _ _) rfl rfl (HP.out.drop (A := []))⟩
      · skip
        have HN := Lib.hid (show nextOf p s fs f = { s with frames := fs ++ [⟨f.fn, im, f.regs⟩], fuel := s.fuel - 1 } by
          unfold nextOf putF goF
          rw [if_neg HFZ.out, HX.out, HOP.out.1, HOP.out.2, HD.out.2.2, HD.out.2.1, HD.out.1]
          simp only [Int.toNat_natCast, HV.out.1, HV.out.2, hpb, HNV.out, Bool.false_eq_true, if_false]
          rfl)
        clear hpb
        go_upto_region 18 with (first | (refine wpList_ld0 rfl 3 _ rfl HP.out rfl rfl Tryd.underlying3 rfl ?_) | (refine wpList_ld1 rfl 3 _ rfl HP.out rfl rfl Tryd.underlying3 rfl ?_) | (go_at_call 52; refine (HPU.out _).mono ?_; rintro e w6 ⟨rfl, rfl⟩) | (refine wpList_st0 rfl 3 _ _ rfl HP.out rfl rfl (by simp) rfl rfl (by kernel_rfl) ?_; clear HP; intro wst HP; replace HP := Lib.hid HP) | (refine wpList_st1 rfl 3 _ _ rfl HP.out rfl rfl (by simp) rfl rfl (by kernel_rfl) ?_; clear HP; intro wst HP; replace HP := Lib.hid HP) | (refine wpList_st2 rfl 3 _ _ rfl HP.out rfl rfl (by simp) rfl rfl (by kernel_rfl) ?_; clear HP; intro wst HP; replace HP := Lib.hid HP))
        replace HP := Lib.hid (show Hp w0 Fs (.blk g3 56 [iV 15, iV d, iV ia, iV ib, iV im] :: .blk ge 74 (engCells { s with fuel := s.fuel - 1 } (.slice (some ⟨gF, 0, none⟩) (q + 1) c2) E A (.slice (some aP) p.funcs.length cP)) :: .row (.slice (some ⟨gF, 0, none⟩) (q + 1) c2) 39 14 (q + 1) (fs.flatMap frmCells ++ frmCells f) :: .row E 3 1 s.events.length (s.events.map (Value.int .i64)) :: L) _ from HP.out)
        go_wp2_with (first | (refine wpList_ld0 rfl 3 _ rfl HP.out rfl rfl Tryd.underlying3 rfl ?_) | (refine wpList_stW2 rfl 3 _ _ rfl HP.out rfl rfl (frms_lt HQ.out (by omega)) rfl (frms_pc HQ.out (by omega) _) (by kernel_rfl) ?_; clear HP; intro wst HP; replace HP := Lib.hid HP) | (refine wpList_ldW2 rfl 3 _ rfl HP.out rfl (frms_pcAt HQ.out (by omega)) Tryd.underlying3 rfl ?_))
        ((try simp only [Exit.inBlock, Exit.then]); first | refine bodyPost_end (results_none rfl _ _ _) rfl ?_ | refine bodyPost_ret (results_none rfl _ _ _) rfl ?_)
        exact ⟨rfl, eng_done HN.out HA.out (by rw [List.length_append, HQ.out]; try rfl) (frms_snoc _ _) rfl rfl (HP.out.drop (A := []))⟩
      · by_cases hva : va = 0
        · skip
          have HN := Lib.hid (show nextOf p s fs f = { s with frames := fs ++ [⟨f.fn, wrap64 (f.pc + 1), f.regs⟩], fuel := s.fuel - 1 } by
            unfold nextOf putF goF
            rw [if_neg HFZ.out, HX.out, HOP.out.1, HOP.out.2, HD.out.2.2, HD.out.2.1, HD.out.1]
            simp only [Int.toNat_natCast, HV.out.1, HV.out.2, hpb, HNV.out, Bool.false_eq_true, if_false]
            rw [hva, HWP.out]
            rfl)
          clear hpb
          subst hva
          go_upto_region 18 with (first | (refine wpList_ld0 rfl 3 _ rfl HP.out rfl rfl Tryd.underlying3 rfl ?_) | (refine wpList_ld1 rfl 3 _ rfl HP.out rfl rfl Tryd.underlying3 rfl ?_) | (go_at_call 52; refine (HPU.out _).mono ?_; rintro e w6 ⟨rfl, rfl⟩) | (refine wpList_st0 rfl 3 _ _ rfl HP.out rfl rfl (by simp) rfl rfl (by kernel_rfl) ?_; clear HP; intro wst HP; replace HP := Lib.hid HP) | (refine wpList_st1 rfl 3 _ _ rfl HP.out rfl rfl (by simp) rfl rfl (by kernel_rfl) ?_; clear HP; intro wst HP; replace HP := Lib.hid HP) | (refine wpList_st2 rfl 3 _ _ rfl HP.out rfl rfl (by simp) rfl rfl (by kernel_rfl) ?_; clear HP; intro wst HP; replace HP := Lib.hid HP))
          replace HP := Lib.hid (show Hp w0 Fs (.blk g3 56 [iV 16, iV d, iV ia, iV ib, iV im] :: .blk ge 74 (engCells { s with fuel := s.fuel - 1 } (.slice (some ⟨gF, 0, none⟩) (q + 1) c2) E A (.slice (some aP) p.funcs.length cP)) :: .row (.slice (some ⟨gF, 0, none⟩) (q + 1) c2) 39 14 (q + 1) (fs.flatMap frmCells ++ frmCells f) :: .row E 3 1 s.events.length (s.events.map (Value.int .i64)) :: L) _ from HP.out)
          go_wp2_with (first | (refine wpList_ld0 rfl 3 _ rfl HP.out rfl rfl Tryd.underlying3 rfl ?_) | (refine wpList_stW2 rfl 3 _ _ rfl HP.out rfl rfl (frms_lt HQ.out (by omega)) rfl (frms_pc HQ.out (by omega) _) (by kernel_rfl) ?_; clear HP; intro wst HP; replace HP := Lib.hid HP) | (refine wpList_ldW2 rfl 3 _ rfl HP.out rfl (frms_pcAt HQ.out (by omega)) Tryd.underlying3 rfl ?_))
          ((try simp only [Exit.inBlock, Exit.then]); first | refine bodyPost_end (results_none rfl _ _ _) rfl ?_ | refine bodyPost_ret (results_none rfl _ _ _) rfl ?_)
          exact ⟨rfl, eng_done HN.out HA.out (by rw [List.length_append, HQ.out]; try rfl) (frms_snoc _ _) rfl rfl (HP.out.drop (A := []))⟩
        · skip
          have HN := Lib.hid (show nextOf p s fs f = { s with frames := fs ++ [⟨f.fn, im, f.regs⟩], fuel := s.fuel - 1 } by
            unfold nextOf putF goF
            rw [if_neg HFZ.out, HX.out, HOP.out.1, HOP.out.2, HD.out.2.2, HD.out.2.1, HD.out.1]
            simp only [Int.toNat_natCast, HV.out.1, HV.out.2, hpb, HNV.out, Bool.false_eq_true, if_false]
            simp only [if_neg hva]
            rfl)
          clear hpb
          have hvb : (va != 0) = true := by simpa using hva
          clear hva
          go_upto_region 18 with (first | (refine wpList_ld0 rfl 3 _ rfl HP.out rfl rfl Tryd.underlying3 rfl ?_) | (refine wpList_ld1 rfl 3 _ rfl HP.out rfl rfl Tryd.underlying3 rfl ?_) | (go_at_call 52; refine (HPU.out _).mono ?_; rintro e w6 ⟨rfl, rfl⟩) | (refine wpList_st0 rfl 3 _ _ rfl HP.out rfl rfl (by simp) rfl rfl (by kernel_rfl) ?_; clear HP; intro wst HP; replace HP := Lib.hid HP) | (refine wpList_st1 rfl 3 _ _ rfl HP.out rfl rfl (by simp) rfl rfl (by kernel_rfl) ?_; clear HP; intro wst HP; replace HP := Lib.hid HP) | (refine wpList_st2 rfl 3 _ _ rfl HP.out rfl rfl (by simp) rfl rfl (by kernel_rfl) ?_; clear HP; intro wst HP; replace HP := Lib.hid HP))
          replace HP := Lib.hid (show Hp w0 Fs (.blk g3 56 [iV 16, iV d, iV ia, iV ib, iV im] :: .blk ge 74 (engCells { s with fuel := s.fuel - 1 } (.slice (some ⟨gF, 0, none⟩) (q + 1) c2) E A (.slice (some aP) p.funcs.length cP)) :: .row (.slice (some ⟨gF, 0, none⟩) (q + 1) c2) 39 14 (q + 1) (fs.flatMap frmCells ++ frmCells f) :: .row E 3 1 s.events.length (s.events.map (Value.int .i64)) :: L) _ from HP.out)
          go_wp2_with (first | (refine wpList_ld0 rfl 3 _ rfl HP.out rfl rfl Tryd.underlying3 rfl ?_) | (refine wpList_stW2 rfl 3 _ _ rfl HP.out rfl rfl (frms_lt HQ.out (by omega)) rfl (frms_pc HQ.out (by omega) _) (by kernel_rfl) ?_; clear HP; intro wst HP; replace HP := Lib.hid HP) | (refine wpList_ldW2 rfl 3 _ rfl HP.out rfl (frms_pcAt HQ.out (by omega)) Tryd.underlying3 rfl ?_))
          ((try simp only [Exit.inBlock, Exit.then]); first | refine bodyPost_end (results_none rfl _ _ _) rfl ?_ | refine bodyPost_ret (results_none rfl _ _ _) rfl ?_)
          exact ⟨rfl, eng_done HN.out HA.out (by rw [List.length_append, HQ.out]; try rfl) (frms_snoc _ _) rfl rfl (HP.out.drop (A := []))⟩
      · skip
        have HN := Lib.hid (show nextOf p s fs f = if fs.length = 7 then { s with status := 5, fuel := s.fuel - 1 } else { s with frames := fs ++ [f] ++ [callF im (parZ p im) va vb], fuel := s.fuel - 1 } by
          unfold nextOf putF goF
          rw [if_neg HFZ.out, HX.out, HOP.out.1, HOP.out.2, HD.out.2.2, HD.out.2.1, HD.out.1]
          simp only [Int.toNat_natCast, HV.out.1, HV.out.2, hpb, HNV.out, Bool.false_eq_true, if_false]
          rfl)
        clear hpb
        have hcal := HOK.out.cal HOP.out.1
        rw [HOP.out.2] at hcal
        obtain ⟨fn, hfn⟩ : ∃ fn : Nat, im = fn := ⟨im.toNat, by omega⟩
        subst hfn
        have hfl : fn < p.funcs.length := by omega
        go_upto_region 18 with (first | (refine wpList_ld0 rfl 3 _ rfl HP.out rfl rfl Tryd.underlying3 rfl ?_) | (refine wpList_ld1 rfl 3 _ rfl HP.out rfl rfl Tryd.underlying3 rfl ?_) | (go_at_call 52; refine (HPU.out _).mono ?_; rintro e w6 ⟨rfl, rfl⟩) | (refine wpList_st0 rfl 3 _ _ rfl HP.out rfl rfl (by simp) rfl rfl (by kernel_rfl) ?_; clear HP; intro wst HP; replace HP := Lib.hid HP) | (refine wpList_st1 rfl 3 _ _ rfl HP.out rfl rfl (by simp) rfl rfl (by kernel_rfl) ?_; clear HP; intro wst HP; replace HP := Lib.hid HP) | (refine wpList_st2 rfl 3 _ _ rfl HP.out rfl rfl (by simp) rfl rfl (by kernel_rfl) ?_; clear HP; intro wst HP; replace HP := Lib.hid HP))
        replace HP := Lib.hid (show Hp w0 Fs (.blk g3 56 [iV 17, iV d, iV ia, iV ib, iV fn] :: .blk ge 74 (engCells { s with fuel := s.fuel - 1 } (.slice (some ⟨gF, 0, none⟩) (q + 1) c2) E A (.slice (some aP) p.funcs.length cP)) :: .row (.slice (some ⟨gF, 0, none⟩) (q + 1) c2) 39 14 (q + 1) (fs.flatMap frmCells ++ frmCells f) :: .row E 3 1 s.events.length (s.events.map (Value.int .i64)) :: L) _ from HP.out)
        have HH := Lib.hid (eng_in (s := { s with fuel := s.fuel - 1 }) (by show s.frames.length = q + 1; rw [HFR.out, List.length_append, HQ.out]; rfl) (by show s.frames.flatMap frmCells = _; rw [HFR.out]; exact frms_snoc _ _) (HP.out.drop (A := [])))
        have HC := Lib.hid (call_any { s with fuel := s.fuel - 1 } _ E A _ E 3 1 s.events.length (s.events.map (Value.int .i64)) ge ⟨17, d, ia, ib, fn⟩ va vb p w0 _ Fs L (by show s.frames.length ≤ 8; rw [HFR.out, List.length_append, HQ.out]; exact hl) ok fn rfl hfl G hG HPR.out HH.out)
        clear HH
        go_wp2_with (first | (refine wpList_ld0 rfl 3 _ rfl HP.out rfl rfl Tryd.underlying3 rfl ?_) | (refine wpList_ldR0 rfl 56 _ rfl HP.out rfl Tryd.underlying56 rfl (by kernel_rfl) ?_) | (go_at_call 53; refine HC.out.mono ?_; clear HP HC; rintro r w6 ⟨rfl, HP⟩; replace HP := Lib.hid HP))
        ((try simp only [Exit.inBlock, Exit.then]); first | refine bodyPost_end (results_none rfl _ _ _) rfl ?_ | refine bodyPost_ret (results_none rfl _ _ _) rfl ?_)
        refine ⟨rfl, ?_⟩
        rcases HP.out with ⟨h8, HQ8⟩ | ⟨h8, F', HQ8⟩
        · have h7 : fs.length = 7 := by have h8' : s.frames.length = 8 := h8; rw [HFR.out, List.length_append] at h8'; simp only [List.length_cons, List.length_nil] at h8'; omega
          exact eng_done (HN.out.trans (if_pos h7)) HA.out rfl rfl rfl rfl HQ8
        · have h7 : ¬ fs.length = 7 := by have h8' : s.frames.length < 8 := h8; rw [HFR.out, List.length_append] at h8'; simp only [List.length_cons, List.length_nil] at h8'; omega
          have hfe : ({ s with frames := s.frames ++ [callF fn (parZ p fn) va vb], fuel := s.fuel - 1 } : Sta) = { s with frames := fs ++ [f] ++ [callF fn (parZ p fn) va vb], fuel := s.fuel - 1 } := by rw [HFR.out]
          exact eng_done ((HN.out.trans (if_neg h7)).trans hfe.symm) HA.out (by simp) rfl rfl rfl HQ8
      · skip
        have HN := Lib.hid (show nextOf p s fs f = { s with frames := fs ++ [⟨f.fn, wrap64 (f.pc + 1), f.regs.setIfInBounds d (s.answers.head?.getD 0)⟩], events := s.events ++ [va], answers := s.answers.tail, fuel := s.fuel - 1 } by
          unfold nextOf putF goF
          rw [if_neg HFZ.out, HX.out, HOP.out.1, HOP.out.2, HD.out.2.2, HD.out.2.1, HD.out.1]
          simp only [Int.toNat_natCast, HV.out.1, HV.out.2, hpb, HNV.out, Bool.false_eq_true, if_false]
          rw [HWP.out, List.headD_eq_head?_getD]
          rfl)
        clear hpb
        go_upto_region 18 with (first | (refine wpList_ld0 rfl 3 _ rfl HP.out rfl rfl Tryd.underlying3 rfl ?_) | (refine wpList_ld1 rfl 3 _ rfl HP.out rfl rfl Tryd.underlying3 rfl ?_) | (go_at_call 52; refine (HPU.out _).mono ?_; rintro e w6 ⟨rfl, rfl⟩) | (refine wpList_st0 rfl 3 _ _ rfl HP.out rfl rfl (by simp) rfl rfl (by kernel_rfl) ?_; clear HP; intro wst HP; replace HP := Lib.hid HP) | (refine wpList_st1 rfl 3 _ _ rfl HP.out rfl rfl (by simp) rfl rfl (by kernel_rfl) ?_; clear HP; intro wst HP; replace HP := Lib.hid HP) | (refine wpList_st2 rfl 3 _ _ rfl HP.out rfl rfl (by simp) rfl rfl (by kernel_rfl) ?_; clear HP; intro wst HP; replace HP := Lib.hid HP))
        replace HP := Lib.hid (show Hp w0 Fs (.blk g3 56 [iV 18, iV d, iV ia, iV ib, iV im] :: .blk ge 74 (engCells { s with fuel := s.fuel - 1 } (.slice (some ⟨gF, 0, none⟩) (q + 1) c2) E A (.slice (some aP) p.funcs.length cP)) :: .row (.slice (some ⟨gF, 0, none⟩) (q + 1) c2) 39 14 (q + 1) (fs.flatMap frmCells ++ frmCells f) :: .row E 3 1 s.events.length (s.events.map (Value.int .i64)) :: L) _ from HP.out)
        replace HP := Lib.hid (HP.out.perm (((List.Perm.swap _ _ _).trans ((List.Perm.swap _ _ _).cons _)).trans (((List.Perm.swap _ _ _).cons _).cons _)))
        go_upto_region 35 with (first | (refine wpList_ld0 rfl 3 _ rfl HP.out rfl rfl Tryd.underlying3 rfl ?_) | (refine wpList_ld1 rfl 3 _ rfl HP.out rfl rfl Tryd.underlying3 rfl ?_) | (refine wpList_ld2 rfl 3 _ rfl HP.out rfl rfl Tryd.underlying3 rfl ?_) | (refine wpList_ld3 rfl 3 _ rfl HP.out rfl rfl Tryd.underlying3 rfl ?_))
        replace HP := Lib.hid HP.out.drew
        refine wp_region_held_drew (S := fun w' => w'.cell? ⟨g3, 1, none⟩ = some (.int .i64 d)) (by kernel_rfl) (HP.out.cell (.tail _ (.tail _ (.tail _ (.head _)))) 1 _ rfl) (fun hHeld => ?_)
        have HS0 := Lib.hid hHeld
        clear hHeld
        (try simp only [Act.put, List.setIfInBounds_toArray, List.set_cons_zero, List.set_cons_succ])
        refine wpAnyH_take (i := 0) (v := ?_) rfl (by kernel_rfl) (by kernel_rfl) (by kernel_rfl) (fun _ _ _ h => h) (.inl ⟨by simp [Region.wanted], ?_⟩) HS0.out ?_
        rotate_left
        · intro w' hw
          go_simp
          (try with_reducible rfl)
        (try simp only [List.getElem_toArray, List.getElem_cons_succ, List.getElem_cons_zero, Act.put, List.setIfInBounds_toArray, List.set_cons_zero, List.set_cons_succ])
        refine wpAnyH_take (i := 1) (v := ?_) rfl (by kernel_rfl) (by kernel_rfl) (by kernel_rfl) (fun _ _ _ h => h) (.inl ⟨by simp [Region.wanted], ?_⟩) HS0.out ?_
        rotate_left
        · intro w' hw
          go_simp
          (try with_reducible rfl)
        (try simp only [List.getElem_toArray, List.getElem_cons_succ, List.getElem_cons_zero, Act.put, List.setIfInBounds_toArray, List.set_cons_zero, List.set_cons_succ])
        refine wpAnyH_take (i := 2) (v := ?_) rfl (by kernel_rfl) (by kernel_rfl) (by kernel_rfl) (fun _ _ _ h => h) (.inl ⟨by simp [Region.wanted], ?_⟩) HS0.out ?_
        rotate_left
        · intro w' hw
          go_simp
          (try with_reducible rfl)
        (try simp only [List.getElem_toArray, List.getElem_cons_succ, List.getElem_cons_zero, Act.put, List.setIfInBounds_toArray, List.set_cons_zero, List.set_cons_succ])
        refine wpAnyH_take (i := 3) (v := ?_) rfl (by kernel_rfl) (by kernel_rfl) (by kernel_rfl) (fun _ _ _ h => h) (.inl ⟨by simp [Region.wanted], ?_⟩) HS0.out ?_
        rotate_left
        · intro w' hw
          go_simp
          (try with_reducible rfl)
        (try simp only [List.getElem_toArray, List.getElem_cons_succ, List.getElem_cons_zero, Act.put, List.setIfInBounds_toArray, List.set_cons_zero, List.set_cons_succ])
        refine wpAnyH_take (i := 4) (v := ?_) rfl (by kernel_rfl) (by kernel_rfl) (by kernel_rfl) (fun _ _ _ h => h) (.inl ⟨by simp [Region.wanted], ?_⟩) HS0.out ?_
        rotate_left
        · intro w' hw
          go_simp
          (try with_reducible rfl)
        (try simp only [List.getElem_toArray, List.getElem_cons_succ, List.getElem_cons_zero, Act.put, List.setIfInBounds_toArray, List.set_cons_zero, List.set_cons_succ])
        refine wpAnyH_take (i := 6) (v := ?_) rfl (by kernel_rfl) (by kernel_rfl) (by kernel_rfl) (fun _ _ _ h => h) (.inl ⟨by simp [Region.wanted], ?_⟩) HS0.out ?_
        rotate_left
        · intro w' hw
          go_simp
          (try with_reducible rfl)
        (try simp only [List.getElem_toArray, List.getElem_cons_succ, List.getElem_cons_zero, Act.put, List.setIfInBounds_toArray, List.set_cons_zero, List.set_cons_succ])
        refine wpAnyH_take (i := 7) (v := ?_) rfl (by kernel_rfl) (by kernel_rfl) (by kernel_rfl) (fun _ _ _ h => h) (.inl ⟨by simp [Region.wanted], ?_⟩) HS0.out ?_
        rotate_left
        · intro w' hw
          go_simp
          (try with_reducible rfl)
        (try simp only [List.getElem_toArray, List.getElem_cons_succ, List.getElem_cons_zero, Act.put, List.setIfInBounds_toArray, List.set_cons_zero, List.set_cons_succ])
        refine wpAnyH_ready (rs := [5]) (by kernel_rfl) (by simp) ?_
        refine AllReadyH.cons rfl (fun K hK => ?_) AllReadyH.nil
        go_simp
        refine (answer_any { s with fuel := s.fuel - 1 } _ E A _ _ _ _ _ _ ge va w0 _ Fs _ hev G hG HA.out HP.out).mono ?_
        clear HP
        rintro r w6 ⟨rfl, E', A', hA', HP⟩
        replace HP := Lib.hid HP
        replace HA := Lib.hid hA'
        clear hA'
        dsimp only at HP ⊢
        have hd0 : (0 : Int) ≤ (d : Int) := by omega
        have hd12 : (d : Int) < 12 := by omega
        refine hK.out _ _ (HP.out.cell (.tail _ (.tail _ (.tail _ (.head _)))) 1 _ rfl) (fun hHeld => ?_)
        clear hK K hHeld
        (try simp only [List.getElem_toArray, List.getElem_cons_succ, List.getElem_cons_zero, Act.put, List.setIfInBounds_toArray, List.set_cons_zero, List.set_cons_succ])
        refine wpAnyH_ready (rs := [8]) (by kernel_rfl) (by simp) ?_
        refine AllReadyH.cons rfl (fun K hK => ?_) AllReadyH.nil
        go_simp
        refine hK.out _ _ (HP.out.cell (.tail _ (.tail _ (.tail _ (.head _)))) 1 _ rfl) (fun hHeld => ?_)
        clear hK K hHeld
        (try simp only [List.getElem_toArray, List.getElem_cons_succ, List.getElem_cons_zero, Act.put, List.setIfInBounds_toArray, List.set_cons_zero, List.set_cons_succ])
        refine wpAnyH_ready (rs := [9]) (by kernel_rfl) (by simp) ?_
        refine AllReadyH.cons rfl (fun K hK => ?_) AllReadyH.nil
        refine wanted_only rfl ?_
        (refine wpList_stW1 rfl 3 _ _ rfl HP.out rfl rfl (frms_lt HQ.out (by omega)) rfl (frms_put (d := d) HQ.out (by omega) (by omega) _) (by kernel_rfl) ?_; clear HP; intro wst HP; replace HP := Lib.hid HP)
        refine wpList_nil ?_
        refine hK.out _ _ (HP.out.cell (.tail _ (.tail _ (.tail _ (.head _)))) 1 _ rfl) (fun hHeld => ?_)
        clear hK K hHeld HS0
        refine wpAnyH_done (by kernel_rfl) ?_ _
        (try simp only [List.getElem_toArray, List.getElem_cons_succ, List.getElem_cons_zero, Act.put, List.setIfInBounds_toArray, List.set_cons_zero, List.set_cons_succ])
        go_wp2_with (first | (refine wpList_stW1 rfl 3 _ _ rfl HP.out rfl rfl (frms_lt HQ.out (by omega)) rfl (frms_pc HQ.out (by omega) _) (by kernel_rfl) ?_; clear HP; intro wst HP; replace HP := Lib.hid HP) | (refine wpList_ldW1 rfl 3 _ rfl HP.out rfl (frms_pcAt HQ.out (by omega)) Tryd.underlying3 rfl ?_))
        ((try simp only [Exit.inBlock, Exit.then]); first | refine bodyPost_end (results_none rfl _ _ _) rfl ?_ | refine bodyPost_ret (results_none rfl _ _ _) rfl ?_)
        have HH := (HP.out.perm ((((List.Perm.swap _ _ _).cons _).cons _).trans (((List.Perm.swap _ _ _).cons _).trans (List.Perm.swap _ _ _)))).drop (A := [])
        exact ⟨rfl, eng_done HN.out HA.out (by rw [List.length_append, HQ.out]; try rfl) (frms_snoc _ _) (by simp) rfl HH⟩
      · skip
        have HN := Lib.hid (show nextOf p s fs f = retS p { s with fuel := s.fuel - 1 } fs va by
          unfold nextOf putF goF
          rw [if_neg HFZ.out, HX.out, HOP.out.1, HOP.out.2, HD.out.2.2, HD.out.2.1, HD.out.1]
          simp only [Int.toNat_natCast, HV.out.1, HV.out.2, hpb, HNV.out, Bool.false_eq_true, if_false]
          rfl)
        clear hpb
        go_upto_region 18 with (first | (refine wpList_ld0 rfl 3 _ rfl HP.out rfl rfl Tryd.underlying3 rfl ?_) | (refine wpList_ld1 rfl 3 _ rfl HP.out rfl rfl Tryd.underlying3 rfl ?_) | (go_at_call 52; refine (HPU.out _).mono ?_; rintro e w6 ⟨rfl, rfl⟩) | (refine wpList_st0 rfl 3 _ _ rfl HP.out rfl rfl (by simp) rfl rfl (by kernel_rfl) ?_; clear HP; intro wst HP; replace HP := Lib.hid HP) | (refine wpList_st1 rfl 3 _ _ rfl HP.out rfl rfl (by simp) rfl rfl (by kernel_rfl) ?_; clear HP; intro wst HP; replace HP := Lib.hid HP) | (refine wpList_st2 rfl 3 _ _ rfl HP.out rfl rfl (by simp) rfl rfl (by kernel_rfl) ?_; clear HP; intro wst HP; replace HP := Lib.hid HP))
        replace HP := Lib.hid (show Hp w0 Fs (.blk g3 56 [iV 19, iV d, iV ia, iV ib, iV im] :: .blk ge 74 (engCells { s with fuel := s.fuel - 1 } (.slice (some ⟨gF, 0, none⟩) (q + 1) c2) E A (.slice (some aP) p.funcs.length cP)) :: .row (.slice (some ⟨gF, 0, none⟩) (q + 1) c2) 39 14 (q + 1) (fs.flatMap frmCells ++ frmCells f) :: .row E 3 1 s.events.length (s.events.map (Value.int .i64)) :: L) _ from HP.out)
        have HH := Lib.hid (eng_in (s := { s with fuel := s.fuel - 1 }) (by show s.frames.length = q + 1; rw [HFR.out, List.length_append, HQ.out]; rfl) (by show s.frames.flatMap frmCells = _; rw [HFR.out]; exact frms_snoc _ _) (HP.out.drop (A := [])))
        have HC := Lib.hid (ret_any { s with fuel := s.fuel - 1 } fs f HFR.out _ E A _ E 3 1 s.events.length (s.events.map (Value.int .i64)) ge va p w0 _ Fs L (by show s.frames.length ≤ 8; rw [HFR.out, List.length_append, HQ.out]; exact hl) ok HOW.out G hG HPR.out HH.out)
        clear HH
        go_wp2_with (first | (refine wpList_ld0 rfl 3 _ rfl HP.out rfl rfl Tryd.underlying3 rfl ?_) | (go_at_call 55; refine HC.out.mono ?_; clear HP HC; rintro r w6 ⟨rfl, HP⟩; replace HP := Lib.hid HP))
        ((try simp only [Exit.inBlock, Exit.then]); first | refine bodyPost_end (results_none rfl _ _ _) rfl ?_ | refine bodyPost_ret (results_none rfl _ _ _) rfl ?_)
        obtain ⟨F', HH⟩ := HP.out
        exact ⟨rfl, eng_done HN.out (by rw [retS_answers]; exact HA.out) rfl rfl (by rw [retS_events]) (by rw [retS_events]) HH⟩
end Go.Proofs.YtceilfmfidmfpaaDoor
