/- strings.Builder, strconv.Itoa: as this proof's own memory has them. -/
import Derived.Test.YtpnapnmkjpolmaaDoorShelf
import Derived.Test.YtpnapnmkjpolmaaDoorStrLaw
import Derived.Test.YtpnapnmkjpolmaaDoorHpB
import Derived.Lib.AppendStr
import Derived.Lib.ItoaLen
import Derived.Lib.AppendIntMem
set_option linter.unusedSimpArgs false
set_option linter.unusedVariables false
namespace Go.Proofs.YtpnapnmkjpolmaaDoor
open Go.RowKit
attribute [local irreducible] wpList Code.wp Oper.wp
section
variable {P : Program} {w0 w : World} {Fs : List Fro} {A B L : List Res} {ops : Array Oper} {rest : List Oper} {o : Oper} {a : Act} {Q : Exit → Act → World → Prop}
theorem append_str_block {t u ty e : TypeId} {i : TypeInfo} (ht : P.underlying t = some (.slice e)) (hu : P.underlying u = some .string) (hi : P.info? e = some i) (hz : i.zero = some (.int .u8 0)) (hsize : i.size = 1) (hby : i.bytes = 1)
    {v : Value} {n : Nat} {xs : List Value} (hown : w.ownsRow 0 e 1 v n xs) (s : ByteArray) (h63 : n + s.size ≤ maxLen) (hbytes : n + s.size ≤ 140737488355328) {v' : Value} {w' : World}
    (hr : (Builtin.append_ #[t, u] ty #[v, .string s]).run P w = .ok v' w') : ∀ b, v'.ownBlock = some b → v.ownBlock = some b ∨ w.heap.size ≤ b := by
  intro b hb
  have hsmall : n + s.size ≤ 9223372036854775807 := by simp only [maxLen] at h63; omega
  have hxl : xs.length = n := by simpa using hown.1
  rcases hown.2 with ⟨rfl, rfl⟩ | ⟨g, cap, cur, rfl, hbg, hg, hnc, hcm, hcs, htake⟩
  · have hx : xs = [] := List.eq_nil_of_length_eq_zero hxl
    subst hx
    obtain ⟨v1, w1, hr1, h1, _⟩ := Lib.run_append_own_string (P := P) w w.heap.size t u ty e i ht hu hi hz hsize hby (.slice none 0 0) 0 [] (World.ownsRow_nil w w.heap.size e 1) s h63 hbytes (Nat.le_refl _)
    rw [hr1] at hr
    cases hr
    rcases h1.2 with ⟨rfl, _⟩ | ⟨g, cap, cur, rfl, hbg, _⟩
    · cases hb
    · cases hb; exact .inr hbg
  · by_cases hroom : n + s.size ≤ cap
    · have hcs' : cur.size = cap := by simpa using hcs
      have hr1 := Lib.run_append_room_string (P := P) w t u ty e i ht hu hi hsize g n cap cur hg s hroom (by omega)
      rw [hr1] at hr
      cases hr
      exact .inl hb
    · have holds : ∀ j u, xs[j]? = some u → w.cell? ((⟨g, 0, none⟩ : Addr).add j) = some u := hown.cells (g := g) rfl
      have hr1 := Lib.run_append_grow_string (P := P) w t u ty e i (.int .u8 0) ht hu hi hz ⟨g, 0, none⟩ n cap xs (by rw [hsize]; simpa using hxl) holds s (by omega) (by omega) (by rw [hby]; exact growslice_fits (by omega) (by omega))
      rw [hr1] at hr
      cases hr
      cases hb
      exact .inr (Nat.le_refl _)
/-- append of a string's bytes to a row that is owned. -/
theorem wpList_append_str (hgd : o.guard = none) (s x : Operand) (t u : TypeId) (ho : o.op = .call { callee := .builtin .append, args := #[s, x], argTypes := #[t, u] })
    {e : TypeId} (i : TypeInfo) (ht : P.underlying t = some (.slice e)) (hu : P.underlying u = some .string) (hi : P.info? e = some i) (hz : i.zero = some (.int .u8 0)) (hs' : i.size = 1) (hby : i.bytes = 1)
    {v : Value} {n : Nat} {cs : List Value} (H : Hp w0 Fs (A ++ .row v e 1 n cs :: B) w) (hs : a.eval s = v) (y : ByteArray) (hx : a.eval x = .string y) (h63 : n + y.size ≤ maxLen) (hbytes : n + y.size ≤ 140737488355328)
    (h : ∀ A' c' w', Hp w0 Fs (A ++ .row (.slice A' (n + y.size) c') e 1 (n + y.size) (cs ++ Lib.strCells y) :: B) w' → wpList P ops Q rest (a.put o.dst (.slice A' (n + y.size) c')) w') : wpList P ops Q (o :: rest) a w := by
  have hown := H.row (v := v) (e := e) (sz := 1) (n := n) (cs := cs) (by simp)
  obtain ⟨v', w', hr, h2, h3, _⟩ := Lib.run_append_own_string (P := P) w 0 t u o.type e i ht hu hi hz hs' hby v n cs hown y h63 hbytes (Nat.zero_le _)
  have hblk := append_str_block ht hu hi hz hs' hby hown y h63 hbytes hr
  have H2 := H.grownRow h3 h2 (fun b hb => by
    rcases hblk b hb with hb' | hb'
    · exact .inl hb'
    · exact .inr ⟨hb', (h2.lt b hb).2⟩)
  have hv' : ∃ A' c', v' = .slice A' (n + y.size) c' := by
    rcases h2.2 with ⟨rfl, h0⟩ | ⟨g, cap, cur, rfl, _⟩
    · exact ⟨none, 0, by rw [h0]⟩
    · exact ⟨_, _, rfl⟩
  obtain ⟨A', c', rfl⟩ := hv'
  refine wpList_plain hgd fun K hK => ?_
  unfold Oper.wp execOp
  simp only [ho, resolve, invoke, builtin, Sem.run_bind, Sem.run_pure, Result.andThen_ok, List.map_toArray, List.map_cons, List.map_nil, hs, hx, hr]
  exact hK _ _ (h _ _ _ H2)
end
theorem strCells_bstr (l : List UInt8) : Lib.strCells (bstr l) = Lib.byteCells l := by
  unfold Lib.strCells Lib.byteCells bstr
  simp
/-- What a Builder holds: its own block and a row of bytes. -/
def bldL (b : Nat) (p v : Value) (l : List UInt8) : List Res := [.blk b 41 [p, v], .row v 5 1 l.length (Lib.byteCells l)]
def BldP (b : Nat) (p : Value) : Prop := p = .pointer none ∨ p = .pointer (some ⟨b, 0, none⟩)
theorem info_byte3 : (Tryd.prog.info? 5).map (fun i => (i.zero, i.size, i.bytes)) = some (some (.int .u8 0), 1, 1) := by kernel_rfl
section
variable {w0 w : World} {Fs : List Fro} {A B : List Res} {b : Nat} {p v : Value} {l : List UInt8}
set_option maxRecDepth 10000 in
set_option maxHeartbeats 1000000 in
theorem copyCheck_hp (HP : Hp w0 Fs (.blk b 41 [p, v] :: B) w) (hp : BldP b p) :
    Calls Tryd.prog 29 #[.pointer (some ⟨b, 0, none⟩)] w fun e w' => e = .returned (.tuple #[]) ∧ Hp w0 Fs (.blk b 41 [.pointer (some ⟨b, 0, none⟩), v] :: B) w' := by
  rcases hp with rfl | rfl
  · refine (Go.Proofs.Any.Builder_copyCheck_fresh Tryd.lays240 Tryd.Builder_X72_240 b w (HP.cell (.head _) 0 _ rfl) (by have := HP.blk (.head _); unfold World.shape?; rw [this]; rfl) (HP.free (.head _) 0)).mono ?_
    rintro e w' ⟨rfl, rfl⟩
    exact ⟨rfl, Hp.set (A := []) HP 0 _⟩
  · refine (Go.Proofs.Any.Builder_copyCheck_used Tryd.lays240 Tryd.Builder_X72_240 b w (HP.cell (.head _) 0 _ rfl)).mono ?_
    rintro e w' ⟨rfl, rfl⟩
    exact ⟨rfl, HP⟩
set_option maxRecDepth 10000 in
set_option maxHeartbeats 1000000 in
theorem WriteString_hp (s : List UInt8) (HP : Hp w0 Fs (bldL b p v l ++ B) w) (hp : BldP b p) (hlen : l.length + s.length ≤ 140737488355328) :
    Calls Tryd.prog 12 #[.pointer (some ⟨b, 0, none⟩), .string (bstr s)] w fun e w' => (∃ x, e = .returned x) ∧ ∃ v', Hp w0 Fs (bldL b (.pointer (some ⟨b, 0, none⟩)) v' (l ++ s) ++ B) w' := by
  unfold bldL at HP
  simp only [List.cons_append, List.nil_append] at HP
  replace HP := Lib.hid HP
  obtain ⟨i_byte, hi_byte, hz_byte, hs_byte, hy_byte⟩ := info_parts info_byte3
  have HSZ := Lib.hid (bstr_size s)
  have HSB := Lib.hid (strCells_bstr s)
  obtain ⟨y, hy⟩ : ∃ y, bstr s = y := ⟨_, rfl⟩
  rw [hy] at HSZ HSB ⊢
  clear hy
  go_enter Tryd.func12, Tryd.ntmps12
  go_wp2_with (first | (go_at_call 29; refine (copyCheck_hp HP.out hp).mono ?_; rintro e w1 ⟨rfl, hb⟩; replace HP := Lib.hid hb; clear hb) | (refine wpList_ld0 rfl 39 _ rfl HP.out rfl rfl Tryd.underlying39 rfl ?_) | (at_builtin; refine wpList_append_str (A := [_]) rfl _ _ 39 9 rfl i_byte Tryd.underlying39 Tryd.underlying9 hi_byte hz_byte hs_byte hy_byte HP.out rfl y rfl (by unfold maxLen; have := HSZ.out; omega) (by have := HSZ.out; omega) ?_; clear HP; intro A' c' wap HP; replace HP := Lib.hid HP) | (refine wpList_st0 rfl 39 _ _ rfl HP.out rfl rfl (by simp) rfl rfl (by kernel_rfl) ?_; clear HP; intro wst HP; replace HP := Lib.hid HP))
  (try simp only [Exit.inBlock, Exit.then])
  refine bodyPost_ret (results_tmp2 (by rfl) _ _ _) (by rfl) ?_
  refine ⟨⟨_, rfl⟩, .slice A' (l.length + y.size) c', ?_⟩
  have h1 := HP.out
  rw [HSB.out] at h1
  have h2 := HSZ.out
  unfold bldL
  rw [List.length_append, ← h2, show Lib.byteCells (l ++ s) = Lib.byteCells l ++ Lib.byteCells s by unfold Lib.byteCells; rw [List.map_append]]
  exact h1
set_option maxRecDepth 10000 in
set_option maxHeartbeats 1000000 in
theorem WriteByte_hp (c : UInt8) {z : Int} (hz : (c.toNat : Int) = z) (HP : Hp w0 Fs (bldL b p v l ++ B) w) (hp : BldP b p) (hlen : l.length + 1 ≤ 140737488355328) :
    Calls Tryd.prog 32 #[.pointer (some ⟨b, 0, none⟩), .int .u8 z] w fun e w' => (∃ x, e = .returned x) ∧ ∃ v', Hp w0 Fs (bldL b (.pointer (some ⟨b, 0, none⟩)) v' (l ++ [c]) ++ B) w' := by
  unfold bldL at HP
  simp only [List.cons_append, List.nil_append] at HP
  replace HP := Lib.hid HP
  obtain ⟨i_byte, hi_byte, hz_byte, hs_byte, hy_byte⟩ := info_parts info_byte3
  have HZ := Lib.hid hz
  clear hz
  go_enter Tryd.func32, Tryd.ntmps32
  go_wp2_with (first | (go_at_call 29; refine (copyCheck_hp HP.out hp).mono ?_; rintro e w1 ⟨rfl, hb⟩; replace HP := Lib.hid hb; clear hb) | (refine wpList_ld0 rfl 39 _ rfl HP.out rfl rfl Tryd.underlying39 rfl ?_) | (refine wpList_ld1 rfl 39 _ rfl HP.out rfl rfl Tryd.underlying39 rfl ?_) | (refine wpList_slice_hp rfl 39 5 1 _ rfl HP.out Tryd.underlying39 #[.int .u8 z] (by kernel_rfl) ?_; clear HP; intro gi wi HP; replace HP := Lib.hid HP) | (at_builtin; refine wpList_app1 rfl _ _ 39 rfl i_byte (.int .u8 0) Tryd.underlying39 hi_byte hz_byte hs_byte rfl (by decide) hy_byte (l.length + 1) (by omega) HP.out rfl rfl rfl (by simp [Value.oneCell']) (by unfold maxLen; omega) (by omega) ?_; clear HP; intro A4 c4 wap HP; replace HP := Lib.hid HP) | (refine wpList_st0 rfl 39 _ _ rfl HP.out rfl rfl (by simp) rfl rfl (by kernel_rfl) ?_; clear HP; intro wst HP; replace HP := Lib.hid HP) | (refine wpList_st1 rfl 39 _ _ rfl HP.out rfl rfl (by simp) rfl rfl (by kernel_rfl) ?_; clear HP; intro wst HP; replace HP := Lib.hid HP))
  (try simp only [Exit.inBlock, Exit.then])
  refine bodyPost_ret (results_tmp (by rfl) _ _ _) (by rfl) ?_
  refine ⟨⟨_, rfl⟩, .slice A4 (l.length + 1) c4, ?_⟩
  have h1 := HP.out
  unfold bldL
  rw [List.length_append, show Lib.byteCells (l ++ [c]) = Lib.byteCells l ++ [.int .u8 z] by unfold Lib.byteCells; rw [List.map_append, ← HZ.out]; rfl]
  exact h1
theorem String_hp (HP : Hp w0 Fs (bldL b p v l ++ B) w) (hp : BldP b p) :
    Calls Tryd.prog 15 #[.pointer (some ⟨b, 0, none⟩)] w fun e w' => e = .returned (.string (bstr l)) ∧ Below w0.heap.size w0 w' := by
  have hm1 : Res.blk b 41 [p, v] ∈ bldL b p v l ++ B := by unfold bldL; simp
  have hm2 : Res.row v 5 1 l.length (Lib.byteCells l) ∈ bldL b p v l ++ B := by unfold bldL; simp
  have hb := (HP.own _ hm1).2 b rfl
  have hv := (HP.own _ hm2).2
  have hown := HP.row hm2
  have hne : v.ownBlock ≠ some b := by
    have := HP.apart
    unfold bldL at this
    simp only [List.cons_append, List.nil_append] at this
    have h2 := List.pairwise_cons.1 this
    intro e
    exact (h2.1 _ (.head _)) b rfl e
  have hlen : (Lib.byteCells l).length = l.length := by unfold Lib.byteCells; simp
  have hat : Lib.BuilderAt 41 5 w0.heap.size b p (Lib.byteCells l) w := by
    refine ⟨hb.1, v, HP.blk hm1, ?_, hne⟩
    rw [hlen]
    refine ⟨hown.1, ?_⟩
    rcases hown.2 with h | ⟨g, cap, cur, rfl, h1, h2⟩
    · exact .inl h
    · exact .inr ⟨g, cap, cur, rfl, (hv g rfl).1, h2⟩
  have his : Lib.IsBuilder 41 5 w0.heap.size b (Lib.byteCells l) w := by
    rcases hp with rfl | rfl
    · exact .inl hat
    · exact .inr hat
  refine (Tryd.Builder_String_any w0.heap.size b l w his HP.size).mono ?_
  rintro e w' ⟨rfl, hb'⟩
  exact ⟨rfl, HP.below.trans hb'⟩
end
/-- The powers of ten lie where the library reads them. -/
def Pow (w : World) : Prop := Lib.TabIs Tryd.prog w "internal/strconv.uint64pow10" .u64 Lib.pow10Tab
theorem Pow.keep {w w' : World} {B : Nat} (h : Pow w) (hb : Below B w w') (hB : B = w.heap.size) : Pow w' := by
  unfold Pow Lib.TabIs at h ⊢
  exact var?_below hb (by kernel_rfl) (by
    rw [hB]
    have := World.var?_cell (P := Tryd.prog) (g := 5) (by kernel_rfl) h 0
    exact World.block_lt_of_cell? w _ (this.trans rfl)) h
theorem Itoa_any (n : Int) (hn : I64 n) (w : World) (ht : Pow w) :
    Calls Tryd.prog 30 #[.int .i64 n] w fun e w' => e = .returned (.string (bstr (Lib.itoa n))) ∧ Below w.heap.size w w' := by
  refine (Tryd.strconv_Itoa n hn.1 hn.2 w ht).mono ?_
  rintro e w' ⟨rfl, k, os, rfl⟩
  exact ⟨rfl, Lib.below_grow _ _ (Nat.le_refl _) _ _⟩
end Go.Proofs.YtpnapnmkjpolmaaDoor
