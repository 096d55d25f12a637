import Derived.Test.YtpkaepmmkojdaaaBase
import Derived.Lib.AppendZerosOnto
import Derived.Test.YtpkaepmmkojdaaaLook
/-! append of so many zeros (an append of a make) onto bytes of the call's own. No program is named here. -/
namespace Go.Proofs.Ytpkaepmmkojdaaa
open Go.RowKit

theorem zeroCells_u8 (k : Nat) : Builtin.zeroCells #[.int .u8 0] k = ((List.replicate k (0 : UInt8)).map bv).toArray := by
  apply Array.ext
  · simp [size_zeroCells]
  · intro i h1 h2
    simp [Builtin.zeroCells, Nat.mod_one]

theorem run_append8_zeros {P : Program} {T TI E : TypeId} {i : TypeInfo} {kn kq : IntKind} (ht : P.underlying T = some (.slice E)) (hti : P.underlying TI = some (.int kn)) (hi : P.info? E = some i) (hz : i.zero = some (.int .u8 0)) (hsz : i.size = 1) (hby : i.bytes = 1) (ty : TypeId)
    {w : World} {base : Nat} {v : Value} {l : List UInt8} {k : Nat} (hown : Own8 w base E v l) (hlen : l.length + k ≤ 140737488355328) (hbase : base ≤ w.heap.size) :
    ∃ v' w', (Builtin.append_ #[T, TI] ty #[v, .int kq (k : Int)]).run P w = .ok v' w' ∧ Own8 w' base E v' (l ++ List.replicate k 0) ∧ w.grownBy w' v.ownBlock := by
  have hw : IntKind.i64.wrap (k : Int) = k := by rw [IntKind.wrap_i64]; omega
  have hw0 : IntKind.i64.wrap 0 = 0 := by rw [IntKind.wrap_i64]; rfl
  have hneg : ¬ ((k : Int) < 0) := by omega
  have h48i : ¬ (281474976710656 < (k : Int)) := by omega
  have hzc : (Value.int .u8 0).cells = #[.int .u8 0] := rfl
  rcases hown.2 with ⟨rfl, h0⟩ | ⟨g, cap, cur, rfl, hbg, hg, hnc, hcm, hcs, htake⟩
  · have hl : l = [] := List.eq_nil_of_length_eq_zero h0
    subst hl
    by_cases hk : k = 0
    · subst hk
      refine ⟨.slice none 0 0, w, ?_, by simpa using hown, ⟨rfl, rfl, rfl, Nat.le_refl _, fun _ _ _ => rfl⟩⟩
      simp [Builtin.append_, run_underlying ht, run_underlying hti, sizeOf, typeInfo, hi, asInt, asIntOf, hw0, hby]
    · have hr := Lib.run_append_nil_zeros (P := P) w T TI ty E i (.int .u8 0) kq kn ht hti hi hz k (by omega) (by omega) (by omega) (by rw [hby]; omega)
      have hcap : grownCap w k 0 E ≤ maxLen := grownCap_le_maxLen w k 0 _ (by unfold maxLen; omega)
      have hge := grownCap_ge w k 0 E
      refine ⟨_, _, hr, ?_, ⟨rfl, rfl, rfl, by simp, fun j hj _ => Below.heap_alloc w.drew _ j hj⟩⟩
      refine own8_mk hbase (Blk.new w.drew _ _) (by simp) hge hcap ?_ ?_
      · rw [hzc, zeroCells_u8, zeroCells_u8]; simp; omega
      · intro j u hu
        rw [hzc, zeroCells_u8, Array.getElem?_append_left (by simp; have := (List.getElem?_eq_some_iff.1 hu).1; simp at this; omega)]
        simp only [List.getElem?_toArray, List.getElem?_map]
        rw [List.nil_append] at hu
        rw [hu]; rfl
  · by_cases hroom : l.length + k ≤ cap
    · have hst := run_storeCells_at P g l.length E ((List.replicate k (0 : UInt8)).map bv) 0 cur w hg (by simp; omega) (fun u hu => by simp at hu; rw [hu.2]; rfl)
      simp only [Nat.add_zero] at hst
      refine ⟨.slice (some ⟨g, 0, none⟩) (l.length + k) cap, w.setRow g (cur.toList.take l.length ++ (List.replicate k (0 : UInt8)).map bv ++ cur.toList.drop (l.length + ((List.replicate k (0 : UInt8)).map bv).length)).toArray, ?_, ?_, ⟨rfl, rfl, rfl, by simp, fun j _ hj => setRow_other w g j _ (fun e => hj (by simp [Value.ownBlock, e]))⟩⟩
      · by_cases hk : k = 0
        · subst hk
          simp only [List.replicate_zero, List.map_nil, List.append_nil, List.length_nil, Nat.add_zero] at hst ⊢
          simp only [Nat.add_zero] at hroom
          simp [Builtin.append_, run_underlying ht, run_underlying hti, sizeOf, typeInfo, hi, asInt, asIntOf, hw0, hby, hsz, hroom, storeCells, Addr.add_lit]
          rw [setRow_self w g cur E (0, 0) hg]
        · have hst2 := hst
          rw [show ((List.replicate k (0 : UInt8)).map bv) = (Builtin.zeroCells #[.int .u8 0] k).toList from by rw [zeroCells_u8]] at hst2
          simp [Builtin.append_, run_underlying ht, run_underlying hti, sizeOf, typeInfo, zeroValue, hi, hz, asInt, asIntOf, hw, hby, hsz, hroom, hneg, h48i, hk, Addr.add_lit, hzc, hst2]
          simp [zeroCells_u8]
      · have hB : Blk w g cur E := hg
        refine own8_mk hbg (hB.setRow _) (by simp) hroom hcm ?_ ?_
        · simp; omega
        · intro j u hu
          have hlen9 : (cur.toList.take l.length ++ (List.replicate k (0 : UInt8)).map bv) = (l ++ List.replicate k 0).map bv := by
            rw [List.map_append]
            congr 1
            rw [← htake]; simp
          rw [List.getElem?_toArray, hlen9, List.getElem?_append_left (by simp; have := (List.getElem?_eq_some_iff.1 hu).1; simp at this; omega), List.getElem?_map, hu]
          rfl
    · have hk : 0 < k := by omega
      have holds : ∀ j u, (l.map bv)[j]? = some u → w.cell? ((⟨g, 0, none⟩ : Addr).add j) = some u := World.ownsRow.cells hown (g := g) rfl
      have hold := run_firstCells_some (P := P) (w := w.drew) i.size l.length ⟨g, 0, none⟩ l.length cap (l.map bv) (by simp [hsz]) (by simpa using holds)
      have hr := Lib.run_append_grow_zeros (P := P) w T TI ty E i (.int .u8 0) kq kn ht hti hi hz (some ⟨g, 0, none⟩) l.length cap (l.map bv) hold k hk (by omega) (by omega) (by omega) (by rw [hby]; omega) (growslice_fits (by omega) (by rw [hby]; omega))
      have hcap : grownCap w (l.length + k) cap E ≤ maxLen := grownCap_le_maxLen w _ _ _ (by unfold maxLen; omega)
      have hge := grownCap_ge w (l.length + k) cap E
      refine ⟨_, _, hr, ?_, ⟨rfl, rfl, rfl, by simp, fun j hj _ => Below.heap_alloc w.drew _ j hj⟩⟩
      refine own8_mk hbase (Blk.new w.drew _ _) (by simp) hge hcap ?_ ?_
      · rw [hzc, zeroCells_u8, zeroCells_u8]; simp; omega
      · intro j u hu
        rw [hzc, zeroCells_u8, Array.getElem?_append_left (by simp; have := (List.getElem?_eq_some_iff.1 hu).1; simp at this; omega)]
        simp only [List.append_toArray, List.getElem?_toArray, ← List.map_append, List.getElem?_map]
        rw [hu]; rfl
end Go.Proofs.Ytpkaepmmkojdaaa

/-! Bytes that came in inside of something else: an empty slice may lie anywhere. No program is named here. -/
namespace Go.Proofs.Ytpkaepmmkojdaaa
open Go.RowKit

def BsW (w : World) (v : Value) (l : List UInt8) : Prop := Bs w v l ∨ (l = [] ∧ ∃ ad, v = .slice (some ad) 0 0)
theorem BsW.form {w : World} {v : Value} {l : List UInt8} (h : BsW w v l) : ∃ a c, v = .slice a l.length c := by
  rcases h with h | ⟨rfl, ad, rfl⟩
  · exact h.form
  · exact ⟨some ad, 0, rfl⟩
theorem BsW.keep {w w' : World} {v : Value} {l : List UInt8} (h : BsW w v l) (hb : Below w.heap.size w w') : BsW w' v l := h.imp (fun h => h.keep hb) id

theorem run_append8w {P : Program} {T E : TypeId} {i : TypeInfo} (ht : P.underlying T = some (.slice E)) (hi : P.info? E = some i) (hz : i.zero = some (.int .u8 0)) (hsz : i.size = 1) (hby : i.bytes = 1) (ty : TypeId)
    {w : World} {base : Nat} {v x : Value} {l m : List UInt8} (hown : Own8 w base E v l) (hx : BsW w x m) (hlen : l.length + m.length ≤ 140737488355328) (hbase : base ≤ w.heap.size) :
    ∃ v' w', (Builtin.append_ #[T, T] ty #[v, x]).run P w = .ok v' w' ∧ Own8 w' base E v' (l ++ m) ∧ w.grownBy w' v.ownBlock := by
  rcases hx with hx | ⟨rfl, ad, rfl⟩
  · obtain ⟨v', w', h1, h2, h3, _⟩ := run_append8 (P := P) ht hi hz hsz hby ty hown hx hlen hbase
    exact ⟨v', w', h1, h2, h3⟩
  · refine ⟨v, w, ?_, by simpa using hown, ⟨rfl, rfl, rfl, Nat.le_refl _, fun _ _ _ => rfl⟩⟩
    rcases hown.2 with ⟨rfl, _⟩ | ⟨g, cap, cur, rfl, _, _, hnc, _⟩
    · simp [Builtin.append_, run_underlying ht, sizeOf, typeInfo, hi, Builtin.lenOf, Builtin.firstCells, loadCells, loadCellsFrom]
    · simp [Builtin.append_, run_underlying ht, sizeOf, typeInfo, hi, Builtin.lenOf, Builtin.firstCells, hnc, storeCells, loadCells, loadCellsFrom]

theorem wpList_append8w {P : Program} {T E : TypeId} {i : TypeInfo} (ht : P.underlying T = some (.slice E)) (hi : P.info? E = some i) (hz : i.zero = some (.int .u8 0)) (hsz : i.size = 1) (hby : i.bytes = 1)
    {ops : Array Oper} {rest : List Oper} {o : Oper} {a : Act} {Q : Exit → Act → World → Prop} {w : World} (hgd : o.guard = none) (s y : Operand)
    (ho : o.op = .call { callee := .builtin .append, args := #[s, y], argTypes := #[T, T] })
    (base : Nat) {v x : Value} {l m : List UInt8} (hs : a.eval s = v) (hy : a.eval y = x) (hown : Own8 w base E v l) (hx : BsW w x m) (hlen : l.length + m.length ≤ 140737488355328) (hbase : base ≤ w.heap.size)
    (h : ∀ v' w', Own8 w' base E v' (l ++ m) → w.grownBy w' v.ownBlock → wpList P ops Q rest (a.put o.dst v') w') : wpList P ops Q (o :: rest) a w :=
  wpList_plain hgd fun K hK => by
    obtain ⟨v', w', hr, h2, h3⟩ := run_append8w (P := P) ht hi hz hsz hby o.type hown hx hlen hbase
    unfold Oper.wp execOp
    simp only [ho, resolve, invoke, builtin, Sem.run_bind, Sem.run_pure, Result.andThen_ok, List.map_toArray, List.map_cons, List.map_nil, hs, hy, hr]
    exact hK _ _ (h v' w' h2 h3)
end Go.Proofs.Ytpkaepmmkojdaaa

/-! gazettelaw04.Op: its data; gazettelaw04.call. -/
namespace Go.Proofs.Ytpkaepmmkojdaaa
open Go.RowKit

/-- An Op, as it is read. -/
structure Opr where
  kind : Int
  lo : Int
  po : Int
  n : Int
  rep : Bool
  b : List UInt8
  size : Int
  l : List Int

structure OprOk (o : Opr) : Prop where
  kind : -9223372036854775808 ≤ o.kind ∧ o.kind ≤ 9223372036854775807
  lo : -9223372036854775808 ≤ o.lo ∧ o.lo ≤ 9223372036854775807
  po : -9223372036854775808 ≤ o.po ∧ o.po ≤ 9223372036854775807
  n : -9223372036854775808 ≤ o.n ∧ o.n ≤ 9223372036854775807
  size : -9223372036854775808 ≤ o.size ∧ o.size ≤ 9223372036854775807
  b : o.b.length ≤ 1073741824
  l : o.l.length ≤ 1073741824

def Opr.val (o : Opr) (bv lv : Value) : Value := .agg #[.int .i64 o.kind, .int .i64 o.lo, .int .i64 o.po, .int .i64 o.n, .bool o.rep, bv, .int .i64 o.size, lv]

def mod3 (b m : Int) : Int := (b.tmod m + m).tmod m
theorem mod3_bound (b m : Int) (h : 0 < m) : 0 ≤ mod3 b m ∧ mod3 b m < m := by
  unfold mod3
  have h1 := Int.lt_tmod_of_pos b h
  have h2 := Int.tmod_lt_of_pos b h
  have h3 : 0 ≤ b.tmod m + m := by omega
  exact ⟨Int.tmod_nonneg m h3, Int.tmod_lt_of_pos _ h⟩
theorem mod3_wrap (b m : Int) (h : 0 < m) (hm : m ≤ 1073741824) : wrap64 (b.tmod m + m) = b.tmod m + m := by
  have h1 := Int.lt_tmod_of_pos b h
  have h2 := Int.tmod_lt_of_pos b h
  generalize b.tmod m = t at *
  unfold wrap64
  omega
theorem mod3_num (b m : Int) (h : 0 < m) : ∃ k : Nat, (b.tmod m + m).tmod m = (k : Int) ∧ (k : Int) < m ∧ mod3 b m = (k : Int) := by
  obtain ⟨h1, h2⟩ := mod3_bound b m h
  refine ⟨(mod3 b m).toNat, ?_, ?_, ?_⟩
  · unfold mod3 at *; omega
  · omega
  · omega

def Opr.data (o : Opr) : List UInt8 := o.b ++ List.replicate (mod3 o.size 70000).toNat 0
theorem Opr.data_len (o : Opr) (h : OprOk o) : o.data.length ≤ 1073741824 + 70000 := by
  have := h.b
  obtain ⟨h1, h2⟩ := mod3_bound o.size 70000 (by omega)
  simp [Opr.data]
  omega

section
variable {W : World}
set_option maxRecDepth 100000 in
set_option maxHeartbeats 1600000 in
theorem op_data (o : Opr) (ho : OprOk o) (bv lv : Value) (hb : BsW W bv o.b) :
    Calls Try.prog 28 #[o.val bv lv] W fun e w' => ∃ v, e = .returned v ∧ Own8 w' W.heap.size 5 v o.data ∧ Below W.heap.size W w' := by
  obtain ⟨a, c, rfl⟩ := hb.form
  obtain ⟨i0, hi, hz0, hz1, hz2⟩ := info_parts info_u8
  have hlb := ho.b
  obtain ⟨k, hk1, hk2, hk3⟩ := mod3_num o.size 70000 (by omega)
  have hw := mod3_wrap o.size 70000 (by omega) (by omega)
  have hD := hid (show o.data = o.b ++ List.replicate k 0 by unfold Opr.data; rw [hk3]; rfl)
  clear hk3
  unfold Opr.val
  obtain ⟨od, ol, op, on, orp, ob, os, oll⟩ := o
  simp only at *
  have b1 : Below W.heap.size W (W.alloc (.cells #[.int .i64 od, .int .i64 ol, .int .i64 op, .int .i64 on, .bool orp, .slice a ob.length c, .int .i64 os, lv] 43)) := (Below.refl _ W).alloc (Nat.le_refl _) _
  have b2 : Below W.heap.size W ((W.alloc (.cells #[.int .i64 od, .int .i64 ol, .int .i64 op, .int .i64 on, .bool orp, .slice a ob.length c, .int .i64 os, lv] 43)).alloc (.cells #[] 5)) := b1.alloc b1.size _
  have hv2 := hb.keep b2
  have ho2 : Own8 ((W.alloc (.cells #[.int .i64 od, .int .i64 ol, .int .i64 op, .int .i64 on, .bool orp, .slice a ob.length c, .int .i64 os, lv] 43)).alloc (.cells #[] 5)) W.heap.size 5 (.slice (some ⟨W.heap.size + 1, 0, none⟩) 0 0) [] := own8_mk (by simp) (Blk.new' _ _ (by simp) _ _) rfl (Nat.le_refl _) (Nat.zero_le _) rfl (fun i u h => by simp at h)
  have hs2 := b2.size
  clear hb b1
  go_enter Try.func28, Try.ntmps28
  go_wp2_with (first
    | (at_builtin; refine wpList_append8w Try.underlying40 hi hz0 hz1 hz2 rfl (.tmp 9) (.tmp 11) rfl W.heap.size rfl rfl ho2 hv2 (by simp; omega) hs2 ?_; intro v3 W3 ho3 hg3; have bg3 := hid (b2.grown hg3 hs2 (fun k hk => by cases hk; simp)); clear hg3)
    | (at_builtin; obtain ⟨v4, W4, hr4, ho4, hg4⟩ := run_append8_zeros (P := Try.prog) (kq := .i64) (k := k) Try.underlying40 Try.underlying3 hi hz0 hz1 hz2 40 ho3 (by simp; omega) bg3.out.size; refine Lib.wpList_append_run W3 rfl (.tmp 12) (.tmp 13) _ _ rfl _ _ rfl rfl _ _ hr4 ?_; have bg4 := hid (bg3.out.grown hg4 bg3.out.size (fun k hk => (ho3.blk k hk).1)); clear hr4 hg4))
  go_ret
  refine ⟨v4, rfl, ?_, bg4.out⟩
  rw [List.nil_append] at ho4
  rw [hD.out]
  exact ho4

def callF (S : St) (D : Dk) (o : Opr) : Int × St × Dk :=
  if o.kind = 0 then (if 65536 < o.data.length then (6, S, D) else putF S D (mod3 o.lo 3) (mod3 o.po 6) o.data o.rep)
  else if o.kind = 1 then sealF S D (mod3 o.lo 3)
  else if o.kind = 2 then trimF S D (mod3 o.lo 3) (mod3 o.po 6) else (99, S, D)
theorem callF_on {S : St} {D : Dk} (h : On S D) (o : Opr) : On (callF S D o).2.1 (callF S D o).2.2 := by
  unfold callF
  split
  · split
    · exact h
    · exact putF_on h _ _ _ _
  split
  · exact sealF_on h _
  split
  · exact trimF_on h _ _
  · exact h
end
end Go.Proofs.Ytpkaepmmkojdaaa

/-! gazettelaw04.call. -/
namespace Go.Proofs.Ytpkaepmmkojdaaa
open Go.RowKit

section
variable {W : World} {q : StP} {S : St} {D : Dk}
set_option maxRecDepth 100000 in
set_option maxHeartbeats 1600000 in
theorem law_call (h : StAt W q S D) (hon : On S D) (o : Opr) (ho0 : OprOk o) (bv lv : Value) (hb : BsW W bv o.b) :
    Calls Try.prog 10 #[.pointer (some ⟨q.s, 0, none⟩), o.val bv lv] W fun e w' => e = .returned (.int .i64 (callF S D o).1) ∧ (∃ q', StAt w' q' (callF S D o).2.1 (callF S D o).2.2 ∧ Went q q' W.heap.size) ∧ Ext q.own W w' := by
  obtain ⟨av, cv, rfl⟩ := hb.form
  obtain ⟨DT, hdt⟩ : ∃ DT, DT = o.data := ⟨_, rfl⟩
  have hDTl := hid (show DT.length ≤ 9223372036854775807 by rw [hdt]; have := o.data_len ho0; omega)
  have hDT := hid hdt.symm
  clear hdt
  have ho := hid ho0
  clear ho0
  obtain ⟨od, ol, op, on, orp, ob, os, oll⟩ := o
  obtain ⟨mi, hi1, hi2, hi3⟩ := mod3_num ol 3 (by omega)
  obtain ⟨mp, hp1, hp2, hp3⟩ := mod3_num op 6 (by omega)
  have hw1 := mod3_wrap ol 3 (by omega) (by omega)
  have hw2 := mod3_wrap op 6 (by omega) (by omega)
  have hip := hid (And.intro hi3 hp3)
  clear hi3 hp3
  unfold Opr.val
  simp only at hb ⊢
  have b1 : Below W.heap.size W (W.alloc (.cells #[.int .i64 od, .int .i64 ol, .int .i64 op, .int .i64 on, .bool orp, .slice av ob.length cv, .int .i64 os, lv] 43)) := (Below.refl _ W).alloc (Nat.le_refl _) _
  have bE := Blk.new W #[.int .i64 od, .int .i64 ol, .int .i64 op, .int .i64 on, .bool orp, .slice av ob.length cv, .int .i64 os, lv] 43
  have hv1 := hb.keep b1
  have r1 := h.keep b1
  obtain ⟨W1, hW1⟩ : ∃ W1, W.alloc (.cells #[.int .i64 od, .int .i64 ol, .int .i64 op, .int .i64 on, .bool orp, .slice av ob.length cv, .int .i64 os, lv] 43) = W1 := ⟨_, rfl⟩
  rw [hW1] at b1 bE hv1 r1
  have HV := hid hv1
  have HR := hid (And.intro r1 b1)
  have c0 := bE.cell (o := 0) rfl
  have c1 := bE.cell (o := 1) rfl
  have c2 := bE.cell (o := 2) rfl
  clear hb hv1 r1 b1 h
  have Hon := hid hon
  clear hon
  go_enter Try.func10, Try.ntmps10
  by_cases hk : od = 0
  · have hk0 := hid hk
    have hkb : (od == 0) = true := beq_iff_eq.2 hk
    clear hk
    go_wp2_with fail
    clear hW1 c0 c1 c2
    refine wp_region_tail 7 rfl Grows (fun i v x => match i with
        | 0 => v = .pointer (some ⟨q.s, 0, none⟩)
        | 1 => v = .int .i64 (mi : Int)
        | 2 => v = .int .i64 (mp : Int)
        | 3 => v = .agg #[.int .i64 od, .int .i64 ol, .int .i64 op, .int .i64 on, .bool orp, .slice av ob.length cv, .int .i64 os, lv]
        | 4 => Own8 x W1.heap.size 5 v DT
        | 5 => v = .pointer (some ⟨W.heap.size, 4, none⟩)
        | 6 => v = .bool orp
        | _ => True) (by kernel_rfl) (Grows.refl _) Grows.trans ?rstab ?rsteps ?rfin
    case rstab =>
      intro i v x y hg h
      match i with
      | 0 | 1 | 2 | 3 | 5 | 6 => exact h
      | 4 => exact Own8.keep h hg
      | n + 7 => trivial
    case rsteps =>
      simp only [List.take_succ_cons, List.take_zero]
      refine ⟨?_, ?_, ?_, ?_, ?_, ?_, ?_, trivial⟩
      · intro a x hA
        have t0 := hA.at_ 0 (by rfl) rfl
        refine step_value (w' := x) (v := .pointer (some ⟨q.s, 0, none⟩)) ?_ (Grows.refl _) ?_
        · go_simp
        · rfl
      · intro a x hA
        have t5 := hA.at_ 5 (by rfl) rfl
        refine step_value (w' := x) (v := .int .i64 (mi : Int)) ?_ (Grows.refl _) ?_
        · go_simp
        · rfl
      · intro a x hA
        have t6 := hA.at_ 6 (by rfl) rfl
        refine step_value (w' := x) (v := .int .i64 (mp : Int)) ?_ (Grows.refl _) ?_
        · go_simp
        · rfl
      · intro a x hA
        have t3 := hA.at_ 3 (by rfl) rfl
        have hEx := bE.keep hA.grown
        have hc0 := hEx.cell (o := 0) rfl
        have hc1 := hEx.cell (o := 1) rfl
        have hc2 := hEx.cell (o := 2) rfl
        have hc3 := hEx.cell (o := 3) rfl
        have hc4 := hEx.cell (o := 4) rfl
        have hc5 := hEx.cell (o := 5) rfl
        have hc6 := hEx.cell (o := 6) rfl
        have hc7 := hEx.cell (o := 7) rfl
        clear hEx
        refine step_value (w' := x) (v := .agg #[.int .i64 od, .int .i64 ol, .int .i64 op, .int .i64 on, .bool orp, .slice av ob.length cv, .int .i64 os, lv]) ?_ (Grows.refl _) ?_
        · go_simp
        · rfl
      · intro a x hA
        have t24 : a.tmps[24]?.getD undef = .agg #[.int .i64 od, .int .i64 ol, .int .i64 op, .int .i64 on, .bool orp, .slice av ob.length cv, .int .i64 os, lv] := hA.dep_ ⟨3, .data⟩ (by simp) _ 24 rfl rfl
        have hbx := HV.out.keep hA.grown
        have hs := hA.grow.size
        refine step_call (f := 28) (args := #[.agg #[.int .i64 od, .int .i64 ol, .int .i64 op, .int .i64 on, .bool orp, .slice av ob.length cv, .int .i64 os, lv]]) (by clear hbx; go_simp) ((op_data _ ho.out _ lv hbx).mono ?_)
        rintro e w' ⟨v, rfl, ho9, hb9⟩
        exact ⟨v, rfl, hb9, by rw [← hDT.out]; exact ho9.mono hs⟩
      · intro a x hA
        have t3 := hA.at_ 3 (by rfl) rfl
        refine step_value (w' := x) (v := .pointer (some ⟨W.heap.size, 4, none⟩)) ?_ (Grows.refl _) ?_
        · go_simp
        · rfl
      · intro a x hA
        have t26 : a.tmps[26]?.getD undef = .pointer (some ⟨W.heap.size, 4, none⟩) := hA.dep_ ⟨5, .data⟩ (by simp) _ 26 rfl rfl
        have hEx := bE.keep hA.grown
        have hc0 := hEx.cell (o := 0) rfl
        have hc1 := hEx.cell (o := 1) rfl
        have hc2 := hEx.cell (o := 2) rfl
        have hc3 := hEx.cell (o := 3) rfl
        have hc4 := hEx.cell (o := 4) rfl
        have hc5 := hEx.cell (o := 5) rfl
        have hc6 := hEx.cell (o := 6) rfl
        have hc7 := hEx.cell (o := 7) rfl
        clear hEx
        refine step_value (w' := x) (v := .bool orp) ?_ (Grows.refl _) ?_
        · go_simp
        · rfl
    case rfin =>
      intro y W' hg hV
      simp only [List.take_succ_cons, List.take_zero, AllVals] at hV
      obtain ⟨u0, u1, u2, u3, u4, u5, u6, _⟩ := hV
      simp only [List.take_succ_cons, List.take_zero, List.drop_succ_cons, List.drop_zero, putAll, Act.put, List.setIfInBounds_toArray, List.set_cons_zero, List.set_cons_succ]
      rw [u0, u1, u2, u6]
      clear u0 u1 u2 u3 u5 u6
      have hbW : Below W.heap.size W W' := HR.out.2.trans (Below.mono (Below.trans (below_of_drewN _ W1 1) hg) HR.out.2.size)
      have r' := HR.out.1.keep (Below.trans (below_of_drewN _ W1 1) hg)
      clear hg
      generalize y 25 = dv at *
      obtain ⟨da, dc, rfl⟩ := u4.form
      have hdb := u4.bs
      have hdo := u4.blk
      clear u4
      by_cases hmuch : 65536 < DT.length
      · have hF := hid (show callF S D ⟨od, ol, op, on, orp, ob, os, oll⟩ = (6, S, D) by unfold callF; rw [if_pos hk0.out, hDT.out, if_pos hmuch])
        have hP := hid (store_Put_much r' (mi : Int) (mp : Int) da DT.length dc orp hmuch hDTl.out (by omega) (by omega) (by omega) (by omega))
        have HH := hid (And.intro r' hbW)
        clear r' hbW hdb hdo
        go_wp2_with fail
        refine hP.out.mono ?_
        rintro e w9 ⟨rfl, b9⟩
        go_wp2_with fail
        refine (law_num _ _).mono ?_
        rintro e w' ⟨rfl, rfl⟩
        go_wp2_with fail
        go_ret
        rw [hF.out]
        exact ⟨rfl, ⟨q, HH.out.1.keep b9, Went.refl _ _⟩, Ext.ofBelow (HH.out.2.trans (b9.mono HH.out.2.size))⟩
      · have hF := hid (show callF S D ⟨od, ol, op, on, orp, ob, os, oll⟩ = putF S D (mi : Int) (mp : Int) DT orp by unfold callF; rw [if_pos hk0.out, hDT.out, if_neg hmuch, hip.out.1, hip.out.2])
        have hP := hid (store_Put r' Hon.out (mi : Int) (mp : Int) _ DT orp hdb (fun g hg hq => by
          have h1 := (hdo g hg).1
          have h2 := HR.out.1.size hq
          omega) (by omega) (by omega) (by omega) (by omega) (by omega))
        have HH := hid hbW
        clear r' hbW hdb hdo
        go_wp2_with fail
        refine hP.out.mono ?_
        rintro e w9 hpost
        have HQ := hid hpost.2
        obtain ⟨rfl, _⟩ := hpost
        go_wp2_with fail
        refine (law_num _ _).mono ?_
        rintro e w' ⟨rfl, rfl⟩
        go_wp2_with fail
        go_ret
        rw [hF.out]
        obtain ⟨⟨q', a1, a2⟩, a3⟩ := HQ.out
        exact ⟨rfl, ⟨q', a1, a2.le HH.out.size⟩, (Ext.ofBelow HH.out : Ext q.own W W').trans' a3⟩

  · have hk0 := hid hk
    have hkb : (od == 0) = false := beq_eq_false_iff_ne.2 hk
    clear hk
    by_cases hk1 : od = 1
    · have hkb1 : (od == 1) = true := beq_iff_eq.2 hk1
      have hF := hid (show callF S D ⟨od, ol, op, on, orp, ob, os, oll⟩ = sealF S D (mi : Int) by unfold callF; rw [if_neg hk0.out, if_pos hk1, hip.out.1])
      have hP := hid (store_Seal HR.out.1 Hon.out (mi : Int) (by omega) (by omega))
      clear hk1
      go_wp2_with fail
      refine hP.out.mono ?_
      rintro e w9 hpost
      have HQ := hid hpost.2
      obtain ⟨rfl, _⟩ := hpost
      go_wp2_with fail
      refine (law_num _ _).mono ?_
      rintro e w' ⟨rfl, rfl⟩
      go_wp2_with fail
      go_ret
      rw [hF.out]
      obtain ⟨⟨q', a1, a2⟩, a3⟩ := HQ.out
      exact ⟨rfl, ⟨q', a1, a2.le HR.out.2.size⟩, (Ext.ofBelow HR.out.2 : Ext q.own W _).trans' a3⟩
    have hk1' := hid hk1
    have hkb1 : (od == 1) = false := beq_eq_false_iff_ne.2 hk1
    clear hk1
    by_cases hk2 : od = 2
    · have hkb2 : (od == 2) = true := beq_iff_eq.2 hk2
      have hF := hid (show callF S D ⟨od, ol, op, on, orp, ob, os, oll⟩ = trimF S D (mi : Int) (mp : Int) by unfold callF; rw [if_neg hk0.out, if_neg hk1'.out, if_pos hk2, hip.out.1, hip.out.2])
      have hP := hid (store_Trim HR.out.1 Hon.out (mi : Int) (mp : Int) (by omega) (by omega) (by omega) (by omega))
      clear hk2
      go_wp2_with fail
      refine hP.out.mono ?_
      rintro e w9 hpost
      have HQ := hid hpost.2
      obtain ⟨rfl, _⟩ := hpost
      go_wp2_with fail
      refine (law_num _ _).mono ?_
      rintro e w' ⟨rfl, rfl⟩
      go_wp2_with fail
      go_ret
      rw [hF.out]
      obtain ⟨⟨q', a1, a2⟩, a3⟩ := HQ.out
      exact ⟨rfl, ⟨q', a1, a2.le HR.out.2.size⟩, (Ext.ofBelow HR.out.2 : Ext q.own W _).trans' a3⟩
    · have hF := hid (show callF S D ⟨od, ol, op, on, orp, ob, os, oll⟩ = (99, S, D) by unfold callF; rw [if_neg hk0.out, if_neg hk1'.out, if_neg hk2])
      have hkb2 : (od == 2) = false := beq_eq_false_iff_ne.2 hk2
      clear hk2
      go_wp2_with fail
      go_ret
      rw [hF.out]
      exact ⟨rfl, ⟨q, HR.out.1, Went.refl _ _⟩, Ext.ofBelow HR.out.2⟩
end

theorem run_call {B : Nat} {W : World} {q : StP} {S : St} {D : Dk} (r : Run B W q S D) (hB : B ≤ W.heap.size) (o : Opr) (ho0 : OprOk o) (bv lv : Value) (hb : BsW W bv o.b) :
    Calls Try.prog 10 #[.pointer (some ⟨q.s, 0, none⟩), o.val bv lv] W fun e w' => e = .returned (.int .i64 (callF S D o).1) ∧ (∃ q', Run B w' q' (callF S D o).2.1 (callF S D o).2.2 ∧ q'.s = q.s) ∧ Below B W w' := by
  refine (law_call r.at_ r.on o ho0 bv lv hb).mono ?_
  rintro e w' ⟨rfl, ⟨q', h1, h2⟩, hx⟩
  exact ⟨rfl, ⟨q', r.went hB h1 h2 (callF_on r.on o), h2.1⟩, r.below hB hx⟩

end Go.Proofs.Ytpkaepmmkojdaaa
