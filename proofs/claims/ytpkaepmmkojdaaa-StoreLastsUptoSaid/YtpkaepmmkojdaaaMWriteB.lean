import Derived.Test.YtpkaepmmkojdaaaMDiskB
import Derived.Test.YtpkaepmmkojdaaaTail
import Derived.Test.YtpkaepmmkojdaaaBlocks
import Derived.Great.BuildSlice
import Derived.BigQuiet
/-! Package disk, on: Write. -/
namespace Go.Proofs.Ytpkaepmmkojdaaa
open Go.RowKit

theorem size_text : (Try.prog.info? 78).map (·.size) = some 256 := by kernel_rfl

theorem run_arrayAt (g o c : Nat) (w : World) : (Instr.arrayAt 78 (.slice (some ⟨g, o, none⟩) 256 c)).run Try.prog w = .ok (.pointer (some ⟨g, o, none⟩)) w := by
  simp [Instr.arrayAt, run_underlying Try.underlying78, Result.andThen]

theorem run_build_text (cs : List Value) (h : cs.length = 256) (w : World) : (Instr.buildSlice 51 1 #[(0, .agg cs.toArray)]).run Try.prog w = .ok (.slice (some ⟨w.heap.size, 0, none⟩) 1 1) (w.alloc (.cells cs.toArray 78)) := by
  obtain ⟨i0, hi, he⟩ := Option.map_eq_some_iff.1 info_text
  simp only [Prod.mk.injEq, Option.map_eq_some_iff] at he
  obtain ⟨⟨z, hz, hzc⟩, hs, hb⟩ := he
  obtain ⟨r, hr, hsz, hk⟩ := Great.fill_dense (s := 256) (by decide) [.agg cs.toArray] 0 ((Array.range 256).map (z.cells[· % z.cells.size]!)) (fun v hv => by simp at hv; subst hv; simp [Value.cells, h]) (by simp)
  have hrc : r = cs.toArray := by
    apply Array.ext_getElem?
    intro k
    rw [hk k]
    by_cases hlt : k < 256
    · rw [if_pos (by simp; omega)]
      have h0 : k / 256 = 0 := by omega
      have h1 : k % 256 = k := by omega
      simp [h0, h1, Value.cells]
    · rw [if_neg (by simp; omega)]
      simp [hlt, h]
  subst hrc
  refine run_buildSlice w _ _ 1 _ cs.toArray i0 z Try.underlying51 hi hz (by rw [hs]; decide) (by rw [hs]; decide) ?_
  rw [hs]
  simpa using hr

theorem exec_load {P : Program} {o : Oper} {ev : Operand → Value} {x : Operand} {ty : TypeId} {w w' : World} {v : Value} (ho : o.op = .load ty x) (hr : (Instr.loadAt ty (ev x)).run P w = .ok v w') : (execOp ev o).run P w = .ok (.value v) w' := by
  unfold execOp
  simp only [ho, Sem.run_bind, Sem.run_pure, Result.andThen_ok, hr]
theorem exec_store {P : Program} {o : Oper} {ev : Operand → Value} {x y : Operand} {ty : TypeId} {w w' : World} (ho : o.op = .store ty x y) (hr : (Instr.storeAt ty (ev x) (ev y)).run P w = .ok () w') : (execOp ev o).run P w = .ok .skip w' := by
  unfold execOp
  simp only [ho, Sem.run_bind, Sem.run_pure, Result.andThen_ok, hr]
theorem exec_buildSlice {P : Program} {o : Oper} {ev : Operand → Value} {n : Nat} {parts : Array (Nat × Operand)} {ty : TypeId} {w w' : World} {v : Value} (ho : o.op = .buildSlice ty n parts) (hr : (Instr.buildSlice ty n (parts.map fun (i, x) => (i, ev x))).run P w = .ok v w') : (execOp ev o).run P w = .ok (.value v) w' := by
  unfold execOp
  simp only [ho, Sem.run_bind, Sem.run_pure, Result.andThen_ok, hr]
theorem exec_mapUpdate {P : Program} {o : Oper} {ev : Operand → Value} {m k x : Operand} {ty : TypeId} {w w' : World} (ho : o.op = .mapUpdate ty m k x) (hr : (Instr.mapUpdate ty (ev m) (ev k) (ev x)).run P w = .ok () w') : (execOp ev o).run P w = .ok .skip w' := by
  unfold execOp
  simp only [ho, Sem.run_bind, Sem.run_pure, Result.andThen_ok, hr]
theorem wpList_skip {P : Program} {ops : Array Oper} {rest : List Oper} {o : Oper} {a : Act} {w w' : World} {Q : Exit → Act → World → Prop} (hg : o.guard = none) (hr : (execOp a.eval o).run P w = .ok .skip w') (h : wpList P ops Q rest (a.put o.dst undef) w') : wpList P ops Q (o :: rest) a w := by
  refine wpList_plain hg fun K hK => ?_
  unfold Oper.wp
  rw [hr]
  exact hK _ _ h
theorem wpList_val {P : Program} {ops : Array Oper} {rest : List Oper} {o : Oper} {a : Act} {w w' : World} {v : Value} {Q : Exit → Act → World → Prop} (hg : o.guard = none) (hr : (execOp a.eval o).run P w = .ok (.value v) w') (h : wpList P ops Q rest (a.put o.dst v) w') : wpList P ops Q (o :: rest) a w := by
  refine wpList_plain hg fun K hK => ?_
  unfold Oper.wp
  rw [hr]
  exact hK _ _ h

/-- A version that lies in a block from B on. -/
def VerFrom (W : World) (B : Nat) (v : Value) (t : List UInt8) : Prop := ∃ g c, v = .slice (some ⟨g, 0, none⟩) 1 c ∧ 1 ≤ c ∧ B ≤ g ∧ W.rangeAt g 0 (t.map bv)
theorem VerFrom.keep {W W' : World} {B : Nat} {v : Value} {t : List UInt8} (h : VerFrom W B v t) (he : Below W.heap.size W W') : VerFrom W' B v t := by
  obtain ⟨g, c, rfl, h1, h2, h3⟩ := h
  exact ⟨g, c, rfl, h1, h2, rangeAt_ext (fp := nofp) h3 (Ext.ofBelow he) id⟩

def Dk.write (D : Dk) (i : Int) (t : List UInt8) : Dk := { D with vers := fun k => if k = i then some t else D.vers k }

theorem DkAt.wrote {W W' : World} {p : DkP} {D : Dk} (h : DkAt W p D) {i : Int} {t : List UInt8} {v : Value} (hi : 0 ≤ i) (hi2 : i < D.texts.length) (ht : t.length = 256) {es : List (Ent Int)} {c : Nat} (hm : MapAt W p.mv encI es c) (hno : mhas es i = false)
    (hr : ∀ k, (D.vers k).isSome = mhas es k) (hv : ∀ e ∈ es, ∃ t, D.vers e.k = some t ∧ VerAt W p.V e.v t ∧ 0 ≤ e.k ∧ e.k < D.texts.length ∧ t.length = 256)
    (hm' : MapAt W' p.mv encI (mput es i v c) (mclock es i c)) (V' : Nat → Prop) (hver : VerAt W' V' v t) (hV : ∀ b, p.V b → V' b) (B : Nat) (hB : p.d < B ∧ p.gt < B ∧ p.mb < B ∧ p.mv < B) (hV' : ∀ b, V' b → p.V b ∨ B ≤ b) (hV'' : ∀ b, V' b → b < W'.heap.size) (he : Ext (fun b => b = p.mv) W W') : DkAt W' { p with V := V' } (D.write i t) where
  cell := h.cell.ext he h.ne.2.2.1
  rows := fun j u hu => rangeAt_ext (h.rows j u hu) he h.ne.2.2.2.2.1
  free := fun o => by rw [frozen_ext he h.base.2.1 h.ne.2.2.2.2.1]; exact h.free o
  lens := h.lens
  pos := h.pos
  most := h.most
  bads := by obtain ⟨es, c, hm, hr⟩ := h.bads; exact ⟨es, c, hm.ext he h.ne.2.2.2.2.2, hr⟩
  vers := by
    have hput : mput es i v c = es ++ [⟨i, v, c⟩] := by simp [mput, hno]
    rw [hput] at hm'
    refine ⟨_, _, hm', fun k => ?_, fun e he' => ?_⟩
    · by_cases hk : k = i
      · subst hk
        simp [Dk.write, mhas]
      · simp only [Dk.write, hk, if_false]
        rw [hr k]
        simp [mhas, hk]
    · rw [List.mem_append] at he'
      rcases he' with he' | he'
      · obtain ⟨u, q1, q2, q3⟩ := hv e he'
        have hne : e.k ≠ i := fun heq => by
          have : mhas es i = true := List.any_eq_true.2 ⟨e, he', by simp [heq]⟩
          rw [hno] at this
          cases this
        obtain ⟨g, cc, e0, e1, e2, e3⟩ := q2.ext he (fun b hb => by rw [hb]; exact h.low.2.2.2)
        exact ⟨u, by simp only [Dk.write, hne, if_false]; exact q1, ⟨g, cc, e0, e1, hV g e2, e3⟩, q3⟩
      · simp only [List.mem_singleton] at he'
        subst he'
        exact ⟨t, by simp [Dk.write], hver, hi, hi2, ht⟩
  ne := h.ne
  low := by
    have hb := h.base
    have hl := h.low
    refine ⟨fun hc => ?_, fun hc => ?_, fun hc => ?_, fun hc => ?_⟩
    · exact (hV' _ hc).elim hl.1 (fun h => absurd h (Nat.not_le.2 hB.1))
    · exact (hV' _ hc).elim hl.2.1 (fun h => absurd h (Nat.not_le.2 hB.2.1))
    · exact (hV' _ hc).elim hl.2.2.1 (fun h => absurd h (Nat.not_le.2 hB.2.2.1))
    · exact (hV' _ hc).elim hl.2.2.2 (fun h => absurd h (Nat.not_le.2 hB.2.2.2))
  base := ⟨Nat.lt_of_lt_of_le h.base.1 he.size, Nat.lt_of_lt_of_le h.base.2.1 he.size, Nat.lt_of_lt_of_le h.base.2.2.1 he.size, Nat.lt_of_lt_of_le h.base.2.2.2.1 he.size, hV''⟩
  fuse := h.fuse

section
variable {W : World} {p : DkP} {D : Dk}

set_option maxRecDepth 100000 in
set_option maxHeartbeats 1600000 in
theorem disk_Write1 (h : DkAt W p D) (ix : Int) (v : Value) (l : List UInt8) (db ib vb : Nat) (bD : Blk W db #[.pointer (some ⟨p.d, 0, none⟩)] 23) (bI : Blk W ib #[.int .i64 ix] 3) (bV : Blk W vb #[v] 40)
    (hv : Bs W v l) (hl : l.length = 256) (hi : 0 ≤ ix) (hi2 : ix < D.texts.length) (hno' : D.vers ix = none) :
    Calls Try.prog 40 #[.pointer (some ⟨db, 0, none⟩), .pointer (some ⟨ib, 0, none⟩), .pointer (some ⟨vb, 0, none⟩)] W fun e w' => (∃ v, e = .returned v) ∧ (∃ V', DkAt w' { p with V := V' } (D.write ix l) ∧ ∀ b, V' b → p.V b ∨ W.heap.size ≤ b) ∧ Ext (fun b => b = p.mv) W w' := by
  obtain ⟨es, c, hmv, hes, hev⟩ := h.vers
  have hno : mhas es ix = false := by rw [← hes ix, hno']; rfl
  obtain ⟨B0, hB0⟩ : ∃ B0, B0 = W.heap.size := ⟨_, rfl⟩
  have HB0 := hid (Nat.le_of_eq hB0)
  rcases hv.cases with ⟨rfl, h0⟩ | ⟨gv, ov, cv, rfl, hcv, _, hcl⟩ | ⟨h0, _⟩
  · rw [h0] at hl; cases hl
  rotate_left
  · rw [h0] at hl; cases hl
  rw [hl] at bV
  have hvr : W.rangeAt gv ov (l.map bv) := fun j u hu => by
    simp only [List.getElem?_map, Option.map_eq_some_iff] at hu
    obtain ⟨b, hb, rfl⟩ := hu
    exact hcl j b hb
  clear hv hcl hcv
  go_enter Try.func40, Try.ntmps40
  go_wp2_with fail
  refine wp_region_tail 16 rfl Grows (fun i v x => match i with
      | 0 => v = .pointer (some ⟨p.d, 0, none⟩)
      | 1 => v = .pointer (some ⟨p.d, 0, none⟩)
      | 2 => v = .pointer (some ⟨p.d, 2, none⟩)
      | 3 => v = .map (some p.mv)
      | 4 => v = .int .i64 ix
      | 5 => v = .pointer (some ⟨p.d, 0, none⟩)
      | 6 => v = .pointer (some ⟨p.d, 0, none⟩)
      | 7 => v = .pointer (some ⟨p.d, 2, none⟩)
      | 8 => v = .map (some p.mv)
      | 9 => v = .int .i64 ix
      | 10 => v = .slice none 0 0
      | 11 => v = .slice (some ⟨gv, ov, none⟩) 256 cv
      | 12 => v = .pointer (some ⟨gv, ov, none⟩)
      | 13 => v = .agg (l.map bv).toArray
      | 14 => ∃ g, v = .slice (some ⟨g, 0, none⟩) 1 1 ∧ x.rangeAt g 0 (l.map bv)
      | 15 => VerFrom x B0 v l
      | _ => True) (by kernel_rfl) (Grows.refl _) Grows.trans ?stab ?steps ?fin
  case stab =>
    intro i v x y hg h
    match i with
    | 0 | 1 | 2 | 3 | 4 | 5 | 6 | 7 | 8 | 9 | 10 | 11 | 12 | 13 => exact h
    | 14 => exact (by obtain ⟨g, e, hb⟩ := h; exact ⟨g, e, rangeAt_ext hb (Ext.ofBelow (fp := nofp) hg) id⟩)
    | 15 => exact VerFrom.keep h hg
    | n + 16 => trivial
  case steps =>
    simp only [List.take_succ_cons, List.take_zero]
    refine ⟨?_, ?_, ?_, ?_, ?_, ?_, ?_, ?_, ?_, ?_, ?_, ?_, ?_, ?_, ?_, ?_, trivial⟩
    · intro a x hA
      have t0 := hA.at_ 0 (by rfl) rfl
      have cD := (bD.keep hA.grown).cell (o := 0) rfl
      have cI := (bI.keep hA.grown).cell (o := 0) rfl
      have cV := (bV.keep hA.grown).cell (o := 0) rfl
      have c2 := (h.keep hA.grown).cell.cell (o := 2) rfl
      refine step_value (w' := x) (v := .pointer (some ⟨p.d, 0, none⟩)) ?_ (Grows.refl _) ?_
      · go_simp
      · rfl
    · intro a x hA
      have t3 : a.tmps[3]?.getD undef = .pointer (some ⟨p.d, 0, none⟩) := hA.dep_ ⟨0, .data⟩ (by simp) _ 3 rfl rfl
      refine step_value (w' := x) (v := .pointer (some ⟨p.d, 0, none⟩)) ?_ (Grows.refl _) ?_
      · go_simp
      · rfl
    · intro a x hA
      have t4 : a.tmps[4]?.getD undef = .pointer (some ⟨p.d, 0, none⟩) := hA.dep_ ⟨1, .data⟩ (by simp) _ 4 rfl rfl
      refine step_value (w' := x) (v := .pointer (some ⟨p.d, 2, none⟩)) ?_ (Grows.refl _) ?_
      · go_simp
      · rfl
    · intro a x hA
      have t5 : a.tmps[5]?.getD undef = .pointer (some ⟨p.d, 2, none⟩) := hA.dep_ ⟨2, .data⟩ (by simp) _ 5 rfl rfl
      have cD := (bD.keep hA.grown).cell (o := 0) rfl
      have cI := (bI.keep hA.grown).cell (o := 0) rfl
      have cV := (bV.keep hA.grown).cell (o := 0) rfl
      have c2 := (h.keep hA.grown).cell.cell (o := 2) rfl
      refine step_value (w' := x) (v := .map (some p.mv)) ?_ (Grows.refl _) ?_
      · go_simp
      · rfl
    · intro a x hA
      have t1 := hA.at_ 1 (by rfl) rfl
      have cD := (bD.keep hA.grown).cell (o := 0) rfl
      have cI := (bI.keep hA.grown).cell (o := 0) rfl
      have cV := (bV.keep hA.grown).cell (o := 0) rfl
      have c2 := (h.keep hA.grown).cell.cell (o := 2) rfl
      refine step_value (w' := x) (v := .int .i64 ix) ?_ (Grows.refl _) ?_
      · go_simp
      · rfl
    · intro a x hA
      have t0 := hA.at_ 0 (by rfl) rfl
      have cD := (bD.keep hA.grown).cell (o := 0) rfl
      have cI := (bI.keep hA.grown).cell (o := 0) rfl
      have cV := (bV.keep hA.grown).cell (o := 0) rfl
      have c2 := (h.keep hA.grown).cell.cell (o := 2) rfl
      refine step_value (w' := x) (v := .pointer (some ⟨p.d, 0, none⟩)) ?_ (Grows.refl _) ?_
      · go_simp
      · rfl
    · intro a x hA
      have t8 : a.tmps[8]?.getD undef = .pointer (some ⟨p.d, 0, none⟩) := hA.dep_ ⟨5, .data⟩ (by simp) _ 8 rfl rfl
      refine step_value (w' := x) (v := .pointer (some ⟨p.d, 0, none⟩)) ?_ (Grows.refl _) ?_
      · go_simp
      · rfl
    · intro a x hA
      have t9 : a.tmps[9]?.getD undef = .pointer (some ⟨p.d, 0, none⟩) := hA.dep_ ⟨6, .data⟩ (by simp) _ 9 rfl rfl
      refine step_value (w' := x) (v := .pointer (some ⟨p.d, 2, none⟩)) ?_ (Grows.refl _) ?_
      · go_simp
      · rfl
    · intro a x hA
      have t10 : a.tmps[10]?.getD undef = .pointer (some ⟨p.d, 2, none⟩) := hA.dep_ ⟨7, .data⟩ (by simp) _ 10 rfl rfl
      have cD := (bD.keep hA.grown).cell (o := 0) rfl
      have cI := (bI.keep hA.grown).cell (o := 0) rfl
      have cV := (bV.keep hA.grown).cell (o := 0) rfl
      have c2 := (h.keep hA.grown).cell.cell (o := 2) rfl
      refine step_value (w' := x) (v := .map (some p.mv)) ?_ (Grows.refl _) ?_
      · go_simp
      · rfl
    · intro a x hA
      have t1 := hA.at_ 1 (by rfl) rfl
      have cD := (bD.keep hA.grown).cell (o := 0) rfl
      have cI := (bI.keep hA.grown).cell (o := 0) rfl
      have cV := (bV.keep hA.grown).cell (o := 0) rfl
      have c2 := (h.keep hA.grown).cell.cell (o := 2) rfl
      refine step_value (w' := x) (v := .int .i64 ix) ?_ (Grows.refl _) ?_
      · go_simp
      · rfl
    · intro a x hA
      have t11 : a.tmps[11]?.getD undef = .map (some p.mv) := hA.dep_ ⟨8, .data⟩ (by simp) _ 11 rfl rfl
      have t12 : a.tmps[12]?.getD undef = .int .i64 ix := hA.dep_ ⟨9, .data⟩ (by simp) _ 12 rfl rfl
      have cD := (bD.keep hA.grown).cell (o := 0) rfl
      have cI := (bI.keep hA.grown).cell (o := 0) rfl
      have cV := (bV.keep hA.grown).cell (o := 0) rfl
      have c2 := (h.keep hA.grown).cell.cell (o := 2) rfl
      have hlk := run_lookup_raw (keyLaw_int Try.underlying3) (hmv.keep hA.grown) Try.underlying53 ix (z := .slice none 0 0) (fun w => by kernel_rfl) false
      rw [mget_none hno] at hlk
      simp only [Bool.false_eq_true, if_false, Option.getD_none, encI] at hlk
      refine step_value (w' := x) (v := .slice none 0 0) ?_ (Grows.refl _) ?_
      · go_simp
      · rfl
    · intro a x hA
      have t2 := hA.at_ 2 (by rfl) rfl
      have cD := (bD.keep hA.grown).cell (o := 0) rfl
      have cI := (bI.keep hA.grown).cell (o := 0) rfl
      have cV := (bV.keep hA.grown).cell (o := 0) rfl
      have c2 := (h.keep hA.grown).cell.cell (o := 2) rfl
      refine step_value (w' := x) (v := .slice (some ⟨gv, ov, none⟩) 256 cv) ?_ (Grows.refl _) ?_
      · go_simp
      · rfl
    · intro a x hA
      have t14 : a.tmps[14]?.getD undef = .slice (some ⟨gv, ov, none⟩) 256 cv := hA.dep_ ⟨11, .data⟩ (by simp) _ 14 rfl rfl
      have cD := (bD.keep hA.grown).cell (o := 0) rfl
      have cI := (bI.keep hA.grown).cell (o := 0) rfl
      have cV := (bV.keep hA.grown).cell (o := 0) rfl
      have c2 := (h.keep hA.grown).cell.cell (o := 2) rfl
      have har := run_arrayAt gv ov cv x
      refine step_value (w' := x) (v := .pointer (some ⟨gv, ov, none⟩)) ?_ (Grows.refl _) ?_
      · go_simp
      · rfl
    · intro a x hA
      have t15 : a.tmps[15]?.getD undef = .pointer (some ⟨gv, ov, none⟩) := hA.dep_ ⟨12, .data⟩ (by simp) _ 15 rfl rfl
      have cD := (bD.keep hA.grown).cell (o := 0) rfl
      have cI := (bI.keep hA.grown).cell (o := 0) rfl
      have cV := (bV.keep hA.grown).cell (o := 0) rfl
      have c2 := (h.keep hA.grown).cell.cell (o := 2) rfl
      have hra : x.rangeAt gv ov (l.map bv) := rangeAt_ext hvr (Ext.ofBelow (fp := nofp) hA.grown) id
      have hld := run_loadAt_mid (P := Try.prog) x gv ov 78 (l.map bv) _ hra Try.underlying78 rfl (by rw [List.length_map, hl]; exact size_text)
      refine step_value (w' := x) (v := .agg (l.map bv).toArray) (exec_load rfl (by
        have e15 : a.eval (.tmp 15) = .pointer (some ⟨gv, ov, none⟩) := by simp [go_sem, t15]
        rw [e15]; exact hld)) (Grows.refl _) ?_
      rfl
    · intro a x hA
      have t16 : a.tmps[16]?.getD undef = .agg (l.map bv).toArray := hA.dep_ ⟨13, .data⟩ (by simp) _ 16 rfl rfl
      have hbs := run_build_text (l.map bv) (by simp [hl]) x
      refine step_value (w' := x.alloc (.cells (l.map bv).toArray 78)) (v := .slice (some ⟨x.heap.size, 0, none⟩) 1 1) (exec_buildSlice rfl (by
        have e16 : a.eval (.tmp 16) = .agg (l.map bv).toArray := by simp [go_sem, t16]
        rw [List.map_toArray, List.map_cons, List.map_nil]
        simp only [e16]
        exact hbs)) (Grows.alloc _ _) ?_
      · exact ⟨_, rfl, fun j v hv => (Blk.new x _ _).cell (by simpa using hv)⟩
    · intro a x hA
      have t13 : a.tmps[13]?.getD undef = .slice none 0 0 := hA.dep_ ⟨10, .data⟩ (by simp) _ 13 rfl rfl
      have t17 : ∃ g, (a.tmps[17]?.getD undef) = .slice (some ⟨g, 0, none⟩) 1 1 ∧ x.rangeAt g 0 (l.map bv) := hA.dep_ ⟨14, .data⟩ (by simp) _ 17 rfl rfl
      obtain ⟨g, e17, hra⟩ := t17
      obtain ⟨i0, hi, he⟩ := Option.map_eq_some_iff.1 info_text
      simp only [Prod.mk.injEq, Option.map_eq_some_iff] at he
      obtain ⟨⟨z, hz, hzc⟩, hs, hb⟩ := he
      have hsx : W.heap.size ≤ x.heap.size := hA.grown.size
      obtain ⟨v', w', hr, q1, q2, _⟩ := run_append_own (P := Try.prog) x x.heap.size 51 51 78 i0 z 256 256 Try.underlying51 hi hz hs hb (by rw [hzc]; simp) (by decide) (.slice none 0 0) 0 [] (World.ownsRow_nil x _ _ _)
        ⟨g, 0, none⟩ 1 1 (l.map bv) (by simp [hl]) (fun j u hu => by rw [Addr.add_lit]; exact hra j u hu) (fun u hu => by
          simp only [List.mem_map] at hu
          obtain ⟨b, _, rfl⟩ := hu
          rfl) (by simp [maxLen]) (by simp) (Nat.le_refl _)
      refine step_value (w' := w') (v := v') (exec_append rfl (by
        have e13 : a.eval (.tmp 13) = .slice none 0 0 := by simp [go_sem, t13]
        have e17' : a.eval (.tmp 17) = .slice (some ⟨g, 0, none⟩) 1 1 := by simp [go_sem, e17]
        rw [e13, e17']; exact hr)) ⟨q2.os, q2.tape, q2.output, q2.size, fun k hk => q2.block k hk (by simp [Value.ownBlock])⟩ ?_
      rcases q1.2 with ⟨_, h0⟩ | ⟨g', cap, cur, rfl, hb', hg', hn', _, hsz, htk⟩
      · simp at h0
      · refine ⟨g', cap, rfl, hn', by have := HB0.out; omega, fun j v hv => ?_⟩
        have hv2 : (List.take (256) cur.toList)[j]? = some v := by simpa [htk] using hv
        rw [List.getElem?_take] at hv2
        split at hv2
        · simp only [Nat.zero_add]
          simp [World.cell?, hg']
          simpa using hv2
        · cases hv2
  case fin =>
    intro y W' hg hV
    simp only [List.take_succ_cons, List.take_zero, AllVals] at hV
    obtain ⟨u0, u1, u2, u3, u4, u5, u6, u7, u8, u9, u10, u11, u12, u13, u14, u15, _⟩ := hV
    simp only [List.take_succ_cons, List.take_zero, List.drop_succ_cons, List.drop_zero, putAll, Act.put, List.setIfInBounds_toArray, List.set_cons_zero, List.set_cons_succ]
    have hgb : Below W.heap.size W W' := ⟨hg.os, hg.tape, hg.output, hg.size, hg.block⟩
    obtain ⟨w2, hr2, hm2, hx2⟩ := run_update_raw (keyLaw_int Try.underlying3) (hmv.keep hgb) Try.underlying53 ix (y 18)
    rw [u3, u4]
    refine wpList_skip rfl (exec_mapUpdate rfl (w' := w2) (by simpa [go_sem, encI] using hr2)) ?_
    obtain ⟨gN, cN, e18, l18, n18, r18⟩ := u15
    have hxx0 := hx2.size
    have hgm : gN ≠ p.mv := by have := h.base.2.2.2.1; omega
    have r18' := rangeAt_ext r18 hx2 hgm
    have hD := DkAt.wrote (h.keep hgb) hi hi2 hl (hmv.keep hgb) hno hes (fun e he => by
      obtain ⟨t, q1, q2, q3⟩ := hev e he
      exact ⟨t, q1, q2.ext (fp := nofp) (Ext.ofBelow hgb) (fun _ h => h.elim), q3⟩) hm2 (fun b => p.V b ∨ b = gN) ⟨gN, cN, e18, l18, .inr rfl, r18'⟩ (fun b hb => .inl hb) W.heap.size ⟨h.base.1, h.base.2.1, h.base.2.2.1, h.base.2.2.2.1⟩ (fun b hb => by
        rcases hb with hb | rfl
        · exact .inl hb
        · exact .inr (by omega)) (fun b hb => by
        rcases hb with hb | rfl
        · have := h.base.2.2.2.2 b hb
          have := hgb.size
          omega
        · have := r18' 0 (bv (l[0]'(by omega))) (by rw [List.getElem?_map, List.getElem?_eq_getElem (by omega)]; rfl)
          exact World.block_lt_of_cell? _ _ this) hx2
    have hxx : Ext (fun b => b = p.mv) W w2 := (Ext.ofBelow hgb).trans' hx2
    have hgN : W.heap.size ≤ gN := by omega
    clear u0 u1 u2 u3 u4 u5 u6 u7 u8 u9 u10 u11 u12 u13 u14 hr2 hm2 hx2
    go_wp2
    go_end0
    exact ⟨⟨_, rfl⟩, ⟨_, hD, fun b hb => by
      rcases hb with hb | rfl
      · exact .inl hb
      · exact .inr (by omega)⟩, hxx⟩

end

end Go.Proofs.Ytpkaepmmkojdaaa

/-! Package disk, on: Write. -/
namespace Go.Proofs.Ytpkaepmmkojdaaa
open Go.RowKit

section
variable {W : World} {p : DkP} {D : Dk}

set_option maxRecDepth 100000 in
set_option maxHeartbeats 1600000 in
theorem disk_Write (h : DkAt W p D) (hg : D.goes = true) (ix : Int) (v : Value) (l : List UInt8) (hv : Bs W v l) (hvd : v.ownBlock ≠ some p.d) (hl : l.length = 256) (hi : 0 ≤ ix) (hi2 : ix < D.texts.length) (hno : D.vers ix = none) :
    Calls Try.prog 19 #[.pointer (some ⟨p.d, 0, none⟩), .int .i64 ix, v] W fun e w' => e = .returned (.int .i64 0) ∧ (∃ V', DkAt w' { p with V := V' } (D.spent.write ix l) ∧ ∀ b, V' b → p.V b ∨ W.heap.size ≤ b) ∧ Ext (fun b => b = p.d ∨ b = p.mv) W w' := by
  obtain ⟨av, cv, rfl⟩ := hv.form
  rw [hl] at hv hvd ⊢
  obtain ⟨W1, hW1⟩ : ∃ W1, ((W.alloc (.cells #[.pointer (some ⟨p.d, 0, none⟩)] 23)).alloc (.cells #[.int .i64 ix] 3)).alloc (.cells #[.slice av 256 cv] 40) = W1 := ⟨_, rfl⟩
  have b1 : Below W.heap.size W W1 := by rw [← hW1]; exact (((Below.refl _ W).alloc (Nat.le_refl _) _).alloc (by simp) _).alloc (by simp; omega) _
  have q0 : Blk W1 W.heap.size #[.pointer (some ⟨p.d, 0, none⟩)] 23 := by rw [← hW1]; exact ((Blk.new W _ _).alloc _).alloc _
  have q1 : Blk W1 (W.heap.size + 1) #[.int .i64 ix] 3 := by rw [← hW1]; exact (Blk.new' _ _ (by simp) _ _).alloc _
  have q2 : Blk W1 (W.heap.size + 2) #[.slice av 256 cv] 40 := by rw [← hW1]; exact Blk.new' _ _ (by simp) _ _
  have c0 := q0.cell (o := 0) rfl
  have c1 := q1.cell (o := 0) rfl
  have c2 := q2.cell (o := 0) rfl
  have cd := (h.keep b1).cell.cell (o := 0) rfl
  have hd1 : decide (ix < 0) = false := by simp; omega
  have hd2 : decide (ix ≥ (D.texts.length : Int)) = false := by simp; omega
  go_enter Try.func19, Try.ntmps19
  go_wp2_with fail
  go_quiet ((go_at_call 25; exact Calls.quiet_of_same (disk_none ((h.keep b1).keep (below_of_drewN _ _ _)))))
  have e1 := (Ext.ofBelow (fp := fun b => b = p.d ∨ b = p.mv) b1).drewN nq
  have cd0 : (W1.drewN nq).cell? ⟨W.heap.size, 0, none⟩ = some (.pointer (some ⟨p.d, 0, none⟩)) := c0
  have hN : DkAt (W1.drewN nq) p D := (h.keep b1).keep (below_of_drewN _ _ _)
  have q0' : Blk (W1.drewN nq) W.heap.size #[.pointer (some ⟨p.d, 0, none⟩)] 23 := q0
  have q1' : Blk (W1.drewN nq) (W.heap.size + 1) #[.int .i64 ix] 3 := q1
  have q2' : Blk (W1.drewN nq) (W.heap.size + 2) #[.slice av 256 cv] 40 := q2
  have hop := disk_operation hN hg 40 #[.pointer (some ⟨W.heap.size, 0, none⟩), .pointer (some ⟨W.heap.size + 1, 0, none⟩), .pointer (some ⟨W.heap.size + 1 + 1, 0, none⟩)] (fun args w => rfl)
    (fun w' => (∃ V', DkAt w' { p with V := V' } (D.spent.write ix l) ∧ ∀ b, V' b → p.V b ∨ W.heap.size ≤ b) ∧ Ext (fun b => b = p.d ∨ b = p.mv) W w') (fun W2 h2 x2 => by
      have hlt := h.base
      have hlow := h.low
      have e2 : Ext (fun b => b = p.d ∨ b = p.mv) W W2 := e1.trans x2 (fun b hb => .inl (.inl hb))
      refine (disk_Write1 h2 ix (.slice av 256 cv) l W.heap.size (W.heap.size + 1) (W.heap.size + 2) (q0'.ext x2 (by omega)) (q1'.ext x2 (by omega)) (q2'.ext x2 (by omega)) ?_ hl hi hi2 hno).mono ?_
      · have hv1 : Bs (W1.drewN nq) (.slice av 256 cv) l := hv.keep (below_drewN b1 nq)
        refine hv1.ext x2 (fun k hk hkl he => ?_)
        rw [he] at hk
        exact hvd hk
      · rintro e w' ⟨⟨v, rfl⟩, ⟨V', hd, hV'⟩, hx⟩
        exact ⟨⟨v, rfl⟩, ⟨V', hd, fun b hb => (hV' b hb).imp id (fun h => Nat.le_trans e2.size h)⟩, e2.trans hx (fun b hb => .inl (.inr hb))⟩)
  go_wp2_with fail
  refine hop.mono ?_
  rintro e w' ⟨rfl, hd, hx⟩
  go_wp2_with fail
  go_ret
  exact ⟨rfl, hd, hx⟩
set_option maxRecDepth 100000 in
set_option maxHeartbeats 1600000 in
theorem disk_Write_fails (h : DkAt W p D) (hg : D.goes = false) (ix : Int) (v : Value) (l : List UInt8) (hv : Bs W v l) (hl : l.length = 256) (hi : 0 ≤ ix) (hi2 : ix < D.texts.length) :
    Calls Try.prog 19 #[.pointer (some ⟨p.d, 0, none⟩), .int .i64 ix, v] W fun e w' => e = .returned (.int .i64 8) ∧ DkAt w' p D.fail ∧ Ext (fun b => b = p.d) W w' := by
  obtain ⟨av, cv, rfl⟩ := hv.form
  rw [hl] at hv ⊢
  obtain ⟨W1, hW1⟩ : ∃ W1, ((W.alloc (.cells #[.pointer (some ⟨p.d, 0, none⟩)] 23)).alloc (.cells #[.int .i64 ix] 3)).alloc (.cells #[.slice av 256 cv] 40) = W1 := ⟨_, rfl⟩
  have b1 : Below W.heap.size W W1 := by rw [← hW1]; exact (((Below.refl _ W).alloc (Nat.le_refl _) _).alloc (by simp) _).alloc (by simp; omega) _
  have q0 : Blk W1 W.heap.size #[.pointer (some ⟨p.d, 0, none⟩)] 23 := by rw [← hW1]; exact ((Blk.new W _ _).alloc _).alloc _
  have q1 : Blk W1 (W.heap.size + 1) #[.int .i64 ix] 3 := by rw [← hW1]; exact (Blk.new' _ _ (by simp) _ _).alloc _
  have q2 : Blk W1 (W.heap.size + 2) #[.slice av 256 cv] 40 := by rw [← hW1]; exact Blk.new' _ _ (by simp) _ _
  have c0 := q0.cell (o := 0) rfl
  have c1 := q1.cell (o := 0) rfl
  have c2 := q2.cell (o := 0) rfl
  have cd := (h.keep b1).cell.cell (o := 0) rfl
  have hd1 : decide (ix < 0) = false := by simp; omega
  have hd2 : decide (ix ≥ (D.texts.length : Int)) = false := by simp; omega
  go_enter Try.func19, Try.ntmps19
  go_wp2_with fail
  go_quiet ((go_at_call 25; exact Calls.quiet_of_same (disk_none ((h.keep b1).keep (below_of_drewN _ _ _)))))
  have e1 := (Ext.ofBelow (fp := fun b => b = p.d) b1).drewN nq
  have cd0 : (W1.drewN nq).cell? ⟨W.heap.size, 0, none⟩ = some (.pointer (some ⟨p.d, 0, none⟩)) := c0
  have hN : DkAt (W1.drewN nq) p D := (h.keep b1).keep (below_of_drewN _ _ _)
  have hop := disk_operation_fails hN hg 40 #[.pointer (some ⟨W.heap.size, 0, none⟩), .pointer (some ⟨W.heap.size + 1, 0, none⟩), .pointer (some ⟨W.heap.size + 1 + 1, 0, none⟩)]
  go_wp2_with fail
  refine hop.mono ?_
  rintro e w' ⟨rfl, hd, hx⟩
  go_wp2_with fail
  go_ret
  exact ⟨rfl, hd, e1.trans' hx⟩
end

end Go.Proofs.Ytpkaepmmkojdaaa
