import Derived.Test.YtpkaepmmkojdaaaMDoneP
import Derived.Test.YtpkaepmmkojdaaaPPut
/-! gazettelaw04.done. -/
namespace Go.Proofs.Ytpkaepmmkojdaaa
open Go.RowKit
theorem idd_load {P : Program} {ops : Array Oper} {Q : Exit → Act → World → Prop} {l : List Oper} {a : Act} {w : World} {d : Option Nat} {k : Nat} {ty : TypeId} {p : String} {e : Array Edge}
    (h : wpList P ops Q ({ dst := d, op := .load 39 (.tmp k), type := ty, pos := p, after := e, guard := none } :: l) a w) : wpList P ops Q ({ dst := d, op := .load 39 (.tmp k), type := ty, pos := p, after := e, guard := none } :: l) a w := h
theorem idd_store {P : Program} {ops : Array Oper} {Q : Exit → Act → World → Prop} {l : List Oper} {a : Act} {w : World} {d : Option Nat} {k m : Nat} {ty : TypeId} {p : String} {e : Array Edge}
    (h : wpList P ops Q ({ dst := d, op := .store 39 (.tmp k) (.tmp m), type := ty, pos := p, after := e, guard := none } :: l) a w) : wpList P ops Q ({ dst := d, op := .store 39 (.tmp k) (.tmp m), type := ty, pos := p, after := e, guard := none } :: l) a w := h
section
variable {W : World}
set_option maxRecDepth 100000 in
set_option maxHeartbeats 6400000 in
theorem law_done (S : St) (o : Opr) (ho0 : OprOk o) (bv lv : Value) (hb : BsW W bv o.b) (h0 : ∀ a, 0 ≤ (S.get a).2.1) (h5 : ∀ a, (S.get a).2.1 ≤ 5) (hpo : o.kind = 0 → (S.get (mod3 o.lo 3)).2.1 ≤ mod3 o.po 6) :
    Calls Try.prog 11 #[.agg (told S), o.val bv lv] W fun e w' => e = .returned (.agg (told (doneS S o))) ∧ Below W.heap.size W w' := by
  obtain ⟨av, cv, rfl⟩ := hb.form
  obtain ⟨DT, hdt⟩ : ∃ DT, DT = o.data := ⟨_, rfl⟩
  have hDT := hid hdt.symm
  clear hdt
  have ho := hid ho0
  clear ho0
  obtain ⟨od, ol, op, on, orp, ob, os, oll⟩ := o
  obtain ⟨mi, hi1, hi2, hi3⟩ := mod3_num ol 3 (by omega)
  obtain ⟨mp, hp1, hp2, hp3⟩ := mod3_num op 6 (by omega)
  have hw1 := mod3_wrap ol 3 (by omega) (by omega)
  have hw2 := mod3_wrap op 6 (by omega) (by omega)
  have hip := hid (And.intro hi3 hp3)
  clear hi3 hp3
  unfold Opr.val
  simp only at hb hpo ⊢
  have HP := hid (And.intro h0 (And.intro h5 hpo))
  clear h0 h5 hpo
  obtain ⟨W1, hW1⟩ : ∃ W1, W.alloc (.cells (told S) 39) = W1 := ⟨_, rfl⟩
  obtain ⟨W2, hW2⟩ : ∃ W2, W1.alloc (.cells #[.int .i64 od, .int .i64 ol, .int .i64 op, .int .i64 on, .bool orp, .slice av ob.length cv, .int .i64 os, lv] 43) = W2 := ⟨_, rfl⟩
  obtain ⟨W3, hW3⟩ : ∃ W3, W2.alloc (.cells #[.string ⟨#[]⟩, .string ⟨#[]⟩, .string ⟨#[]⟩, .string ⟨#[]⟩, .string ⟨#[]⟩, .string ⟨#[]⟩, .string ⟨#[]⟩, .string ⟨#[]⟩, .string ⟨#[]⟩, .string ⟨#[]⟩, .string ⟨#[]⟩, .string ⟨#[]⟩, .string ⟨#[]⟩, .string ⟨#[]⟩, .string ⟨#[]⟩, .string ⟨#[]⟩, .string ⟨#[]⟩, .string ⟨#[]⟩, .bool false, .bool false, .bool false, .bool false, .bool false, .bool false, .bool false, .bool false, .bool false, .bool false, .bool false, .bool false, .bool false, .bool false, .bool false, .bool false, .bool false, .bool false, .bool false, .bool false, .bool false, .int .i64 0, .int .i64 0, .int .i64 0] 39) = W3 := ⟨_, rfl⟩
  have s1 : W1.heap.size = W.heap.size + 1 := by rw [← hW1]; simp
  have s2 : W2.heap.size = W.heap.size + 2 := by rw [← hW2]; simp [s1]
  have b1 : Below W.heap.size W W1 := by rw [← hW1]; exact (Below.refl _ W).alloc (Nat.le_refl _) _
  have b2 : Below W.heap.size W W2 := by rw [← hW2]; exact b1.alloc b1.size _
  have b3 : Below W.heap.size W W3 := by rw [← hW3]; exact b2.alloc b2.size _
  have b32 : Below W2.heap.size W2 W3 := by rw [← hW3]; exact (Below.refl _ W2).alloc (Nat.le_refl _) _
  have bT : Blk W3 W.heap.size (told S) 39 := Blk.keep (by rw [← hW2, ← hW1]; exact (Blk.new W _ _).alloc _) b32
  have bO : Blk W3 W1.heap.size #[.int .i64 od, .int .i64 ol, .int .i64 op, .int .i64 on, .bool orp, .slice av ob.length cv, .int .i64 os, lv] 43 := Blk.keep (by rw [← hW2]; exact Blk.new W1 _ _) b32
  obtain ⟨zr, hzr⟩ : ∃ zr : Array Value, zr = #[.string ⟨#[]⟩, .string ⟨#[]⟩, .string ⟨#[]⟩, .string ⟨#[]⟩, .string ⟨#[]⟩, .string ⟨#[]⟩, .string ⟨#[]⟩, .string ⟨#[]⟩, .string ⟨#[]⟩, .string ⟨#[]⟩, .string ⟨#[]⟩, .string ⟨#[]⟩, .string ⟨#[]⟩, .string ⟨#[]⟩, .string ⟨#[]⟩, .string ⟨#[]⟩, .string ⟨#[]⟩, .string ⟨#[]⟩, .bool false, .bool false, .bool false, .bool false, .bool false, .bool false, .bool false, .bool false, .bool false, .bool false, .bool false, .bool false, .bool false, .bool false, .bool false, .bool false, .bool false, .bool false, .bool false, .bool false, .bool false, .int .i64 0, .int .i64 0, .int .i64 0] := ⟨_, rfl⟩
  have hRz : zr.size = 42 := by rw [hzr]; rfl
  have bR : Blk W3 W2.heap.size zr 39 := by rw [hzr, ← hW3]; exact Blk.new W2 _ _
  clear hzr
  have e0 := bO.cell (o := 0) rfl
  have e1 := bO.cell (o := 1) rfl
  have e2 := bO.cell (o := 2) rfl
  have HNE := hid (And.intro s1 s2)
  have HR2 := hid (show W.heap.size ≤ W2.heap.size by omega)
  have HV := hid (hb.keep b3)
  have HV0 := hid hb
  have HB := hid b3
  have HK := hid (And.intro bT (And.intro bO bR))
  clear b1 b2 b3 b32 bT bO bR s1 s2 hb
  go_enter Try.func11, Try.ntmps11
  by_cases hk : od = 0
  · as_aux_lemma =>
    have hkb : (od == 0) = true := beq_iff_eq.2 hk
    have HPO := hid (show (S.get (mi : Int)).2.1 ≤ (mp : Int) by have := HP.out.2.2 hk; rw [hip.out.1, hip.out.2] at this; exact this)
    obtain ⟨bT, bO, bR⟩ := HK.out
    have hD0 : doneS S ⟨od, ol, op, on, orp, ob, os, oll⟩ = if (getF S (mi : Int) (mp : Int)).1 = 0 then S else applyPut S (mi : Int) (mp : Int) DT := by
      unfold doneS
      rw [if_pos hk, ← hDT.out, hip.out.1, hip.out.2]
    have cT := bT.cell (o := 18 + mi * 6 + mp) (by rw [told_get, if_neg (by omega), if_pos (by omega), show 18 + mi * 6 + mp - 18 = mi * 6 + mp by omega])
    have hTh : tThere S (mi * 6 + mp) = .bool (decide ((getF S (mi : Int) (mp : Int)).1 = 0)) := by
      unfold tThere
      rw [show (mi * 6 + mp) / 6 = mi by omega, show (mi * 6 + mp) % 6 = mp by omega]
    rw [hTh] at cT
    have fT := bT.free (18 + mi * 6 + mp)
    by_cases hg : (getF S (mi : Int) (mp : Int)).1 = 0
    · rw [decide_eq_true hg] at cT
      have HEND := hid (show told S = told (doneS S ⟨od, ol, op, on, orp, ob, os, oll⟩) by rw [hD0, if_pos hg])
      have kT := bT
      have kR := bR
      have hTz := told_size S
      have hTa := told_all S
      have HBX := HB
      clear hk hg hTh hD0 bT bR bO fT
      go_wp2_with (first | ((with_reducible (refine idd_load ?_)); (refine wpList_load_row rfl 39 _ rfl W.heap.size rfl 39 (told S) (0, 0) _ kT rfl rfl (by rw [hTz]; exact size_told) ?_)) | ((with_reducible (refine idd_store ?_)); (refine wpList_store_row rfl 39 _ _ rfl W2.heap.size (told S) rfl rfl 39 _ kR (by rw [hTz]; exact size_told) (by rw [hTz]; exact hRz) hTa ?_)))
      have qF := kR.setRow (told S)
      have hld := run_loadVar_row (P := Try.prog) (W3.setRow W2.heap.size (told S)) W2.heap.size 39 39 _ (0, 0) _ qF rfl rfl (by rw [hTz]; exact size_told)
      have bS : Below W.heap.size W (W3.setRow W2.heap.size (told S)) := HBX.out.grown (setRow_grown _ _ _) HBX.out.size (fun k h => by cases h; exact HR2.out)
      refine bodyPost_ret (v := .agg (told S)) ?_ rfl ?_
      · simp [results, Try.results11, hld, asAddr, Act.put]
      · exact ⟨by rw [HEND.out], bS⟩
    · rw [decide_eq_false hg] at cT
      have HEND := hid (show told (applyPut S mi mp DT) = told (doneS S ⟨od, ol, op, on, orp, ob, os, oll⟩) by rw [hD0, if_neg hg])
      have bT4 := bT.set (o := 18 + mi * 6 + mp) (.bool true)
      have bO4 := bO.setOther (a := ⟨W.heap.size, 18 + mi * 6 + mp, none⟩) (by show W1.heap.size ≠ W.heap.size; have := HNE.out; omega) (.bool true)
      have bR4 := bR.setOther (a := ⟨W.heap.size, 18 + mi * 6 + mp, none⟩) (by show W2.heap.size ≠ W.heap.size; have := HNE.out; omega) (.bool true)
      have HB4 := hid (HB.out.setCell (p := ⟨W.heap.size, 18 + mi * 6 + mp, none⟩) (by simp) (.bool true))
      have hx4 : Ext (fun b => b = W.heap.size) W3 (W3.setCell ⟨W.heap.size, 18 + mi * 6 + mp, none⟩ (.bool true)) := (Ext.refl (fun b => b = W.heap.size) W3).setCell (a := ⟨W.heap.size, 18 + mi * 6 + mp, none⟩) (.inl rfl) _
      obtain ⟨W4, hW4⟩ : ∃ W4, W3.setCell ⟨W.heap.size, 18 + mi * 6 + mp, none⟩ (.bool true) = W4 := ⟨_, rfl⟩
      rw [hW4] at bT4 bO4 bR4 HB4 hx4
      have HK4 := hid (And.intro bT4 (And.intro bO4 (And.intro bR4 hx4)))
      clear hk hg hTh hD0 bT bR bO bT4 bO4 bR4 hx4
      go_upto_region 7 with fail
      clear hW1 hW2 hW3 hW4 e0 e1 e2 cT fT hkb HB
      obtain ⟨bT4, bO4, bR4, hx4⟩ := HK4.out
      have HV4 := hid (HV0.out.keep HB4.out)
      clear hx4 HV
      have HV := HV4
      refine wp_region_tail 8 rfl Grows (fun i v x => match i with
          | 0 => v = .int .i64 (mi : Int)
          | 1 => v = .int .i64 (mp : Int)
          | 2 => v = .agg #[.int .i64 od, .int .i64 ol, .int .i64 op, .int .i64 on, .bool orp, .slice av ob.length cv, .int .i64 os, lv]
          | 3 => Own8 x W4.heap.size 5 v DT
          | 4 => v = .string ⟨DT.toArray⟩
          | 5 => v = .pointer (some ⟨W.heap.size, 0, none⟩)
          | 6 => v = .pointer (some ⟨W.heap.size, mi * 6, none⟩)
          | 7 => v = .pointer (some ⟨W.heap.size, mi * 6 + mp, none⟩)
          | _ => True) (by kernel_rfl) (Grows.refl _) Grows.trans ?rstab ?rsteps ?rfin
      case rstab =>
        intro i v x y hg h
        match i with
        | 0 | 1 | 2 | 4 | 5 | 6 | 7 => exact h
        | 3 => exact Own8.keep h hg
        | n + 8 => trivial
      case rsteps =>
        simp only [List.take_succ_cons, List.take_zero]
        refine ⟨?_, ?_, ?_, ?_, ?_, ?_, ?_, ?_, trivial⟩
        · intro a x hA
          have t5 := hA.at_ 5 (by first | rfl | kernel_rfl) rfl
          refine step_value (w' := x) (v := .int .i64 (mi : Int)) ?_ (Grows.refl _) ?_
          · go_simp
          · rfl
        · intro a x hA
          have t6 := hA.at_ 6 (by first | rfl | kernel_rfl) rfl
          refine step_value (w' := x) (v := .int .i64 (mp : Int)) ?_ (Grows.refl _) ?_
          · go_simp
          · rfl
        · intro a x hA
          have t3 := hA.at_ 3 (by first | rfl | kernel_rfl) rfl
          have hEx := bO4.keep hA.grown
          have hc0 := hEx.cell (o := 0) rfl
          have hc1 := hEx.cell (o := 1) rfl
          have hc2 := hEx.cell (o := 2) rfl
          have hc3 := hEx.cell (o := 3) rfl
          have hc4 := hEx.cell (o := 4) rfl
          have hc5 := hEx.cell (o := 5) rfl
          have hc6 := hEx.cell (o := 6) rfl
          have hc7 := hEx.cell (o := 7) rfl
          clear hEx
          refine step_value (w' := x) (v := .agg #[.int .i64 od, .int .i64 ol, .int .i64 op, .int .i64 on, .bool orp, .slice av ob.length cv, .int .i64 os, lv]) ?_ (Grows.refl _) ?_
          · go_simp
          · rfl
        · intro a x hA
          have t36 : a.tmps[36]?.getD undef = .agg #[.int .i64 od, .int .i64 ol, .int .i64 op, .int .i64 on, .bool orp, .slice av ob.length cv, .int .i64 os, lv] := hA.dep_ ⟨2, .data⟩ (by simp) _ 36 rfl rfl
          have hbx := HV.out.keep hA.grown
          have hs := hA.grow.size
          refine step_call (f := 28) (args := #[.agg #[.int .i64 od, .int .i64 ol, .int .i64 op, .int .i64 on, .bool orp, .slice av ob.length cv, .int .i64 os, lv]]) (by clear hbx; go_simp) ((op_data _ ho.out _ lv hbx).mono ?_)
          rintro e w' ⟨v, rfl, ho9, hb9⟩
          exact ⟨v, rfl, hb9, by rw [← hDT.out]; exact ho9.mono hs⟩
        · intro a x hA
          have t37 : Own8 x W4.heap.size 5 (a.tmps[37]?.getD undef) DT := hA.dep_ ⟨3, .data⟩ (by simp) _ 37 rfl rfl
          have hEx := bO4.keep hA.grown
          have hc0 := hEx.cell (o := 0) rfl
          have hc1 := hEx.cell (o := 1) rfl
          have hc2 := hEx.cell (o := 2) rfl
          have hc3 := hEx.cell (o := 3) rfl
          have hc4 := hEx.cell (o := 4) rfl
          have hc5 := hEx.cell (o := 5) rfl
          have hc6 := hEx.cell (o := 6) rfl
          have hc7 := hEx.cell (o := 7) rfl
          clear hEx
          obtain ⟨da, dc, e9⟩ := t37.form
          have hcv := run_bytes_string (P := Try.prog) Try.underlying40 Try.underlying5 Try.underlying9 t37.bs
          rw [e9] at hcv
          refine step_value (w' := x) (v := .string ⟨DT.toArray⟩) ?_ (Grows.refl _) rfl
          clear hA t37
          go_simp
        · intro a x hA
          have t2 := hA.at_ 2 (by first | rfl | kernel_rfl) rfl
          refine step_value (w' := x) (v := .pointer (some ⟨W.heap.size, 0, none⟩)) ?_ (Grows.refl _) ?_
          · go_simp
          · rfl
        · intro a x hA
          have t39 : a.tmps[39]?.getD undef = .pointer (some ⟨W.heap.size, 0, none⟩) := hA.dep_ ⟨5, .data⟩ (by simp) _ 39 rfl rfl
          have t34 : a.tmps[34]?.getD undef = .int .i64 (mi : Int) := hA.dep_ ⟨0, .data⟩ (by simp) _ 34 rfl rfl
          refine step_value (w' := x) (v := .pointer (some ⟨W.heap.size, mi * 6, none⟩)) ?_ (Grows.refl _) ?_
          · go_simp
          · rfl
        · intro a x hA
          have t40 : a.tmps[40]?.getD undef = .pointer (some ⟨W.heap.size, mi * 6, none⟩) := hA.dep_ ⟨6, .data⟩ (by simp) _ 40 rfl rfl
          have t35 : a.tmps[35]?.getD undef = .int .i64 (mp : Int) := hA.dep_ ⟨1, .data⟩ (by simp) _ 35 rfl rfl
          refine step_value (w' := x) (v := .pointer (some ⟨W.heap.size, mi * 6 + mp, none⟩)) ?_ (Grows.refl _) ?_
          · go_simp
          · rfl
      case rfin =>
        intro y W' hg hV
        simp only [List.take_succ_cons, List.take_zero, AllVals] at hV
        obtain ⟨-, -, -, -, u4, -, -, u7, -⟩ := hV
        simp only [List.take_succ_cons, List.take_zero, List.drop_succ_cons, List.drop_zero, putAll, Act.put, List.setIfInBounds_toArray, List.set_cons_zero, List.set_cons_succ]
        rw [u4, u7]
        clear u4 u7
        have hb7 := Below.trans (below_of_drewN _ W4 1) hg
        clear hg
        have bT7 := bT4.keep hb7
        have kR7 := bR4.keep hb7
        have HB7 := hid (HB4.out.trans (hb7.mono HB4.out.size))
        clear hb7 bT4 bR4 bO4
        obtain ⟨s0, hs0⟩ : ∃ s0, W'.cell? ⟨W.heap.size, mi * 6 + mp, none⟩ = some s0 := by
          obtain ⟨v, _, h9⟩ := bT7.cellAt (o := mi * 6 + mp) (by simp [told_size]; omega)
          exact ⟨v, h9⟩
        have hf0 := bT7.free (mi * 6 + mp)
        have kT := bT7.set (o := mi * 6 + mp) (.string ⟨DT.toArray⟩)
        have kR := kR7.setOther (a := ⟨W.heap.size, mi * 6 + mp, none⟩) (by show W2.heap.size ≠ W.heap.size; have := HNE.out; omega) (.string ⟨DT.toArray⟩)
        have HBX := hid (HB7.out.setCell (p := ⟨W.heap.size, mi * 6 + mp, none⟩) (by simp) (.string ⟨DT.toArray⟩))
        rw [told_put S mi mp (by omega) (by omega) DT HPO.out] at kT
        have hTz := told_size (applyPut S mi mp DT)
        have hTa := told_all (applyPut S mi mp DT)
        clear bT7 kR7
        obtain ⟨WX, hWX⟩ : ∃ WX, W'.setCell ⟨W.heap.size, mi * 6 + mp, none⟩ (.string ⟨DT.toArray⟩) = WX := ⟨_, rfl⟩
        rw [hWX] at kT kR HBX
        go_wp2_with (first | ((with_reducible (refine idd_load ?_)); (refine wpList_load_row rfl 39 _ rfl W.heap.size rfl 39 (told (applyPut S mi mp DT)) (0, 0) _ kT rfl rfl (by rw [hTz]; exact size_told) ?_)) | ((with_reducible (refine idd_store ?_)); (refine wpList_store_row rfl 39 _ _ rfl W2.heap.size (told (applyPut S mi mp DT)) rfl rfl 39 _ kR (by rw [hTz]; exact size_told) (by rw [hTz]; exact hRz) hTa ?_)))
        have qF := kR.setRow (told (applyPut S mi mp DT))
        have hld := run_loadVar_row (P := Try.prog) (WX.setRow W2.heap.size (told (applyPut S mi mp DT))) W2.heap.size 39 39 _ (0, 0) _ qF rfl rfl (by rw [hTz]; exact size_told)
        have bS : Below W.heap.size W (WX.setRow W2.heap.size (told (applyPut S mi mp DT))) := HBX.out.grown (setRow_grown _ _ _) HBX.out.size (fun k h => by cases h; exact HR2.out)
        refine bodyPost_ret (v := .agg (told (applyPut S mi mp DT))) ?_ rfl ?_
        · simp [results, Try.results11, hld, asAddr, Act.put]
        · exact ⟨by rw [HEND.out], bS⟩
  · by_cases hk1 : od = 1
    · as_aux_lemma =>
      have hkb : (od == 0) = false := beq_eq_false_iff_ne.2 hk
      have hkb1 : (od == 1) = true := beq_iff_eq.2 hk1
      obtain ⟨bT, bO, bR⟩ := HK.out
      have HEND := hid (show told (applySeal S (mi : Int)) = told (doneS S ⟨od, ol, op, on, orp, ob, os, oll⟩) by unfold doneS; rw [if_neg hk, if_pos hk1, hip.out.1])
      obtain ⟨s0, hs0⟩ : ∃ s0, W3.cell? ⟨W.heap.size, 36 + mi, none⟩ = some s0 := by
        obtain ⟨v, _, h9⟩ := bT.cellAt (o := 36 + mi) (by simp [told_size]; omega)
        exact ⟨v, h9⟩
      have hf0 := bT.free (36 + mi)
      have kT := bT.set (o := 36 + mi) (.bool true)
      rw [told_seal S mi (by omega)] at kT
      have kR := bR.setOther (a := ⟨W.heap.size, 36 + mi, none⟩) (by show W2.heap.size ≠ W.heap.size; have := HNE.out; omega) (.bool true)
      have HBX := hid (HB.out.setCell (p := ⟨W.heap.size, 36 + mi, none⟩) (by simp) (.bool true))
      have hTz := told_size (applySeal S mi)
      have hTa := told_all (applySeal S mi)
      obtain ⟨WX, hWX⟩ : ∃ WX, W3.setCell ⟨W.heap.size, 36 + mi, none⟩ (.bool true) = WX := ⟨_, rfl⟩
      rw [hWX] at kT kR HBX
      clear hk hk1 bT bR bO
      go_wp2_with (first | ((with_reducible (refine idd_load ?_)); (refine wpList_load_row rfl 39 _ rfl W.heap.size rfl 39 (told (applySeal S mi)) (0, 0) _ kT rfl rfl (by rw [hTz]; exact size_told) ?_)) | ((with_reducible (refine idd_store ?_)); (refine wpList_store_row rfl 39 _ _ rfl W2.heap.size (told (applySeal S mi)) rfl rfl 39 _ kR (by rw [hTz]; exact size_told) (by rw [hTz]; exact hRz) hTa ?_)))
      have qF := kR.setRow (told (applySeal S mi))
      have hld := run_loadVar_row (P := Try.prog) (WX.setRow W2.heap.size (told (applySeal S mi))) W2.heap.size 39 39 _ (0, 0) _ qF rfl rfl (by rw [hTz]; exact size_told)
      have bS : Below W.heap.size W (WX.setRow W2.heap.size (told (applySeal S mi))) := HBX.out.grown (setRow_grown _ _ _) HBX.out.size (fun k h => by cases h; exact HR2.out)
      refine bodyPost_ret (v := .agg (told (applySeal S mi))) ?_ rfl ?_
      · simp [results, Try.results11, hld, asAddr, Act.put]
      · exact ⟨by rw [HEND.out], bS⟩
    by_cases hk2 : od = 2
    · as_aux_lemma =>
      have hkb : (od == 0) = false := beq_eq_false_iff_ne.2 hk
      have hkb1 : (od == 1) = false := beq_eq_false_iff_ne.2 hk1
      have hkb2 : (od == 2) = true := beq_iff_eq.2 hk2
      obtain ⟨bT, bO, bR⟩ := HK.out
      obtain ⟨tr, htr⟩ : ∃ tr : Nat, (S.get (mi : Int)).2.1 = (tr : Int) := ⟨(S.get (mi : Int)).2.1.toNat, by have := HP.out.1 (mi : Int); omega⟩
      have htr5 : tr ≤ 5 := by have := HP.out.2.1 (mi : Int); omega
      have cT := bT.cell (o := 39 + mi) (v := .int .i64 (tr : Int)) (by rw [told_get, if_neg (by omega), if_neg (by omega), if_neg (by omega), if_pos (by omega), Nat.add_sub_cancel_left]; unfold tTrim; rw [htr])
      have fT := bT.free (39 + mi)
      obtain ⟨T, hT⟩ : ∃ T : Nat, max tr mp = T := ⟨_, rfl⟩
      have HEND := hid (show gone ((told S).setIfInBounds (39 + mi) (.int .i64 (T : Int))) mi T = told (doneS S ⟨od, ol, op, on, orp, ob, os, oll⟩) by
        unfold doneS
        rw [if_neg hk, if_neg hk1, if_pos hk2, hip.out.1, hip.out.2]
        exact told_trimmed S mi mp T (by omega) (by rw [htr]; omega) (by omega))
      obtain ⟨CT, hCT⟩ : ∃ CT, CT = (told S).setIfInBounds (39 + mi) (.int .i64 (T : Int)) := ⟨_, rfl⟩
      have bT4 := bT.set (o := 39 + mi) (.int .i64 (T : Int))
      have bR4 := bR.setOther (a := ⟨W.heap.size, 39 + mi, none⟩) (by show W2.heap.size ≠ W.heap.size; have := HNE.out; omega) (.int .i64 (T : Int))
      have HB4 := hid (HB.out.setCell (p := ⟨W.heap.size, 39 + mi, none⟩) (by simp) (.int .i64 (T : Int)))
      rw [← hCT] at HEND bT4
      have hz4 : CT.size = 42 := by rw [hCT]; simp [told_size]
      have hc4 : CT[39 + mi]? = some (.int .i64 (T : Int)) := by rw [hCT, Array.getElem?_setIfInBounds_self_of_lt (by rw [told_size]; omega)]
      have ha4 : CT.all (·.oneCell') = true := by rw [hCT]; exact gone_all.all_set (told_all S) rfl
      obtain ⟨W4, hW4⟩ : ∃ W4, W3.setCell ⟨W.heap.size, 39 + mi, none⟩ (.int .i64 (T : Int)) = W4 := ⟨_, rfl⟩
      rw [hW4] at bT4 bR4 HB4
      have HK4 := hid (And.intro bT4 (And.intro bR4 (And.intro hz4 (And.intro hc4 ha4))))
      have hmx : max (tr : Int) (mp : Int) = (T : Int) := by omega
      have hT6 : (T : Int) ≤ 6 := by omega
      clear hk hk1 hk2 bT bR bO bT4 bR4 hz4 hc4 ha4 hCT htr HP hT
      go_wp2_with fail
      clear hW1 hW2 hW3 hW4 e0 e1 e2 cT fT HB hmx
      go_loopw [7] (fun nn wr => ∃ n : Nat, n ≤ T ∧ nn = .int .i64 (n : Int) ∧ Blk wr W.heap.size (gone CT mi n) 39 ∧ Blk wr W2.heap.size zr 39 ∧ Below W.heap.size W wr) (fun nn _ => T - (intOf nn).toNat)
      case atStart => exact ⟨0, by omega, rfl, HK4.out.1, HK4.out.2.1, HB4.out⟩
      case round =>
        obtain ⟨n, hn, rfl, bT, bR, bW⟩ := hrel
        have hz4 := HK4.out.2.2.1
        have cT := bT.cell (o := 39 + mi) (v := .int .i64 (T : Int)) (by rw [gone_get CT mi (by omega) hz4 _ n (by omega), if_neg (by omega), if_neg (by omega)]; exact HK4.out.2.2.2.1)
        by_cases hnT : n < T
        · have hd : decide ((n : Int) < (T : Int)) = true := decide_eq_true (by omega)
          have hn6 : (n : Int) < 6 := by omega
          obtain ⟨s0, hs0⟩ : ∃ s0, wr.cell? ⟨W.heap.size, 18 + mi * 6 + n, none⟩ = some s0 := by
            obtain ⟨v, _, h9⟩ := bT.cellAt (o := 18 + mi * 6 + n) (by rw [gone_size]; omega)
            exact ⟨v, h9⟩
          have hf0 := bT.free (18 + mi * 6 + n)
          have bT1 := bT.set (o := 18 + mi * 6 + n) (.bool false)
          obtain ⟨s1, hs1⟩ : ∃ s1, (wr.setCell ⟨W.heap.size, 18 + mi * 6 + n, none⟩ (.bool false)).cell? ⟨W.heap.size, mi * 6 + n, none⟩ = some s1 := by
            obtain ⟨v, _, h9⟩ := bT1.cellAt (o := mi * 6 + n) (by simp [gone_size]; omega)
            exact ⟨v, h9⟩
          have hf1 := bT1.free (mi * 6 + n)
          have bT2 := bT1.set (o := mi * 6 + n) (.string ⟨#[]⟩)
          have hne : W2.heap.size ≠ W.heap.size := by have := HNE.out; omega
          have bR2 := (bR.setOther (a := ⟨W.heap.size, 18 + mi * 6 + n, none⟩) hne (.bool false)).setOther (a := ⟨W.heap.size, mi * 6 + n, none⟩) hne (.string ⟨#[]⟩)
          have bW2 := (bW.setCell (p := ⟨W.heap.size, 18 + mi * 6 + n, none⟩) (by simp) (.bool false)).setCell (p := ⟨W.heap.size, mi * 6 + n, none⟩) (by simp) (.string ⟨#[]⟩)
          have H2 := hid (And.intro bT2 (And.intro bR2 bW2))
          have HN := hid hnT
          clear bT bR bW bT1 bT2 bR2 bW2 hz4 hne hnT
          go_wp2_with fail
          go_roundw
          case rel => exact ⟨n + 1, by have := HN.out; omega, by go_num, H2.out.1, H2.out.2.1, H2.out.2.2⟩
          case measure => have := HN.out; simp [intOf]; omega
        · obtain rfl : T = n := by omega
          have hd : decide ((T : Int) < (T : Int)) = false := decide_eq_false (by omega)
          have kT := bT
          have kR := bR
          have hTz : (gone CT mi T).size = 42 := by rw [gone_size]; exact hz4
          have hTa := gone_all CT mi HK4.out.2.2.2.2 T
          have HBX := hid bW
          clear bT bR bW hnT
          go_wp2_with (first | ((with_reducible (refine idd_load ?_)); (refine wpList_load_row rfl 39 _ rfl W.heap.size rfl 39 (gone CT mi T) (0, 0) _ kT rfl rfl (by rw [hTz]; exact size_told) ?_)) | ((with_reducible (refine idd_store ?_)); (refine wpList_store_row rfl 39 _ _ rfl W2.heap.size (gone CT mi T) rfl rfl 39 _ kR (by rw [hTz]; exact size_told) (by rw [hTz]; exact hRz) hTa ?_)))
          have qF := kR.setRow (gone CT mi T)
          have hld := run_loadVar_row (P := Try.prog) (wr.setRow W2.heap.size (gone CT mi T)) W2.heap.size 39 39 _ (0, 0) _ qF rfl rfl (by rw [hTz]; exact size_told)
          have bS : Below W.heap.size W (wr.setRow W2.heap.size (gone CT mi T)) := HBX.out.grown (setRow_grown _ _ _) HBX.out.size (fun k h => by cases h; exact HR2.out)
          refine bodyPost_ret (v := .agg (gone CT mi T)) ?_ rfl ?_
          · simp [results, Try.results11, hld, asAddr, Act.put]
          · exact ⟨by rw [HEND.out], bS⟩
    · as_aux_lemma =>
      have hkb : (od == 0) = false := beq_eq_false_iff_ne.2 hk
      have hkb1 : (od == 1) = false := beq_eq_false_iff_ne.2 hk1
      have hkb2 : (od == 2) = false := beq_eq_false_iff_ne.2 hk2
      obtain ⟨bT, bO, bR⟩ := HK.out
      have HEND := hid (show told S = told (doneS S ⟨od, ol, op, on, orp, ob, os, oll⟩) by unfold doneS; rw [if_neg hk, if_neg hk1, if_neg hk2])
      have kT := bT
      have kR := bR
      have hTz := told_size S
      have hTa := told_all S
      have HBX := HB
      clear hk hk1 hk2 bT bR bO
      go_wp2_with (first | ((with_reducible (refine idd_load ?_)); (refine wpList_load_row rfl 39 _ rfl W.heap.size rfl 39 (told S) (0, 0) _ kT rfl rfl (by rw [hTz]; exact size_told) ?_)) | ((with_reducible (refine idd_store ?_)); (refine wpList_store_row rfl 39 _ _ rfl W2.heap.size (told S) rfl rfl 39 _ kR (by rw [hTz]; exact size_told) (by rw [hTz]; exact hRz) hTa ?_)))
      have qF := kR.setRow (told S)
      have hld := run_loadVar_row (P := Try.prog) (W3.setRow W2.heap.size (told S)) W2.heap.size 39 39 _ (0, 0) _ qF rfl rfl (by rw [hTz]; exact size_told)
      have bS : Below W.heap.size W (W3.setRow W2.heap.size (told S)) := HBX.out.grown (setRow_grown _ _ _) HBX.out.size (fun k h => by cases h; exact HR2.out)
      refine bodyPost_ret (v := .agg (told S)) ?_ rfl ?_
      · simp [results, Try.results11, hld, asAddr, Act.put]
      · exact ⟨by rw [HEND.out], bS⟩

end
end Go.Proofs.Ytpkaepmmkojdaaa
