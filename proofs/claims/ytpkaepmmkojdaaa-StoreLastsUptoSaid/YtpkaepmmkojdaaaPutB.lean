import Derived.Test.YtpkaepmmkojdaaaPut
/-! Package store, on: trim. -/
namespace Go.Proofs.Ytpkaepmmkojdaaa
open Go.RowKit

section
variable {W W1 : World} {q : StP} {S : St} {D : Dk}

set_option maxRecDepth 100000 in
set_option maxHeartbeats 1600000 in
theorem store_trim (h : StAt W q S D) (kd lo po : Int) (v : Value) (l : List UInt8) (hv : Bs W v l) (p0 : 0 ≤ po) (p1 : po ≤ 281474976710656) :
    Calls Try.prog 38 #[.pointer (some ⟨q.s, 0, none⟩), .agg #[.int .i64 kd, .int .i64 lo, .int .i64 po, v]] W fun e w' => (∃ v, e = .returned v) ∧ StAt w' q (S.setState lo ((S.get lo).1, max (S.get lo).2.1 po, (S.get lo).2.2)) D ∧ Ext (fun b => b = q.mt) W w' := by
  obtain ⟨av, cv, rfl⟩ := hv.form
  obtain ⟨W1, hW1⟩ : ∃ W1, W.alloc (.cells #[.int .i64 kd, .int .i64 lo, .int .i64 po, .slice av l.length cv] 62) = W1 := ⟨_, rfl⟩
  have b1 : Below W.heap.size W W1 := by rw [← hW1]; exact (Below.refl _ W).alloc (Nat.le_refl _) _
  obtain ⟨eb, heb⟩ : ∃ eb, eb = W.heap.size := ⟨_, rfl⟩
  have bE : Blk W1 eb #[.int .i64 kd, .int .i64 lo, .int .i64 po, .slice av l.length cv] 62 := by rw [← hW1, heb]; exact Blk.new W _ _
  have hS := h.keep b1
  obtain ⟨B0, hB0⟩ : ∃ B0, B0 = W1.heap.size := ⟨_, rfl⟩
  have HB := hid (Nat.le_of_eq hB0)
  clear hv
  go_enter Try.func38, Try.ntmps38
  go_wp2_with fail
  rw [← heb]
  have Heb := hid heb
  clear heb
  refine wp_region_tail 8 rfl Grows (fun i v x => match i with
      | 0 => v = .pointer (some ⟨q.s, 0, none⟩)
      | 1 => v = .pointer (some ⟨q.s, 0, none⟩)
      | 2 => v = .pointer (some ⟨q.s, 2, none⟩)
      | 3 => v = .map (some q.mt)
      | 4 => v = .pointer (some ⟨eb, 1, none⟩)
      | 5 => v = .int .i64 lo
      | 6 => v = stV (S.get lo)
      | 7 => ∃ g, v = .pointer (some ⟨g, 0, none⟩) ∧ B0 ≤ g ∧ Blk x g #[.int .i64 0, .int .i64 0, .bool false] 93
      | _ => True) (by kernel_rfl) (Grows.refl _) Grows.trans ?stab ?steps ?fin
  case stab =>
    intro i v x y hg h
    match i with
    | 0 | 1 | 2 | 3 | 4 | 5 | 6 => exact h
    | 7 => exact (by obtain ⟨g, e, hg1, hb⟩ := h; exact ⟨g, e, hg1, hb.keep hg⟩)
    | n + 8 => trivial
  case steps =>
    simp only [List.take_succ_cons, List.take_zero]
    refine ⟨?_, ?_, ?_, ?_, ?_, ?_, ?_, ?_, trivial⟩
    · intro a x hA
      have t0 := hA.at_ 0 (by rfl) rfl
      refine step_value (w' := x) (v := .pointer (some ⟨q.s, 0, none⟩)) ?_ (Grows.refl _) ?_
      · go_simp
      · rfl
    · intro a x hA
      have t5 : a.tmps[5]?.getD undef = .pointer (some ⟨q.s, 0, none⟩) := hA.dep_ ⟨0, .data⟩ (by simp) _ 5 rfl rfl
      refine step_value (w' := x) (v := .pointer (some ⟨q.s, 0, none⟩)) ?_ (Grows.refl _) ?_
      · go_simp
      · rfl
    · intro a x hA
      have t6 : a.tmps[6]?.getD undef = .pointer (some ⟨q.s, 0, none⟩) := hA.dep_ ⟨1, .data⟩ (by simp) _ 6 rfl rfl
      refine step_value (w' := x) (v := .pointer (some ⟨q.s, 2, none⟩)) ?_ (Grows.refl _) ?_
      · go_simp
      · rfl
    · intro a x hA
      have t7 : a.tmps[7]?.getD undef = .pointer (some ⟨q.s, 2, none⟩) := hA.dep_ ⟨2, .data⟩ (by simp) _ 7 rfl rfl
      have cS2 := (hS.keep hA.grown).cell.cell (o := 2) rfl
      have cE1 := (bE.keep hA.grown).cell (o := 1) rfl
      refine step_value (w' := x) (v := .map (some q.mt)) ?_ (Grows.refl _) ?_
      · go_simp
      · rfl
    · intro a x hA
      have t3 := hA.at_ 3 (by rfl) rfl
      refine step_value (w' := x) (v := .pointer (some ⟨eb, 1, none⟩)) ?_ (Grows.refl _) ?_
      · go_simp
      · rfl
    · intro a x hA
      have t9 : a.tmps[9]?.getD undef = .pointer (some ⟨eb, 1, none⟩) := hA.dep_ ⟨4, .data⟩ (by simp) _ 9 rfl rfl
      have cS2 := (hS.keep hA.grown).cell.cell (o := 2) rfl
      have cE1 := (bE.keep hA.grown).cell (o := 1) rfl
      refine step_value (w' := x) (v := .int .i64 lo) ?_ (Grows.refl _) ?_
      · go_simp
      · rfl
    · intro a x hA
      have t8 : a.tmps[8]?.getD undef = .map (some q.mt) := hA.dep_ ⟨3, .data⟩ (by simp) _ 8 rfl rfl
      have t10 : a.tmps[10]?.getD undef = .int .i64 lo := hA.dep_ ⟨5, .data⟩ (by simp) _ 10 rfl rfl
      have cS2 := (hS.keep hA.grown).cell.cell (o := 2) rfl
      have cE1 := (bE.keep hA.grown).cell (o := 1) rfl
      have hlk := store_lookup (hS.keep hA.grown) lo
      refine step_value (w' := x) (v := stV (S.get lo)) ?_ (Grows.refl _) ?_
      · generalize stV (S.get lo) = sv at *
        go_simp
      · rfl
    · intro a x hA
      have hsx := hA.grown.size
      refine step_value (w' := x.alloc (.cells #[.int .i64 0, .int .i64 0, .bool false] 93)) (v := .pointer (some ⟨x.heap.size, 0, none⟩)) ?_ (Grows.alloc _ _) ?_
      · go_simp
      · exact ⟨_, rfl, Nat.le_trans HB.out hsx, Blk.new _ _ _⟩
  case fin =>
    intro y W' hg hV
    simp only [List.take_succ_cons, List.take_zero, AllVals] at hV
    obtain ⟨u0, u1, u2, u3, u4, u5, u6, ⟨gx, u7, hgx, bX⟩, _⟩ := hV
    simp only [List.take_succ_cons, List.take_zero, List.drop_succ_cons, List.drop_zero, putAll, Act.put, List.setIfInBounds_toArray, List.set_cons_zero, List.set_cons_succ]
    have hgb : Below W1.heap.size W1 W' := ⟨hg.os, hg.tape, hg.output, hg.size, hg.block⟩
    obtain ⟨tl, tr, sl, hget, k1, k2, k3, k4⟩ := S.get_form hS lo
    rw [hget] at u6
    have hS2 := hS.keep hgb
    have bE2 := bE.keep hgb
    rw [u6, u7]
    clear u0 u1 u2 u3 u4 u5 u6 u7 hg
    have x0 := bX.cell (o := 0) rfl
    have x1 := bX.cell (o := 1) rfl
    have x2 := bX.cell (o := 2) rfl
    have f0 := bX.free 0
    have f1 := bX.free 1
    have f2 := bX.free 2
    have e2 := bE2.cell (o := 2) rfl
    simp only [stV]
    have hebl := bE.lt
    have hne1 : ¬ gx = eb := by omega
    have hne2 : ¬ eb = gx := by omega
    go_wp2_with fail
    · have bX3 := ((((bX.set (o := 0) (.int .i64 tl)).set (o := 1) (.int .i64 tr)).set (o := 2) (.bool sl)).set (o := 1) (.int .i64 po))
      simp only [List.setIfInBounds_toArray, List.set_cons_zero, List.set_cons_succ] at bX3
      have x3 : Ext (fun b => b = gx) W' _ := (((((Ext.refl (fun b => b = gx) W').setCell (a := ⟨gx, 0, none⟩) (.inl rfl) (.int .i64 tl)).setCell (a := ⟨gx, 1, none⟩) (.inl rfl) (.int .i64 tr)).setCell (a := ⟨gx, 2, none⟩) (.inl rfl) (.bool sl)).setCell (a := ⟨gx, 1, none⟩) (.inl rfl) (.int .i64 po))
      have hnall : ∀ b, b = gx → ¬ q.all b := fun b hb hq => by have := hS.size hq; omega
      have hS3 := hS2.ext x3 hnall
      have bE3 := bE2.ext x3 (by omega)
      clear x0 x1 x2 f0 f1 f2 e2 bX
      generalize ((((W'.setCell ⟨gx, 0, none⟩ (.int .i64 tl)).setCell ⟨gx, 1, none⟩ (.int .i64 tr)).setCell ⟨gx, 2, none⟩ (.bool sl)).setCell ⟨gx, 1, none⟩ (.int .i64 po)) = W3 at *
      refine wp_region_tail 7 rfl Stays (fun i v x => match i with
          | 0 => v = .pointer (some ⟨q.s, 0, none⟩)
          | 1 => v = .pointer (some ⟨q.s, 0, none⟩)
          | 2 => v = .pointer (some ⟨q.s, 2, none⟩)
          | 3 => v = .map (some q.mt)
          | 4 => v = .pointer (some ⟨eb, 1, none⟩)
          | 5 => v = .int .i64 lo
          | 6 => v = .agg #[.int .i64 tl, .int .i64 po, .bool sl]
          | _ => True) (by kernel_rfl) (Stays.refl _) Stays.trans ?stab ?steps ?fin
      case stab =>
        intro i v x y hg h
        match i with
        | 0 | 1 | 2 | 3 | 4 | 5 | 6 => exact h
        | n + 7 => trivial
      case steps =>
        simp only [List.take_succ_cons, List.take_zero]
        refine ⟨?_, ?_, ?_, ?_, ?_, ?_, ?_, trivial⟩
        · intro a x hA
          have t0 := hA.at_ 0 (by rfl) rfl
          refine step_value (w' := x) (v := .pointer (some ⟨q.s, 0, none⟩)) ?_ (Stays.refl _) ?_
          · go_simp
          · rfl
        · intro a x hA
          have t18 : a.tmps[18]?.getD undef = .pointer (some ⟨q.s, 0, none⟩) := hA.dep_ ⟨0, .data⟩ (by simp) _ 18 rfl rfl
          refine step_value (w' := x) (v := .pointer (some ⟨q.s, 0, none⟩)) ?_ (Stays.refl _) ?_
          · go_simp
          · rfl
        · intro a x hA
          have t19 : a.tmps[19]?.getD undef = .pointer (some ⟨q.s, 0, none⟩) := hA.dep_ ⟨1, .data⟩ (by simp) _ 19 rfl rfl
          refine step_value (w' := x) (v := .pointer (some ⟨q.s, 2, none⟩)) ?_ (Stays.refl _) ?_
          · go_simp
          · rfl
        · intro a x hA
          have t20 : a.tmps[20]?.getD undef = .pointer (some ⟨q.s, 2, none⟩) := hA.dep_ ⟨2, .data⟩ (by simp) _ 20 rfl rfl
          have hxe : x = W3.drew := hA.grow
          have cS2 : x.cell? ⟨q.s, 2, none⟩ = some (.map (some q.mt)) := by rw [hxe]; exact hS3.cell.cell (o := 2) rfl
          have cE1 : x.cell? ⟨eb, 1, none⟩ = some (.int .i64 lo) := by rw [hxe]; exact bE3.cell (o := 1) rfl
          have cX0 : x.cell? ⟨gx, 0, none⟩ = some (.int .i64 tl) := by rw [hxe]; exact bX3.cell (o := 0) rfl
          have cX1 : x.cell? ⟨gx, 1, none⟩ = some (.int .i64 po) := by rw [hxe]; exact bX3.cell (o := 1) rfl
          have cX2 : x.cell? ⟨gx, 2, none⟩ = some (.bool sl) := by rw [hxe]; exact bX3.cell (o := 2) rfl
          clear hxe
          refine step_value (w' := x) (v := .map (some q.mt)) ?_ (Stays.refl _) ?_
          · go_simp
          · rfl
        · intro a x hA
          have t3 := hA.at_ 3 (by rfl) rfl
          refine step_value (w' := x) (v := .pointer (some ⟨eb, 1, none⟩)) ?_ (Stays.refl _) ?_
          · go_simp
          · rfl
        · intro a x hA
          have t22 : a.tmps[22]?.getD undef = .pointer (some ⟨eb, 1, none⟩) := hA.dep_ ⟨4, .data⟩ (by simp) _ 22 rfl rfl
          have hxe : x = W3.drew := hA.grow
          have cS2 : x.cell? ⟨q.s, 2, none⟩ = some (.map (some q.mt)) := by rw [hxe]; exact hS3.cell.cell (o := 2) rfl
          have cE1 : x.cell? ⟨eb, 1, none⟩ = some (.int .i64 lo) := by rw [hxe]; exact bE3.cell (o := 1) rfl
          have cX0 : x.cell? ⟨gx, 0, none⟩ = some (.int .i64 tl) := by rw [hxe]; exact bX3.cell (o := 0) rfl
          have cX1 : x.cell? ⟨gx, 1, none⟩ = some (.int .i64 po) := by rw [hxe]; exact bX3.cell (o := 1) rfl
          have cX2 : x.cell? ⟨gx, 2, none⟩ = some (.bool sl) := by rw [hxe]; exact bX3.cell (o := 2) rfl
          clear hxe
          refine step_value (w' := x) (v := .int .i64 lo) ?_ (Stays.refl _) ?_
          · go_simp
          · rfl
        · intro a x hA
          have t4 := hA.at_ 4 (by rfl) rfl
          have hxe : x = W3.drew := hA.grow
          have cS2 : x.cell? ⟨q.s, 2, none⟩ = some (.map (some q.mt)) := by rw [hxe]; exact hS3.cell.cell (o := 2) rfl
          have cE1 : x.cell? ⟨eb, 1, none⟩ = some (.int .i64 lo) := by rw [hxe]; exact bE3.cell (o := 1) rfl
          have cX0 : x.cell? ⟨gx, 0, none⟩ = some (.int .i64 tl) := by rw [hxe]; exact bX3.cell (o := 0) rfl
          have cX1 : x.cell? ⟨gx, 1, none⟩ = some (.int .i64 po) := by rw [hxe]; exact bX3.cell (o := 1) rfl
          have cX2 : x.cell? ⟨gx, 2, none⟩ = some (.bool sl) := by rw [hxe]; exact bX3.cell (o := 2) rfl
          clear hxe
          refine step_value (w' := x) (v := .agg #[.int .i64 tl, .int .i64 po, .bool sl]) ?_ (Stays.refl _) ?_
          · go_simp
          · rfl
      case fin =>
        intro y4 W4 hg hV
        simp only [List.take_succ_cons, List.take_zero, AllVals] at hV
        obtain ⟨u0, u1, u2, u3, u4, u5, u6, _⟩ := hV
        simp only [List.take_succ_cons, List.take_zero, List.drop_succ_cons, List.drop_zero, putAll, Act.put, List.setIfInBounds_toArray, List.set_cons_zero, List.set_cons_succ]
        obtain rfl : W4 = W3.drew := hg
        rw [u3, u5, u6]
        clear u0 u1 u2 u4 u3 u5 u6
        have hS4 : StAt W3.drew q S D := hS3.keep ((Below.refl _ W3).drew)
        obtain ⟨w4, hr4, hS5, hx4⟩ := store_update hS4 lo tl po sl (by omega) (by omega) (by omega) (by omega)
        refine wpList_skip rfl (exec_mapUpdate rfl (w' := w4) (by simpa [go_sem] using hr4)) ?_
        have hxx : Ext (fun b => b = q.mt) W w4 := ((Ext.ofBelow (b1.trans (hgb.mono b1.size)) : Ext (fun b => b = q.mt) W W').trans x3 (fun b hb => .inr (by rw [hb]; have := b1.size; omega))).drew.trans' hx4
        go_wp2
        go_end0
        exact ⟨⟨_, rfl⟩, by rw [show max tr po = po from by omega]; exact hS5, hxx⟩
    
    · have bX3 := ((((bX.set (o := 0) (.int .i64 tl)).set (o := 1) (.int .i64 tr)).set (o := 2) (.bool sl)).set (o := 1) (.int .i64 tr))
      simp only [List.setIfInBounds_toArray, List.set_cons_zero, List.set_cons_succ] at bX3
      have x3 : Ext (fun b => b = gx) W' _ := (((((Ext.refl (fun b => b = gx) W').setCell (a := ⟨gx, 0, none⟩) (.inl rfl) (.int .i64 tl)).setCell (a := ⟨gx, 1, none⟩) (.inl rfl) (.int .i64 tr)).setCell (a := ⟨gx, 2, none⟩) (.inl rfl) (.bool sl)).setCell (a := ⟨gx, 1, none⟩) (.inl rfl) (.int .i64 tr))
      have hnall : ∀ b, b = gx → ¬ q.all b := fun b hb hq => by have := hS.size hq; omega
      have hS3 := hS2.ext x3 hnall
      have bE3 := bE2.ext x3 (by omega)
      clear x0 x1 x2 f0 f1 f2 e2 bX
      generalize ((((W'.setCell ⟨gx, 0, none⟩ (.int .i64 tl)).setCell ⟨gx, 1, none⟩ (.int .i64 tr)).setCell ⟨gx, 2, none⟩ (.bool sl)).setCell ⟨gx, 1, none⟩ (.int .i64 tr)) = W3 at *
      refine wp_region_tail 7 rfl Stays (fun i v x => match i with
          | 0 => v = .pointer (some ⟨q.s, 0, none⟩)
          | 1 => v = .pointer (some ⟨q.s, 0, none⟩)
          | 2 => v = .pointer (some ⟨q.s, 2, none⟩)
          | 3 => v = .map (some q.mt)
          | 4 => v = .pointer (some ⟨eb, 1, none⟩)
          | 5 => v = .int .i64 lo
          | 6 => v = .agg #[.int .i64 tl, .int .i64 tr, .bool sl]
          | _ => True) (by kernel_rfl) (Stays.refl _) Stays.trans ?stab ?steps ?fin
      case stab =>
        intro i v x y hg h
        match i with
        | 0 | 1 | 2 | 3 | 4 | 5 | 6 => exact h
        | n + 7 => trivial
      case steps =>
        simp only [List.take_succ_cons, List.take_zero]
        refine ⟨?_, ?_, ?_, ?_, ?_, ?_, ?_, trivial⟩
        · intro a x hA
          have t0 := hA.at_ 0 (by rfl) rfl
          refine step_value (w' := x) (v := .pointer (some ⟨q.s, 0, none⟩)) ?_ (Stays.refl _) ?_
          · go_simp
          · rfl
        · intro a x hA
          have t18 : a.tmps[18]?.getD undef = .pointer (some ⟨q.s, 0, none⟩) := hA.dep_ ⟨0, .data⟩ (by simp) _ 18 rfl rfl
          refine step_value (w' := x) (v := .pointer (some ⟨q.s, 0, none⟩)) ?_ (Stays.refl _) ?_
          · go_simp
          · rfl
        · intro a x hA
          have t19 : a.tmps[19]?.getD undef = .pointer (some ⟨q.s, 0, none⟩) := hA.dep_ ⟨1, .data⟩ (by simp) _ 19 rfl rfl
          refine step_value (w' := x) (v := .pointer (some ⟨q.s, 2, none⟩)) ?_ (Stays.refl _) ?_
          · go_simp
          · rfl
        · intro a x hA
          have t20 : a.tmps[20]?.getD undef = .pointer (some ⟨q.s, 2, none⟩) := hA.dep_ ⟨2, .data⟩ (by simp) _ 20 rfl rfl
          have hxe : x = W3.drew := hA.grow
          have cS2 : x.cell? ⟨q.s, 2, none⟩ = some (.map (some q.mt)) := by rw [hxe]; exact hS3.cell.cell (o := 2) rfl
          have cE1 : x.cell? ⟨eb, 1, none⟩ = some (.int .i64 lo) := by rw [hxe]; exact bE3.cell (o := 1) rfl
          have cX0 : x.cell? ⟨gx, 0, none⟩ = some (.int .i64 tl) := by rw [hxe]; exact bX3.cell (o := 0) rfl
          have cX1 : x.cell? ⟨gx, 1, none⟩ = some (.int .i64 tr) := by rw [hxe]; exact bX3.cell (o := 1) rfl
          have cX2 : x.cell? ⟨gx, 2, none⟩ = some (.bool sl) := by rw [hxe]; exact bX3.cell (o := 2) rfl
          clear hxe
          refine step_value (w' := x) (v := .map (some q.mt)) ?_ (Stays.refl _) ?_
          · go_simp
          · rfl
        · intro a x hA
          have t3 := hA.at_ 3 (by rfl) rfl
          refine step_value (w' := x) (v := .pointer (some ⟨eb, 1, none⟩)) ?_ (Stays.refl _) ?_
          · go_simp
          · rfl
        · intro a x hA
          have t22 : a.tmps[22]?.getD undef = .pointer (some ⟨eb, 1, none⟩) := hA.dep_ ⟨4, .data⟩ (by simp) _ 22 rfl rfl
          have hxe : x = W3.drew := hA.grow
          have cS2 : x.cell? ⟨q.s, 2, none⟩ = some (.map (some q.mt)) := by rw [hxe]; exact hS3.cell.cell (o := 2) rfl
          have cE1 : x.cell? ⟨eb, 1, none⟩ = some (.int .i64 lo) := by rw [hxe]; exact bE3.cell (o := 1) rfl
          have cX0 : x.cell? ⟨gx, 0, none⟩ = some (.int .i64 tl) := by rw [hxe]; exact bX3.cell (o := 0) rfl
          have cX1 : x.cell? ⟨gx, 1, none⟩ = some (.int .i64 tr) := by rw [hxe]; exact bX3.cell (o := 1) rfl
          have cX2 : x.cell? ⟨gx, 2, none⟩ = some (.bool sl) := by rw [hxe]; exact bX3.cell (o := 2) rfl
          clear hxe
          refine step_value (w' := x) (v := .int .i64 lo) ?_ (Stays.refl _) ?_
          · go_simp
          · rfl
        · intro a x hA
          have t4 := hA.at_ 4 (by rfl) rfl
          have hxe : x = W3.drew := hA.grow
          have cS2 : x.cell? ⟨q.s, 2, none⟩ = some (.map (some q.mt)) := by rw [hxe]; exact hS3.cell.cell (o := 2) rfl
          have cE1 : x.cell? ⟨eb, 1, none⟩ = some (.int .i64 lo) := by rw [hxe]; exact bE3.cell (o := 1) rfl
          have cX0 : x.cell? ⟨gx, 0, none⟩ = some (.int .i64 tl) := by rw [hxe]; exact bX3.cell (o := 0) rfl
          have cX1 : x.cell? ⟨gx, 1, none⟩ = some (.int .i64 tr) := by rw [hxe]; exact bX3.cell (o := 1) rfl
          have cX2 : x.cell? ⟨gx, 2, none⟩ = some (.bool sl) := by rw [hxe]; exact bX3.cell (o := 2) rfl
          clear hxe
          refine step_value (w' := x) (v := .agg #[.int .i64 tl, .int .i64 tr, .bool sl]) ?_ (Stays.refl _) ?_
          · go_simp
          · rfl
      case fin =>
        intro y4 W4 hg hV
        simp only [List.take_succ_cons, List.take_zero, AllVals] at hV
        obtain ⟨u0, u1, u2, u3, u4, u5, u6, _⟩ := hV
        simp only [List.take_succ_cons, List.take_zero, List.drop_succ_cons, List.drop_zero, putAll, Act.put, List.setIfInBounds_toArray, List.set_cons_zero, List.set_cons_succ]
        obtain rfl : W4 = W3.drew := hg
        rw [u3, u5, u6]
        clear u0 u1 u2 u4 u3 u5 u6
        have hS4 : StAt W3.drew q S D := hS3.keep ((Below.refl _ W3).drew)
        obtain ⟨w4, hr4, hS5, hx4⟩ := store_update hS4 lo tl tr sl (by omega) (by omega) (by omega) (by omega)
        refine wpList_skip rfl (exec_mapUpdate rfl (w' := w4) (by simpa [go_sem] using hr4)) ?_
        have hxx : Ext (fun b => b = q.mt) W w4 := ((Ext.ofBelow (b1.trans (hgb.mono b1.size)) : Ext (fun b => b = q.mt) W W').trans x3 (fun b hb => .inr (by rw [hb]; have := b1.size; omega))).drew.trans' hx4
        go_wp2
        go_end0
        exact ⟨⟨_, rfl⟩, by rw [show max tr po = tr from by omega]; exact hS5, hxx⟩
    
    

end

end Go.Proofs.Ytpkaepmmkojdaaa
