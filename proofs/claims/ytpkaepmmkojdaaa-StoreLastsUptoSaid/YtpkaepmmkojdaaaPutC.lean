import Derived.Test.YtpkaepmmkojdaaaPutB
/-! Package store, on: put. -/
namespace Go.Proofs.Ytpkaepmmkojdaaa
open Go.RowKit

section
variable {W W1 : World} {q : StP} {S : St} {D : Dk}

set_option maxRecDepth 100000 in
set_option maxHeartbeats 1600000 in
theorem store_put (h : StAt W q S D) (kd lo po : Int) (v : Value) (l : List UInt8) (hv : Bs W v l) (hl : l.length ≤ 65536) (p0 : 0 ≤ po) (p1 : po < 281474976710656) :
    Calls Try.prog 36 #[.pointer (some ⟨q.s, 0, none⟩), .agg #[.int .i64 kd, .int .i64 lo, .int .i64 po, v]] W fun e w' => (∃ v, e = .returned v) ∧ (∃ q', StAt w' q' ((S.setSlot (lo, po) l).setState lo (max (S.get lo).1 (po + 1), (S.get lo).2.1, (S.get lo).2.2)) D ∧ q'.s = q.s ∧ q'.ms = q.ms ∧ q'.mt = q.mt ∧ q'.p = q.p ∧ (∀ b, q'.U b → q.U b ∨ W.heap.size ≤ b) ∧ ∀ b, q.U b → q'.U b) ∧ Ext (fun b => b = q.ms ∨ b = q.mt) W w' := by
  obtain ⟨av, cv, rfl⟩ := hv.form
  obtain ⟨W1, hW1⟩ : ∃ W1, W.alloc (.cells #[.int .i64 kd, .int .i64 lo, .int .i64 po, .slice av l.length cv] 62) = W1 := ⟨_, rfl⟩
  have b1 : Below W.heap.size W W1 := by rw [← hW1]; exact (Below.refl _ W).alloc (Nat.le_refl _) _
  obtain ⟨eb, heb⟩ : ∃ eb, eb = W.heap.size := ⟨_, rfl⟩
  have bE : Blk W1 eb #[.int .i64 kd, .int .i64 lo, .int .i64 po, .slice av l.length cv] 62 := by rw [← hW1, heb]; exact Blk.new W _ _
  have hS := h.keep b1
  obtain ⟨B0, hB0⟩ : ∃ B0, B0 = W1.heap.size := ⟨_, rfl⟩
  have HB := hid (Nat.le_of_eq hB0)
  have hv1 := hv.keep b1
  clear hv
  go_enter Try.func36, Try.ntmps36
  go_wp2_with fail
  rw [← heb]
  have Heb := hid heb
  clear heb
  refine wp_region_tail 12 rfl Grows (fun i v x => match i with
      | 0 => v = .pointer (some ⟨q.s, 0, none⟩)
      | 1 => v = .pointer (some ⟨q.s, 0, none⟩)
      | 2 => v = .pointer (some ⟨q.s, 1, none⟩)
      | 3 => v = .map (some q.ms)
      | 4 => v = .pointer (some ⟨eb, 1, none⟩)
      | 5 => v = .int .i64 lo
      | 6 => v = .pointer (some ⟨eb, 2, none⟩)
      | 7 => v = .int .i64 po
      | 8 => v = .agg #[.int .i64 lo, .int .i64 po]
      | 9 => v = .pointer (some ⟨eb, 3, none⟩)
      | 10 => v = .slice av l.length cv
      | 11 => Own8 x B0 5 v l
      | _ => True) (by kernel_rfl) (Grows.refl _) Grows.trans ?stab ?steps ?fin
  case stab =>
    intro i v x y hg h
    match i with
    | 0 | 1 | 2 | 3 | 4 | 5 | 6 | 7 | 8 | 9 | 10 => exact h
    | 11 => exact Own8.keep h hg
    | n + 12 => trivial
  case steps =>
    simp only [List.take_succ_cons, List.take_zero]
    refine ⟨?_, ?_, ?_, ?_, ?_, ?_, ?_, ?_, ?_, ?_, ?_, ?_, trivial⟩
    · intro a x hA
      have t0 := hA.at_ 0 (by rfl) rfl
      refine step_value (w' := x) (v := .pointer (some ⟨q.s, 0, none⟩)) ?_ (Grows.refl _) ?_
      · go_simp
      · rfl
    · intro a x hA
      have t5 : a.tmps[5]?.getD undef = .pointer (some ⟨q.s, 0, none⟩) := hA.dep_ ⟨0, .data⟩ (by simp) _ 5 rfl rfl
      refine step_value (w' := x) (v := .pointer (some ⟨q.s, 0, none⟩)) ?_ (Grows.refl _) ?_
      · go_simp
      · rfl
    · intro a x hA
      have t6 : a.tmps[6]?.getD undef = .pointer (some ⟨q.s, 0, none⟩) := hA.dep_ ⟨1, .data⟩ (by simp) _ 6 rfl rfl
      refine step_value (w' := x) (v := .pointer (some ⟨q.s, 1, none⟩)) ?_ (Grows.refl _) ?_
      · go_simp
      · rfl
    · intro a x hA
      have t7 : a.tmps[7]?.getD undef = .pointer (some ⟨q.s, 1, none⟩) := hA.dep_ ⟨2, .data⟩ (by simp) _ 7 rfl rfl
      have cS1 := (hS.keep hA.grown).cell.cell (o := 1) rfl
      have cE1 := (bE.keep hA.grown).cell (o := 1) rfl
      have cE2 := (bE.keep hA.grown).cell (o := 2) rfl
      have cE3 := (bE.keep hA.grown).cell (o := 3) rfl
      refine step_value (w' := x) (v := .map (some q.ms)) ?_ (Grows.refl _) ?_
      · go_simp
      · rfl
    · intro a x hA
      have t3 := hA.at_ 3 (by rfl) rfl
      refine step_value (w' := x) (v := .pointer (some ⟨eb, 1, none⟩)) ?_ (Grows.refl _) ?_
      · go_simp
      · rfl
    · intro a x hA
      have t9 : a.tmps[9]?.getD undef = .pointer (some ⟨eb, 1, none⟩) := hA.dep_ ⟨4, .data⟩ (by simp) _ 9 rfl rfl
      have cS1 := (hS.keep hA.grown).cell.cell (o := 1) rfl
      have cE1 := (bE.keep hA.grown).cell (o := 1) rfl
      have cE2 := (bE.keep hA.grown).cell (o := 2) rfl
      have cE3 := (bE.keep hA.grown).cell (o := 3) rfl
      refine step_value (w' := x) (v := .int .i64 lo) ?_ (Grows.refl _) ?_
      · go_simp
      · rfl
    · intro a x hA
      have t3 := hA.at_ 3 (by rfl) rfl
      refine step_value (w' := x) (v := .pointer (some ⟨eb, 2, none⟩)) ?_ (Grows.refl _) ?_
      · go_simp
      · rfl
    · intro a x hA
      have t11 : a.tmps[11]?.getD undef = .pointer (some ⟨eb, 2, none⟩) := hA.dep_ ⟨6, .data⟩ (by simp) _ 11 rfl rfl
      have cS1 := (hS.keep hA.grown).cell.cell (o := 1) rfl
      have cE1 := (bE.keep hA.grown).cell (o := 1) rfl
      have cE2 := (bE.keep hA.grown).cell (o := 2) rfl
      have cE3 := (bE.keep hA.grown).cell (o := 3) rfl
      refine step_value (w' := x) (v := .int .i64 po) ?_ (Grows.refl _) ?_
      · go_simp
      · rfl
    · intro a x hA
      have t10 : a.tmps[10]?.getD undef = .int .i64 lo := hA.dep_ ⟨5, .data⟩ (by simp) _ 10 rfl rfl
      have t12 : a.tmps[12]?.getD undef = .int .i64 po := hA.dep_ ⟨7, .data⟩ (by simp) _ 12 rfl rfl
      refine step_value (w' := x) (v := .agg #[.int .i64 lo, .int .i64 po]) ?_ (Grows.refl _) ?_
      · go_simp
      · rfl
    · intro a x hA
      have t3 := hA.at_ 3 (by rfl) rfl
      refine step_value (w' := x) (v := .pointer (some ⟨eb, 3, none⟩)) ?_ (Grows.refl _) ?_
      · go_simp
      · rfl
    · intro a x hA
      have t14 : a.tmps[14]?.getD undef = .pointer (some ⟨eb, 3, none⟩) := hA.dep_ ⟨9, .data⟩ (by simp) _ 14 rfl rfl
      have cS1 := (hS.keep hA.grown).cell.cell (o := 1) rfl
      have cE1 := (bE.keep hA.grown).cell (o := 1) rfl
      have cE2 := (bE.keep hA.grown).cell (o := 2) rfl
      have cE3 := (bE.keep hA.grown).cell (o := 3) rfl
      refine step_value (w' := x) (v := .slice av l.length cv) ?_ (Grows.refl _) ?_
      · go_simp
      · rfl
    · intro a x hA
      have t15 : a.tmps[15]?.getD undef = .slice av l.length cv := hA.dep_ ⟨10, .data⟩ (by simp) _ 15 rfl rfl
      have hvx := hv1.keep hA.grown
      refine step_call (f := 50) (args := #[.slice av l.length cv]) (by clear hvx; go_simp) ((slices_Clone _ l x hvx (by omega)).mono ?_)
      rintro e w' ⟨v, rfl, hb, ho, hbb⟩
      exact ⟨v, rfl, hbb, ho.mono (Nat.le_trans HB.out hA.grown.size)⟩
  case fin =>
    intro y W' hg hV
    simp only [List.take_succ_cons, List.take_zero, AllVals] at hV
    obtain ⟨u0, u1, u2, u3, u4, u5, u6, u7, u8, u9, u10, u11, _⟩ := hV
    simp only [List.take_succ_cons, List.take_zero, List.drop_succ_cons, List.drop_zero, putAll, Act.put, List.setIfInBounds_toArray, List.set_cons_zero, List.set_cons_succ]
    have hgb : Below W1.heap.size W1 W' := ⟨hg.os, hg.tape, hg.output, hg.size, hg.block⟩
    obtain ⟨w2, hr2, hS2, hx2⟩ := store_slot (hS.keep hgb) (lo, po) (y 16) l u11.bs hl (fun g hg => ⟨fun hq => by have := hS.size hq; have := (u11.blk g hg).1; omega, (u11.blk g hg).2⟩)
    have hUnew : ∀ g, (y 16).ownBlock = some g → W.heap.size ≤ g := fun g hg => by have := (u11.blk g hg).1; have := b1.size; omega
    rw [u3, u8]
    refine wpList_skip rfl (exec_mapUpdate rfl (w' := w2) (by simpa [go_sem, encS] using hr2)) ?_
    have bE2 := (bE.keep hgb).ext hx2 (by have := hS.size (b := q.ms) (.inl (.inr (.inl rfl))); have := Heb.out; have h9 := h.size (b := q.ms) (.inl (.inr (.inl rfl))); omega)
    have x2 : Ext (fun b => b = q.ms ∨ b = q.mt) W w2 := (Ext.ofBelow (b1.trans (hgb.mono b1.size)) : Ext (fun b => b = q.ms ∨ b = q.mt) W W').trans hx2 (fun b hb => .inl (.inl hb))
    obtain ⟨q', hq'⟩ : ∃ q' : StP, q' = { q with U := fun b => q.U b ∨ (y 16).ownBlock = some b } := ⟨_, rfl⟩
    rw [← hq'] at hS2
    have hqs : q'.s = q.s := by rw [hq']
    have hqm : q'.ms = q.ms := by rw [hq']
    have hqt : q'.mt = q.mt := by rw [hq']
    have hqp : q'.p = q.p := by rw [hq']
    have hqU : ∀ b, q'.U b → q.U b ∨ W.heap.size ≤ b := fun b hb => by
      rw [hq'] at hb
      exact hb.imp id (hUnew b)
    have hqUm : ∀ b, q.U b → q'.U b := fun b hb => by rw [hq']; exact .inl hb
    have hget0 : (S.setSlot (lo, po) l).get lo = S.get lo := rfl
    obtain ⟨S', hS'⟩ : ∃ S', S' = S.setSlot (lo, po) l := ⟨_, rfl⟩
    rw [← hS'] at hS2 hget0
    have HS' := hid hS'
    have hszw : W.heap.size ≤ w2.heap.size := x2.size
    clear u0 u1 u2 u3 u4 u5 u6 u7 u8 u9 u10 u11 hr2 hS hg hgb hx2 hq' hUnew hv1 bE hS'
    rw [← hqs]
    clear HB
    have HQ := hid (And.intro hqs (And.intro hqm (And.intro hqt hqp)))
    have Hg0 := hid hget0
    clear hB0 b1 hW1 hqs hqm hqt hqp hget0
    obtain ⟨qo, rfl⟩ : ∃ x : StP, x = q := ⟨_, rfl⟩
    obtain ⟨q, rfl⟩ : ∃ x : StP, x = q' := ⟨_, rfl⟩
    obtain ⟨So, rfl⟩ : ∃ x : St, x = S := ⟨_, rfl⟩
    obtain ⟨S, rfl⟩ : ∃ x : St, x = S' := ⟨_, rfl⟩
    obtain ⟨W1, rfl⟩ : ∃ x : World, x = w2 := ⟨_, rfl⟩
    have hS := hS2
    have bE := bE2
    clear hS2 bE2
    obtain ⟨B0, hB0⟩ : ∃ B0, B0 = W1.heap.size := ⟨_, rfl⟩
    have HB := hid (Nat.le_of_eq hB0)
    go_wp2_with fail
    simp only [Act.put]
    refine wp_region_tail 8 rfl Grows (fun i v x => match i with
        | 0 => v = .pointer (some ⟨q.s, 0, none⟩)
        | 1 => v = .pointer (some ⟨q.s, 0, none⟩)
        | 2 => v = .pointer (some ⟨q.s, 2, none⟩)
        | 3 => v = .map (some q.mt)
        | 4 => v = .pointer (some ⟨eb, 1, none⟩)
        | 5 => v = .int .i64 lo
        | 6 => v = stV (S.get lo)
        | 7 => ∃ g, v = .pointer (some ⟨g, 0, none⟩) ∧ B0 ≤ g ∧ Blk x g #[.int .i64 0, .int .i64 0, .bool false] 93
        | _ => True) (by kernel_rfl) (Grows.refl _) Grows.trans ?stab ?steps ?fin
    case stab =>
      intro i v x y hg h
      match i with
      | 0 | 1 | 2 | 3 | 4 | 5 | 6 => exact h
      | 7 => exact (by obtain ⟨g, e, hg1, hb⟩ := h; exact ⟨g, e, hg1, hb.keep hg⟩)
      | n + 8 => trivial
    case steps =>
      simp only [List.take_succ_cons, List.take_zero]
      refine ⟨?_, ?_, ?_, ?_, ?_, ?_, ?_, ?_, trivial⟩
      · intro a x hA
        have t0 := hA.at_ 0 (by rfl) rfl
        refine step_value (w' := x) (v := .pointer (some ⟨q.s, 0, none⟩)) ?_ (Grows.refl _) ?_
        · go_simp
        · rfl
      · intro a x hA
        have t17 : a.tmps[17]?.getD undef = .pointer (some ⟨q.s, 0, none⟩) := hA.dep_ ⟨0, .data⟩ (by simp) _ 17 rfl rfl
        refine step_value (w' := x) (v := .pointer (some ⟨q.s, 0, none⟩)) ?_ (Grows.refl _) ?_
        · go_simp
        · rfl
      · intro a x hA
        have t18 : a.tmps[18]?.getD undef = .pointer (some ⟨q.s, 0, none⟩) := hA.dep_ ⟨1, .data⟩ (by simp) _ 18 rfl rfl
        refine step_value (w' := x) (v := .pointer (some ⟨q.s, 2, none⟩)) ?_ (Grows.refl _) ?_
        · go_simp
        · rfl
      · intro a x hA
        have t19 : a.tmps[19]?.getD undef = .pointer (some ⟨q.s, 2, none⟩) := hA.dep_ ⟨2, .data⟩ (by simp) _ 19 rfl rfl
        have cS2 := (hS.keep hA.grown).cell.cell (o := 2) rfl
        have cE1 := (bE.keep hA.grown).cell (o := 1) rfl
        refine step_value (w' := x) (v := .map (some q.mt)) ?_ (Grows.refl _) ?_
        · go_simp
        · rfl
      · intro a x hA
        have t3 := hA.at_ 3 (by rfl) rfl
        refine step_value (w' := x) (v := .pointer (some ⟨eb, 1, none⟩)) ?_ (Grows.refl _) ?_
        · go_simp
        · rfl
      · intro a x hA
        have t21 : a.tmps[21]?.getD undef = .pointer (some ⟨eb, 1, none⟩) := hA.dep_ ⟨4, .data⟩ (by simp) _ 21 rfl rfl
        have cS2 := (hS.keep hA.grown).cell.cell (o := 2) rfl
        have cE1 := (bE.keep hA.grown).cell (o := 1) rfl
        refine step_value (w' := x) (v := .int .i64 lo) ?_ (Grows.refl _) ?_
        · go_simp
        · rfl
      · intro a x hA
        have t20 : a.tmps[20]?.getD undef = .map (some q.mt) := hA.dep_ ⟨3, .data⟩ (by simp) _ 20 rfl rfl
        have t22 : a.tmps[22]?.getD undef = .int .i64 lo := hA.dep_ ⟨5, .data⟩ (by simp) _ 22 rfl rfl
        have cS2 := (hS.keep hA.grown).cell.cell (o := 2) rfl
        have cE1 := (bE.keep hA.grown).cell (o := 1) rfl
        have hlk := store_lookup (hS.keep hA.grown) lo
        refine step_value (w' := x) (v := stV (S.get lo)) ?_ (Grows.refl _) ?_
        · generalize stV (S.get lo) = sv at *
          go_simp
        · rfl
      · intro a x hA
        have hsx := hA.grown.size
        refine step_value (w' := x.alloc (.cells #[.int .i64 0, .int .i64 0, .bool false] 93)) (v := .pointer (some ⟨x.heap.size, 0, none⟩)) ?_ (Grows.alloc _ _) ?_
        · go_simp
        · exact ⟨_, rfl, Nat.le_trans HB.out hsx, Blk.new _ _ _⟩
    case fin =>
      intro y W' hg hV
      simp only [List.take_succ_cons, List.take_zero, AllVals] at hV
      obtain ⟨u0, u1, u2, u3, u4, u5, u6, ⟨gx, u7, hgx, bX⟩, _⟩ := hV
      simp only [List.take_succ_cons, List.take_zero, List.drop_succ_cons, List.drop_zero, putAll, Act.put, List.setIfInBounds_toArray, List.set_cons_zero, List.set_cons_succ]
      have hgb : Below W1.heap.size W1 W' := ⟨hg.os, hg.tape, hg.output, hg.size, hg.block⟩
      obtain ⟨tl, tr, sl, hget, k1, k2, k3, k4⟩ := S.get_form hS lo
      rw [hget] at u6
      have hS2 := hS.keep hgb
      have bE2 := bE.keep hgb
      rw [u6, u7]
      clear u0 u1 u2 u3 u4 u5 u6 u7 hg
      have x0 := bX.cell (o := 0) rfl
      have x1 := bX.cell (o := 1) rfl
      have x2 := bX.cell (o := 2) rfl
      have f0 := bX.free 0
      have f1 := bX.free 1
      have f2 := bX.free 2
      have e2 := bE2.cell (o := 2) rfl
      simp only [stV]
      have hebl := bE.lt
      have hne1 : ¬ gx = eb := by omega
      have hne2 : ¬ eb = gx := by omega
      go_wp2_with fail
      · have bX3 := ((((bX.set (o := 0) (.int .i64 tl)).set (o := 1) (.int .i64 tr)).set (o := 2) (.bool sl)).set (o := 0) (.int .i64 (po + 1)))
        simp only [List.setIfInBounds_toArray, List.set_cons_zero, List.set_cons_succ] at bX3
        have x3 : Ext (fun b => b = gx) W' _ := (((((Ext.refl (fun b => b = gx) W').setCell (a := ⟨gx, 0, none⟩) (.inl rfl) (.int .i64 tl)).setCell (a := ⟨gx, 1, none⟩) (.inl rfl) (.int .i64 tr)).setCell (a := ⟨gx, 2, none⟩) (.inl rfl) (.bool sl)).setCell (a := ⟨gx, 0, none⟩) (.inl rfl) (.int .i64 (po + 1)))
        have hnall : ∀ b, b = gx → ¬ q.all b := fun b hb hq => by have := hS.size hq; omega
        have hS3 := hS2.ext x3 hnall
        have bE3 := bE2.ext x3 (by omega)
        clear x0 x1 x2 f0 f1 f2 e2 bX
        generalize ((((W'.setCell ⟨gx, 0, none⟩ (.int .i64 tl)).setCell ⟨gx, 1, none⟩ (.int .i64 tr)).setCell ⟨gx, 2, none⟩ (.bool sl)).setCell ⟨gx, 0, none⟩ (.int .i64 (po + 1))) = W3 at *
        refine wp_region_tail 7 rfl Stays (fun i v x => match i with
            | 0 => v = .pointer (some ⟨q.s, 0, none⟩)
            | 1 => v = .pointer (some ⟨q.s, 0, none⟩)
            | 2 => v = .pointer (some ⟨q.s, 2, none⟩)
            | 3 => v = .map (some q.mt)
            | 4 => v = .pointer (some ⟨eb, 1, none⟩)
            | 5 => v = .int .i64 lo
            | 6 => v = .agg #[.int .i64 (po + 1), .int .i64 tr, .bool sl]
            | _ => True) (by kernel_rfl) (Stays.refl _) Stays.trans ?stab ?steps ?fin
        case stab =>
          intro i v x y hg h
          match i with
          | 0 | 1 | 2 | 3 | 4 | 5 | 6 => exact h
          | n + 7 => trivial
        case steps =>
          simp only [List.take_succ_cons, List.take_zero]
          refine ⟨?_, ?_, ?_, ?_, ?_, ?_, ?_, trivial⟩
          · intro a x hA
            have t0 := hA.at_ 0 (by rfl) rfl
            refine step_value (w' := x) (v := .pointer (some ⟨q.s, 0, none⟩)) ?_ (Stays.refl _) ?_
            · go_simp
            · rfl
          · intro a x hA
            have t31 : a.tmps[31]?.getD undef = .pointer (some ⟨q.s, 0, none⟩) := hA.dep_ ⟨0, .data⟩ (by simp) _ 31 rfl rfl
            refine step_value (w' := x) (v := .pointer (some ⟨q.s, 0, none⟩)) ?_ (Stays.refl _) ?_
            · go_simp
            · rfl
          · intro a x hA
            have t32 : a.tmps[32]?.getD undef = .pointer (some ⟨q.s, 0, none⟩) := hA.dep_ ⟨1, .data⟩ (by simp) _ 32 rfl rfl
            refine step_value (w' := x) (v := .pointer (some ⟨q.s, 2, none⟩)) ?_ (Stays.refl _) ?_
            · go_simp
            · rfl
          · intro a x hA
            have t33 : a.tmps[33]?.getD undef = .pointer (some ⟨q.s, 2, none⟩) := hA.dep_ ⟨2, .data⟩ (by simp) _ 33 rfl rfl
            have hxe : x = W3.drew := hA.grow
            have cS2 : x.cell? ⟨q.s, 2, none⟩ = some (.map (some q.mt)) := by rw [hxe]; exact hS3.cell.cell (o := 2) rfl
            have cE1 : x.cell? ⟨eb, 1, none⟩ = some (.int .i64 lo) := by rw [hxe]; exact bE3.cell (o := 1) rfl
            have cX0 : x.cell? ⟨gx, 0, none⟩ = some (.int .i64 (po + 1)) := by rw [hxe]; exact bX3.cell (o := 0) rfl
            have cX1 : x.cell? ⟨gx, 1, none⟩ = some (.int .i64 tr) := by rw [hxe]; exact bX3.cell (o := 1) rfl
            have cX2 : x.cell? ⟨gx, 2, none⟩ = some (.bool sl) := by rw [hxe]; exact bX3.cell (o := 2) rfl
            clear hxe
            refine step_value (w' := x) (v := .map (some q.mt)) ?_ (Stays.refl _) ?_
            · go_simp
            · rfl
          · intro a x hA
            have t3 := hA.at_ 3 (by rfl) rfl
            refine step_value (w' := x) (v := .pointer (some ⟨eb, 1, none⟩)) ?_ (Stays.refl _) ?_
            · go_simp
            · rfl
          · intro a x hA
            have t35 : a.tmps[35]?.getD undef = .pointer (some ⟨eb, 1, none⟩) := hA.dep_ ⟨4, .data⟩ (by simp) _ 35 rfl rfl
            have hxe : x = W3.drew := hA.grow
            have cS2 : x.cell? ⟨q.s, 2, none⟩ = some (.map (some q.mt)) := by rw [hxe]; exact hS3.cell.cell (o := 2) rfl
            have cE1 : x.cell? ⟨eb, 1, none⟩ = some (.int .i64 lo) := by rw [hxe]; exact bE3.cell (o := 1) rfl
            have cX0 : x.cell? ⟨gx, 0, none⟩ = some (.int .i64 (po + 1)) := by rw [hxe]; exact bX3.cell (o := 0) rfl
            have cX1 : x.cell? ⟨gx, 1, none⟩ = some (.int .i64 tr) := by rw [hxe]; exact bX3.cell (o := 1) rfl
            have cX2 : x.cell? ⟨gx, 2, none⟩ = some (.bool sl) := by rw [hxe]; exact bX3.cell (o := 2) rfl
            clear hxe
            refine step_value (w' := x) (v := .int .i64 lo) ?_ (Stays.refl _) ?_
            · go_simp
            · rfl
          · intro a x hA
            have t4 := hA.at_ 4 (by rfl) rfl
            have hxe : x = W3.drew := hA.grow
            have cS2 : x.cell? ⟨q.s, 2, none⟩ = some (.map (some q.mt)) := by rw [hxe]; exact hS3.cell.cell (o := 2) rfl
            have cE1 : x.cell? ⟨eb, 1, none⟩ = some (.int .i64 lo) := by rw [hxe]; exact bE3.cell (o := 1) rfl
            have cX0 : x.cell? ⟨gx, 0, none⟩ = some (.int .i64 (po + 1)) := by rw [hxe]; exact bX3.cell (o := 0) rfl
            have cX1 : x.cell? ⟨gx, 1, none⟩ = some (.int .i64 tr) := by rw [hxe]; exact bX3.cell (o := 1) rfl
            have cX2 : x.cell? ⟨gx, 2, none⟩ = some (.bool sl) := by rw [hxe]; exact bX3.cell (o := 2) rfl
            clear hxe
            refine step_value (w' := x) (v := .agg #[.int .i64 (po + 1), .int .i64 tr, .bool sl]) ?_ (Stays.refl _) ?_
            · go_simp
            · rfl
        case fin =>
          intro y4 W4 hg hV
          simp only [List.take_succ_cons, List.take_zero, AllVals] at hV
          obtain ⟨u0, u1, u2, u3, u4, u5, u6, _⟩ := hV
          simp only [List.take_succ_cons, List.take_zero, List.drop_succ_cons, List.drop_zero, putAll, Act.put, List.setIfInBounds_toArray, List.set_cons_zero, List.set_cons_succ]
          obtain rfl : W4 = W3.drew := hg
          rw [u3, u5, u6]
          clear u0 u1 u2 u4 u3 u5 u6
          have hS4 : StAt W3.drew q S D := hS3.keep ((Below.refl _ W3).drew)
          obtain ⟨w4, hr4, hS5, hx4⟩ := store_update hS4 lo (po + 1) tr sl (by omega) (by omega) (by omega) (by omega)
          refine wpList_skip rfl (exec_mapUpdate rfl (w' := w4) (by simpa [go_sem] using hr4)) ?_
          have hxx : Ext (fun b => b = qo.ms ∨ b = qo.mt) W w4 := ((x2.then hgb).trans x3 (fun b hb => .inr (by rw [hb]; omega))).drew.trans hx4 (fun b hb => .inl (.inr (by rw [hb, HQ.out.2.2.1])))
          go_wp2
          go_end0
          exact ⟨⟨_, rfl⟩, ⟨q, by rw [← HS'.out, ← Hg0.out]; simp only [hget]; rw [show max tl (po + 1) = (po + 1) from by omega]; exact hS5, HQ.out.1, HQ.out.2.1, HQ.out.2.2.1, HQ.out.2.2.2, hqU, hqUm⟩, hxx⟩
      
      · have bX3 := ((((bX.set (o := 0) (.int .i64 tl)).set (o := 1) (.int .i64 tr)).set (o := 2) (.bool sl)).set (o := 0) (.int .i64 tl))
        simp only [List.setIfInBounds_toArray, List.set_cons_zero, List.set_cons_succ] at bX3
        have x3 : Ext (fun b => b = gx) W' _ := (((((Ext.refl (fun b => b = gx) W').setCell (a := ⟨gx, 0, none⟩) (.inl rfl) (.int .i64 tl)).setCell (a := ⟨gx, 1, none⟩) (.inl rfl) (.int .i64 tr)).setCell (a := ⟨gx, 2, none⟩) (.inl rfl) (.bool sl)).setCell (a := ⟨gx, 0, none⟩) (.inl rfl) (.int .i64 tl))
        have hnall : ∀ b, b = gx → ¬ q.all b := fun b hb hq => by have := hS.size hq; omega
        have hS3 := hS2.ext x3 hnall
        have bE3 := bE2.ext x3 (by omega)
        clear x0 x1 x2 f0 f1 f2 e2 bX
        generalize ((((W'.setCell ⟨gx, 0, none⟩ (.int .i64 tl)).setCell ⟨gx, 1, none⟩ (.int .i64 tr)).setCell ⟨gx, 2, none⟩ (.bool sl)).setCell ⟨gx, 0, none⟩ (.int .i64 tl)) = W3 at *
        refine wp_region_tail 7 rfl Stays (fun i v x => match i with
            | 0 => v = .pointer (some ⟨q.s, 0, none⟩)
            | 1 => v = .pointer (some ⟨q.s, 0, none⟩)
            | 2 => v = .pointer (some ⟨q.s, 2, none⟩)
            | 3 => v = .map (some q.mt)
            | 4 => v = .pointer (some ⟨eb, 1, none⟩)
            | 5 => v = .int .i64 lo
            | 6 => v = .agg #[.int .i64 tl, .int .i64 tr, .bool sl]
            | _ => True) (by kernel_rfl) (Stays.refl _) Stays.trans ?stab ?steps ?fin
        case stab =>
          intro i v x y hg h
          match i with
          | 0 | 1 | 2 | 3 | 4 | 5 | 6 => exact h
          | n + 7 => trivial
        case steps =>
          simp only [List.take_succ_cons, List.take_zero]
          refine ⟨?_, ?_, ?_, ?_, ?_, ?_, ?_, trivial⟩
          · intro a x hA
            have t0 := hA.at_ 0 (by rfl) rfl
            refine step_value (w' := x) (v := .pointer (some ⟨q.s, 0, none⟩)) ?_ (Stays.refl _) ?_
            · go_simp
            · rfl
          · intro a x hA
            have t31 : a.tmps[31]?.getD undef = .pointer (some ⟨q.s, 0, none⟩) := hA.dep_ ⟨0, .data⟩ (by simp) _ 31 rfl rfl
            refine step_value (w' := x) (v := .pointer (some ⟨q.s, 0, none⟩)) ?_ (Stays.refl _) ?_
            · go_simp
            · rfl
          · intro a x hA
            have t32 : a.tmps[32]?.getD undef = .pointer (some ⟨q.s, 0, none⟩) := hA.dep_ ⟨1, .data⟩ (by simp) _ 32 rfl rfl
            refine step_value (w' := x) (v := .pointer (some ⟨q.s, 2, none⟩)) ?_ (Stays.refl _) ?_
            · go_simp
            · rfl
          · intro a x hA
            have t33 : a.tmps[33]?.getD undef = .pointer (some ⟨q.s, 2, none⟩) := hA.dep_ ⟨2, .data⟩ (by simp) _ 33 rfl rfl
            have hxe : x = W3.drew := hA.grow
            have cS2 : x.cell? ⟨q.s, 2, none⟩ = some (.map (some q.mt)) := by rw [hxe]; exact hS3.cell.cell (o := 2) rfl
            have cE1 : x.cell? ⟨eb, 1, none⟩ = some (.int .i64 lo) := by rw [hxe]; exact bE3.cell (o := 1) rfl
            have cX0 : x.cell? ⟨gx, 0, none⟩ = some (.int .i64 tl) := by rw [hxe]; exact bX3.cell (o := 0) rfl
            have cX1 : x.cell? ⟨gx, 1, none⟩ = some (.int .i64 tr) := by rw [hxe]; exact bX3.cell (o := 1) rfl
            have cX2 : x.cell? ⟨gx, 2, none⟩ = some (.bool sl) := by rw [hxe]; exact bX3.cell (o := 2) rfl
            clear hxe
            refine step_value (w' := x) (v := .map (some q.mt)) ?_ (Stays.refl _) ?_
            · go_simp
            · rfl
          · intro a x hA
            have t3 := hA.at_ 3 (by rfl) rfl
            refine step_value (w' := x) (v := .pointer (some ⟨eb, 1, none⟩)) ?_ (Stays.refl _) ?_
            · go_simp
            · rfl
          · intro a x hA
            have t35 : a.tmps[35]?.getD undef = .pointer (some ⟨eb, 1, none⟩) := hA.dep_ ⟨4, .data⟩ (by simp) _ 35 rfl rfl
            have hxe : x = W3.drew := hA.grow
            have cS2 : x.cell? ⟨q.s, 2, none⟩ = some (.map (some q.mt)) := by rw [hxe]; exact hS3.cell.cell (o := 2) rfl
            have cE1 : x.cell? ⟨eb, 1, none⟩ = some (.int .i64 lo) := by rw [hxe]; exact bE3.cell (o := 1) rfl
            have cX0 : x.cell? ⟨gx, 0, none⟩ = some (.int .i64 tl) := by rw [hxe]; exact bX3.cell (o := 0) rfl
            have cX1 : x.cell? ⟨gx, 1, none⟩ = some (.int .i64 tr) := by rw [hxe]; exact bX3.cell (o := 1) rfl
            have cX2 : x.cell? ⟨gx, 2, none⟩ = some (.bool sl) := by rw [hxe]; exact bX3.cell (o := 2) rfl
            clear hxe
            refine step_value (w' := x) (v := .int .i64 lo) ?_ (Stays.refl _) ?_
            · go_simp
            · rfl
          · intro a x hA
            have t4 := hA.at_ 4 (by rfl) rfl
            have hxe : x = W3.drew := hA.grow
            have cS2 : x.cell? ⟨q.s, 2, none⟩ = some (.map (some q.mt)) := by rw [hxe]; exact hS3.cell.cell (o := 2) rfl
            have cE1 : x.cell? ⟨eb, 1, none⟩ = some (.int .i64 lo) := by rw [hxe]; exact bE3.cell (o := 1) rfl
            have cX0 : x.cell? ⟨gx, 0, none⟩ = some (.int .i64 tl) := by rw [hxe]; exact bX3.cell (o := 0) rfl
            have cX1 : x.cell? ⟨gx, 1, none⟩ = some (.int .i64 tr) := by rw [hxe]; exact bX3.cell (o := 1) rfl
            have cX2 : x.cell? ⟨gx, 2, none⟩ = some (.bool sl) := by rw [hxe]; exact bX3.cell (o := 2) rfl
            clear hxe
            refine step_value (w' := x) (v := .agg #[.int .i64 tl, .int .i64 tr, .bool sl]) ?_ (Stays.refl _) ?_
            · go_simp
            · rfl
        case fin =>
          intro y4 W4 hg hV
          simp only [List.take_succ_cons, List.take_zero, AllVals] at hV
          obtain ⟨u0, u1, u2, u3, u4, u5, u6, _⟩ := hV
          simp only [List.take_succ_cons, List.take_zero, List.drop_succ_cons, List.drop_zero, putAll, Act.put, List.setIfInBounds_toArray, List.set_cons_zero, List.set_cons_succ]
          obtain rfl : W4 = W3.drew := hg
          rw [u3, u5, u6]
          clear u0 u1 u2 u4 u3 u5 u6
          have hS4 : StAt W3.drew q S D := hS3.keep ((Below.refl _ W3).drew)
          obtain ⟨w4, hr4, hS5, hx4⟩ := store_update hS4 lo tl tr sl (by omega) (by omega) (by omega) (by omega)
          refine wpList_skip rfl (exec_mapUpdate rfl (w' := w4) (by simpa [go_sem] using hr4)) ?_
          have hxx : Ext (fun b => b = qo.ms ∨ b = qo.mt) W w4 := ((x2.then hgb).trans x3 (fun b hb => .inr (by rw [hb]; omega))).drew.trans hx4 (fun b hb => .inl (.inr (by rw [hb, HQ.out.2.2.1])))
          go_wp2
          go_end0
          exact ⟨⟨_, rfl⟩, ⟨q, by rw [← HS'.out, ← Hg0.out]; simp only [hget]; rw [show max tl (po + 1) = tl from by omega]; exact hS5, HQ.out.1, HQ.out.2.1, HQ.out.2.2.1, HQ.out.2.2.2, hqU, hqUm⟩, hxx⟩
      
      
    

end

end Go.Proofs.Ytpkaepmmkojdaaa
