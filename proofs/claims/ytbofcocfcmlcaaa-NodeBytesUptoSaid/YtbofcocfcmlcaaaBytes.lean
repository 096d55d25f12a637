import Derived.Test.YtbofcocfcmlcaaaMLent
/-! gazettelaw05.NodeBytes: the walk. -/
namespace Go.Proofs.Ytbofcocfcmlcaaa
open Go.RowKit

set_option maxRecDepth 100000 in
set_option maxHeartbeats 12800000 in
theorem law_bytes (r : Rq) (p : Rp) (rv pv vb : Value) (b : List UInt8) (W : World) (hr : RqOk r) (hp : RpOk p) (hrv : BsW W rv r.b) (hpv : BsW W pv p.b) (hb : Bs W vb b) (hbl : b.length ≤ 1073741824) :
    Calls Try.prog 6 #[.agg (r.cells rv), .agg (p.cells pv), vb] W fun e W' => e = .returned (.bool true) ∧ Below W.heap.size W W' := by
  unfold Rq.cells Rp.cells
  obtain ⟨ra, rc, rfl⟩ := hrv.form
  obtain ⟨pa, pc, rfl⟩ := hpv.form
  obtain ⟨va, vc, rfl⟩ := hb.form
  obtain ⟨W1, hW1⟩ : ∃ W1, W.alloc (.cells #[.int .i64 r.k, .int .i64 r.lo, .int .i64 r.po, .slice ra r.b.length rc] 54) = W1 := ⟨_, rfl⟩
  have b1 : Below W.heap.size W W1 := by rw [← hW1]; exact (Below.refl _ W).alloc (Nat.le_refl _) _
  have k1 : Blk W1 W.heap.size #[.int .i64 r.k, .int .i64 r.lo, .int .i64 r.po, .slice ra r.b.length rc] 54 := by rw [← hW1]; exact Blk.new W _ _
  obtain ⟨W2, hW2⟩ : ∃ W2, W1.alloc (.cells #[.int .i64 p.e, .int .i64 p.tl, .bool p.sl, .slice pa p.b.length pc] 56) = W2 := ⟨_, rfl⟩
  have b2 : Below W1.heap.size W1 W2 := by rw [← hW2]; exact (Below.refl _ W1).alloc (Nat.le_refl _) _
  have KP : Hid (Blk W2 W1.heap.size #[.int .i64 p.e, .int .i64 p.tl, .bool p.sl, .slice pa p.b.length pc] 56) := hid (by rw [← hW2]; exact Blk.new W1 _ _)
  have KR := hid (k1.keep b2)
  have b12 := b1.trans (b2.mono b1.size)
  have HRV := hid (hrv.keep b12)
  have HPV := hid (hpv.keep b12)
  have HY := hid (hb.keep b12)
  have HB := hid b12
  have hrb := hr.b
  have hpb := hp.b
  obtain ⟨cq, hcq⟩ : ∃ cq : Int, (if rightB r.k r.lo r.po r.b.length = true then (0 : Int) else 1) = cq := ⟨_, rfl⟩
  have HCQ := hid hcq
  obtain ⟨cc, hcc⟩ : ∃ cc : Int, (if tellsB p.e p.tl p.b.length = true then (0 : Int) else 1) = cc := ⟨_, rfl⟩
  have HC := hid hcc
  clear hrv hpv hb k1 b1 b2 b12 hcq hcc
  have x0 := KR.out.cell (o := 0) rfl
  have x1 := KR.out.cell (o := 1) rfl
  have x2 := KR.out.cell (o := 2) rfl
  have x3 := KR.out.cell (o := 3) rfl
  go_enter Try.func6, Try.ntmps6
  go_wp2_with fail
  clear hW1 hW2
  refine (law_Request r.k r.lo r.po _ r.b W2 HRV.out (by omega)).mono ?_
  rintro e Wa ⟨v1, rfl, o1, bb⟩
  obtain ⟨qa, qc, rfl⟩ := o1.form
  have O7 := hid o1.bs
  clear o1
  clear x0 x1 x2 x3
  have KP := hid (KP.out.keep bb)
  have KR := hid (KR.out.keep bb)
  have HRV := hid (HRV.out.keep bb)
  have HPV := hid (HPV.out.keep bb)
  have HY := hid (HY.out.keep bb)
  have HB := hid (HB.out.trans (bb.mono HB.out.size))
  clear bb
  obtain ⟨W3, hW⟩ : ∃ Wx, Wa.alloc (.cells #[.int .i64 r.k, .int .i64 r.lo, .int .i64 r.po, .slice qa r.b.length qc] 57) = Wx := ⟨_, rfl⟩
  have ba : Below Wa.heap.size Wa W3 := by rw [← hW]; exact (Below.refl _ Wa).alloc (Nat.le_refl _) _
  have K7 : Hid (Blk W3 Wa.heap.size #[.int .i64 r.k, .int .i64 r.lo, .int .i64 r.po, .slice qa r.b.length qc] 57) := hid (by rw [← hW]; exact Blk.new Wa _ _)
  have KP := hid (KP.out.keep ba)
  have KR := hid (KR.out.keep ba)
  have HRV := hid (HRV.out.keep ba)
  have HPV := hid (HPV.out.keep ba)
  have HY := hid (HY.out.keep ba)
  have O7 := hid (O7.out.keep ba)
  have HB := hid (HB.out.trans (ba.mono HB.out.size))
  clear ba
  go_wp2_with fail
  clear hW
  refine wp_region_tail 12 rfl Grows (fun i v x => match i with
      | 0 => v = .pointer (some ⟨W1.heap.size, 0, none⟩)
      | 1 => v = .int .i64 p.e
      | 2 => v = .pointer (some ⟨W1.heap.size, 1, none⟩)
      | 3 => v = .int .i64 p.tl
      | 4 => v = .pointer (some ⟨W1.heap.size, 2, none⟩)
      | 5 => v = .bool p.sl
      | 6 => ∃ g, v = .slice (some ⟨g, 0, none⟩) 0 0 ∧ Own8 x W3.heap.size 5 (.slice (some ⟨g, 0, none⟩) 0 0) []
      | 7 => v = .pointer (some ⟨W1.heap.size, 3, none⟩)
      | 8 => v = .slice pa p.b.length pc
      | 9 => Own8 x W3.heap.size 5 v p.b
      | 10 => ∃ v9, v = .agg #[.int .i64 p.e, .int .i64 p.tl, .bool p.sl, v9] ∧ Own8 x W3.heap.size 5 v9 p.b
      | 11 => ∃ g, v = .pointer (some ⟨g, 0, none⟩) ∧ Blk x g #[.int .i64 0, .int .i64 0, .bool false, .slice none 0 0] 60 ∧ W3.heap.size ≤ g
      | _ => True) (by kernel_rfl) (Grows.refl _) Grows.trans ?rstab ?rsteps ?rfin
  case rstab =>
    intro i v x y hg h
    match i with
    | 0 | 1 | 2 | 3 | 4 | 5 | 7 | 8 => exact h
    | 6 => exact (by obtain ⟨g9, e9, h9⟩ := h; exact ⟨g9, e9, h9.keep hg⟩)
    | 9 => exact Own8.keep h hg
    | 10 => exact (by obtain ⟨v9, e9, h9⟩ := h; exact ⟨v9, e9, h9.keep hg⟩)
    | 11 => exact (by obtain ⟨g9, e9, h9, h10⟩ := h; exact ⟨g9, e9, h9.keep hg, h10⟩)
    | n + 12 => trivial
  case rsteps =>
    simp only [List.take_succ_cons, List.take_zero]
    refine ⟨?_, ?_, ?_, ?_, ?_, ?_, ?_, ?_, ?_, ?_, ?_, ?_, trivial⟩
    · intro a x hA
      have t4 := hA.at_ 4 (by first | rfl | kernel_rfl) rfl
      refine step_value (w' := x) (v := .pointer (some ⟨W1.heap.size, 0, none⟩)) ?_ (Grows.refl _) ?_
      · go_simp
      · rfl
    · intro a x hA
      have t28 : a.tmps[28]?.getD undef = .pointer (some ⟨W1.heap.size, 0, none⟩) := hA.dep_ ⟨0, .data⟩ (by simp) _ 28 rfl rfl
      have hBx := KP.out.keep hA.grown
      have hc0 := hBx.cell (o := 0) rfl
      have hc1 := hBx.cell (o := 1) rfl
      have hc2 := hBx.cell (o := 2) rfl
      have hc3 := hBx.cell (o := 3) rfl
      clear hBx
      refine step_value (w' := x) (v := .int .i64 p.e) ?_ (Grows.refl _) ?_
      · go_simp
      · rfl
    · intro a x hA
      have t4 := hA.at_ 4 (by first | rfl | kernel_rfl) rfl
      refine step_value (w' := x) (v := .pointer (some ⟨W1.heap.size, 1, none⟩)) ?_ (Grows.refl _) ?_
      · go_simp
      · rfl
    · intro a x hA
      have t30 : a.tmps[30]?.getD undef = .pointer (some ⟨W1.heap.size, 1, none⟩) := hA.dep_ ⟨2, .data⟩ (by simp) _ 30 rfl rfl
      have hBx := KP.out.keep hA.grown
      have hc0 := hBx.cell (o := 0) rfl
      have hc1 := hBx.cell (o := 1) rfl
      have hc2 := hBx.cell (o := 2) rfl
      have hc3 := hBx.cell (o := 3) rfl
      clear hBx
      refine step_value (w' := x) (v := .int .i64 p.tl) ?_ (Grows.refl _) ?_
      · go_simp
      · rfl
    · intro a x hA
      have t4 := hA.at_ 4 (by first | rfl | kernel_rfl) rfl
      refine step_value (w' := x) (v := .pointer (some ⟨W1.heap.size, 2, none⟩)) ?_ (Grows.refl _) ?_
      · go_simp
      · rfl
    · intro a x hA
      have t32 : a.tmps[32]?.getD undef = .pointer (some ⟨W1.heap.size, 2, none⟩) := hA.dep_ ⟨4, .data⟩ (by simp) _ 32 rfl rfl
      have hBx := KP.out.keep hA.grown
      have hc0 := hBx.cell (o := 0) rfl
      have hc1 := hBx.cell (o := 1) rfl
      have hc2 := hBx.cell (o := 2) rfl
      have hc3 := hBx.cell (o := 3) rfl
      clear hBx
      refine step_value (w' := x) (v := .bool p.sl) ?_ (Grows.refl _) ?_
      · go_simp
      · rfl
    · intro a x hA
      have hsx : W3.heap.size ≤ x.heap.size := hA.grow.size
      refine step_value (w' := x.alloc (.cells #[] 5)) (v := .slice (some ⟨x.heap.size, 0, none⟩) 0 0) (by go_simp) (Grows.alloc _ _) ?_
      exact ⟨_, rfl, own8_mk hsx (Blk.new x _ _) rfl (Nat.le_refl _) (by simp [maxLen]) rfl (by simp)⟩
    · intro a x hA
      have t4 := hA.at_ 4 (by first | rfl | kernel_rfl) rfl
      refine step_value (w' := x) (v := .pointer (some ⟨W1.heap.size, 3, none⟩)) ?_ (Grows.refl _) ?_
      · go_simp
      · rfl
    · intro a x hA
      have t35 : a.tmps[35]?.getD undef = .pointer (some ⟨W1.heap.size, 3, none⟩) := hA.dep_ ⟨7, .data⟩ (by simp) _ 35 rfl rfl
      have hBx := KP.out.keep hA.grown
      have hc0 := hBx.cell (o := 0) rfl
      have hc1 := hBx.cell (o := 1) rfl
      have hc2 := hBx.cell (o := 2) rfl
      have hc3 := hBx.cell (o := 3) rfl
      clear hBx
      refine step_value (w' := x) (v := .slice pa p.b.length pc) ?_ (Grows.refl _) ?_
      · go_simp
      · rfl
    · intro a x hA
      have t34 : ∃ g, (a.tmps[34]?.getD undef) = .slice (some ⟨g, 0, none⟩) 0 0 ∧ Own8 x W3.heap.size 5 (.slice (some ⟨g, 0, none⟩) 0 0) [] := hA.dep_ ⟨6, .data⟩ (by simp) _ 34 rfl rfl
      have t36 : a.tmps[36]?.getD undef = .slice pa p.b.length pc := hA.dep_ ⟨8, .data⟩ (by simp) _ 36 rfl rfl
      obtain ⟨g, e9, ho9⟩ := t34
      obtain ⟨i0, hi, hz0, hz1, hz2⟩ := info_parts info_u8
      have hsx : W3.heap.size ≤ x.heap.size := hA.grow.size
      have hvx := HPV.out.keep hA.grown
      obtain ⟨v', w', hr, q1, q2⟩ := run_append_empty (P := Try.prog) Try.underlying34 hi hz0 hz1 hz2 34 ho9 hvx (by omega) hsx
      refine step_value (w' := w') (v := v') (exec_append rfl (by
        have e1 : a.eval (.tmp 34) = .slice (some ⟨g, 0, none⟩) 0 0 := by simp [go_sem, e9]
        have e2 : a.eval (.tmp 36) = .slice pa p.b.length pc := by simp [go_sem, t36]
        rw [e1, e2]; exact hr)) q2 ?_
      exact q1
    · intro a x hA
      have t29 : a.tmps[29]?.getD undef = .int .i64 p.e := hA.dep_ ⟨1, .data⟩ (by simp) _ 29 rfl rfl
      have t31 : a.tmps[31]?.getD undef = .int .i64 p.tl := hA.dep_ ⟨3, .data⟩ (by simp) _ 31 rfl rfl
      have t33 : a.tmps[33]?.getD undef = .bool p.sl := hA.dep_ ⟨5, .data⟩ (by simp) _ 33 rfl rfl
      have t37 : Own8 x W3.heap.size 5 (a.tmps[37]?.getD undef) p.b := hA.dep_ ⟨9, .data⟩ (by simp) _ 37 rfl rfl
      generalize hq : a.tmps[37]?.getD undef = q9 at t37
      obtain ⟨a9, c9, rfl⟩ := t37.form
      refine step_value (w' := x) (v := .agg #[.int .i64 p.e, .int .i64 p.tl, .bool p.sl, .slice a9 p.b.length c9]) ?_ (Grows.refl _) ?_
      · go_simp
      · exact ⟨_, rfl, t37⟩
    · intro a x hA
      have hs := hA.grow.size
      refine step_value (w' := x.alloc (.cells #[.int .i64 0, .int .i64 0, .bool false, .slice none 0 0] 60)) (v := .pointer (some ⟨x.heap.size, 0, none⟩)) ?_ (Grows.alloc _ _) ⟨_, rfl, Blk.new _ _ _, hs⟩
      go_simp
  case rfin =>
    intro y W' hg hV
    simp only [List.take_succ_cons, List.take_zero, AllVals] at hV
    obtain ⟨_, _, _, _, _, _, _, _, _, _, ub, ua, _⟩ := hV
    simp only [List.take_succ_cons, List.take_zero, List.drop_succ_cons, List.drop_zero, putAll, Act.put, List.setIfInBounds_toArray, List.set_cons_zero, List.set_cons_succ]
    obtain ⟨v9, e9, o9⟩ := ub
    obtain ⟨g9, e10, k9, l9⟩ := ua
    obtain ⟨a9, c9, rfl⟩ := o9.form
    rw [e9, e10]
    clear e9 e10
    have b2W : Below W3.heap.size W3 W' := Below.trans (below_of_drewN _ W3 1) hg
    clear hg
    have m0 := k9.cell (o := 0) rfl
    have f0 := k9.free 0
    have m1 := k9.cell (o := 1) rfl
    have f1 := k9.free 1
    have m2 := k9.cell (o := 2) rfl
    have f2 := k9.free 2
    have m3 := k9.cell (o := 3) rfl
    have f3 := k9.free 3
    obtain ⟨W5, hW5⟩ : ∃ W5, (((W'.setCell ⟨g9, 0, none⟩ (.int .i64 p.e)).setCell ⟨g9, 1, none⟩ (.int .i64 p.tl)).setCell ⟨g9, 2, none⟩ (.bool p.sl)).setCell ⟨g9, 3, none⟩ (.slice a9 p.b.length c9) = W5 := ⟨_, rfl⟩
    have x5 : Ext (fun b => b = g9) W' W5 := by rw [← hW5]; exact ((((Ext.refl (fun b => b = g9) W').setCell (.inl rfl) _).setCell (.inl rfl) _).setCell (.inl rfl) _).setCell (.inl rfl) _
    have k5 := ((((k9.set (o := 0) (.int .i64 p.e)).set (o := 1) (.int .i64 p.tl)).set (o := 2) (.bool p.sl)).set (o := 3) (.slice a9 p.b.length c9))
    rw [hW5] at k5
    simp only [List.setIfInBounds_toArray, List.set_cons_zero, List.set_cons_succ] at k5
    have K8 := hid k5
    have O8 := hid (own_set W' W5 g9 _ o9 k9 x5 (by decide)).bs
    have b5 : Below W3.heap.size W3 W5 := b2W.trans (x5.belowOf b2W.size (fun b hb e => by have e2 : b = g9 := e; omega))
    clear o9 k9 x5 b2W k5 l9
    have KP := hid (KP.out.keep b5)
    have KR := hid (KR.out.keep b5)
    have HRV := hid (HRV.out.keep b5)
    have HPV := hid (HPV.out.keep b5)
    have HY := hid (HY.out.keep b5)
    have O7 := hid (O7.out.keep b5)
    have K7 := hid (K7.out.keep b5)
    have HB := hid (HB.out.trans (b5.mono HB.out.size))
    clear b5
    have x0 := K7.out.cell (o := 0) rfl
    have x1 := K7.out.cell (o := 1) rfl
    have x2 := K7.out.cell (o := 2) rfl
    have x3 := K7.out.cell (o := 3) rfl
    go_wp2_with fail
    clear hW5 m0 m1 m2 m3 f0 f1 f2 f3
    refine (put_request_x _ _ _ _ r.b W5 O7.out).mono ?_
    rintro e Wb ⟨v9, rfl, o, bb⟩
    rw [HCQ.out]
    have S9 := hid o.bs
    clear o
    clear x0 x1 x2 x3
    have KP := hid (KP.out.keep bb)
    have KR := hid (KR.out.keep bb)
    have HRV := hid (HRV.out.keep bb)
    have HPV := hid (HPV.out.keep bb)
    have HY := hid (HY.out.keep bb)
    have O7 := hid (O7.out.keep bb)
    have K7 := hid (K7.out.keep bb)
    have K8 := hid (K8.out.keep bb)
    have O8 := hid (O8.out.keep bb)
    have HB := hid (HB.out.trans (bb.mono HB.out.size))
    clear bb
    have x0 := KR.out.cell (o := 0) rfl
    have x1 := KR.out.cell (o := 1) rfl
    have x2 := KR.out.cell (o := 2) rfl
    have x3 := KR.out.cell (o := 3) rfl
    go_wp2_with fail
    refine (ref_PutRequest _ _ _ _ r.b Wb HRV.out hrb).mono ?_
    rintro e Wc ⟨v11, rfl, o, bb⟩
    rw [HCQ.out]
    have S11 := hid o.bs
    clear o
    clear x0 x1 x2 x3
    have KP := hid (KP.out.keep bb)
    have KR := hid (KR.out.keep bb)
    have HRV := hid (HRV.out.keep bb)
    have HPV := hid (HPV.out.keep bb)
    have HY := hid (HY.out.keep bb)
    have O7 := hid (O7.out.keep bb)
    have K7 := hid (K7.out.keep bb)
    have K8 := hid (K8.out.keep bb)
    have O8 := hid (O8.out.keep bb)
    have S9 := hid (S9.out.keep bb)
    have HB := hid (HB.out.trans (bb.mono HB.out.size))
    clear bb
    have x0 := K8.out.cell (o := 0) rfl
    have x1 := K8.out.cell (o := 1) rfl
    have x2 := K8.out.cell (o := 2) rfl
    have x3 := K8.out.cell (o := 3) rfl
    go_wp2_with fail
    refine (put_reply_x _ _ _ _ p.b Wc O8.out).mono ?_
    rintro e Wd ⟨v13, rfl, o, bb⟩
    rw [HC.out]
    have S13 := hid o.bs
    clear o
    clear x0 x1 x2 x3
    have KP := hid (KP.out.keep bb)
    have KR := hid (KR.out.keep bb)
    have HRV := hid (HRV.out.keep bb)
    have HPV := hid (HPV.out.keep bb)
    have HY := hid (HY.out.keep bb)
    have O7 := hid (O7.out.keep bb)
    have K7 := hid (K7.out.keep bb)
    have K8 := hid (K8.out.keep bb)
    have O8 := hid (O8.out.keep bb)
    have S9 := hid (S9.out.keep bb)
    have S11 := hid (S11.out.keep bb)
    have HB := hid (HB.out.trans (bb.mono HB.out.size))
    clear bb
    have x0 := KP.out.cell (o := 0) rfl
    have x1 := KP.out.cell (o := 1) rfl
    have x2 := KP.out.cell (o := 2) rfl
    have x3 := KP.out.cell (o := 3) rfl
    go_wp2_with fail
    refine (ref_PutReply _ _ _ _ p.b Wd HPV.out hpb).mono ?_
    rintro e We ⟨v15, rfl, o, bb⟩
    rw [HC.out]
    have S15 := hid o.bs
    clear o
    clear x0 x1 x2 x3
    have KP := hid (KP.out.keep bb)
    have KR := hid (KR.out.keep bb)
    have HRV := hid (HRV.out.keep bb)
    have HPV := hid (HPV.out.keep bb)
    have HY := hid (HY.out.keep bb)
    have O7 := hid (O7.out.keep bb)
    have K7 := hid (K7.out.keep bb)
    have K8 := hid (K8.out.keep bb)
    have O8 := hid (O8.out.keep bb)
    have S9 := hid (S9.out.keep bb)
    have S11 := hid (S11.out.keep bb)
    have S13 := hid (S13.out.keep bb)
    have HB := hid (HB.out.trans (bb.mono HB.out.size))
    clear bb
    go_wp2_with fail
    refine (law_Lent _ b We HY.out hbl).mono ?_
    rintro e Wf ⟨gl, cl, rfl, o, bb⟩
    have L17 := hid o.bs
    clear o
    have KP := hid (KP.out.keep bb)
    have KR := hid (KR.out.keep bb)
    have HRV := hid (HRV.out.keep bb)
    have HPV := hid (HPV.out.keep bb)
    have HY := hid (HY.out.keep bb)
    have O7 := hid (O7.out.keep bb)
    have K7 := hid (K7.out.keep bb)
    have K8 := hid (K8.out.keep bb)
    have O8 := hid (O8.out.keep bb)
    have S9 := hid (S9.out.keep bb)
    have S11 := hid (S11.out.keep bb)
    have S13 := hid (S13.out.keep bb)
    have S15 := hid (S15.out.keep bb)
    have HB := hid (HB.out.trans (bb.mono HB.out.size))
    clear bb
    have S17 := hid (show Bs Wf (.slice (some ⟨gl, 0, none⟩) b.length cl) b by
      have := L17.out.slice (lo := 0) (hi := b.length) (by omega) (by omega)
      simpa [sla, Addr.add] using this)
    obtain ⟨k9, l9, p9, d9, q9, hqv⟩ : ∃ k l p d c, reqV b = (k, l, p, d, c) := ⟨_, _, _, _, _, rfl⟩
    have HQ := hid hqv
    obtain ⟨e8, t8, s8, d8, q8, hqw⟩ : ∃ k l p d c, repV b = (k, l, p, d, c) := ⟨_, _, _, _, _, rfl⟩
    have HP := hid hqw
    clear hqv hqw
    go_wp2_with fail
    refine (get_request _ b Wf S17.out hbl).mono ?_
    intro e Wg hpost
    obtain ⟨ve, rfl, oe, bb⟩ := ReqPost.vals hpost HQ.out
    clear hpost
    obtain ⟨a18, c18, rfl⟩ := oe.form
    have S18 := hid oe.bs
    clear oe
    have KP := hid (KP.out.keep bb)
    have KR := hid (KR.out.keep bb)
    have HRV := hid (HRV.out.keep bb)
    have HPV := hid (HPV.out.keep bb)
    have HY := hid (HY.out.keep bb)
    have O7 := hid (O7.out.keep bb)
    have K7 := hid (K7.out.keep bb)
    have K8 := hid (K8.out.keep bb)
    have O8 := hid (O8.out.keep bb)
    have S9 := hid (S9.out.keep bb)
    have S11 := hid (S11.out.keep bb)
    have S13 := hid (S13.out.keep bb)
    have S15 := hid (S15.out.keep bb)
    have L17 := hid (L17.out.keep bb)
    have S17 := hid (S17.out.keep bb)
    have HB := hid (HB.out.trans (bb.mono HB.out.size))
    clear bb
    obtain ⟨Wh, hW⟩ : ∃ Wx, Wg.alloc (.cells #[.int .i64 k9, .int .i64 l9, .int .i64 p9, .slice a18 d9.length c18] 57) = Wx := ⟨_, rfl⟩
    have ba : Below Wg.heap.size Wg Wh := by rw [← hW]; exact (Below.refl _ Wg).alloc (Nat.le_refl _) _
    have K18 : Hid (Blk Wh Wg.heap.size #[.int .i64 k9, .int .i64 l9, .int .i64 p9, .slice a18 d9.length c18] 57) := hid (by rw [← hW]; exact Blk.new Wg _ _)
    have KP := hid (KP.out.keep ba)
    have KR := hid (KR.out.keep ba)
    have HRV := hid (HRV.out.keep ba)
    have HPV := hid (HPV.out.keep ba)
    have HY := hid (HY.out.keep ba)
    have O7 := hid (O7.out.keep ba)
    have K7 := hid (K7.out.keep ba)
    have K8 := hid (K8.out.keep ba)
    have O8 := hid (O8.out.keep ba)
    have S9 := hid (S9.out.keep ba)
    have S11 := hid (S11.out.keep ba)
    have S13 := hid (S13.out.keep ba)
    have S15 := hid (S15.out.keep ba)
    have L17 := hid (L17.out.keep ba)
    have S17 := hid (S17.out.keep ba)
    have S18 := hid (S18.out.keep ba)
    have HB := hid (HB.out.trans (ba.mono HB.out.size))
    clear ba
    go_wp2_with fail
    clear hW
    refine (ref_GetRequest _ b Wh HY.out hbl).mono ?_
    intro e Wi hpost
    obtain ⟨ve, rfl, oe, bb⟩ := ReqPost.vals hpost HQ.out
    clear hpost
    obtain ⟨a20, c20, rfl⟩ := oe.form
    have S20 := hid oe.bs
    clear oe
    have KP := hid (KP.out.keep bb)
    have KR := hid (KR.out.keep bb)
    have HRV := hid (HRV.out.keep bb)
    have HPV := hid (HPV.out.keep bb)
    have HY := hid (HY.out.keep bb)
    have O7 := hid (O7.out.keep bb)
    have K7 := hid (K7.out.keep bb)
    have K8 := hid (K8.out.keep bb)
    have O8 := hid (O8.out.keep bb)
    have S9 := hid (S9.out.keep bb)
    have S11 := hid (S11.out.keep bb)
    have S13 := hid (S13.out.keep bb)
    have S15 := hid (S15.out.keep bb)
    have L17 := hid (L17.out.keep bb)
    have S17 := hid (S17.out.keep bb)
    have S18 := hid (S18.out.keep bb)
    have K18 := hid (K18.out.keep bb)
    have HB := hid (HB.out.trans (bb.mono HB.out.size))
    clear bb
    obtain ⟨Wj, hW⟩ : ∃ Wx, Wi.alloc (.cells #[.int .i64 k9, .int .i64 l9, .int .i64 p9, .slice a20 d9.length c20] 54) = Wx := ⟨_, rfl⟩
    have ba : Below Wi.heap.size Wi Wj := by rw [← hW]; exact (Below.refl _ Wi).alloc (Nat.le_refl _) _
    have K20 : Hid (Blk Wj Wi.heap.size #[.int .i64 k9, .int .i64 l9, .int .i64 p9, .slice a20 d9.length c20] 54) := hid (by rw [← hW]; exact Blk.new Wi _ _)
    have KP := hid (KP.out.keep ba)
    have KR := hid (KR.out.keep ba)
    have HRV := hid (HRV.out.keep ba)
    have HPV := hid (HPV.out.keep ba)
    have HY := hid (HY.out.keep ba)
    have O7 := hid (O7.out.keep ba)
    have K7 := hid (K7.out.keep ba)
    have K8 := hid (K8.out.keep ba)
    have O8 := hid (O8.out.keep ba)
    have S9 := hid (S9.out.keep ba)
    have S11 := hid (S11.out.keep ba)
    have S13 := hid (S13.out.keep ba)
    have S15 := hid (S15.out.keep ba)
    have L17 := hid (L17.out.keep ba)
    have S17 := hid (S17.out.keep ba)
    have S18 := hid (S18.out.keep ba)
    have K18 := hid (K18.out.keep ba)
    have S20 := hid (S20.out.keep ba)
    have HB := hid (HB.out.trans (ba.mono HB.out.size))
    clear ba
    go_wp2_with fail
    clear hW
    refine (get_reply _ b Wj S17.out hbl).mono ?_
    intro e Wk hpost
    obtain ⟨ve, rfl, oe, bb⟩ := RepPost.vals hpost HP.out
    clear hpost
    obtain ⟨a22, c22, rfl⟩ := oe.form
    have S22 := hid oe.bs
    clear oe
    have KP := hid (KP.out.keep bb)
    have KR := hid (KR.out.keep bb)
    have HRV := hid (HRV.out.keep bb)
    have HPV := hid (HPV.out.keep bb)
    have HY := hid (HY.out.keep bb)
    have O7 := hid (O7.out.keep bb)
    have K7 := hid (K7.out.keep bb)
    have K8 := hid (K8.out.keep bb)
    have O8 := hid (O8.out.keep bb)
    have S9 := hid (S9.out.keep bb)
    have S11 := hid (S11.out.keep bb)
    have S13 := hid (S13.out.keep bb)
    have S15 := hid (S15.out.keep bb)
    have L17 := hid (L17.out.keep bb)
    have S17 := hid (S17.out.keep bb)
    have S18 := hid (S18.out.keep bb)
    have K18 := hid (K18.out.keep bb)
    have S20 := hid (S20.out.keep bb)
    have K20 := hid (K20.out.keep bb)
    have HB := hid (HB.out.trans (bb.mono HB.out.size))
    clear bb
    obtain ⟨Wl, hW⟩ : ∃ Wx, Wk.alloc (.cells #[.int .i64 e8, .int .i64 t8, .bool s8, .slice a22 d8.length c22] 60) = Wx := ⟨_, rfl⟩
    have ba : Below Wk.heap.size Wk Wl := by rw [← hW]; exact (Below.refl _ Wk).alloc (Nat.le_refl _) _
    have K22 : Hid (Blk Wl Wk.heap.size #[.int .i64 e8, .int .i64 t8, .bool s8, .slice a22 d8.length c22] 60) := hid (by rw [← hW]; exact Blk.new Wk _ _)
    have KP := hid (KP.out.keep ba)
    have KR := hid (KR.out.keep ba)
    have HRV := hid (HRV.out.keep ba)
    have HPV := hid (HPV.out.keep ba)
    have HY := hid (HY.out.keep ba)
    have O7 := hid (O7.out.keep ba)
    have K7 := hid (K7.out.keep ba)
    have K8 := hid (K8.out.keep ba)
    have O8 := hid (O8.out.keep ba)
    have S9 := hid (S9.out.keep ba)
    have S11 := hid (S11.out.keep ba)
    have S13 := hid (S13.out.keep ba)
    have S15 := hid (S15.out.keep ba)
    have L17 := hid (L17.out.keep ba)
    have S17 := hid (S17.out.keep ba)
    have S18 := hid (S18.out.keep ba)
    have K18 := hid (K18.out.keep ba)
    have S20 := hid (S20.out.keep ba)
    have K20 := hid (K20.out.keep ba)
    have S22 := hid (S22.out.keep ba)
    have HB := hid (HB.out.trans (ba.mono HB.out.size))
    clear ba
    go_wp2_with fail
    clear hW
    refine (ref_GetReply _ b Wl HY.out hbl).mono ?_
    intro e Wm hpost
    obtain ⟨ve, rfl, oe, bb⟩ := RepPost.vals hpost HP.out
    clear hpost
    obtain ⟨a24, c24, rfl⟩ := oe.form
    have S24 := hid oe.bs
    clear oe
    have KP := hid (KP.out.keep bb)
    have KR := hid (KR.out.keep bb)
    have HRV := hid (HRV.out.keep bb)
    have HPV := hid (HPV.out.keep bb)
    have HY := hid (HY.out.keep bb)
    have O7 := hid (O7.out.keep bb)
    have K7 := hid (K7.out.keep bb)
    have K8 := hid (K8.out.keep bb)
    have O8 := hid (O8.out.keep bb)
    have S9 := hid (S9.out.keep bb)
    have S11 := hid (S11.out.keep bb)
    have S13 := hid (S13.out.keep bb)
    have S15 := hid (S15.out.keep bb)
    have L17 := hid (L17.out.keep bb)
    have S17 := hid (S17.out.keep bb)
    have S18 := hid (S18.out.keep bb)
    have K18 := hid (K18.out.keep bb)
    have S20 := hid (S20.out.keep bb)
    have K20 := hid (K20.out.keep bb)
    have S22 := hid (S22.out.keep bb)
    have K22 := hid (K22.out.keep bb)
    have HB := hid (HB.out.trans (bb.mono HB.out.size))
    clear bb
    obtain ⟨Wn, hW⟩ : ∃ Wx, Wm.alloc (.cells #[.int .i64 e8, .int .i64 t8, .bool s8, .slice a24 d8.length c24] 56) = Wx := ⟨_, rfl⟩
    have ba : Below Wm.heap.size Wm Wn := by rw [← hW]; exact (Below.refl _ Wm).alloc (Nat.le_refl _) _
    have K24 : Hid (Blk Wn Wm.heap.size #[.int .i64 e8, .int .i64 t8, .bool s8, .slice a24 d8.length c24] 56) := hid (by rw [← hW]; exact Blk.new Wm _ _)
    have KP := hid (KP.out.keep ba)
    have KR := hid (KR.out.keep ba)
    have HRV := hid (HRV.out.keep ba)
    have HPV := hid (HPV.out.keep ba)
    have HY := hid (HY.out.keep ba)
    have O7 := hid (O7.out.keep ba)
    have K7 := hid (K7.out.keep ba)
    have K8 := hid (K8.out.keep ba)
    have O8 := hid (O8.out.keep ba)
    have S9 := hid (S9.out.keep ba)
    have S11 := hid (S11.out.keep ba)
    have S13 := hid (S13.out.keep ba)
    have S15 := hid (S15.out.keep ba)
    have L17 := hid (L17.out.keep ba)
    have S17 := hid (S17.out.keep ba)
    have S18 := hid (S18.out.keep ba)
    have K18 := hid (K18.out.keep ba)
    have S20 := hid (S20.out.keep ba)
    have K20 := hid (K20.out.keep ba)
    have S22 := hid (S22.out.keep ba)
    have K22 := hid (K22.out.keep ba)
    have S24 := hid (S24.out.keep ba)
    have HB := hid (HB.out.trans (ba.mono HB.out.size))
    clear ba
    have hcv0 := run_bytes_string (P := Try.prog) Try.underlying34 Try.underlying5 Try.underlying9 S9.out
    have hcv1 := run_bytes_string (P := Try.prog) Try.underlying34 Try.underlying5 Try.underlying9 S11.out
    have hcv2 := run_bytes_string (P := Try.prog) Try.underlying34 Try.underlying5 Try.underlying9 S13.out
    have hcv3 := run_bytes_string (P := Try.prog) Try.underlying34 Try.underlying5 Try.underlying9 S15.out
    go_wp2_with fail
    clear hW
    refine (law5_num _ _).mono ?_
    rintro e Wx ⟨rfl, hw⟩
    rw [hw]
    clear hw Wx
    go_wp2_with fail
    refine (law5_num _ _).mono ?_
    rintro e Wx ⟨rfl, hw⟩
    rw [hw]
    clear hw Wx
    clear hcv0 hcv1 hcv2 hcv3
    have x0 := K7.out.cell (o := 0) rfl
    have x1 := K7.out.cell (o := 1) rfl
    have x2 := K7.out.cell (o := 2) rfl
    have x3 := K7.out.cell (o := 3) rfl
    have y0 := KR.out.cell (o := 0) rfl
    have y1 := KR.out.cell (o := 1) rfl
    have y2 := KR.out.cell (o := 2) rfl
    have y3 := KR.out.cell (o := 3) rfl
    go_wp2_with fail
    clear x0 x1 x2 x3
    clear y0 y1 y2 y3
    refine (law_sameRequest _ _ _ _ _ r.b Wn (.inl O7.out) HRV.out).mono ?_
    rintro e Wo ⟨rfl, bb⟩
    have KP := hid (KP.out.keep bb)
    have KR := hid (KR.out.keep bb)
    have HRV := hid (HRV.out.keep bb)
    have HPV := hid (HPV.out.keep bb)
    have HY := hid (HY.out.keep bb)
    have O7 := hid (O7.out.keep bb)
    have K7 := hid (K7.out.keep bb)
    have K8 := hid (K8.out.keep bb)
    have O8 := hid (O8.out.keep bb)
    have S9 := hid (S9.out.keep bb)
    have S11 := hid (S11.out.keep bb)
    have S13 := hid (S13.out.keep bb)
    have S15 := hid (S15.out.keep bb)
    have L17 := hid (L17.out.keep bb)
    have S17 := hid (S17.out.keep bb)
    have S18 := hid (S18.out.keep bb)
    have K18 := hid (K18.out.keep bb)
    have S20 := hid (S20.out.keep bb)
    have K20 := hid (K20.out.keep bb)
    have S22 := hid (S22.out.keep bb)
    have K22 := hid (K22.out.keep bb)
    have S24 := hid (S24.out.keep bb)
    have K24 := hid (K24.out.keep bb)
    have HB := hid (HB.out.trans (bb.mono HB.out.size))
    clear bb
    have x0 := K8.out.cell (o := 0) rfl
    have x1 := K8.out.cell (o := 1) rfl
    have x2 := K8.out.cell (o := 2) rfl
    have x3 := K8.out.cell (o := 3) rfl
    have y0 := KP.out.cell (o := 0) rfl
    have y1 := KP.out.cell (o := 1) rfl
    have y2 := KP.out.cell (o := 2) rfl
    have y3 := KP.out.cell (o := 3) rfl
    go_wp2_with fail
    clear x0 x1 x2 x3
    clear y0 y1 y2 y3
    refine (law_sameReply _ _ _ _ _ p.b Wo (.inl O8.out) HPV.out).mono ?_
    rintro e Wp ⟨rfl, bb⟩
    have KP := hid (KP.out.keep bb)
    have KR := hid (KR.out.keep bb)
    have HRV := hid (HRV.out.keep bb)
    have HPV := hid (HPV.out.keep bb)
    have HY := hid (HY.out.keep bb)
    have O7 := hid (O7.out.keep bb)
    have K7 := hid (K7.out.keep bb)
    have K8 := hid (K8.out.keep bb)
    have O8 := hid (O8.out.keep bb)
    have S9 := hid (S9.out.keep bb)
    have S11 := hid (S11.out.keep bb)
    have S13 := hid (S13.out.keep bb)
    have S15 := hid (S15.out.keep bb)
    have L17 := hid (L17.out.keep bb)
    have S17 := hid (S17.out.keep bb)
    have S18 := hid (S18.out.keep bb)
    have K18 := hid (K18.out.keep bb)
    have S20 := hid (S20.out.keep bb)
    have K20 := hid (K20.out.keep bb)
    have S22 := hid (S22.out.keep bb)
    have K22 := hid (K22.out.keep bb)
    have S24 := hid (S24.out.keep bb)
    have K24 := hid (K24.out.keep bb)
    have HB := hid (HB.out.trans (bb.mono HB.out.size))
    clear bb
    have x0 := K18.out.cell (o := 0) rfl
    have x1 := K18.out.cell (o := 1) rfl
    have x2 := K18.out.cell (o := 2) rfl
    have x3 := K18.out.cell (o := 3) rfl
    have y0 := K20.out.cell (o := 0) rfl
    have y1 := K20.out.cell (o := 1) rfl
    have y2 := K20.out.cell (o := 2) rfl
    have y3 := K20.out.cell (o := 3) rfl
    go_wp2_with fail
    clear x0 x1 x2 x3
    clear y0 y1 y2 y3
    refine (law_sameRequest _ _ _ _ _ d9 Wp (.inl S18.out) (.inl S20.out)).mono ?_
    rintro e Wq ⟨rfl, bb⟩
    have KP := hid (KP.out.keep bb)
    have KR := hid (KR.out.keep bb)
    have HRV := hid (HRV.out.keep bb)
    have HPV := hid (HPV.out.keep bb)
    have HY := hid (HY.out.keep bb)
    have O7 := hid (O7.out.keep bb)
    have K7 := hid (K7.out.keep bb)
    have K8 := hid (K8.out.keep bb)
    have O8 := hid (O8.out.keep bb)
    have S9 := hid (S9.out.keep bb)
    have S11 := hid (S11.out.keep bb)
    have S13 := hid (S13.out.keep bb)
    have S15 := hid (S15.out.keep bb)
    have L17 := hid (L17.out.keep bb)
    have S17 := hid (S17.out.keep bb)
    have S18 := hid (S18.out.keep bb)
    have K18 := hid (K18.out.keep bb)
    have S20 := hid (S20.out.keep bb)
    have K20 := hid (K20.out.keep bb)
    have S22 := hid (S22.out.keep bb)
    have K22 := hid (K22.out.keep bb)
    have S24 := hid (S24.out.keep bb)
    have K24 := hid (K24.out.keep bb)
    have HB := hid (HB.out.trans (bb.mono HB.out.size))
    clear bb
    go_wp2_with fail
    refine (law5_num _ _).mono ?_
    rintro e Wx ⟨rfl, hw⟩
    rw [hw]
    clear hw Wx
    have x0 := K22.out.cell (o := 0) rfl
    have x1 := K22.out.cell (o := 1) rfl
    have x2 := K22.out.cell (o := 2) rfl
    have x3 := K22.out.cell (o := 3) rfl
    have y0 := K24.out.cell (o := 0) rfl
    have y1 := K24.out.cell (o := 1) rfl
    have y2 := K24.out.cell (o := 2) rfl
    have y3 := K24.out.cell (o := 3) rfl
    go_wp2_with fail
    clear x0 x1 x2 x3
    clear y0 y1 y2 y3
    refine (law_sameReply _ _ _ _ _ d8 Wq (.inl S22.out) (.inl S24.out)).mono ?_
    rintro e Wr ⟨rfl, bb⟩
    have KP := hid (KP.out.keep bb)
    have KR := hid (KR.out.keep bb)
    have HRV := hid (HRV.out.keep bb)
    have HPV := hid (HPV.out.keep bb)
    have HY := hid (HY.out.keep bb)
    have O7 := hid (O7.out.keep bb)
    have K7 := hid (K7.out.keep bb)
    have K8 := hid (K8.out.keep bb)
    have O8 := hid (O8.out.keep bb)
    have S9 := hid (S9.out.keep bb)
    have S11 := hid (S11.out.keep bb)
    have S13 := hid (S13.out.keep bb)
    have S15 := hid (S15.out.keep bb)
    have L17 := hid (L17.out.keep bb)
    have S17 := hid (S17.out.keep bb)
    have S18 := hid (S18.out.keep bb)
    have K18 := hid (K18.out.keep bb)
    have S20 := hid (S20.out.keep bb)
    have K20 := hid (K20.out.keep bb)
    have S22 := hid (S22.out.keep bb)
    have K22 := hid (K22.out.keep bb)
    have S24 := hid (S24.out.keep bb)
    have K24 := hid (K24.out.keep bb)
    have HB := hid (HB.out.trans (bb.mono HB.out.size))
    clear bb
    go_wp2_with fail
    refine (law5_num _ _).mono ?_
    rintro e Wx ⟨rfl, hw⟩
    rw [hw]
    clear hw Wx
    go_wp2_with fail
    refine (law_Stays gl cl _ b Wr hbl L17.out HY.out).mono ?_
    rintro e Ws ⟨rfl, bb⟩
    have KP := hid (KP.out.keep bb)
    have KR := hid (KR.out.keep bb)
    have HRV := hid (HRV.out.keep bb)
    have HPV := hid (HPV.out.keep bb)
    have HY := hid (HY.out.keep bb)
    have O7 := hid (O7.out.keep bb)
    have K7 := hid (K7.out.keep bb)
    have K8 := hid (K8.out.keep bb)
    have O8 := hid (O8.out.keep bb)
    have S9 := hid (S9.out.keep bb)
    have S11 := hid (S11.out.keep bb)
    have S13 := hid (S13.out.keep bb)
    have S15 := hid (S15.out.keep bb)
    have L17 := hid (L17.out.keep bb)
    have S17 := hid (S17.out.keep bb)
    have S18 := hid (S18.out.keep bb)
    have K18 := hid (K18.out.keep bb)
    have S20 := hid (S20.out.keep bb)
    have K20 := hid (K20.out.keep bb)
    have S22 := hid (S22.out.keep bb)
    have K22 := hid (K22.out.keep bb)
    have S24 := hid (S24.out.keep bb)
    have K24 := hid (K24.out.keep bb)
    have HB := hid (HB.out.trans (bb.mono HB.out.size))
    clear bb
    go_wp2_with fail
    refine (law5_knows _).mono ?_
    rintro e Wt ⟨rfl, bb⟩
    have KP := hid (KP.out.keep bb)
    have KR := hid (KR.out.keep bb)
    have HRV := hid (HRV.out.keep bb)
    have HPV := hid (HPV.out.keep bb)
    have HY := hid (HY.out.keep bb)
    have O7 := hid (O7.out.keep bb)
    have K7 := hid (K7.out.keep bb)
    have K8 := hid (K8.out.keep bb)
    have O8 := hid (O8.out.keep bb)
    have S9 := hid (S9.out.keep bb)
    have S11 := hid (S11.out.keep bb)
    have S13 := hid (S13.out.keep bb)
    have S15 := hid (S15.out.keep bb)
    have L17 := hid (L17.out.keep bb)
    have S17 := hid (S17.out.keep bb)
    have S18 := hid (S18.out.keep bb)
    have K18 := hid (K18.out.keep bb)
    have S20 := hid (S20.out.keep bb)
    have K20 := hid (K20.out.keep bb)
    have S22 := hid (S22.out.keep bb)
    have K22 := hid (K22.out.keep bb)
    have S24 := hid (S24.out.keep bb)
    have K24 := hid (K24.out.keep bb)
    have HB := hid (HB.out.trans (bb.mono HB.out.size))
    clear bb
    go_wp2_with fail
    go_ret
    exact ⟨rfl, HB.out⟩
end Go.Proofs.Ytbofcocfcmlcaaa
