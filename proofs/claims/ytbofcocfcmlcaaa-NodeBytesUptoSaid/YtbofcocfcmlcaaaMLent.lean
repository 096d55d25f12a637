import Derived.Test.YtbofcocfcmlcaaaRequests
import Derived.Test.YtbofcocfcmlcaaaMGen
/-! gazettelaw05.NodeReplies: the walk. -/
namespace Go.Proofs.Ytbofcocfcmlcaaa
open Go.RowKit

set_option maxRecDepth 100000 in
set_option maxHeartbeats 12800000 in
theorem law_replies (p : Rp) (pv vb : Value) (b : List UInt8) (W : World) (hp : RpOk p) (hpv : BsW W pv p.b) (hb : Bs W vb b) (hbl : b.length ≤ 1073741824) :
    Calls Try.prog 10 #[.agg (p.cells pv), vb] W fun e W' => e = .returned (.bool true) ∧ Below W.heap.size W W' := by
  unfold Rp.cells
  obtain ⟨pa, pc, rfl⟩ := hpv.form
  obtain ⟨va, vc, rfl⟩ := hb.form
  obtain ⟨W1, hW1⟩ : ∃ W1, W.alloc (.cells #[.int .i64 p.e, .int .i64 p.tl, .bool p.sl, .slice pa p.b.length pc] 56) = W1 := ⟨_, rfl⟩
  have b1 : Below W.heap.size W W1 := by rw [← hW1]; exact (Below.refl _ W).alloc (Nat.le_refl _) _
  have k1 : Blk W1 W.heap.size #[.int .i64 p.e, .int .i64 p.tl, .bool p.sl, .slice pa p.b.length pc] 56 := by rw [← hW1]; exact Blk.new W _ _
  have K1 := hid k1
  have HV := hid (hpv.keep b1)
  have HYb := hid (hb.keep b1)
  have HB1 := hid b1
  have hpl := hp.b
  obtain ⟨cc, hcc⟩ : ∃ cc : Int, (if tellsB p.e p.tl p.b.length = true then (0 : Int) else 1) = cc := ⟨_, rfl⟩
  have HC := hid hcc
  clear hpv hb k1 b1 hcc
  go_enter Try.func10, Try.ntmps10
  go_wp2_with fail
  clear hW1
  refine wp_region_invW rfl Grows (fun i v x => match i with
      | 0 => v = .pointer (some ⟨W.heap.size, 0, none⟩)
      | 1 => v = .int .i64 p.e
      | 2 => v = .pointer (some ⟨W.heap.size, 1, none⟩)
      | 3 => v = .int .i64 p.tl
      | 4 => v = .pointer (some ⟨W.heap.size, 2, none⟩)
      | 5 => v = .bool p.sl
      | 6 => ∃ g, v = .slice (some ⟨g, 0, none⟩) 0 0 ∧ Own8 x W1.heap.size 5 (.slice (some ⟨g, 0, none⟩) 0 0) []
      | 7 => v = .pointer (some ⟨W.heap.size, 3, none⟩)
      | 8 => v = .slice pa p.b.length pc
      | 9 => Own8 x W1.heap.size 5 v p.b
      | 10 => ∃ v9, v = .agg #[.int .i64 p.e, .int .i64 p.tl, .bool p.sl, v9] ∧ Own8 x W1.heap.size 5 v9 p.b
      | 11 => ∃ v', v = .tuple #[v', .int .i64 cc] ∧ Own8 x W1.heap.size 5 v' (putRepB p.e p.tl p.sl p.b)
      | 12 => ∃ v', v = .tuple #[v', .int .i64 cc] ∧ Own8 x W1.heap.size 5 v' (putRepB p.e p.tl p.sl p.b)
      | 13 => Own8 x W1.heap.size 5 v (putRepB p.e p.tl p.sl p.b)
      | 14 => v = .int .i64 cc
      | 15 => Own8 x W1.heap.size 5 v (putRepB p.e p.tl p.sl p.b)
      | 16 => v = .int .i64 cc
      | _ => True) (by kernel_rfl) (Grows.refl _) Grows.trans ?rstab ?rsteps ?rfin
  case rstab =>
    intro i v x y hg h
    match i with
    | 0 | 1 | 2 | 3 | 4 | 5 | 7 | 8 | 14 | 16 => exact h
    | 6 => exact (by obtain ⟨g9, e9, h9⟩ := h; exact ⟨g9, e9, h9.keep hg⟩)
    | 9 => exact Own8.keep h hg
    | 10 => exact (by obtain ⟨v9, e9, h9⟩ := h; exact ⟨v9, e9, h9.keep hg⟩)
    | 11 => exact (by obtain ⟨v9, e9, h9⟩ := h; exact ⟨v9, e9, h9.keep hg⟩)
    | 12 => exact (by obtain ⟨v9, e9, h9⟩ := h; exact ⟨v9, e9, h9.keep hg⟩)
    | 13 => exact Own8.keep h hg
    | 15 => exact Own8.keep h hg
    | n + 17 => trivial
  case rsteps =>
    refine ⟨?_, ?_, ?_, ?_, ?_, ?_, ?_, ?_, ?_, ?_, ?_, ?_, ?_, ?_, ?_, ?_, ?_, trivial⟩
    · intro a x hA
      have t2 := hA.at_ 2 (by first | rfl | kernel_rfl) rfl
      refine step_value (w' := x) (v := .pointer (some ⟨W.heap.size, 0, none⟩)) ?_ (Grows.refl _) ?_
      · go_simp
      · rfl
    · intro a x hA
      have t14 : a.tmps[14]?.getD undef = .pointer (some ⟨W.heap.size, 0, none⟩) := hA.dep_ ⟨0, .data⟩ (by simp) _ 14 rfl rfl
      have hBx := K1.out.keep hA.grown
      have hc0 := hBx.cell (o := 0) rfl
      have hc1 := hBx.cell (o := 1) rfl
      have hc2 := hBx.cell (o := 2) rfl
      have hc3 := hBx.cell (o := 3) rfl
      clear hBx
      refine step_value (w' := x) (v := .int .i64 p.e) ?_ (Grows.refl _) ?_
      · go_simp
      · rfl
    · intro a x hA
      have t2 := hA.at_ 2 (by first | rfl | kernel_rfl) rfl
      refine step_value (w' := x) (v := .pointer (some ⟨W.heap.size, 1, none⟩)) ?_ (Grows.refl _) ?_
      · go_simp
      · rfl
    · intro a x hA
      have t16 : a.tmps[16]?.getD undef = .pointer (some ⟨W.heap.size, 1, none⟩) := hA.dep_ ⟨2, .data⟩ (by simp) _ 16 rfl rfl
      have hBx := K1.out.keep hA.grown
      have hc0 := hBx.cell (o := 0) rfl
      have hc1 := hBx.cell (o := 1) rfl
      have hc2 := hBx.cell (o := 2) rfl
      have hc3 := hBx.cell (o := 3) rfl
      clear hBx
      refine step_value (w' := x) (v := .int .i64 p.tl) ?_ (Grows.refl _) ?_
      · go_simp
      · rfl
    · intro a x hA
      have t2 := hA.at_ 2 (by first | rfl | kernel_rfl) rfl
      refine step_value (w' := x) (v := .pointer (some ⟨W.heap.size, 2, none⟩)) ?_ (Grows.refl _) ?_
      · go_simp
      · rfl
    · intro a x hA
      have t18 : a.tmps[18]?.getD undef = .pointer (some ⟨W.heap.size, 2, none⟩) := hA.dep_ ⟨4, .data⟩ (by simp) _ 18 rfl rfl
      have hBx := K1.out.keep hA.grown
      have hc0 := hBx.cell (o := 0) rfl
      have hc1 := hBx.cell (o := 1) rfl
      have hc2 := hBx.cell (o := 2) rfl
      have hc3 := hBx.cell (o := 3) rfl
      clear hBx
      refine step_value (w' := x) (v := .bool p.sl) ?_ (Grows.refl _) ?_
      · go_simp
      · rfl
    · intro a x hA
      have hsx : W1.heap.size ≤ x.heap.size := hA.grow.size
      refine step_value (w' := x.alloc (.cells #[] 5)) (v := .slice (some ⟨x.heap.size, 0, none⟩) 0 0) (by go_simp) (Grows.alloc _ _) ?_
      exact ⟨_, rfl, own8_mk hsx (Blk.new x _ _) rfl (Nat.le_refl _) (by simp [maxLen]) rfl (by simp)⟩
    · intro a x hA
      have t2 := hA.at_ 2 (by first | rfl | kernel_rfl) rfl
      refine step_value (w' := x) (v := .pointer (some ⟨W.heap.size, 3, none⟩)) ?_ (Grows.refl _) ?_
      · go_simp
      · rfl
    · intro a x hA
      have t21 : a.tmps[21]?.getD undef = .pointer (some ⟨W.heap.size, 3, none⟩) := hA.dep_ ⟨7, .data⟩ (by simp) _ 21 rfl rfl
      have hBx := K1.out.keep hA.grown
      have hc0 := hBx.cell (o := 0) rfl
      have hc1 := hBx.cell (o := 1) rfl
      have hc2 := hBx.cell (o := 2) rfl
      have hc3 := hBx.cell (o := 3) rfl
      clear hBx
      refine step_value (w' := x) (v := .slice pa p.b.length pc) ?_ (Grows.refl _) ?_
      · go_simp
      · rfl
    · intro a x hA
      have t20 : ∃ g, (a.tmps[20]?.getD undef) = .slice (some ⟨g, 0, none⟩) 0 0 ∧ Own8 x W1.heap.size 5 (.slice (some ⟨g, 0, none⟩) 0 0) [] := hA.dep_ ⟨6, .data⟩ (by simp) _ 20 rfl rfl
      have t22 : a.tmps[22]?.getD undef = .slice pa p.b.length pc := hA.dep_ ⟨8, .data⟩ (by simp) _ 22 rfl rfl
      obtain ⟨g, e9, ho9⟩ := t20
      obtain ⟨i0, hi, hz0, hz1, hz2⟩ := info_parts info_u8
      have hsx : W1.heap.size ≤ x.heap.size := hA.grow.size
      have hvx := HV.out.keep hA.grown
      obtain ⟨v', w', hr, q1, q2⟩ := run_append_empty (P := Try.prog) Try.underlying34 hi hz0 hz1 hz2 34 ho9 hvx (by omega) hsx
      refine step_value (w' := w') (v := v') (exec_append rfl (by
        have e1 : a.eval (.tmp 20) = .slice (some ⟨g, 0, none⟩) 0 0 := by simp [go_sem, e9]
        have e2 : a.eval (.tmp 22) = .slice pa p.b.length pc := by simp [go_sem, t22]
        rw [e1, e2]; exact hr)) q2 ?_
      exact q1
    · intro a x hA
      have t15 : a.tmps[15]?.getD undef = .int .i64 p.e := hA.dep_ ⟨1, .data⟩ (by simp) _ 15 rfl rfl
      have t17 : a.tmps[17]?.getD undef = .int .i64 p.tl := hA.dep_ ⟨3, .data⟩ (by simp) _ 17 rfl rfl
      have t19 : a.tmps[19]?.getD undef = .bool p.sl := hA.dep_ ⟨5, .data⟩ (by simp) _ 19 rfl rfl
      have t23 : Own8 x W1.heap.size 5 (a.tmps[23]?.getD undef) p.b := hA.dep_ ⟨9, .data⟩ (by simp) _ 23 rfl rfl
      generalize hq : a.tmps[23]?.getD undef = q9 at t23
      obtain ⟨a9, c9, rfl⟩ := t23.form
      refine step_value (w' := x) (v := .agg #[.int .i64 p.e, .int .i64 p.tl, .bool p.sl, .slice a9 p.b.length c9]) ?_ (Grows.refl _) ?_
      · go_simp
      · exact ⟨_, rfl, t23⟩
    · intro a x hA
      have t24 : ∃ v9, (a.tmps[24]?.getD undef) = .agg #[.int .i64 p.e, .int .i64 p.tl, .bool p.sl, v9] ∧ Own8 x W1.heap.size 5 v9 p.b := hA.dep_ ⟨10, .data⟩ (by simp) _ 24 rfl rfl
      obtain ⟨v9, e9, h9⟩ := t24
      have hbs := h9.bs
      have hsx : W1.heap.size ≤ x.heap.size := hA.grow.size
      clear h9
      refine step_call (f := 25) (args := #[.agg #[.int .i64 p.e, .int .i64 p.tl, .bool p.sl, v9]]) (by clear hbs; go_simp) ((put_reply_x _ _ _ _ _ x hbs).mono ?_)
      rintro e w' ⟨v, rfl, ho, hb⟩
      exact ⟨_, rfl, hb, v, by rw [HC.out], ho.mono hsx⟩
    · intro a x hA
      have t25 : ∃ v', (a.tmps[25]?.getD undef) = .tuple #[v', .int .i64 cc] ∧ Own8 x W1.heap.size 5 v' (putRepB p.e p.tl p.sl p.b) := hA.dep_ ⟨11, .data⟩ (by simp) _ 25 rfl rfl
      exact step_value (w' := x) (v := a.tmps[25]?.getD undef) (by go_simp) (Grows.refl _) t25
    · intro a x hA
      have t13 : ∃ v', (a.tmps[13]?.getD undef) = .tuple #[v', .int .i64 cc] ∧ Own8 x W1.heap.size 5 v' (putRepB p.e p.tl p.sl p.b) := hA.dep_ ⟨12, .data⟩ (by simp) _ 13 rfl rfl
      obtain ⟨v9, e9, h9⟩ := t13
      exact step_value (w' := x) (v := v9) (by clear h9; go_simp) (Grows.refl _) h9
    · intro a x hA
      have t13 : ∃ v', (a.tmps[13]?.getD undef) = .tuple #[v', .int .i64 cc] ∧ Own8 x W1.heap.size 5 v' (putRepB p.e p.tl p.sl p.b) := hA.dep_ ⟨12, .data⟩ (by simp) _ 13 rfl rfl
      have hBx := K1.out.keep hA.grown
      have hc0 := hBx.cell (o := 0) rfl
      have hc1 := hBx.cell (o := 1) rfl
      have hc2 := hBx.cell (o := 2) rfl
      have hc3 := hBx.cell (o := 3) rfl
      clear hBx
      obtain ⟨v9, e9, h9⟩ := t13
      exact step_value (w' := x) (v := .int .i64 cc) (by clear h9; go_simp) (Grows.refl _) rfl
    · intro a x hA
      have t26 : Own8 x W1.heap.size 5 (a.tmps[26]?.getD undef) (putRepB p.e p.tl p.sl p.b) := hA.dep_ ⟨13, .data⟩ (by simp) _ 26 rfl rfl
      exact step_value (w' := x) (v := a.tmps[26]?.getD undef) (by go_simp) (Grows.refl _) t26
    · intro a x hA
      have t27 : a.tmps[27]?.getD undef = .int .i64 cc := hA.dep_ ⟨14, .data⟩ (by simp) _ 27 rfl rfl
      refine step_value (w' := x) (v := .int .i64 cc) ?_ (Grows.refl _) ?_
      · go_simp
      · rfl
  case rfin =>
    intro y W2 hg hV
    simp only [AllVals] at hV
    obtain ⟨_, _, _, _, _, _, _, _, _, _, _, _, _, _, _, u15, u16, _⟩ := hV
    simp only [putAll, Act.put, List.setIfInBounds_toArray, List.set_cons_zero, List.set_cons_succ]
    rw [u16]
    clear u16
    have bdW : Below W1.heap.size W1 W2 := (below_of_drewN _ W1 1).trans hg
    generalize y 5 = v5 at *
    have k2 := K1.out.keep bdW
    have x0 := k2.cell (o := 0) rfl
    have x1 := k2.cell (o := 1) rfl
    have x2 := k2.cell (o := 2) rfl
    have x3 := k2.cell (o := 3) rfl
    have H2 := hid (And.intro (HV.out.keep bdW) (And.intro (HYb.out.keep bdW) (And.intro (HB1.out.trans (bdW.mono HB1.out.size)) u15)))
    clear hg bdW u15 K1 HV HYb HB1 k2
    go_wp2_with fail
    clear x0 x1 x2 x3
    refine (ref_PutReply _ _ _ _ p.b W2 H2.out.1 hp.b).mono ?_
    rintro e Wb ⟨v7, rfl, o7, bb⟩
    rw [HC.out]
    have HY := hid (H2.out.2.1.keep bb)
    have H5 := hid (And.intro (H2.out.2.2.2.bs.keep bb) (And.intro o7.bs (H2.out.2.2.1.trans (bb.mono H2.out.2.2.1.size))))
    clear H2 o7 bb
    obtain ⟨k9, l9, p9, d9, c9, hqv⟩ : ∃ k l p d c, repV b = (k, l, p, d, c) := ⟨_, _, _, _, _, rfl⟩
    have HQ := hid hqv
    clear hqv
    obtain ⟨i0, hi, hz0, hz1, hz2⟩ := info_parts info_u8
    obtain ⟨Wc, hWc⟩ : ∃ Wc, Wb.alloc (.cells #[] 5) = Wc := ⟨_, rfl⟩
    have bc : Below Wb.heap.size Wb Wc := by rw [← hWc]; exact (Below.refl _ Wb).alloc (Nat.le_refl _) _
    have oc : Own8 Wc Wb.heap.size 5 (.slice (some ⟨Wb.heap.size, 0, none⟩) 0 0) [] := by rw [← hWc]; exact own8_mk (Nat.le_refl _) (Blk.new _ _ _) rfl (Nat.le_refl _) (by simp [maxLen]) rfl (by simp)
    have sc := HY.out.keep bc
    have hsz := bc.size
    go_wp2_with (at_builtin; refine wpList_append8 Try.underlying34 hi hz0 hz1 hz2 rfl _ _ rfl Wb.heap.size rfl rfl oc sc (by simp; omega) hsz ?_; intro vd Wd od gd _; rw [List.nil_append] at od; have bd : Below Wb.heap.size Wb Wd := bc.grown gd hsz (fun k hk => (oc.blk k hk).1); obtain ⟨ad, cd, ed⟩ := od.form; subst ed; clear oc sc gd)
    clear hWc hsz bc
    refine (get_reply _ b Wd od.bs hbl).mono ?_
    intro e We hpost
    obtain ⟨ve, rfl, oe, be⟩ := RepPost.vals hpost HQ.out
    clear hpost od
    obtain ⟨ae, ce, rfl⟩ := oe.form
    obtain ⟨Wf, hWf⟩ : ∃ Wf, We.alloc (.cells #[.int .i64 k9, .int .i64 l9, .bool p9, .slice ae d9.length ce] 60) = Wf := ⟨_, rfl⟩
    have bf : Below We.heap.size We Wf := by rw [← hWf]; exact (Below.refl _ We).alloc (Nat.le_refl _) _
    have kf : Blk Wf We.heap.size #[.int .i64 k9, .int .i64 l9, .bool p9, .slice ae d9.length ce] 60 := by rw [← hWf]; exact Blk.new We _ _
    have bbf := bd.trans ((be.trans (bf.mono be.size)).mono bd.size)
    have HF := hid (And.intro kf (And.intro (oe.bs.keep bf) (HY.out.keep bbf)))
    have HB5 := hid (And.intro (H5.out.1.keep bbf) (And.intro (H5.out.2.1.keep bbf) (H5.out.2.2.trans (bbf.mono H5.out.2.2.size))))
    clear bd be bf kf oe bbf HY H5
    go_wp2_with fail
    clear hWf
    refine (ref_GetReply _ b Wf HF.out.2.2 hbl).mono ?_
    intro e Wg hpost
    obtain ⟨vg, rfl, og, bg⟩ := RepPost.vals hpost HQ.out
    clear hpost
    obtain ⟨ag, cg, rfl⟩ := og.form
    obtain ⟨Wh, hWh⟩ : ∃ Wh, Wg.alloc (.cells #[.int .i64 k9, .int .i64 l9, .bool p9, .slice ag d9.length cg] 56) = Wh := ⟨_, rfl⟩
    have bh : Below Wg.heap.size Wg Wh := by rw [← hWh]; exact (Below.refl _ Wg).alloc (Nat.le_refl _) _
    have kh : Blk Wh Wg.heap.size #[.int .i64 k9, .int .i64 l9, .bool p9, .slice ag d9.length cg] 56 := by rw [← hWh]; exact Blk.new Wg _ _
    have bgh := bg.trans (bh.mono bg.size)
    have kf := HF.out.1.keep bgh
    have hcv1 := run_bytes_string (P := Try.prog) Try.underlying34 Try.underlying5 Try.underlying9 (HB5.out.1.keep bgh)
    have hcv2 := run_bytes_string (P := Try.prog) Try.underlying34 Try.underlying5 Try.underlying9 (HB5.out.2.1.keep bgh)
    have x0 := kf.cell (o := 0) rfl
    have x1 := kf.cell (o := 1) rfl
    have x2 := kf.cell (o := 2) rfl
    have x3 := kf.cell (o := 3) rfl
    have y0 := kh.cell (o := 0) rfl
    have y1 := kh.cell (o := 1) rfl
    have y2 := kh.cell (o := 2) rfl
    have y3 := kh.cell (o := 3) rfl
    have HS := hid (And.intro (HF.out.2.1.keep bgh) (And.intro (og.bs.keep bh) (HB5.out.2.2.trans (bgh.mono HB5.out.2.2.size))))
    clear bg bh kh kf og bgh HF HB5 HQ
    go_wp2_with fail
    clear hWh hcv1 hcv2
    refine (law5_num _ _).mono ?_
    rintro e Wx ⟨rfl, hw⟩
    rw [hw]
    clear hw Wx
    go_wp2_with fail
    clear x0 x1 x2 x3 y0 y1 y2 y3
    refine (law_sameReply _ _ _ _ _ d9 Wh (.inl HS.out.1) (.inl HS.out.2.1)).mono ?_
    rintro e Wi ⟨rfl, bi⟩
    have HB6 := hid (HS.out.2.2.trans (bi.mono HS.out.2.2.size))
    clear HS bi
    go_wp2_with fail
    refine (law5_num _ _).mono ?_
    rintro e Wx ⟨rfl, hw⟩
    rw [hw]
    clear hw Wx
    go_wp2_with fail
    refine (law5_knows _).mono ?_
    rintro e Wz ⟨rfl, bz⟩
    go_wp2_with fail
    go_ret
    exact ⟨rfl, HB6.out.trans (bz.mono HB6.out.size)⟩
end Go.Proofs.Ytbofcocfcmlcaaa

/-! gazettelaw01: Lent, Stays. -/
namespace Go.Proofs.Ytbofcocfcmlcaaa
open Go.RowKit

theorem own8_some {w : World} {base : Nat} {t : TypeId} {v : Value} {l : List UInt8} (h : Own8 w base t v l) (hne : l ≠ []) : ∃ g c, v = .slice (some ⟨g, 0, none⟩) l.length c ∧ l.length ≤ c ∧ c ≤ maxLen := by
  obtain ⟨_, h2⟩ := h
  rcases h2 with ⟨_, h0⟩ | ⟨g, cap, cur, e, _, _, hc, hm, _⟩
  · exact absurd (List.eq_nil_of_length_eq_zero h0) hne
  · exact ⟨g, cap, e, hc, hm⟩

set_option maxRecDepth 100000 in
set_option maxHeartbeats 1600000 in
theorem law_Lent (v : Value) (l : List UInt8) (W : World) (hv : Bs W v l) (hl : l.length ≤ 1073741824) :
    Calls Try.prog 27 #[v] W fun e w' => ∃ g c, e = .returned (.slice (some ⟨g, 0, none⟩) l.length c) ∧ Own8 w' W.heap.size 5 (.slice (some ⟨g, 0, none⟩) (l.length + 2) c) (l ++ [201, 202]) ∧ Below W.heap.size W w' := by
  obtain ⟨i0, hi, hz0, hz1, hz2⟩ := info_parts info_u8
  obtain ⟨a0, c0, rfl⟩ := hv.form
  obtain ⟨W1, hW1⟩ : ∃ W1, W.alloc (.cells #[] 5) = W1 := ⟨_, rfl⟩
  have b1 : Below W.heap.size W W1 := by rw [← hW1]; exact (Below.refl _ W).alloc (Nat.le_refl _) _
  have o1 : Own8 W1 W.heap.size 5 (.slice (some ⟨W.heap.size, 0, none⟩) 0 0) [] := by rw [← hW1]; exact own8_mk (Nat.le_refl _) (Blk.new _ _ _) rfl (Nat.le_refl _) (by simp [maxLen]) rfl (by simp)
  have s1 := hv.keep b1
  clear hv
  go_enter Try.func27, Try.ntmps27
  go_wp2_with (first
    | (at_builtin; refine wpList_append8 Try.underlying34 hi hz0 hz1 hz2 rfl _ _ rfl W.heap.size rfl rfl o1 s1 (by simp; omega) b1.size ?_; intro v2 W2 o2 g2 _; rw [List.nil_append] at o2; have b2 : Below W.heap.size W W2 := b1.grown g2 b1.size (fun k hk => (o1.blk k hk).1); obtain ⟨a2, c2, e2⟩ := o2.form; subst e2; clear o1 s1 g2 b1 hW1; obtain ⟨W3, hW3⟩ : ∃ W3, W2.alloc (.cells #[.int .u8 201, .int .u8 202] 5) = W3 := ⟨_, rfl⟩; have b3 : Below W2.heap.size W2 W3 := (by rw [← hW3]; exact (Below.refl _ W2).alloc (Nat.le_refl _) _); have s3 : Bs W3 (.slice (some ⟨W2.heap.size, 0, none⟩) 2 2) [201, 202] := (by rw [← hW3]; exact (own8_mk (base := W2.heap.size) (l := [201, 202]) (Nat.le_refl _) (Blk.new _ _ _) rfl (Nat.le_refl _) (by simp [maxLen]) rfl (fun i u h => match i, h with | 0, h => by simp at h; subst h; rfl | 1, h => by simp at h; subst h; rfl)).bs); have o3 := o2.keep b3; have b3W := b2.trans (b3.mono b2.size); clear o2 b2 b3)
    | (at_builtin; refine wpList_append8 Try.underlying34 hi hz0 hz1 hz2 rfl _ _ rfl W.heap.size rfl rfl o3 s3 (by simp; omega) b3W.size ?_; intro v4 W4 o4 g4 _; have b4 : Below W.heap.size W W4 := b3W.grown g4 b3W.size (fun k hk => (o3.blk k hk).1); obtain ⟨g, c, e4, hc4, hm4⟩ := own8_some o4 (by simp); subst e4; clear o3 s3 g4 b3W hW3; have hsl := fun (w : World) => run_slice_to (P := Try.prog) Try.underlying34 szu8 (some ⟨g, 0, none⟩) (l ++ [201, 202]).length c (l.length : Int) (by omega) (by simp at hc4; omega) w; have hlc : l.length ≤ c := by simp at hc4; omega))
  go_ret
  refine ⟨g, c, rfl, ?_, b4⟩
  simpa using o4

set_option maxRecDepth 100000 in
set_option maxHeartbeats 1600000 in
theorem law_Stays (g c : Nat) (v : Value) (l : List UInt8) (W : World) (hl : l.length ≤ 1073741824) (hx : Bs W (.slice (some ⟨g, 0, none⟩) (l.length + 2) c) (l ++ [201, 202])) (hv : Bs W v l) :
    Calls Try.prog 35 #[.slice (some ⟨g, 0, none⟩) l.length c, v] W fun e w' => e = .returned (.bool true) ∧ Below W.heap.size W w' := by
  obtain ⟨a0, c0, rfl⟩ := hv.form
  have hcc : l.length + 2 ≤ c ∧ c ≤ maxLen := by
    obtain ⟨_, _, e, h1, h2, _⟩ := id hx
    injection e with _ _ e
    subst e
    simp at h1
    exact ⟨h1, h2⟩
  have hcl : W.cell? ⟨g, l.length, none⟩ = some (.int .u8 201) ∧ W.cell? ⟨g, l.length + 1, none⟩ = some (.int .u8 202) := by
    obtain ⟨_, _, e, _, _, _, _, h⟩ := id hx
    injection e with e _ _
    subst e
    obtain ⟨_, e1, h1⟩ := h l.length 201 (by simp)
    obtain ⟨_, e2, h2⟩ := h (l.length + 1) 202 (by rw [List.getElem?_append_right (by omega)]; simp)
    cases e1
    cases e2
    simp only [Nat.zero_add] at h1 h2
    exact ⟨h1, h2⟩
  obtain ⟨c1, c2⟩ := hcl
  have hmx := hcc.2
  unfold maxLen at hmx
  have hc := hcc.1
  have hx0 : Bs W (.slice (some ⟨g, 0, none⟩) l.length c) l := by
    have := hx.slice (lo := 0) (hi := l.length) (by omega) (by omega)
    simpa [sla, Addr.add] using this
  have hcv1 : ∀ k, (convert 34 9 (.slice (some ⟨g, 0, none⟩) l.length c)).run Try.prog (W.drewN k) = .ok (.string ⟨l.toArray⟩) (W.drewN k) := fun k => run_bytes_string (P := Try.prog) Try.underlying34 Try.underlying5 Try.underlying9 (hx0.keep (below_of_drewN _ _ _))
  have hcv2 : ∀ k, (convert 34 9 (.slice a0 l.length c0)).run Try.prog (W.drewN k) = .ok (.string ⟨l.toArray⟩) (W.drewN k) := fun k => run_bytes_string (P := Try.prog) Try.underlying34 Try.underlying5 Try.underlying9 (hv.keep (below_of_drewN _ _ _))
  have hsl1 := fun (w : World) => run_slice_to (P := Try.prog) Try.underlying34 szu8 (some ⟨g, 0, none⟩) l.length c ((l.length : Int) + 2) (by omega) (by omega) w
  have hsl2 := fun (w : World) => run_slice_to (P := Try.prog) Try.underlying34 szu8 (some ⟨g, 0, none⟩) (l.length + 2) c (l.length : Int) (by omega) (by omega) w
  rw [show ((l.length : Int) + 2).toNat = l.length + 2 from by omega] at hsl1
  rw [Int.toNat_natCast] at hsl2
  generalize (⟨l.toArray⟩ : ByteArray) = s1 at *
  clear hx hv hx0 hcc
  have hb1 : (l.length : Int) < ((l.length + 2 : Nat) : Int) := by omega
  have hb2 : (l.length : Int) + 1 < ((l.length + 2 : Nat) : Int) := by omega
  go_enter Try.func35, Try.ntmps35
  go_wp2_with fail
  go_quiet (fail)
  go_wp2_with fail
  go_ret
  exact ⟨rfl, below_of_drewN _ _ _⟩
end Go.Proofs.Ytbofcocfcmlcaaa
