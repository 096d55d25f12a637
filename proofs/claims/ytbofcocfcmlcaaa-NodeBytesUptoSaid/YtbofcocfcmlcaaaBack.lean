import Derived.Test.YtbofcocfcmlcaaaMLArgsB
import Derived.Deep.Cut
import Derived.Test.YtbofcocfcmlcaaaLTwice
import Derived.Test.YtbofcocfcmlcaaaMRegionW
/-! gazettelaw05.NodeBack: the walk. -/
namespace Go.Proofs.Ytbofcocfcmlcaaa
open Go.RowKit

theorem put_request_c (k lo po : Int) (v : Value) (l : List UInt8) (W : World) (hv : Bs W v l) :
    Calls Try.prog 23 #[.agg #[.int .i64 k, .int .i64 lo, .int .i64 po, v]] W fun e w' => ∃ v' c, e = .returned (.tuple #[v', .int .i64 c]) ∧ Own8 w' W.heap.size 5 v' (putReqB k lo po l) ∧ Below W.heap.size W w' ∧ (c = 0 ↔ rightB k lo po l.length = true) := by
  unfold putReqB
  cases ht : rightB k lo po l.length
  · obtain ⟨a0, c0, rfl⟩ := hv.form
    refine (put_request_no k lo po a0 l.length c0 W (by have := hv.len; unfold maxLen at this; omega) ht).mono ?_
    rintro e w' ⟨rfl, hb⟩
    exact ⟨_, _, rfl, Own8.nil _ _ _, hb, by simp⟩
  · refine (put_request k lo po v l W hv ht).mono ?_
    rintro e w' ⟨v', rfl, ho, hb⟩
    exact ⟨v', _, rfl, ho, hb, by simp⟩
theorem getReq_put' (k lo po : Int) (l : List UInt8) (h : rightB k lo po l.length = true) : ∃ k' lo' po' : Nat, (k' : Int) = k ∧ (lo' : Int) = lo ∧ (po' : Int) = po ∧ getReq (putReqB k lo po l) = some (k', lo', po', l) := by
  have h0 := of_decide_eq_true h
  obtain ⟨k, rfl⟩ := Int.eq_ofNat_of_zero_le (show 0 ≤ k by omega)
  obtain ⟨lo, rfl⟩ := Int.eq_ofNat_of_zero_le (show 0 ≤ lo by omega)
  obtain ⟨po, rfl⟩ := Int.eq_ofNat_of_zero_le (show 0 ≤ po by omega)
  refine ⟨k, lo, po, rfl, rfl, rfl, ?_⟩
  unfold putReqB
  rw [if_pos h]
  exact getReq_put k lo po l h
theorem getRep_put' (e tl : Int) (sl : Bool) (l : List UInt8) (h : tellsB e tl l.length = true) : ∃ e' tl' : Nat, (e' : Int) = e ∧ (tl' : Int) = tl ∧ getRep (putRepB e tl sl l) = some (e', tl', sl, l) := by
  have h0 := of_decide_eq_true h
  obtain ⟨e, rfl⟩ := Int.eq_ofNat_of_zero_le (show 0 ≤ e by omega)
  obtain ⟨tl, rfl⟩ := Int.eq_ofNat_of_zero_le (show 0 ≤ tl by omega)
  exact ⟨e, tl, rfl, rfl, getRep_put e tl sl l h⟩

set_option maxRecDepth 100000 in
set_option maxHeartbeats 12800000 in
theorem law_back (r : Rq) (p : Rp) (rv pv vb : Value) (b : List UInt8) (W : World) (hr : RqOk r) (hpl : p.b.length ≤ 1073741824) (hrv : BsW W rv r.b) (hpv : BsW W pv p.b) (hb : Bs W vb b) (hbl : b.length ≤ 1073741824) :
    Calls Try.prog 7 #[.agg (r.cells rv), .agg (p.cells pv), vb] W fun e W' => e = .returned (.bool true) ∧ Below W.heap.size W W' := by
  unfold Rq.cells Rp.cells
  obtain ⟨ra, rc, rfl⟩ := hrv.form
  obtain ⟨pa, pc, rfl⟩ := hpv.form
  obtain ⟨va, vc, rfl⟩ := hb.form
  obtain ⟨W1, hW1⟩ : ∃ W1, W.alloc (.cells #[.int .i64 r.k, .int .i64 r.lo, .int .i64 r.po, .slice ra r.b.length rc] 54) = W1 := ⟨_, rfl⟩
  have b1 : Below W.heap.size W W1 := by rw [← hW1]; exact (Below.refl _ W).alloc (Nat.le_refl _) _
  have k1 : Blk W1 W.heap.size #[.int .i64 r.k, .int .i64 r.lo, .int .i64 r.po, .slice ra r.b.length rc] 54 := by rw [← hW1]; exact Blk.new W _ _
  obtain ⟨W2, hW2⟩ : ∃ W2, W1.alloc (.cells #[.int .i64 p.e, .int .i64 p.tl, .bool p.sl, .slice pa p.b.length pc] 56) = W2 := ⟨_, rfl⟩
  have b2 : Below W1.heap.size W1 W2 := by rw [← hW2]; exact (Below.refl _ W1).alloc (Nat.le_refl _) _
  have k2 : Blk W2 W1.heap.size #[.int .i64 p.e, .int .i64 p.tl, .bool p.sl, .slice pa p.b.length pc] 56 := by rw [← hW2]; exact Blk.new W1 _ _
  have k12 := k1.keep b2
  have b12 := b1.trans (b2.mono b1.size)
  have x0 := k12.cell (o := 0) rfl
  have x1 := k12.cell (o := 1) rfl
  have x2 := k12.cell (o := 2) rfl
  have x3 := k12.cell (o := 3) rfl
  have H0 := hid (And.intro (hrv.keep b12) (And.intro (hpv.keep b12) (And.intro (hb.keep b12) (And.intro k12 (And.intro k2 b12)))))
  clear hrv hpv hb b1 k1 b2 k2 k12 b12
  go_enter Try.func7, Try.ntmps7
  go_wp2_with fail
  clear hW1 hW2
  refine (law_Request r.k r.lo r.po _ r.b W2 H0.out.1 (by have := hr.b; omega)).mono ?_
  rintro e Wa ⟨v1, rfl, o1, ba⟩
  have HA := hid (And.intro o1 ba)
  clear x0 x1 x2 x3 o1 ba
  go_wp2_with fail
  refine (put_request_c _ _ _ v1 _ Wa HA.out.1.bs).mono ?_
  rintro e Wb ⟨v2, c2, rfl, o2, bb, hc2⟩
  have hsA := HA.out.2.size
  have bAB := HA.out.2.trans (bb.mono hsA)
  have KR := hid (H0.out.2.2.2.1.keep bAB)
  have K1 := hid (H0.out.2.2.2.2.1.keep bAB)
  have HV := hid (H0.out.2.1.keep bAB)
  have HY := hid (H0.out.2.2.1.keep bAB)
  have HR0 := hid (H0.out.1.keep bAB)
  have HB := hid (And.intro (H0.out.2.2.2.2.2.trans (bAB.mono H0.out.2.2.2.2.2.size)) (And.intro o2 hc2))
  have hlp : (putReqB r.k r.lo r.po r.b).length ≤ 65600 := putReq_len _ _ _ _
  clear H0 HA o2 bb hc2 hsA bAB
  go_wp2_with fail
  refine wp_region_invW rfl Grows (fun i v x => match i with
      | 0 => v = .pointer (some ⟨W1.heap.size, 0, none⟩)
      | 1 => v = .int .i64 p.e
      | 2 => v = .pointer (some ⟨W1.heap.size, 1, none⟩)
      | 3 => v = .int .i64 p.tl
      | 4 => v = .pointer (some ⟨W1.heap.size, 2, none⟩)
      | 5 => v = .bool p.sl
      | 6 => ∃ g, v = .slice (some ⟨g, 0, none⟩) 0 0 ∧ Own8 x Wb.heap.size 5 (.slice (some ⟨g, 0, none⟩) 0 0) []
      | 7 => v = .pointer (some ⟨W1.heap.size, 3, none⟩)
      | 8 => v = .slice pa p.b.length pc
      | 9 => Own8 x Wb.heap.size 5 v p.b
      | 10 => ∃ v9, v = .agg #[.int .i64 p.e, .int .i64 p.tl, .bool p.sl, v9] ∧ Own8 x Wb.heap.size 5 v9 p.b
      | 11 => ∃ v' c, v = .tuple #[v', .int .i64 c] ∧ Own8 x Wb.heap.size 5 v' (putRepB p.e p.tl p.sl p.b) ∧ (c = 0 ↔ tellsB p.e p.tl p.b.length = true)
      | 12 => ∃ v' c, v = .tuple #[v', .int .i64 c] ∧ Own8 x Wb.heap.size 5 v' (putRepB p.e p.tl p.sl p.b) ∧ (c = 0 ↔ tellsB p.e p.tl p.b.length = true)
      | 13 => Own8 x Wb.heap.size 5 v (putRepB p.e p.tl p.sl p.b)
      | 14 => ∃ c, v = .int .i64 c ∧ (c = 0 ↔ tellsB p.e p.tl p.b.length = true)
      | 15 => Own8 x Wb.heap.size 5 v (putRepB p.e p.tl p.sl p.b)
      | 16 => ∃ c, v = .int .i64 c ∧ (c = 0 ↔ tellsB p.e p.tl p.b.length = true)
      | _ => True) (by kernel_rfl) (Grows.refl _) Grows.trans ?rstab ?rsteps ?rfin
  case rstab =>
    intro i v x y hg h
    match i with
    | 0 | 1 | 2 | 3 | 4 | 5 | 7 | 8 => exact h
    | 6 => exact (by obtain ⟨g9, e9, h9⟩ := h; exact ⟨g9, e9, h9.keep hg⟩)
    | 9 => exact Own8.keep h hg
    | 10 => exact (by obtain ⟨v9, e9, h9⟩ := h; exact ⟨v9, e9, h9.keep hg⟩)
    | 11 => exact (by obtain ⟨v9, c9, e9, h9, q9⟩ := h; exact ⟨v9, c9, e9, h9.keep hg, q9⟩)
    | 12 => exact (by obtain ⟨v9, c9, e9, h9, q9⟩ := h; exact ⟨v9, c9, e9, h9.keep hg, q9⟩)
    | 13 => exact Own8.keep h hg
    | 14 => exact h
    | 15 => exact Own8.keep h hg
    | 16 => exact h
    | n + 17 => trivial
  case rsteps =>
    refine ⟨?_, ?_, ?_, ?_, ?_, ?_, ?_, ?_, ?_, ?_, ?_, ?_, ?_, ?_, ?_, ?_, ?_, trivial⟩
    · intro a x hA
      have t4 := hA.at_ 4 (by rfl) rfl
      refine step_value (w' := x) (v := .pointer (some ⟨W1.heap.size, 0, none⟩)) ?_ (Grows.refl _) ?_
      · go_simp
      · rfl
    · intro a x hA
      have t29 : a.tmps[29]?.getD undef = .pointer (some ⟨W1.heap.size, 0, none⟩) := hA.dep_ ⟨0, .data⟩ (by simp) _ 29 rfl rfl
      have hBx := K1.out.keep hA.grown
      have hc0 := hBx.cell (o := 0) rfl
      have hc1 := hBx.cell (o := 1) rfl
      have hc2 := hBx.cell (o := 2) rfl
      have hc3 := hBx.cell (o := 3) rfl
      clear hBx
      refine step_value (w' := x) (v := .int .i64 p.e) ?_ (Grows.refl _) ?_
      · go_simp
      · rfl
    · intro a x hA
      have t4 := hA.at_ 4 (by rfl) rfl
      refine step_value (w' := x) (v := .pointer (some ⟨W1.heap.size, 1, none⟩)) ?_ (Grows.refl _) ?_
      · go_simp
      · rfl
    · intro a x hA
      have t31 : a.tmps[31]?.getD undef = .pointer (some ⟨W1.heap.size, 1, none⟩) := hA.dep_ ⟨2, .data⟩ (by simp) _ 31 rfl rfl
      have hBx := K1.out.keep hA.grown
      have hc0 := hBx.cell (o := 0) rfl
      have hc1 := hBx.cell (o := 1) rfl
      have hc2 := hBx.cell (o := 2) rfl
      have hc3 := hBx.cell (o := 3) rfl
      clear hBx
      refine step_value (w' := x) (v := .int .i64 p.tl) ?_ (Grows.refl _) ?_
      · go_simp
      · rfl
    · intro a x hA
      have t4 := hA.at_ 4 (by rfl) rfl
      refine step_value (w' := x) (v := .pointer (some ⟨W1.heap.size, 2, none⟩)) ?_ (Grows.refl _) ?_
      · go_simp
      · rfl
    · intro a x hA
      have t33 : a.tmps[33]?.getD undef = .pointer (some ⟨W1.heap.size, 2, none⟩) := hA.dep_ ⟨4, .data⟩ (by simp) _ 33 rfl rfl
      have hBx := K1.out.keep hA.grown
      have hc0 := hBx.cell (o := 0) rfl
      have hc1 := hBx.cell (o := 1) rfl
      have hc2 := hBx.cell (o := 2) rfl
      have hc3 := hBx.cell (o := 3) rfl
      clear hBx
      refine step_value (w' := x) (v := .bool p.sl) ?_ (Grows.refl _) ?_
      · go_simp
      · rfl
    · intro a x hA
      have hsx : Wb.heap.size ≤ x.heap.size := hA.grow.size
      refine step_value (w' := x.alloc (.cells #[] 5)) (v := .slice (some ⟨x.heap.size, 0, none⟩) 0 0) (by go_simp) (Grows.alloc _ _) ?_
      exact ⟨_, rfl, own8_mk hsx (Blk.new x _ _) rfl (Nat.le_refl _) (by simp [maxLen]) rfl (by simp)⟩
    · intro a x hA
      have t4 := hA.at_ 4 (by rfl) rfl
      refine step_value (w' := x) (v := .pointer (some ⟨W1.heap.size, 3, none⟩)) ?_ (Grows.refl _) ?_
      · go_simp
      · rfl
    · intro a x hA
      have t36 : a.tmps[36]?.getD undef = .pointer (some ⟨W1.heap.size, 3, none⟩) := hA.dep_ ⟨7, .data⟩ (by simp) _ 36 rfl rfl
      have hBx := K1.out.keep hA.grown
      have hc0 := hBx.cell (o := 0) rfl
      have hc1 := hBx.cell (o := 1) rfl
      have hc2 := hBx.cell (o := 2) rfl
      have hc3 := hBx.cell (o := 3) rfl
      clear hBx
      refine step_value (w' := x) (v := .slice pa p.b.length pc) ?_ (Grows.refl _) ?_
      · go_simp
      · rfl
    · intro a x hA
      have t35 : ∃ g, (a.tmps[35]?.getD undef) = .slice (some ⟨g, 0, none⟩) 0 0 ∧ Own8 x Wb.heap.size 5 (.slice (some ⟨g, 0, none⟩) 0 0) [] := hA.dep_ ⟨6, .data⟩ (by simp) _ 35 rfl rfl
      have t37 : a.tmps[37]?.getD undef = .slice pa p.b.length pc := hA.dep_ ⟨8, .data⟩ (by simp) _ 37 rfl rfl
      obtain ⟨g, e9, ho9⟩ := t35
      obtain ⟨i0, hi, hz0, hz1, hz2⟩ := info_parts info_u8
      have hsx : Wb.heap.size ≤ x.heap.size := hA.grow.size
      have hvx := HV.out.keep hA.grown
      obtain ⟨v', w', hr, q1, q2⟩ := run_append_empty (P := Try.prog) Try.underlying34 hi hz0 hz1 hz2 34 ho9 hvx (by omega) hsx
      refine step_value (w' := w') (v := v') (exec_append rfl (by
        have e1 : a.eval (.tmp 35) = .slice (some ⟨g, 0, none⟩) 0 0 := by simp [go_sem, e9]
        have e2 : a.eval (.tmp 37) = .slice pa p.b.length pc := by simp [go_sem, t37]
        rw [e1, e2]; exact hr)) q2 ?_
      exact q1
    · intro a x hA
      have t30 : a.tmps[30]?.getD undef = .int .i64 p.e := hA.dep_ ⟨1, .data⟩ (by simp) _ 30 rfl rfl
      have t32 : a.tmps[32]?.getD undef = .int .i64 p.tl := hA.dep_ ⟨3, .data⟩ (by simp) _ 32 rfl rfl
      have t34 : a.tmps[34]?.getD undef = .bool p.sl := hA.dep_ ⟨5, .data⟩ (by simp) _ 34 rfl rfl
      have t38 : Own8 x Wb.heap.size 5 (a.tmps[38]?.getD undef) p.b := hA.dep_ ⟨9, .data⟩ (by simp) _ 38 rfl rfl
      generalize hq : a.tmps[38]?.getD undef = q9 at t38
      obtain ⟨a9, c9, rfl⟩ := t38.form
      refine step_value (w' := x) (v := .agg #[.int .i64 p.e, .int .i64 p.tl, .bool p.sl, .slice a9 p.b.length c9]) ?_ (Grows.refl _) ?_
      · go_simp
      · exact ⟨_, rfl, t38⟩
    · intro a x hA
      have t39 : ∃ v9, (a.tmps[39]?.getD undef) = .agg #[.int .i64 p.e, .int .i64 p.tl, .bool p.sl, v9] ∧ Own8 x Wb.heap.size 5 v9 p.b := hA.dep_ ⟨10, .data⟩ (by simp) _ 39 rfl rfl
      obtain ⟨v9, e9, h9⟩ := t39
      have hbs := h9.bs
      have hsx : Wb.heap.size ≤ x.heap.size := hA.grow.size
      clear h9
      refine step_call (f := 25) (args := #[.agg #[.int .i64 p.e, .int .i64 p.tl, .bool p.sl, v9]]) (by clear hbs; go_simp) ((put_reply _ _ _ _ _ x hbs).mono ?_)
      rintro e w' ⟨v, c, rfl, ho, hb, hc⟩
      exact ⟨_, rfl, hb, v, c, rfl, ho.mono hsx, hc⟩
    · intro a x hA
      have t40 : ∃ v' c, (a.tmps[40]?.getD undef) = .tuple #[v', .int .i64 c] ∧ Own8 x Wb.heap.size 5 v' (putRepB p.e p.tl p.sl p.b) ∧ (c = 0 ↔ tellsB p.e p.tl p.b.length = true) := hA.dep_ ⟨11, .data⟩ (by simp) _ 40 rfl rfl
      exact step_value (w' := x) (v := a.tmps[40]?.getD undef) (by go_simp) (Grows.refl _) t40
    · intro a x hA
      have t28 : ∃ v' c, (a.tmps[28]?.getD undef) = .tuple #[v', .int .i64 c] ∧ Own8 x Wb.heap.size 5 v' (putRepB p.e p.tl p.sl p.b) ∧ (c = 0 ↔ tellsB p.e p.tl p.b.length = true) := hA.dep_ ⟨12, .data⟩ (by simp) _ 28 rfl rfl
      obtain ⟨v9, c9, e9, h9, q9⟩ := t28
      exact step_value (w' := x) (v := v9) (by clear h9 q9; go_simp) (Grows.refl _) h9
    · intro a x hA
      have t28 : ∃ v' c, (a.tmps[28]?.getD undef) = .tuple #[v', .int .i64 c] ∧ Own8 x Wb.heap.size 5 v' (putRepB p.e p.tl p.sl p.b) ∧ (c = 0 ↔ tellsB p.e p.tl p.b.length = true) := hA.dep_ ⟨12, .data⟩ (by simp) _ 28 rfl rfl
      obtain ⟨v9, c9, e9, h9, q9⟩ := t28
      exact step_value (w' := x) (v := .int .i64 c9) (by clear h9 q9; go_simp) (Grows.refl _) ⟨_, rfl, q9⟩
    · intro a x hA
      have t41 : Own8 x Wb.heap.size 5 (a.tmps[41]?.getD undef) (putRepB p.e p.tl p.sl p.b) := hA.dep_ ⟨13, .data⟩ (by simp) _ 41 rfl rfl
      exact step_value (w' := x) (v := a.tmps[41]?.getD undef) (by go_simp) (Grows.refl _) t41
    · intro a x hA
      have t42 : ∃ c, (a.tmps[42]?.getD undef) = .int .i64 c ∧ (c = 0 ↔ tellsB p.e p.tl p.b.length = true) := hA.dep_ ⟨14, .data⟩ (by simp) _ 42 rfl rfl
      exact step_value (w' := x) (v := a.tmps[42]?.getD undef) (by go_simp) (Grows.refl _) t42
  case rfin =>
    intro y W' hg hV
    simp only [AllVals] at hV
    obtain ⟨_, _, _, _, _, _, _, _, _, _, _, _, _, _, _, u15, u16, _⟩ := hV
    simp only [putAll, Act.put, List.setIfInBounds_toArray, List.set_cons_zero, List.set_cons_succ]
    obtain ⟨c10, e16, hc10⟩ := u16
    rw [e16]
    clear e16
    have bdW : Below Wb.heap.size Wb W' := (below_of_drewN _ Wb 1).trans hg
    generalize y 9 = v10 at *
    generalize y 10 = y10 at *
    have kR := KR.out.keep bdW
    have kP := K1.out.keep bdW
    have HO := hid (And.intro (HB.out.2.1.keep bdW) (And.intro u15 (And.intro (HY.out.keep bdW) (And.intro (HB.out.1.trans (bdW.mono HB.out.1.size)) (And.intro (HR0.out.keep bdW) (HV.out.keep bdW))))))
    have x0 := kR.cell (o := 0) rfl
    have x1 := kR.cell (o := 1) rfl
    have x2 := kR.cell (o := 2) rfl
    have x3 := kR.cell (o := 3) rfl
    have KP := hid kP
    have hc2 := HB.out.2.2
    clear hg bdW u15 HB HY KR K1 HV HR0 kR kP
    obtain ⟨a2, cc2, e2⟩ := HO.out.1.form
    obtain ⟨a10, cc10, e10⟩ := HO.out.2.1.form
    subst e2 e10
    go_wp2_with fail
    refine (law5_num _ _).mono ?_
    rintro e Wx ⟨rfl, hw⟩
    rw [hw]
    clear hw Wx
    go_upto_if 45 with fail
    go_cut [] from 43 (fun wx => Hid (Below W'.heap.size W' wx))
    case first =>
      cases hr1 : rightB r.k r.lo r.po r.b.length
      · have hz : c2 ≠ 0 := fun h => by have := hc2.1 h; rw [hr1] at this; cases this
        have hz1 : (c2 == 0) = false := by simp [hz]
        clear hc2 hr1 hc10
        go_wp2_with fail
        go_meet
        exact hid (Below.refl _ _)
      · obtain rfl : c2 = 0 := hc2.2 hr1
        obtain ⟨k', lo', po', ek, elo, epo, hget⟩ := getReq_put' _ _ _ _ hr1
        have HG := hid (And.intro ek (And.intro elo (And.intro epo hget)))
        clear hc2 hr1 ek elo epo hget hc10
        go_wp2_with fail
        refine (get_request _ _ W' HO.out.1.bs (by omega)).mono ?_
        intro e Wd hpost
        unfold ReqPost at hpost
        rw [HG.out.2.2.2] at hpost
        obtain ⟨vd, rfl, od, bd⟩ := hpost
        rw [HG.out.1, HG.out.2.1, HG.out.2.2.1]
        obtain ⟨ad, cd, rfl⟩ := od.form
        obtain ⟨We, hWe⟩ : ∃ We, Wd.alloc (.cells #[.int .i64 r.k, .int .i64 r.lo, .int .i64 r.po, .slice ad r.b.length cd] 57) = We := ⟨_, rfl⟩
        have be : Below Wd.heap.size Wd We := by rw [← hWe]; exact (Below.refl _ Wd).alloc (Nat.le_refl _) _
        have kd : Blk We Wd.heap.size #[.int .i64 r.k, .int .i64 r.lo, .int .i64 r.po, .slice ad r.b.length cd] 57 := by rw [← hWe]; exact Blk.new Wd _ _
        have bde := bd.trans (be.mono bd.size)
        have x0 := ext_cell x0 (fp := nofp) (Ext.ofBelow bde) (fun h => h)
        have x1 := ext_cell x1 (fp := nofp) (Ext.ofBelow bde) (fun h => h)
        have x2 := ext_cell x2 (fp := nofp) (Ext.ofBelow bde) (fun h => h)
        have x3 := ext_cell x3 (fp := nofp) (Ext.ofBelow bde) (fun h => h)
        have y0 := kd.cell (o := 0) rfl
        have y1 := kd.cell (o := 1) rfl
        have y2 := kd.cell (o := 2) rfl
        have y3 := kd.cell (o := 3) rfl
        have HD := hid (And.intro (od.bs.keep be) (And.intro (HO.out.2.2.2.2.1.keep bde) bde))
        clear od bd be kd bde HG
        go_wp2_with fail
        clear hWe
        refine (law5_num _ _).mono ?_
        rintro e Wx ⟨rfl, hw⟩
        rw [hw]
        clear hw Wx
        go_wp2_with fail
        refine (law_sameRequest r.k r.lo r.po _ _ r.b We (.inl HD.out.1) HD.out.2.1).mono ?_
        rintro e Wf ⟨rfl, bf⟩
        go_wp2_with fail
        go_meet
        exact hid (HD.out.2.2.trans (bf.mono HD.out.2.2.size))
    case rest =>
      have HO2 := hid (And.intro (HO.out.2.1.keep hcut.out) (And.intro (HO.out.2.2.1.keep hcut.out) (And.intro (HO.out.2.2.2.1.trans (hcut.out.mono HO.out.2.2.2.1.size)) (HO.out.2.2.2.2.2.keep hcut.out))))
      have kP := KP.out.keep hcut.out
      have x0 := kP.cell (o := 0) rfl
      have x1 := kP.cell (o := 1) rfl
      have x2 := kP.cell (o := 2) rfl
      have x3 := kP.cell (o := 3) rfl
      have hlq : (putRepB p.e p.tl p.sl p.b).length ≤ 65600 := putRep_len _ _ _ _
      clear HO KP hcut kP hc2
      obtain ⟨W3, rfl⟩ : ∃ W3, wc = W3 := ⟨_, rfl⟩
      go_wp2_with fail
      refine (law5_num _ _).mono ?_
      rintro e Wx ⟨rfl, hw⟩
      rw [hw]
      clear hw Wx
      go_upto_if 62 with fail
      go_cut [] from 60 (fun wx => Hid (Below wc.heap.size wc wx))
      case first =>
        cases hr1 : tellsB p.e p.tl p.b.length
        · have hz : c10 ≠ 0 := fun h => by have := hc10.1 h; rw [hr1] at this; cases this
          have hz1 : (c10 == 0) = false := by simp [hz]
          clear hc10 hr1
          go_wp2_with fail
          go_meet
          exact hid (Below.refl _ _)
        · obtain rfl : c10 = 0 := hc10.2 hr1
          obtain ⟨e', tl', ek, elo, hget⟩ := getRep_put' p.e p.tl p.sl p.b hr1
          have HG := hid (And.intro ek (And.intro elo hget))
          clear hc10 hr1 ek elo hget
          go_wp2_with fail
          refine (get_reply _ _ wc HO2.out.1.bs (by omega)).mono ?_
          intro e Wd hpost
          unfold RepPost at hpost
          rw [HG.out.2.2] at hpost
          obtain ⟨vd, rfl, od, bd⟩ := hpost
          rw [HG.out.1, HG.out.2.1]
          obtain ⟨ad, cd, rfl⟩ := od.form
          obtain ⟨We, hWe⟩ : ∃ We, Wd.alloc (.cells #[.int .i64 p.e, .int .i64 p.tl, .bool p.sl, .slice ad p.b.length cd] 60) = We := ⟨_, rfl⟩
          have be : Below Wd.heap.size Wd We := by rw [← hWe]; exact (Below.refl _ Wd).alloc (Nat.le_refl _) _
          have kd : Blk We Wd.heap.size #[.int .i64 p.e, .int .i64 p.tl, .bool p.sl, .slice ad p.b.length cd] 60 := by rw [← hWe]; exact Blk.new Wd _ _
          have bde := bd.trans (be.mono bd.size)
          have x0 := ext_cell x0 (fp := nofp) (Ext.ofBelow bde) (fun h => h)
          have x1 := ext_cell x1 (fp := nofp) (Ext.ofBelow bde) (fun h => h)
          have x2 := ext_cell x2 (fp := nofp) (Ext.ofBelow bde) (fun h => h)
          have x3 := ext_cell x3 (fp := nofp) (Ext.ofBelow bde) (fun h => h)
          have y0 := kd.cell (o := 0) rfl
          have y1 := kd.cell (o := 1) rfl
          have y2 := kd.cell (o := 2) rfl
          have y3 := kd.cell (o := 3) rfl
          have HD := hid (And.intro (od.bs.keep be) (And.intro (HO2.out.2.2.2.keep bde) bde))
          clear od bd be kd bde HG
          go_wp2_with fail
          clear hWe
          refine (law5_num _ _).mono ?_
          rintro e Wx ⟨rfl, hw⟩
          rw [hw]
          clear hw Wx
          go_wp2_with fail
          refine (law_sameReply p.e p.tl p.sl _ _ p.b We (.inl HD.out.1) HD.out.2.1).mono ?_
          rintro e Wf ⟨rfl, bf⟩
          go_wp2_with fail
          go_meet
          exact hid (HD.out.2.2.trans (bf.mono HD.out.2.2.size))
      case rest =>
        have HO3 := hid (And.intro (HO2.out.2.1.keep hcut.out) (HO2.out.2.2.1.trans (hcut.out.mono HO2.out.2.2.1.size)))
        clear HO2 hcut x0 x1 x2 x3 hc10
        obtain ⟨W4, rfl⟩ : ∃ W4, wc = W4 := ⟨_, rfl⟩
        go_wp2_with fail
        refine (get_request _ b wc HO3.out.1 hbl).mono ?_
        intro e Wd hpost
        unfold ReqPost at hpost
        cases hq : getReq b with
        | none =>
          rw [hq] at hpost
          obtain ⟨rfl, bd⟩ := hpost
          have be : Below Wd.heap.size Wd (Wd.alloc (.cells #[.int .i64 0, .int .i64 0, .int .i64 0, .slice none 0 0] 57)) := (Below.refl _ Wd).alloc (Nat.le_refl _) _
          have bde := bd.trans (be.mono bd.size)
          have HL := hid (And.intro (HO3.out.1.keep bde) (HO3.out.2.trans (bde.mono HO3.out.2.size)))
          clear bd be bde HO3 hq
          go_wp2_with fail
          refine (law5_num _ _).mono ?_
          rintro e Wx ⟨rfl, hw⟩
          rw [hw]
          clear hw Wx
          go_wp2_with fail
          refine (get_reply _ b _ HL.out.1 hbl).mono ?_
          intro e Wg hpost
          unfold RepPost at hpost
          cases hq : getRep b with
          | none =>
            rw [hq] at hpost
            obtain ⟨rfl, bd⟩ := hpost
            have be : Below Wg.heap.size Wg (Wg.alloc (.cells #[.int .i64 0, .int .i64 0, .bool false, .slice none 0 0] 60)) := (Below.refl _ Wg).alloc (Nat.le_refl _) _
            have bde := bd.trans (be.mono bd.size)
            have HM := hid (HL.out.2.trans (bde.mono HL.out.2.size))
            clear bd be bde HL hq
            go_wp2_with fail
            refine (law5_num _ _).mono ?_
            rintro e Wx ⟨rfl, hw⟩
            rw [hw]
            clear hw Wx
            go_wp2_with fail
            refine (law5_knows _).mono ?_
            rintro e Wz ⟨rfl, bz⟩
            go_wp2_with fail
            go_ret
            exact ⟨rfl, HM.out.trans (bz.mono HM.out.size)⟩
          | some z =>
            obtain ⟨e9, tl9, sl9, q9⟩ := z
            rw [hq] at hpost
            obtain ⟨vd, rfl, od, bd⟩ := hpost
            obtain ⟨hr9, hf9⟩ := getRep_back hq
            obtain ⟨ad, cd, rfl⟩ := od.form
            obtain ⟨Wh, hWe⟩ : ∃ We, Wg.alloc (.cells #[.int .i64 (e9 : Int), .int .i64 (tl9 : Int), .bool sl9, .slice ad q9.length cd] 60) = We := ⟨_, rfl⟩
            have be : Below Wg.heap.size Wg Wh := by rw [← hWe]; exact (Below.refl _ Wg).alloc (Nat.le_refl _) _
            have kd : Blk Wh Wg.heap.size #[.int .i64 (e9 : Int), .int .i64 (tl9 : Int), .bool sl9, .slice ad q9.length cd] 60 := by rw [← hWe]; exact Blk.new Wg _ _
            have bde := bd.trans (be.mono bd.size)
            have y0 := kd.cell (o := 0) rfl
            have y1 := kd.cell (o := 1) rfl
            have y2 := kd.cell (o := 2) rfl
            have y3 := kd.cell (o := 3) rfl
            have HD := hid (And.intro (od.bs.keep be) (And.intro (HL.out.1.keep bde) (And.intro (HL.out.2.trans (bde.mono HL.out.2.size)) (And.intro hr9 hf9))))
            clear od bd be kd bde HL hq hr9 hf9
            go_wp2_with fail
            clear hWe
            refine (law5_num _ _).mono ?_
            rintro e Wx ⟨rfl, hw⟩
            rw [hw]
            clear hw Wx
            go_wp2_with fail
            refine (put_reply _ _ _ _ q9 Wh HD.out.1).mono ?_
            rw [HD.out.2.2.2.2]
            rintro e Wi ⟨vf, c9, rfl, of_, bf, hz⟩
            obtain rfl : c9 = 0 := hz.2 HD.out.2.2.2.1
            have hc1 := run_bytes_string (P := Try.prog) Try.underlying34 Try.underlying5 Try.underlying9 of_.bs
            have hc2 := run_bytes_string (P := Try.prog) Try.underlying34 Try.underlying5 Try.underlying9 (HD.out.2.1.keep bf)
            have HM := hid (HD.out.2.2.1.trans (bf.mono HD.out.2.2.1.size))
            clear of_ bf HD y0 y1 y2 y3 hz
            go_wp2_with fail
            refine (law5_num _ _).mono ?_
            rintro e Wx ⟨rfl, hw⟩
            rw [hw]
            clear hw Wx
            go_wp2_with fail
            clear hc1 hc2
            refine (law5_knows _).mono ?_
            rintro e Wz ⟨rfl, bz⟩
            go_wp2_with fail
            go_ret
            exact ⟨rfl, HM.out.trans (bz.mono HM.out.size)⟩
        | some z =>
          obtain ⟨k9, lo9, po9, d9⟩ := z
          rw [hq] at hpost
          obtain ⟨vd, rfl, od, bd⟩ := hpost
          obtain ⟨hr9, hf9⟩ := getReq_back hq
          obtain ⟨ad, cd, rfl⟩ := od.form
          obtain ⟨We, hWe⟩ : ∃ We, Wd.alloc (.cells #[.int .i64 (k9 : Int), .int .i64 (lo9 : Int), .int .i64 (po9 : Int), .slice ad d9.length cd] 57) = We := ⟨_, rfl⟩
          have be : Below Wd.heap.size Wd We := by rw [← hWe]; exact (Below.refl _ Wd).alloc (Nat.le_refl _) _
          have kd : Blk We Wd.heap.size #[.int .i64 (k9 : Int), .int .i64 (lo9 : Int), .int .i64 (po9 : Int), .slice ad d9.length cd] 57 := by rw [← hWe]; exact Blk.new Wd _ _
          have bde := bd.trans (be.mono bd.size)
          have y0 := kd.cell (o := 0) rfl
          have y1 := kd.cell (o := 1) rfl
          have y2 := kd.cell (o := 2) rfl
          have y3 := kd.cell (o := 3) rfl
          have HD := hid (And.intro (od.bs.keep be) (And.intro (HO3.out.1.keep bde) (And.intro (HO3.out.2.trans (bde.mono HO3.out.2.size)) (And.intro hr9 hf9))))
          clear od bd be kd bde HO3 hq hr9 hf9
          go_wp2_with fail
          clear hWe
          refine (law5_num _ _).mono ?_
          rintro e Wx ⟨rfl, hw⟩
          rw [hw]
          clear hw Wx
          go_wp2_with fail
          refine (put_request _ _ _ _ d9 We HD.out.1 HD.out.2.2.2.1).mono ?_
          rw [HD.out.2.2.2.2]
          rintro e Wf ⟨vf, rfl, of_, bf⟩
          have hc1 := run_bytes_string (P := Try.prog) Try.underlying34 Try.underlying5 Try.underlying9 of_.bs
          have hc2 := run_bytes_string (P := Try.prog) Try.underlying34 Try.underlying5 Try.underlying9 (HD.out.2.1.keep bf)
          have HL := hid (And.intro (HD.out.2.1.keep bf) (HD.out.2.2.1.trans (bf.mono HD.out.2.2.1.size)))
          clear of_ bf HD y0 y1 y2 y3
          go_wp2_with fail
          refine (law5_num _ _).mono ?_
          rintro e Wx ⟨rfl, hw⟩
          rw [hw]
          clear hw Wx
          go_wp2_with fail
          clear hc1 hc2
          refine (get_reply _ b _ HL.out.1 hbl).mono ?_
          intro e Wg hpost
          unfold RepPost at hpost
          cases hq : getRep b with
          | none =>
            rw [hq] at hpost
            obtain ⟨rfl, bd⟩ := hpost
            have be : Below Wg.heap.size Wg (Wg.alloc (.cells #[.int .i64 0, .int .i64 0, .bool false, .slice none 0 0] 60)) := (Below.refl _ Wg).alloc (Nat.le_refl _) _
            have bde := bd.trans (be.mono bd.size)
            have HM := hid (HL.out.2.trans (bde.mono HL.out.2.size))
            clear bd be bde HL hq
            go_wp2_with fail
            refine (law5_num _ _).mono ?_
            rintro e Wx ⟨rfl, hw⟩
            rw [hw]
            clear hw Wx
            go_wp2_with fail
            refine (law5_knows _).mono ?_
            rintro e Wz ⟨rfl, bz⟩
            go_wp2_with fail
            go_ret
            exact ⟨rfl, HM.out.trans (bz.mono HM.out.size)⟩
          | some z =>
            obtain ⟨e9, tl9, sl9, q9⟩ := z
            rw [hq] at hpost
            obtain ⟨vd, rfl, od, bd⟩ := hpost
            obtain ⟨hr9, hf9⟩ := getRep_back hq
            obtain ⟨ad, cd, rfl⟩ := od.form
            obtain ⟨Wh, hWe⟩ : ∃ We, Wg.alloc (.cells #[.int .i64 (e9 : Int), .int .i64 (tl9 : Int), .bool sl9, .slice ad q9.length cd] 60) = We := ⟨_, rfl⟩
            have be : Below Wg.heap.size Wg Wh := by rw [← hWe]; exact (Below.refl _ Wg).alloc (Nat.le_refl _) _
            have kd : Blk Wh Wg.heap.size #[.int .i64 (e9 : Int), .int .i64 (tl9 : Int), .bool sl9, .slice ad q9.length cd] 60 := by rw [← hWe]; exact Blk.new Wg _ _
            have bde := bd.trans (be.mono bd.size)
            have y0 := kd.cell (o := 0) rfl
            have y1 := kd.cell (o := 1) rfl
            have y2 := kd.cell (o := 2) rfl
            have y3 := kd.cell (o := 3) rfl
            have HD := hid (And.intro (od.bs.keep be) (And.intro (HL.out.1.keep bde) (And.intro (HL.out.2.trans (bde.mono HL.out.2.size)) (And.intro hr9 hf9))))
            clear od bd be kd bde HL hq hr9 hf9
            go_wp2_with fail
            clear hWe
            refine (law5_num _ _).mono ?_
            rintro e Wx ⟨rfl, hw⟩
            rw [hw]
            clear hw Wx
            go_wp2_with fail
            refine (put_reply _ _ _ _ q9 Wh HD.out.1).mono ?_
            rw [HD.out.2.2.2.2]
            rintro e Wi ⟨vf, c9, rfl, of_, bf, hz⟩
            obtain rfl : c9 = 0 := hz.2 HD.out.2.2.2.1
            have hc1 := run_bytes_string (P := Try.prog) Try.underlying34 Try.underlying5 Try.underlying9 of_.bs
            have hc2 := run_bytes_string (P := Try.prog) Try.underlying34 Try.underlying5 Try.underlying9 (HD.out.2.1.keep bf)
            have HM := hid (HD.out.2.2.1.trans (bf.mono HD.out.2.2.1.size))
            clear of_ bf HD y0 y1 y2 y3 hz
            go_wp2_with fail
            refine (law5_num _ _).mono ?_
            rintro e Wx ⟨rfl, hw⟩
            rw [hw]
            clear hw Wx
            go_wp2_with fail
            clear hc1 hc2
            refine (law5_knows _).mono ?_
            rintro e Wz ⟨rfl, bz⟩
            go_wp2_with fail
            go_ret
            exact ⟨rfl, HM.out.trans (bz.mono HM.out.size)⟩
end Go.Proofs.Ytbofcocfcmlcaaa
