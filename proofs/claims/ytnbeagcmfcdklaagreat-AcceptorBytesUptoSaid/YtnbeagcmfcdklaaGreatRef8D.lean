import Derived.Test.YtnbeagcmfcdklaaGreatMRef8C
import Derived.Test.YtnbeagcmfcdklaaGreatAccG
/-! The document's answer for acceptor: GetAsk. -/
namespace Go.Proofs.YtnbeagcmfcdklaaGreat
open Go.RowKit

theorem size_rq8 : (Tryz.prog.info? 24).map (·.size) = some 5 := by kernel_rfl

set_option maxRecDepth 100000 in
set_option maxHeartbeats 6400000 in
theorem ref8_GetAsk (v : Value) (l : List UInt8) (W : World) (hv : Bs W v l) (hl : l.length ≤ 1073741824) :
    Calls Tryz.prog 16 #[v] W (AskPost W l) := by
  obtain ⟨a0, c0, rfl⟩ := hv.form
  have b1 : Below W.heap.size W (W.alloc (.cells #[.int .i64 0, .int .i64 0, .int .i64 0, .int .i64 0, .slice none 0 0] 24)) := (Below.refl _ W).alloc (Nat.le_refl _) _
  have kR := Blk.new W #[.int .i64 0, .int .i64 0, .int .i64 0, .int .i64 0, .slice none 0 0] 24
  have hbd := ref8_framed _ l (W.alloc (.cells #[.int .i64 0, .int .i64 0, .int .i64 0, .int .i64 0, .slice none 0 0] 24)) (hv.keep b1) hl 3 19 (by omega) (by omega)
  have HB := hid hbd
  clear hbd hv
  go_enter Tryz.func16, Tryz.ntmps16
  go_wp2_with fail
  refine HB.out.mono ?_
  intro e W2 hpost
  clear HB
  unfold BodyPost at hpost
  rcases hb : bodyF l 3 19 with _ | bd
  · rw [hb] at hpost
    obtain ⟨v2, rfl, b2⟩ := hpost
    have HP := hid (show ∀ e w', AskPost W l e w' = (e = .returned (.tuple #[.agg #[.int .i64 0, .int .i64 0, .int .i64 0, .int .i64 0, .slice none 0 0], .int .i64 22]) ∧ Below W.heap.size W w') from fun e w' => by unfold AskPost getAsk; rw [hb])
    have kR := kR.keep b2
    have bW := b1.trans (b2.mono b1.size)
    clear hb b1 b2
    have m0 := kR.cell (o := 0) rfl
    have f0 := kR.free 0
    have m1 := kR.cell (o := 1) rfl
    have f1 := kR.free 1
    have m2 := kR.cell (o := 2) rfl
    have f2 := kR.free 2
    have m3 := kR.cell (o := 3) rfl
    have f3 := kR.free 3
    have m4 := kR.cell (o := 4) rfl
    have f4 := kR.free 4
    obtain ⟨WZ, hWZ⟩ : ∃ WZ, (((((W2.setCell ⟨W.heap.size, 0, none⟩ (.int .i64 0)).setCell ⟨W.heap.size, 1, none⟩ (.int .i64 0)).setCell ⟨W.heap.size, 2, none⟩ (.int .i64 0)).setCell ⟨W.heap.size, 3, none⟩ (.int .i64 0)).setCell ⟨W.heap.size, 4, none⟩ (.slice none 0 0)) = WZ := ⟨_, rfl⟩
    have kZ := (((((kR.set (o := 0) (.int .i64 0)).set (o := 1) (.int .i64 0)).set (o := 2) (.int .i64 0)).set (o := 3) (.int .i64 0)).set (o := 4) (.slice none 0 0))
    rw [hWZ] at kZ
    simp only [List.setIfInBounds_toArray, List.set_cons_zero, List.set_cons_succ] at kZ
    have bZ : Below W.heap.size W WZ := by rw [← hWZ]; exact (((((bW.setCell (p := ⟨W.heap.size, 0, none⟩) (by simp) _).setCell (p := ⟨W.heap.size, 1, none⟩) (by simp) _).setCell (p := ⟨W.heap.size, 2, none⟩) (by simp) _).setCell (p := ⟨W.heap.size, 3, none⟩) (by simp) _).setCell (p := ⟨W.heap.size, 4, none⟩) (by simp) _)
    have HH := hid (And.intro kZ bZ)
    have HW := hid hWZ
    clear kZ bZ kR bW hWZ
    go_wp2_with fail
    rw [HW.out]
    have hld := run_loadVar_row (P := Tryz.prog) WZ W.heap.size 24 24 _ (0, 0) _ HH.out.1 Tryz.underlying24 rfl size_rq8
    refine bodyPost_ret (v := .tuple #[.agg #[.int .i64 0, .int .i64 0, .int .i64 0, .int .i64 0, .slice none 0 0], .int .i64 22]) ?_ rfl ?_
    · simp [results, Tryz.results16, hld, asAddr]
    · rw [HP.out]; exact ⟨rfl, HH.out.2⟩
  · rw [hb] at hpost
    obtain ⟨v2, rfl, o2, b2⟩ := hpost
    have hbl := bodyF_len hb
    have bW := b1.trans (b2.mono b1.size)
    have kR := kR.keep b2
    rcases o2.bs.cases with ⟨_, h0⟩ | ⟨gx, ox, cx, rfl, hcx, hmx, hrx⟩
    · rw [h0] at hbl; simp at hbl
    have hlen := hid hbl
    obtain ⟨y0, hy0⟩ : ∃ y, bd[0]? = some y := ⟨bd[0], by simp⟩
    have hc0 := hrx 0 _ hy0
    have hn1 := num_one hy0
    have hlt0 := y0.toNat_lt
    unfold bv at hc0
    generalize y0.toNat = u0 at *
    rw [Nat.add_zero] at hc0
    clear hy0 hrx b1 b2
    have hl3 : (0 : Int) < (bd.length : Int) := by omega
    have hu0 := hid hlt0
    have HC0 := hid hc0
    have H1 := hid (show numOf (bd.take 1) = u0 from hn1)
    have HBW := hid bW
    have HR := hid kR
    have HV := hid o2.bs
    have Hb := hid hb
    have HSL := hid (fun (w : World) => run_slice_from (P := Tryz.prog) Tryz.underlying22 szu8 (some ⟨gx, ox, none⟩) bd.length cx 19 (by omega) (by omega) w)
    obtain ⟨dd, hdd⟩ : ∃ dd, bd.drop 19 = dd := ⟨_, rfl⟩
    have HSV := hid (hdd ▸ bs_from o2.bs 19 hbl.1)
    have hdl := hid (show dd.length ≤ 65536 by rw [← hdd]; simp; omega)
    have Hdd := hid hdd
    clear hdd hn1 hc0 hlt0 bW kR o2 hb hbl
    go_wp2_with fail
    clear hl3
    refine wp_region_tail 10 rfl Grows (fun i v x => match i with
        | 0 => v = .slice (some ⟨gx, ox, none⟩) bd.length cx
        | 1 => v = .pointer (some ⟨gx, ox, none⟩)
        | 2 => v = .int .u8 (u0 : Int)
        | 3 => v = .int .i64 (u0 : Int)
        | 4 => ∃ g, v = .slice (some ⟨g, 0, none⟩) 0 0 ∧ Own8 x W.heap.size 5 (.slice (some ⟨g, 0, none⟩) 0 0) []
        | 5 => v = .slice (some ⟨gx, ox, none⟩) bd.length cx
        | 6 => v = .slice (sla (some ⟨gx, ox, none⟩) cx 19) (bd.length - 19) (cx - 19)
        | 7 => Own8 x W.heap.size 5 v dd
        | 8 => ∃ a9 c9, v = .agg #[.int .i64 (u0 : Int), .int .i64 0, .int .i64 0, .int .i64 0, .slice a9 dd.length c9] ∧ Own8 x W.heap.size 5 (.slice a9 dd.length c9) dd
        | 9 => ∃ g, v = .pointer (some ⟨g, 0, none⟩) ∧ Blk x g #[.int .i64 0, .int .i64 0, .int .i64 0, .int .i64 0, .slice none 0 0] 24 ∧ W2.heap.size ≤ g
        | _ => True) (by kernel_rfl) (Grows.refl _) Grows.trans ?rstab ?rsteps ?rfin
    case rstab =>
      intro i v x y hg h
      match i with
      | 0 | 1 | 2 | 3 | 5 | 6 => exact h
      | 4 => exact (by obtain ⟨g9, e9, h9⟩ := h; exact ⟨g9, e9, h9.keep hg⟩)
      | 7 => exact Own8.keep h hg
      | 8 => exact (by obtain ⟨a9, c9, e9, h9⟩ := h; exact ⟨a9, c9, e9, h9.keep hg⟩)
      | 9 => exact (by obtain ⟨g9, e9, h9, h10⟩ := h; exact ⟨g9, e9, h9.keep hg, h10⟩)
      | n + 10 => trivial
    case rsteps =>
      simp only [List.take_succ_cons, List.take_zero]
      refine ⟨?_, ?_, ?_, ?_, ?_, ?_, ?_, ?_, ?_, ?_, trivial⟩
      · intro a x hA
        have t4 := hA.at_ 4 (by first | rfl | kernel_rfl) rfl
        refine step_value (w' := x) (v := .slice (some ⟨gx, ox, none⟩) bd.length cx) ?_ (Grows.refl _) ?_
        · go_simp
        · rfl
      · intro a x hA
        have t15 : a.tmps[15]?.getD undef = .slice (some ⟨gx, ox, none⟩) bd.length cx := hA.dep_ ⟨0, .data⟩ (by simp) _ 15 rfl rfl
        have hlx := hlen.out
        have hlx3 : (0 : Int) < (bd.length : Int) := by omega
        have hne : ¬ bd = [] := by rintro rfl; simp at hlx
        refine step_value (w' := x) (v := .pointer (some ⟨gx, ox, none⟩)) ?_ (Grows.refl _) rfl
        go_simp
      · intro a x hA
        have t16 : a.tmps[16]?.getD undef = .pointer (some ⟨gx, ox, none⟩) := hA.dep_ ⟨1, .data⟩ (by simp) _ 16 rfl rfl
        have g0 : x.cell? ⟨gx, ox, none⟩ = some (.int .u8 (u0 : Int)) := by rw [hA.grown.cell (World.block_lt_of_cell? W2 _ HC0.out)]; exact HC0.out
        refine step_value (w' := x) (v := .int .u8 (u0 : Int)) ?_ (Grows.refl _) rfl
        go_simp
      · intro a x hA
        have t17 : a.tmps[17]?.getD undef = .int .u8 (u0 : Int) := hA.dep_ ⟨2, .data⟩ (by simp) _ 17 rfl rfl
        have hu := hu0.out
        have hw : IntKind.i64.wrap (u0 : Int) = (u0 : Int) := IntWalk.i64_in _ (by omega)
        refine step_value (w' := x) (v := .int .i64 (u0 : Int)) ?_ (Grows.refl _) rfl
        go_simp
      · intro a x hA
        have hsx : W.heap.size ≤ x.heap.size := Nat.le_trans HBW.out.size hA.grow.size
        refine step_value (w' := x.alloc (.cells #[] 5)) (v := .slice (some ⟨x.heap.size, 0, none⟩) 0 0) (by go_simp) (Grows.alloc _ _) ?_
        exact ⟨_, rfl, own8_mk hsx (Blk.new x _ _) rfl (Nat.le_refl _) (by simp [maxLen]) rfl (by simp)⟩
      · intro a x hA
        have t4 := hA.at_ 4 (by first | rfl | kernel_rfl) rfl
        refine step_value (w' := x) (v := .slice (some ⟨gx, ox, none⟩) bd.length cx) ?_ (Grows.refl _) ?_
        · go_simp
        · rfl
      · intro a x hA
        have t20 : a.tmps[20]?.getD undef = .slice (some ⟨gx, ox, none⟩) bd.length cx := hA.dep_ ⟨5, .data⟩ (by simp) _ 20 rfl rfl
        have hsl := HSL.out x
        refine step_value (w' := x) (v := .slice (sla (some ⟨gx, ox, none⟩) cx 19) (bd.length - 19) (cx - 19)) ?_ (Grows.refl _) rfl
        go_simp
      · intro a x hA
        have t19 : ∃ g, (a.tmps[19]?.getD undef) = .slice (some ⟨g, 0, none⟩) 0 0 ∧ Own8 x W.heap.size 5 (.slice (some ⟨g, 0, none⟩) 0 0) [] := hA.dep_ ⟨4, .data⟩ (by simp) _ 19 rfl rfl
        have t21 : a.tmps[21]?.getD undef = .slice (sla (some ⟨gx, ox, none⟩) cx 19) (bd.length - 19) (cx - 19) := hA.dep_ ⟨6, .data⟩ (by simp) _ 21 rfl rfl
        obtain ⟨g1, e9, ho9⟩ := t19
        obtain ⟨i0, hi, hz0, hz1, hz2⟩ := info_parts info_u8
        have hsx : W.heap.size ≤ x.heap.size := Nat.le_trans HBW.out.size hA.grow.size
        have hvx := HSV.out.keep hA.grown
        obtain ⟨v', w', hr, q1, q2⟩ := run_append_empty (P := Tryz.prog) Tryz.underlying22 hi hz0 hz1 hz2 22 ho9 (.inl hvx) (by have := hdl.out; omega) hsx
        refine step_value (w' := w') (v := v') (exec_append rfl (by
          have e1 : a.eval (.tmp 19) = .slice (some ⟨g1, 0, none⟩) 0 0 := by simp [go_sem, e9]
          have e2 : a.eval (.tmp 21) = .slice (sla (some ⟨gx, ox, none⟩) cx 19) (bd.length - 19) (cx - 19) := by simp [go_sem, t21]
          rw [e1, e2]; exact hr)) q2 ?_
        exact q1
      · intro a x hA
        have t18 : a.tmps[18]?.getD undef = .int .i64 (u0 : Int) := hA.dep_ ⟨3, .data⟩ (by simp) _ 18 rfl rfl
        have t22 : Own8 x W.heap.size 5 (a.tmps[22]?.getD undef) dd := hA.dep_ ⟨7, .data⟩ (by simp) _ 22 rfl rfl
        obtain ⟨a9, c9, e9⟩ := t22.form
        rw [e9] at t22
        refine step_value (w' := x) (v := .agg #[.int .i64 (u0 : Int), .int .i64 0, .int .i64 0, .int .i64 0, .slice a9 dd.length c9]) ?_ (Grows.refl _) ⟨a9, c9, rfl, t22⟩
        clear t22
        go_simp
      · intro a x hA
        have hs := hA.grow.size
        refine step_value (w' := x.alloc (.cells #[.int .i64 0, .int .i64 0, .int .i64 0, .int .i64 0, .slice none 0 0] 24)) (v := .pointer (some ⟨x.heap.size, 0, none⟩)) ?_ (Grows.alloc _ _) ⟨_, rfl, Blk.new _ _ _, hs⟩
        go_simp
    case rfin =>
      intro y W' hg hV
      simp only [List.take_succ_cons, List.take_zero, AllVals] at hV
      obtain ⟨_, _, _, _, _, _, _, _, ub, ua, _⟩ := hV
      simp only [List.take_succ_cons, List.take_zero, List.drop_succ_cons, List.drop_zero, putAll, Act.put, List.setIfInBounds_toArray, List.set_cons_zero, List.set_cons_succ]
      obtain ⟨a9, c9, e9, o9⟩ := ub
      obtain ⟨g9, e10, k9, l9⟩ := ua
      rw [e9, e10]
      clear e9 e10
      have b2W : Below W2.heap.size W2 W' := Below.trans (below_of_drewN _ W2 1) hg
      have kR := HR.out.keep b2W
      clear hg
      have m0 := k9.cell (o := 0) rfl
      have f0 := k9.free 0
      have m1 := k9.cell (o := 1) rfl
      have f1 := k9.free 1
      have m2 := k9.cell (o := 2) rfl
      have f2 := k9.free 2
      have m3 := k9.cell (o := 3) rfl
      have f3 := k9.free 3
      have m4 := k9.cell (o := 4) rfl
      have f4 := k9.free 4
      obtain ⟨W5, hW5⟩ : ∃ W5, (((((W'.setCell ⟨g9, 0, none⟩ (.int .i64 (u0 : Int))).setCell ⟨g9, 1, none⟩ (.int .i64 0)).setCell ⟨g9, 2, none⟩ (.int .i64 0)).setCell ⟨g9, 3, none⟩ (.int .i64 0)).setCell ⟨g9, 4, none⟩ (.slice a9 dd.length c9)) = W5 := ⟨_, rfl⟩
      have x5 : Ext (fun b => b = g9) W' W5 := by rw [← hW5]; exact ((((((Ext.refl (fun b => b = g9) W').setCell (.inl rfl) _).setCell (.inl rfl) _).setCell (.inl rfl) _).setCell (.inl rfl) _).setCell (.inl rfl) _)
      have k5 := (((((k9.set (o := 0) (.int .i64 (u0 : Int))).set (o := 1) (.int .i64 0)).set (o := 2) (.int .i64 0)).set (o := 3) (.int .i64 0)).set (o := 4) (.slice a9 dd.length c9))
      rw [hW5] at k5
      simp only [List.setIfInBounds_toArray, List.set_cons_zero, List.set_cons_succ] at k5
      have hRg : W.heap.size ≠ g9 := by have := HR.out.lt; omega
      have hgW : W.heap.size ≤ g9 := by have := HBW.out.size; omega
      have kR := kR.ext x5 hRg
      have o5 : Own8 W5 W.heap.size 5 (.slice a9 dd.length c9) dd := own_set W' W5 g9 _ o9 k9 x5 (by decide)
      have b25 : Below W2.heap.size W2 W5 := b2W.trans (x5.belowOf b2W.size (fun b hb e => by have e2 : b = g9 := e; omega))
      have bs5 := HV.out.keep b25
      have HW5 := hid hW5
      clear hW5 o9 k9 x5 b2W
      go_wp2_with fail
      rw [HW5.out]
      clear HW5 m0 m1 m2 m3 m4 f0 f1 f2 f3 f4
      refine (ref8_numbers _ bd 1 W5 bs5 (by have := hlen.out; omega) (by have := hlen.out; omega)).mono ?_
      rintro e W6 ⟨rfl, b6⟩
      obtain ⟨n1, h1⟩ : ∃ n, numOf ((bd.drop 1).take 6) = n := ⟨_, rfl⟩
      obtain ⟨n2, h2⟩ : ∃ n, numOf ((bd.drop (1 + 6)).take 6) = n := ⟨_, rfl⟩
      obtain ⟨n3, h3⟩ : ∃ n, numOf ((bd.drop (1 + 12)).take 6) = n := ⟨_, rfl⟩
      rw [h1, h2, h3]
      have HN := hid (And.intro h1 (And.intro h2 h3))
      clear h1 h2 h3
      have k5 := k5.keep b6
      have o5 := o5.keep b6
      have kR := kR.keep b6
      have b25 := b25.trans (b6.mono b25.size)
      clear b6 bs5
      have c1 := k5.cell (o := 1) rfl
      have f1 := k5.free 1
      have c2 := k5.cell (o := 2) rfl
      have f2 := k5.free 2
      have c3 := k5.cell (o := 3) rfl
      have f3 := k5.free 3
      obtain ⟨W8, hW8⟩ : ∃ W8, ((W6.setCell ⟨g9, 1, none⟩ (.int .i64 (n1 : Int))).setCell ⟨g9, 2, none⟩ (.int .i64 (n2 : Int))).setCell ⟨g9, 3, none⟩ (.int .i64 (n3 : Int)) = W8 := ⟨_, rfl⟩
      have x8 : Ext (fun b => b = g9) W6 W8 := by rw [← hW8]; exact (((Ext.refl (fun b => b = g9) W6).setCell (.inl rfl) _).setCell (.inl rfl) _).setCell (.inl rfl) _
      have k8 := ((k5.set (o := 1) (.int .i64 (n1 : Int))).set (o := 2) (.int .i64 (n2 : Int))).set (o := 3) (.int .i64 (n3 : Int))
      rw [hW8] at k8
      simp only [List.setIfInBounds_toArray, List.set_cons_zero, List.set_cons_succ] at k8
      have o8 := own_set W6 W8 g9 _ o5 k5 x8 (by decide)
      have kR := kR.ext x8 hRg
      have bW := (HBW.out.trans (b25.mono HBW.out.size)).trans (x8.belowOf (Nat.le_trans HBW.out.size b25.size) (fun b hb e => by have := HBW.out.size; have e2 : b = g9 := e; omega))
      have m0 := k8.cell (o := 0) rfl
      have m1 := k8.cell (o := 1) rfl
      have m2 := k8.cell (o := 2) rfl
      have m3 := k8.cell (o := 3) rfl
      have m4 := k8.cell (o := 4) rfl
      have hdl := hdl.out
      clear k5 o5 b25 x8
      go_wp2_with fail
      clear hW8 c1 f1 c2 f2 c3 f3 m0 m1 m2 m3 m4
      refine (ref8_asks _ _ _ _ a9 dd.length c9 W8 (by omega)).mono ?_
      rintro e W9 ⟨rfl, b9⟩
      have kR := kR.keep b9
      have bW := bW.trans (b9.mono bW.size)
      have o9 := o8.keep b9
      have k9 := k8.keep b9
      clear b9 o8 k8
      have hge := getAsk_eq Hb.out H1.out HN.out.1 HN.out.2.1 HN.out.2.2 Hdd.out
      cases hrb : askOk (u0 : Int) (n1 : Int) (n2 : Int) (n3 : Int) dd.length
      · rw [if_neg (by simp [hrb])] at hge
        have HP := hid (show ∀ e w', AskPost W l e w' = (e = .returned (.tuple #[.agg #[.int .i64 0, .int .i64 0, .int .i64 0, .int .i64 0, .slice none 0 0], .int .i64 22]) ∧ Below W.heap.size W w') from fun e w' => by unfold AskPost; rw [hge])
        clear hrb k9 o9 hge
        have m0 := kR.cell (o := 0) rfl
        have f0 := kR.free 0
        have m1 := kR.cell (o := 1) rfl
        have f1 := kR.free 1
        have m2 := kR.cell (o := 2) rfl
        have f2 := kR.free 2
        have m3 := kR.cell (o := 3) rfl
        have f3 := kR.free 3
        have m4 := kR.cell (o := 4) rfl
        have f4 := kR.free 4
        obtain ⟨WZ, hWZ⟩ : ∃ WZ, (((((W9.setCell ⟨W.heap.size, 0, none⟩ (.int .i64 0)).setCell ⟨W.heap.size, 1, none⟩ (.int .i64 0)).setCell ⟨W.heap.size, 2, none⟩ (.int .i64 0)).setCell ⟨W.heap.size, 3, none⟩ (.int .i64 0)).setCell ⟨W.heap.size, 4, none⟩ (.slice none 0 0)) = WZ := ⟨_, rfl⟩
        have kZ := (((((kR.set (o := 0) (.int .i64 0)).set (o := 1) (.int .i64 0)).set (o := 2) (.int .i64 0)).set (o := 3) (.int .i64 0)).set (o := 4) (.slice none 0 0))
        rw [hWZ] at kZ
        simp only [List.setIfInBounds_toArray, List.set_cons_zero, List.set_cons_succ] at kZ
        have bZ : Below W.heap.size W WZ := by rw [← hWZ]; exact (((((bW.setCell (p := ⟨W.heap.size, 0, none⟩) (by simp) _).setCell (p := ⟨W.heap.size, 1, none⟩) (by simp) _).setCell (p := ⟨W.heap.size, 2, none⟩) (by simp) _).setCell (p := ⟨W.heap.size, 3, none⟩) (by simp) _).setCell (p := ⟨W.heap.size, 4, none⟩) (by simp) _)
        have HH := hid (And.intro kZ bZ)
        have HW := hid hWZ
        clear kZ bZ kR bW hWZ
        go_wp2_with fail
        rw [HW.out]
        have hld := run_loadVar_row (P := Tryz.prog) WZ W.heap.size 24 24 _ (0, 0) _ HH.out.1 Tryz.underlying24 rfl size_rq8
        refine bodyPost_ret (v := .tuple #[.agg #[.int .i64 0, .int .i64 0, .int .i64 0, .int .i64 0, .slice none 0 0], .int .i64 22]) ?_ rfl ?_
        · simp [results, Tryz.results16, hld, asAddr]
        · rw [HP.out]; exact ⟨rfl, HH.out.2⟩
      · rw [if_pos hrb] at hge
        have HP := hid (show ∀ e w', AskPost W l e w' = (∃ v, e = .returned (.tuple #[.agg #[.int .i64 (u0 : Int), .int .i64 (n1 : Int), .int .i64 (n2 : Int), .int .i64 (n3 : Int), v], .int .i64 0]) ∧ Own8 w' W.heap.size 5 v dd ∧ Below W.heap.size W w') from fun e w' => by unfold AskPost; rw [hge])
        clear hrb hge
        have m0 := k9.cell (o := 0) rfl
        have m1 := k9.cell (o := 1) rfl
        have m2 := k9.cell (o := 2) rfl
        have m3 := k9.cell (o := 3) rfl
        have m4 := k9.cell (o := 4) rfl
        have r0 := kR.cell (o := 0) rfl
        have f0 := kR.free 0
        have r1 := kR.cell (o := 1) rfl
        have f1 := kR.free 1
        have r2 := kR.cell (o := 2) rfl
        have f2 := kR.free 2
        have r3 := kR.cell (o := 3) rfl
        have f3 := kR.free 3
        have r4 := kR.cell (o := 4) rfl
        have f4 := kR.free 4
        obtain ⟨W7, hW7⟩ : ∃ W7, (((((W9.setCell ⟨W.heap.size, 0, none⟩ (.int .i64 (u0 : Int))).setCell ⟨W.heap.size, 1, none⟩ (.int .i64 (n1 : Int))).setCell ⟨W.heap.size, 2, none⟩ (.int .i64 (n2 : Int))).setCell ⟨W.heap.size, 3, none⟩ (.int .i64 (n3 : Int))).setCell ⟨W.heap.size, 4, none⟩ (.slice a9 dd.length c9)) = W7 := ⟨_, rfl⟩
        have k7 := (((((kR.set (o := 0) (.int .i64 (u0 : Int))).set (o := 1) (.int .i64 (n1 : Int))).set (o := 2) (.int .i64 (n2 : Int))).set (o := 3) (.int .i64 (n3 : Int))).set (o := 4) (.slice a9 dd.length c9))
        rw [hW7] at k7
        simp only [List.setIfInBounds_toArray, List.set_cons_zero, List.set_cons_succ] at k7
        have x7 : Ext (fun b => b = W.heap.size) W9 W7 := by rw [← hW7]; exact ((((((Ext.refl (fun b => b = W.heap.size) W9).setCell (.inl rfl) _).setCell (.inl rfl) _).setCell (.inl rfl) _).setCell (.inl rfl) _).setCell (.inl rfl) _)
        have o7 := own_set W9 W7 W.heap.size _ o9 kR x7 (by decide)
        have b7 : Below W.heap.size W W7 := bW.trans (x7.belowOf bW.size (fun b hb e => by have e2 : b = W.heap.size := e; omega))
        have HH := hid (And.intro k7 (And.intro o7 b7))
        have HW7 := hid hW7
        clear k7 o7 b7 x7 o9 k9 kR bW hW7
        go_wp2_with fail
        rw [HW7.out]
        have hld := run_loadVar_row (P := Tryz.prog) W7 W.heap.size 24 24 _ (0, 0) _ HH.out.1 Tryz.underlying24 rfl size_rq8
        refine bodyPost_ret (v := .tuple #[.agg #[.int .i64 (u0 : Int), .int .i64 (n1 : Int), .int .i64 (n2 : Int), .int .i64 (n3 : Int), .slice a9 dd.length c9], .int .i64 0]) ?_ rfl ?_
        · simp [results, Tryz.results16, hld, asAddr]
        · rw [HP.out]; exact ⟨_, rfl, HH.out.2.1, HH.out.2.2⟩
end Go.Proofs.YtnbeagcmfcdklaaGreat
