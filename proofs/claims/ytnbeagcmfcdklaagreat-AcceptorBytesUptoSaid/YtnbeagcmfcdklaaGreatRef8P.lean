import Derived.Test.YtnbeagcmfcdklaaGreatMRef8C
import Derived.Test.YtnbeagcmfcdklaaGreatStage
/-! The document's answer for acceptor: PutAnswer. -/
namespace Go.Proofs.YtnbeagcmfcdklaaGreat
open Go.RowKit

theorem BsW.below8_ {B : Nat} {w w' : World} {v : Value} {l : List UInt8} (h : BsW w v l) (hB : w.heap.size ≤ B) (hb : Below B w w') : BsW w' v l := h.keep (hb.mono hB)
set_option maxRecDepth 100000 in
set_option maxHeartbeats 6400000 in
theorem ref8_PutAnswer (er ver pr ba : Int) (le : Bool) (v : Value) (l : List UInt8) (W : World) (hv : BsW W v l) (hl : l.length ≤ 1073741824) :
    Calls Tryz.prog 13 #[.agg #[.int .i64 er, .int .i64 ver, .int .i64 pr, .int .i64 ba, .bool le, v]] W fun e w' => ∃ v', e = .returned (.tuple #[v', .int .i64 (if ansOk er ver pr ba l.length then 0 else 1)]) ∧ Own8 w' W.heap.size 5 v' (putAnsB er ver pr ba le l) ∧ Below W.heap.size W w' := by
  obtain ⟨a0, c0, rfl⟩ := hv.form
  obtain ⟨W1, hW1⟩ : ∃ W1, W.alloc (.cells #[.int .i64 er, .int .i64 ver, .int .i64 pr, .int .i64 ba, .bool le, .slice a0 l.length c0] 26) = W1 := ⟨_, rfl⟩
  have b1 : Below W.heap.size W W1 := by rw [← hW1]; exact (Below.refl _ W).alloc (Nat.le_refl _) _
  have k1 : Blk W1 W.heap.size #[.int .i64 er, .int .i64 ver, .int .i64 pr, .int .i64 ba, .bool le, .slice a0 l.length c0] 26 := by rw [← hW1]; exact Blk.new W _ _
  have hs1 : W1.heap.size = W.heap.size + 1 := by rw [← hW1]; simp
  have x0 := k1.cell (o := 0) rfl
  have x1 := k1.cell (o := 1) rfl
  have x2 := k1.cell (o := 2) rfl
  have x3 := k1.cell (o := 3) rfl
  have x4 := k1.cell (o := 4) rfl
  have x5 := k1.cell (o := 5) rfl
  have hrt := ref8_tells er ver pr ba le a0 l.length c0 W1 (by omega)
  have HV := hid (hv.keep b1)
  have HB := hid b1
  have HS1 := hid hs1
  have HK1 := hid k1
  unfold putAnsB
  cases ht : ansOk er ver pr ba l.length
  · rw [ht] at hrt
    have HR := hid hrt
    clear hrt hv k1 ht hs1
    go_enter Tryz.func13, Tryz.ntmps13
    go_wp2_with fail
    clear hW1
    refine HR.out.mono ?_
    rintro e W2 ⟨rfl, b2⟩
    go_wp2_with fail
    go_ret2
    exact ⟨_, rfl, Own8.nil _ _ _, b1.trans (b2.mono b1.size)⟩
  · rw [ht] at hrt
    have HR := hid hrt
    have hrr := of_decide_eq_true ht
    have hk0 : 0 ≤ er ∧ er ≤ 255 := by omega
    clear hrt hv ht
    go_enter Tryz.func13, Tryz.ntmps13
    go_wp2_with fail
    clear hW1
    refine HR.out.mono ?_
    rintro e W2 ⟨rfl, b2⟩
    have HS2 := hid (show W.heap.size + 1 ≤ W2.heap.size by have := b2.size; omega)
    have HB2 := hid (show Below (W.heap.size + 1) W1 W2 by rw [← hs1]; exact b2)
    have HK := hid (k1.keep b2)
    clear HR b1 b2 k1 x0 x1 x2 x3 x4 x5 hs1
    go_wp2_with fail
    refine wp_region_invW rfl Grows (fun i v x => match i with
        | 0 => v = .pointer (some ⟨W.heap.size, 0, none⟩)
        | 1 => v = .int .i64 er
        | 2 => v = .int .u8 er
        | 3 => ∃ g, v = .slice (some ⟨g, 0, none⟩) 1 1 ∧ Own8 x W2.heap.size 5 (.slice (some ⟨g, 0, none⟩) 1 1) [byteOf er 0]
        | 4 => v = .pointer (some ⟨W.heap.size, 1, none⟩)
        | 5 => v = .int .i64 ver
        | 6 => v = .pointer (some ⟨W.heap.size, 2, none⟩)
        | 7 => v = .int .i64 pr
        | 8 => v = .pointer (some ⟨W.heap.size, 3, none⟩)
        | 9 => v = .int .i64 ba
        | 10 => Own8 x W2.heap.size 5 v (threeB ver pr ba)
        | 11 => Own8 x W2.heap.size 5 v (byteOf er 0 :: threeB ver pr ba)
        | 12 => Own8 x W2.heap.size 5 v (byteOf er 0 :: threeB ver pr ba)
        | _ => True) (by kernel_rfl) (Grows.refl _) Grows.trans ?rstab ?rsteps ?rfin
    case rstab =>
      intro i v x y hg h
      match i with
      | 0 | 1 | 2 | 4 | 5 | 6 | 7 | 8 | 9 => exact h
      | 3 => exact (by obtain ⟨g9, e9, h9⟩ := h; exact ⟨g9, e9, h9.keep hg⟩)
      | 10 => exact Own8.keep h hg
      | 11 => exact Own8.keep h hg
      | 12 => exact Own8.keep h hg
      | n + 13 => trivial
    case rsteps =>
      refine ⟨?_, ?_, ?_, ?_, ?_, ?_, ?_, ?_, ?_, ?_, ?_, ?_, ?_, trivial⟩
      · intro a x hA
        have t1 := hA.at_ 1 (by first | rfl | kernel_rfl) rfl
        refine step_value (w' := x) (v := .pointer (some ⟨W.heap.size, 0, none⟩)) ?_ (Grows.refl _) ?_
        · go_simp
        · rfl
      · intro a x hA
        have t10 : a.tmps[10]?.getD undef = .pointer (some ⟨W.heap.size, 0, none⟩) := hA.dep_ ⟨0, .data⟩ (by simp) _ 10 rfl rfl
        have hBx := HK.out.keep hA.grown
        have hc0 := hBx.cell (o := 0) rfl
        have hc1 := hBx.cell (o := 1) rfl
        have hc2 := hBx.cell (o := 2) rfl
        have hc3 := hBx.cell (o := 3) rfl
        clear hBx
        refine step_value (w' := x) (v := .int .i64 er) ?_ (Grows.refl _) ?_
        · go_simp
        · rfl
      · intro a x hA
        have t11 : a.tmps[11]?.getD undef = .int .i64 er := hA.dep_ ⟨1, .data⟩ (by simp) _ 11 rfl rfl
        have hBx := HK.out.keep hA.grown
        have hc0 := hBx.cell (o := 0) rfl
        have hc1 := hBx.cell (o := 1) rfl
        have hc2 := hBx.cell (o := 2) rfl
        have hc3 := hBx.cell (o := 3) rfl
        clear hBx
        have hw : IntKind.u8.wrap er = er := IntWalk.u8_in _ (by omega)
        refine step_value (w' := x) (v := .int .u8 er) ?_ (Grows.refl _) rfl
        go_simp
      · intro a x hA
        have t12 : a.tmps[12]?.getD undef = .int .u8 er := hA.dep_ ⟨2, .data⟩ (by simp) _ 12 rfl rfl
        have hsx : W2.heap.size ≤ x.heap.size := hA.grow.size
        refine step_value (w' := x.alloc (.cells #[.int .u8 er] 5)) (v := .slice (some ⟨x.heap.size, 0, none⟩) 1 1) (by go_simp) (Grows.alloc _ _) ?_
        exact ⟨_, rfl, own8_mk hsx (Blk.new x _ _) rfl (Nat.le_refl _) (by unfold maxLen; omega) rfl (fun i u h => by
          match i, h with
          | 0, h => simp at h; subst h; simp [byteOf_val]; omega)⟩
      · intro a x hA
        have t1 := hA.at_ 1 (by first | rfl | kernel_rfl) rfl
        refine step_value (w' := x) (v := .pointer (some ⟨W.heap.size, 1, none⟩)) ?_ (Grows.refl _) ?_
        · go_simp
        · rfl
      · intro a x hA
        have t14 : a.tmps[14]?.getD undef = .pointer (some ⟨W.heap.size, 1, none⟩) := hA.dep_ ⟨4, .data⟩ (by simp) _ 14 rfl rfl
        have hBx := HK.out.keep hA.grown
        have hc0 := hBx.cell (o := 0) rfl
        have hc1 := hBx.cell (o := 1) rfl
        have hc2 := hBx.cell (o := 2) rfl
        have hc3 := hBx.cell (o := 3) rfl
        clear hBx
        refine step_value (w' := x) (v := .int .i64 ver) ?_ (Grows.refl _) ?_
        · go_simp
        · rfl
      · intro a x hA
        have t1 := hA.at_ 1 (by first | rfl | kernel_rfl) rfl
        refine step_value (w' := x) (v := .pointer (some ⟨W.heap.size, 2, none⟩)) ?_ (Grows.refl _) ?_
        · go_simp
        · rfl
      · intro a x hA
        have t16 : a.tmps[16]?.getD undef = .pointer (some ⟨W.heap.size, 2, none⟩) := hA.dep_ ⟨6, .data⟩ (by simp) _ 16 rfl rfl
        have hBx := HK.out.keep hA.grown
        have hc0 := hBx.cell (o := 0) rfl
        have hc1 := hBx.cell (o := 1) rfl
        have hc2 := hBx.cell (o := 2) rfl
        have hc3 := hBx.cell (o := 3) rfl
        clear hBx
        refine step_value (w' := x) (v := .int .i64 pr) ?_ (Grows.refl _) ?_
        · go_simp
        · rfl
      · intro a x hA
        have t1 := hA.at_ 1 (by first | rfl | kernel_rfl) rfl
        refine step_value (w' := x) (v := .pointer (some ⟨W.heap.size, 3, none⟩)) ?_ (Grows.refl _) ?_
        · go_simp
        · rfl
      · intro a x hA
        have t18 : a.tmps[18]?.getD undef = .pointer (some ⟨W.heap.size, 3, none⟩) := hA.dep_ ⟨8, .data⟩ (by simp) _ 18 rfl rfl
        have hBx := HK.out.keep hA.grown
        have hc0 := hBx.cell (o := 0) rfl
        have hc1 := hBx.cell (o := 1) rfl
        have hc2 := hBx.cell (o := 2) rfl
        have hc3 := hBx.cell (o := 3) rfl
        clear hBx
        refine step_value (w' := x) (v := .int .i64 ba) ?_ (Grows.refl _) ?_
        · go_simp
        · rfl
      · intro a x hA
        have t15 : a.tmps[15]?.getD undef = .int .i64 ver := hA.dep_ ⟨5, .data⟩ (by simp) _ 15 rfl rfl
        have t17 : a.tmps[17]?.getD undef = .int .i64 pr := hA.dep_ ⟨7, .data⟩ (by simp) _ 17 rfl rfl
        have t19 : a.tmps[19]?.getD undef = .int .i64 ba := hA.dep_ ⟨9, .data⟩ (by simp) _ 19 rfl rfl
        have hs := hA.grow.size
        refine step_call (f := 39) (args := #[.int .i64 ver, .int .i64 pr, .int .i64 ba]) (by go_simp) ((ref8_three ver pr ba x (by omega) (by omega) (by omega)).mono ?_)
        rintro e w' ⟨v, rfl, ho, hb⟩
        exact ⟨v, rfl, hb, ho.mono hs⟩
      · intro a x hA
        have t13 : ∃ g, (a.tmps[13]?.getD undef) = .slice (some ⟨g, 0, none⟩) 1 1 ∧ Own8 x W2.heap.size 5 (.slice (some ⟨g, 0, none⟩) 1 1) [byteOf er 0] := hA.dep_ ⟨3, .data⟩ (by simp) _ 13 rfl rfl
        have t20 : Own8 x W2.heap.size 5 (a.tmps[20]?.getD undef) (threeB ver pr ba) := hA.dep_ ⟨10, .data⟩ (by simp) _ 20 rfl rfl
        obtain ⟨g, e9, ho9⟩ := t13
        obtain ⟨i0, hi, hz0, hz1, hz2⟩ := info_parts info_u8
        have hsx : W2.heap.size ≤ x.heap.size := hA.grow.size
        obtain ⟨v', w', hr, q1, q2⟩ := run_append_full (P := Tryz.prog) Tryz.underlying22 hi hz0 hz1 hz2 22 ho9 rfl t20.bs (by intro h; have := congrArg List.length h; simp [threeB_length] at this) (by simp [threeB_length]) hsx
        refine step_value (w' := w') (v := v') (exec_append rfl (by
          have e1 : a.eval (.tmp 13) = .slice (some ⟨g, 0, none⟩) 1 1 := by simp [go_sem, e9]
          have e2 : a.eval (.tmp 20) = a.tmps[20]?.getD undef := by simp [go_sem]
          rw [e1, e2]; exact hr)) q2 ?_
        exact q1
      · intro a x hA
        have t21 : Own8 x W2.heap.size 5 (a.tmps[21]?.getD undef) (byteOf er 0 :: threeB ver pr ba) := hA.dep_ ⟨11, .data⟩ (by simp) _ 21 rfl rfl
        exact step_value (w' := x) (v := a.tmps[21]?.getD undef) (by go_simp) (Grows.refl _) t21
    case rfin =>
      intro y W' hg hV
      simp only [AllVals] at hV
      obtain ⟨_, _, _, _, _, _, _, _, _, _, _, _, u12, _⟩ := hV
      simp only [putAll, Act.put, List.setIfInBounds_toArray, List.set_cons_zero, List.set_cons_succ]
      have bdW : Below W2.heap.size W2 W' := (below_of_drewN _ W2 1).trans hg
      generalize y 4 = v4 at *
      obtain ⟨b1, hb1⟩ : ∃ b1, byteOf er 0 :: threeB ver pr ba = b1 := ⟨_, rfl⟩
      rw [hb1] at u12
      have hb1l : b1.length = 19 := by rw [← hb1]; simp [threeB_length]
      have Hb1 := hid hb1
      have H4 := hid (And.intro (HB2.out.trans (bdW.mono HS2.out)) (u12.mono HS2.out))
      have HS := hid (show W.heap.size + 1 ≤ W1.heap.size from Nat.le_of_eq HS1.out.symm)
      clear hb1 bdW u12 HK HB2 hg HS2
      go_wp2_with fail
      refine wp_region_stage [4, 5, 8, 9] rfl (fun i => match i with | 10 => [32] | 11 => [32] | 12 => [32] | 13 => [32] | 14 => [32] | _ => []) (fun i => match i with | 1 => [27] | 2 => [28] | 3 => [31] | 4 => [32] | _ => []) (fun sk ts w => match sk with
          | 0 => Below (W.heap.size + 1) W1 w ∧ Own8 w (W.heap.size + 1) 5 v4 b1
          | 1 => ∃ u, ts = [u] ∧ Below (W.heap.size + 1) W1 w ∧ Own8 w (W.heap.size + 1) 5 v4 b1 ∧ Bs w u [byteOf (bit le) 0]
          | 2 => ∃ u, ts = [u] ∧ Below (W.heap.size + 1) W1 w ∧ Own8 w (W.heap.size + 1) 5 u (b1 ++ [byteOf (bit le) 0])
          | 3 => ∃ u, ts = [u] ∧ Below (W.heap.size + 1) W1 w ∧ Own8 w (W.heap.size + 1) 5 u ((b1 ++ [byteOf (bit le) 0]) ++ l)
          | 4 => ∃ u, ts = [.tuple #[u, .int .i64 0]] ∧ Below (W.heap.size + 1) W1 w ∧ Own8 w (W.heap.size + 1) 5 u (frameB 4 (ansB er ver pr ba le l))
          | _ => False) (fun i ts v => match i with
          | 0 => v = v4
          | 1 => v = .pointer (some ⟨W.heap.size, 4, none⟩)
          | 2 => v = .bool le
          | 3 => v = .int .u8 (bit le)
          | 4 => True
          | 5 => True
          | 6 => v = .pointer (some ⟨W.heap.size, 5, none⟩)
          | 7 => v = .slice a0 l.length c0
          | 8 => True
          | 9 => True
          | 10 => ts = [v]
          | 11 => ∃ u c, ts = [.tuple #[u, c]] ∧ v = u
          | 12 => ∃ u c, ts = [.tuple #[u, c]] ∧ v = c
          | 13 => ∃ u c, ts = [.tuple #[u, c]] ∧ v = u
          | 14 => ∃ u c, ts = [.tuple #[u, c]] ∧ v = c
          | _ => True) (by kernel_rfl) (by kernel_rfl) (by kernel_rfl) (⟨H4.out.1.drew, H4.out.2.keep (below_of_drewN _ _ 1)⟩) ?rsteps ?rfin
      case rsteps =>
        refine ⟨?_, ?_, ?_, ?_, ?_, ?_, ?_, ?_, ?_, ?_, ?_, ?_, ?_, ?_, ?_, trivial⟩
        · intro sk a x hat hJ hA
          have t4 := hA.at_ 4 (by first | rfl | kernel_rfl) rfl
          clear hat hJ
          refine .inl ⟨rfl, stage_value (w' := x) (v := v4) ?_ ⟨_, rfl, rfl, rfl⟩⟩
          clear hA
          go_simp
        · intro sk a x hat hJ hA
          have t1 := hA.at_ 1 (by first | rfl | kernel_rfl) rfl
          clear hat hJ
          refine .inl ⟨rfl, stage_value (w' := x) (v := .pointer (some ⟨W.heap.size, 4, none⟩)) ?_ ⟨_, rfl, rfl, rfl⟩⟩
          clear hA
          go_simp
        · intro sk a x hat hJ hA
          have t24 : a.tmps[24]?.getD undef = .pointer (some ⟨W.heap.size, 4, none⟩) := hA.dep_ ⟨1, .data⟩ (by simp) rfl _ 24 rfl rfl
          match sk, hat, hJ with
          | 0, hat, hJ =>
            have hk := HK1.out.below (hJ.1) (Nat.lt_succ_self _)
            have hc := hk.cell (o := 4) rfl
            clear hJ hk
            refine .inl ⟨rfl, stage_value (w' := _) (v := .bool le) ?_ ⟨_, rfl, rfl, rfl⟩⟩
            clear hA
            go_simp
          | 1, hat, _ => exact absurd (hat.symm.trans (by kernel_rfl : atStage _ _ _ _ = false)) (by decide)
          | 2, hat, _ => exact absurd (hat.symm.trans (by kernel_rfl : atStage _ _ _ _ = false)) (by decide)
          | 3, hat, _ => exact absurd (hat.symm.trans (by kernel_rfl : atStage _ _ _ _ = false)) (by decide)
          | 4, hat, _ => exact absurd (hat.symm.trans (by kernel_rfl : atStage _ _ _ _ = false)) (by decide)
          | sk + 5, _, hJ => exact hJ.elim
        · intro sk a x hat hJ hA
          have t25 : a.tmps[25]?.getD undef = .bool le := hA.dep_ ⟨2, .data⟩ (by simp) rfl _ 25 rfl rfl
          match sk, hat, hJ with
          | 0, hat, hJ =>
            clear hJ
            refine .inl ⟨rfl, stage_call (f := 44) (args := #[.bool le]) (by clear hA; go_simp) ((ref8_truth le x).mono ?_)⟩
            rintro e w' ⟨rfl, rfl⟩
            exact ⟨_, rfl, _, rfl, rfl, rfl⟩
          | 1, hat, _ => exact absurd (hat.symm.trans (by kernel_rfl : atStage _ _ _ _ = false)) (by decide)
          | 2, hat, _ => exact absurd (hat.symm.trans (by kernel_rfl : atStage _ _ _ _ = false)) (by decide)
          | 3, hat, _ => exact absurd (hat.symm.trans (by kernel_rfl : atStage _ _ _ _ = false)) (by decide)
          | 4, hat, _ => exact absurd (hat.symm.trans (by kernel_rfl : atStage _ _ _ _ = false)) (by decide)
          | sk + 5, _, hJ => exact hJ.elim
        · intro a x hJ hA
          have t26 : a.tmps[26]?.getD undef = .int .u8 (bit le) := hA.dep_ ⟨3, .data⟩ (by simp) rfl _ 26 rfl rfl
          refine ⟨rfl, ?_⟩
          obtain ⟨hb, ho⟩ := hJ
          have hgr := Grows.alloc x (.cells #[.int .u8 (bit le)] 5)
          refine stage_value (w' := x.alloc (.cells #[.int .u8 (bit le)] 5)) (v := .slice (some ⟨x.heap.size, 0, none⟩) 1 1) (by clear hA hb ho hgr; go_simp) ⟨_, rfl, ⟨_, hA.put1 27 _ (by kernel_rfl), hb.trans (hgr.mono (Nat.le_trans HS.out hb.size)), ho.keep hgr, (Blk.new x _ _).bs1 (by cases le <;> simp [byteOf_val, bit])⟩, trivial⟩
        · intro a x hJ hA
          have t23 : a.tmps[23]?.getD undef = v4 := hA.dep_ ⟨0, .data⟩ (by simp) rfl _ 23 rfl rfl
          have t27 := hA.dep_ ⟨4, .data⟩ (by simp) rfl _ 27 rfl rfl
          refine ⟨rfl, ?_⟩
          obtain ⟨u, hu, hb, ho, hs⟩ := hJ
          have hu := (tms1 a 27).symm.trans hu
          injection hu with hu _
          obtain ⟨i0, hi, hz0, hz1, hz2⟩ := info_parts info_u8
          obtain ⟨v', w', hr, q1, q2, _⟩ := run_append8 (P := Tryz.prog) Tryz.underlying22 hi hz0 hz1 hz2 22 ho hs (by simp [hb1l]) (Nat.le_trans HS.out hb.size)
          refine stage_value (w' := w') (v := v') (exec_append rfl (by
            have e1 : a.eval (.tmp 23) = v4 := by simp [go_sem, t23]
            have e2 : a.eval (.tmp 27) = u := by simp [go_sem, hu]
            rw [e1, e2]; exact hr)) ⟨_, rfl, ⟨v', hA.put1 28 v' (by kernel_rfl), hb.grown q2 (Nat.le_trans HS.out hb.size) (fun k hk => (ho.blk k hk).1), q1⟩, trivial⟩
        · intro sk a x hat hJ hA
          have t1 := hA.at_ 1 (by first | rfl | kernel_rfl) rfl
          clear hat hJ
          refine .inl ⟨rfl, stage_value (w' := x) (v := .pointer (some ⟨W.heap.size, 5, none⟩)) ?_ ⟨_, rfl, rfl, rfl⟩⟩
          clear hA
          go_simp
        · intro sk a x hat hJ hA
          have t29 : a.tmps[29]?.getD undef = .pointer (some ⟨W.heap.size, 5, none⟩) := hA.dep_ ⟨6, .data⟩ (by simp) rfl _ 29 rfl rfl
          match sk, hat, hJ with
          | 0, hat, hJ =>
            have hk := HK1.out.below (hJ.1) (Nat.lt_succ_self _)
            have hc := hk.cell (o := 5) rfl
            clear hJ hk
            refine .inl ⟨rfl, stage_value (w' := _) (v := .slice a0 l.length c0) ?_ ⟨_, rfl, rfl, rfl⟩⟩
            clear hA
            go_simp
          | 1, hat, hJ =>
            have hk := HK1.out.below ((by obtain ⟨u, _, hb, _⟩ := hJ; exact hb)) (Nat.lt_succ_self _)
            have hc := hk.cell (o := 5) rfl
            clear hJ hk
            refine .inl ⟨rfl, stage_value (w' := _) (v := .slice a0 l.length c0) ?_ ⟨_, rfl, rfl, rfl⟩⟩
            clear hA
            go_simp
          | 2, hat, hJ =>
            have hk := HK1.out.below ((by obtain ⟨u, _, hb, _⟩ := hJ; exact hb)) (Nat.lt_succ_self _)
            have hc := hk.cell (o := 5) rfl
            clear hJ hk
            refine .inl ⟨rfl, stage_value (w' := _) (v := .slice a0 l.length c0) ?_ ⟨_, rfl, rfl, rfl⟩⟩
            clear hA
            go_simp
          | 3, hat, _ => exact absurd (hat.symm.trans (by kernel_rfl : atStage _ _ _ _ = false)) (by decide)
          | 4, hat, _ => exact absurd (hat.symm.trans (by kernel_rfl : atStage _ _ _ _ = false)) (by decide)
          | sk + 5, _, hJ => exact hJ.elim
        · intro a x hJ hA
          have t28 := hA.dep_ ⟨5, .data⟩ (by simp) rfl _ 28 rfl rfl
          have t30 : a.tmps[30]?.getD undef = .slice a0 l.length c0 := hA.dep_ ⟨7, .data⟩ (by simp) rfl _ 30 rfl rfl
          refine ⟨rfl, ?_⟩
          obtain ⟨u, hu, hb, ho⟩ := hJ
          have hu := (tms1 a 28).symm.trans hu
          injection hu with hu _
          obtain ⟨i0, hi, hz0, hz1, hz2⟩ := info_parts info_u8
          have hs : BsW x (.slice a0 l.length c0) l := HV.out.below8_ (Nat.le_of_eq HS1.out) hb
          obtain ⟨v', w', hr, q1, q2⟩ := run_append8w (P := Tryz.prog) Tryz.underlying22 hi hz0 hz1 hz2 22 ho hs (by simp [hb1l]; omega) (Nat.le_trans HS.out hb.size)
          refine stage_value (w' := w') (v := v') (exec_append rfl (by
            have e1 : a.eval (.tmp 28) = u := by simp [go_sem, hu]
            have e2 : a.eval (.tmp 30) = .slice a0 l.length c0 := by simp [go_sem, t30]
            rw [e1, e2]; exact hr)) ⟨_, rfl, ⟨v', hA.put1 31 v' (by kernel_rfl), hb.grown q2 (Nat.le_trans HS.out hb.size) (fun k hk => (ho.blk k hk).1), q1⟩, trivial⟩
        · intro a x hJ hA
          have t31 := hA.dep_ ⟨8, .data⟩ (by simp) rfl _ 31 rfl rfl
          refine ⟨rfl, ?_⟩
          obtain ⟨u, hu, hb, ho⟩ := hJ
          have hu := (tms1 a 31).symm.trans hu
          injection hu with hu _
          have hq : (b1 ++ [byteOf (bit le) 0]) ++ l = ansB er ver pr ba le l := by rw [← Hb1.out]; simp [ansB, lowB]
          rw [hq] at ho
          have hql : (ansB er ver pr ba le l).length ≤ 65536 := by rw [ansB_length]; omega
          obtain ⟨a5, c5, e5⟩ := ho.form
          subst e5
          have hsz := Nat.le_trans HS.out hb.size
          refine stage_call (f := 40) (args := #[.int .i64 4, .slice a5 (ansB er ver pr ba le l).length c5]) (by clear hA hb ho hq hql; go_simp) ((ref_Frame 4 _ _ x (by omega) (by omega) ho.bs hql).mono ?_)
          rintro e w' ⟨v7, rfl, o7, b7⟩
          exact ⟨_, rfl, _, rfl, ⟨v7, hA.put1 32 _ (by kernel_rfl), hb.trans (b7.mono hsz), o7.mono hsz⟩, trivial⟩
        · intro sk a x hat hJ hA
          have t32 := hA.dep_ ⟨9, .data⟩ (by simp) rfl _ 32 rfl rfl
          match sk, hat, hJ with
          | 0, hat, _ => exact absurd (hat.symm.trans (by kernel_rfl : atStage _ _ _ _ = false)) (by decide)
          | 1, hat, _ => exact absurd (hat.symm.trans (by kernel_rfl : atStage _ _ _ _ = false)) (by decide)
          | 2, hat, _ => exact absurd (hat.symm.trans (by kernel_rfl : atStage _ _ _ _ = false)) (by decide)
          | 3, hat, _ => exact absurd (hat.symm.trans (by kernel_rfl : atStage _ _ _ _ = false)) (by decide)
          | 4, hat, hJ =>
            clear hJ
            refine .inl ⟨rfl, stage_value (w' := _) (v := a.tmps[32]?.getD undef) (by clear hA; go_simp) ⟨_, rfl, rfl, tms1 a 32⟩⟩
          | sk + 5, _, hJ => exact hJ.elim
        · intro sk a x hat hJ hA
          have t22 := hA.dep_ ⟨10, .data⟩ (by simp) rfl _ 22 rfl rfl
          match sk, hat, hJ with
          | 0, hat, _ => exact absurd (hat.symm.trans (by kernel_rfl : atStage _ _ _ _ = false)) (by decide)
          | 1, hat, _ => exact absurd (hat.symm.trans (by kernel_rfl : atStage _ _ _ _ = false)) (by decide)
          | 2, hat, _ => exact absurd (hat.symm.trans (by kernel_rfl : atStage _ _ _ _ = false)) (by decide)
          | 3, hat, _ => exact absurd (hat.symm.trans (by kernel_rfl : atStage _ _ _ _ = false)) (by decide)
          | 4, hat, hJ =>
            obtain ⟨u, hu, hb, ho⟩ := hJ
            have e := t22.symm.trans hu
            injection e with e _
            refine .inl ⟨rfl, stage_value (w' := _) (v := u) (by clear hb ho hA hu t22; go_simp) ⟨_, rfl, rfl, ⟨u, .int .i64 0, hu, rfl⟩⟩⟩
          | sk + 5, _, hJ => exact hJ.elim
        · intro sk a x hat hJ hA
          have t22 := hA.dep_ ⟨10, .data⟩ (by simp) rfl _ 22 rfl rfl
          match sk, hat, hJ with
          | 0, hat, _ => exact absurd (hat.symm.trans (by kernel_rfl : atStage _ _ _ _ = false)) (by decide)
          | 1, hat, _ => exact absurd (hat.symm.trans (by kernel_rfl : atStage _ _ _ _ = false)) (by decide)
          | 2, hat, _ => exact absurd (hat.symm.trans (by kernel_rfl : atStage _ _ _ _ = false)) (by decide)
          | 3, hat, _ => exact absurd (hat.symm.trans (by kernel_rfl : atStage _ _ _ _ = false)) (by decide)
          | 4, hat, hJ =>
            obtain ⟨u, hu, hb, ho⟩ := hJ
            have e := t22.symm.trans hu
            injection e with e _
            refine .inl ⟨rfl, stage_value (w' := _) (v := .int .i64 0) (by clear hb ho hA hu t22; go_simp) ⟨_, rfl, rfl, ⟨u, .int .i64 0, hu, rfl⟩⟩⟩
          | sk + 5, _, hJ => exact hJ.elim
        · intro sk a x hat hJ hA
          have t33 := hA.dep_ ⟨11, .data⟩ (by simp) rfl _ 33 rfl rfl
          match sk, hat, hJ with
          | 0, hat, _ => exact absurd (hat.symm.trans (by kernel_rfl : atStage _ _ _ _ = false)) (by decide)
          | 1, hat, _ => exact absurd (hat.symm.trans (by kernel_rfl : atStage _ _ _ _ = false)) (by decide)
          | 2, hat, _ => exact absurd (hat.symm.trans (by kernel_rfl : atStage _ _ _ _ = false)) (by decide)
          | 3, hat, _ => exact absurd (hat.symm.trans (by kernel_rfl : atStage _ _ _ _ = false)) (by decide)
          | 4, hat, hJ =>
            obtain ⟨u', c', h1, h2⟩ := t33
            clear hJ
            refine .inl ⟨rfl, stage_value (w' := _) (v := a.tmps[33]?.getD undef) (by clear hA h1 h2; go_simp) ⟨_, rfl, rfl, ⟨u', c', h1, h2⟩⟩⟩
          | sk + 5, _, hJ => exact hJ.elim
        · intro sk a x hat hJ hA
          have t34 := hA.dep_ ⟨12, .data⟩ (by simp) rfl _ 34 rfl rfl
          match sk, hat, hJ with
          | 0, hat, _ => exact absurd (hat.symm.trans (by kernel_rfl : atStage _ _ _ _ = false)) (by decide)
          | 1, hat, _ => exact absurd (hat.symm.trans (by kernel_rfl : atStage _ _ _ _ = false)) (by decide)
          | 2, hat, _ => exact absurd (hat.symm.trans (by kernel_rfl : atStage _ _ _ _ = false)) (by decide)
          | 3, hat, _ => exact absurd (hat.symm.trans (by kernel_rfl : atStage _ _ _ _ = false)) (by decide)
          | 4, hat, hJ =>
            obtain ⟨u', c', h1, h2⟩ := t34
            clear hJ
            refine .inl ⟨rfl, stage_value (w' := _) (v := a.tmps[34]?.getD undef) (by clear hA h1 h2; go_simp) ⟨_, rfl, rfl, ⟨u', c', h1, h2⟩⟩⟩
          | sk + 5, _, hJ => exact hJ.elim
      case rfin =>
        intro y W'' hJ hV
        obtain ⟨u, hu, hb, ho⟩ := hJ
        simp only [AllVals] at hV
        obtain ⟨_, _, _, _, _, _, _, _, _, _, _, _, _, u13, u14, _⟩ := hV
        obtain ⟨p1, p2, p3, p4⟩ := u13
        obtain ⟨r1, r2, r3, r4⟩ := u14
        have e1 := p3.symm.trans hu
        injection e1 with e1 _
        injection e1 with e1
        have e1 := congrArg (fun z : Array Value => z[0]?) e1
        simp at e1
        clear p3 r3 r4 hu
        simp only [putAll, Act.put, List.setIfInBounds_toArray, List.set_cons_zero, List.set_cons_succ]
        rw [p4, e1]
        clear p4 e1
        have hbW := HB.out.trans (hb.mono (Nat.le_succ _))
        have HO := hid (And.intro (ho.mono (Nat.le_succ W.heap.size)) hbW)
        clear hb ho hbW H4
        go_wp2_with fail
        go_ret2
        exact ⟨_, rfl, HO.out.1, HO.out.2⟩
end Go.Proofs.YtnbeagcmfcdklaaGreat
