import Derived.Test.YtcdcjoofcbdilaaGreatMAccT
/-! Package acceptor: keep. -/
namespace Go.Proofs.YtcdcjoofcbdilaaGreat
open Go.RowKit

theorem writeF_codes (S S1 : St) (D : Dk) (k lo po : Int) (l : List UInt8) : (writeF S S1 D k lo po l).1 = 0 ∨ (writeF S S1 D k lo po l).1 = 7 := by
  unfold writeF
  split
  · exact .inl rfl
  · exact .inr rfl
theorem putF_not1 (S : St) (D : Dk) (lo po : Int) (l : List UInt8) (r : Bool) : (putF S D lo po l r).1 ≠ 1 ∧ (putF S D lo po l r).1 ≠ 8 ∧ 0 ≤ (putF S D lo po l r).1 ∧ (putF S D lo po l r).1 ≤ 255 := by
  unfold putF
  split
  · simp
  · split
    · split <;> simp
    · split
      · simp
      · rcases writeF_codes S (applyPut S lo po l) D 1 lo po l with h | h <;> rw [h] <;> simp

section
variable {W : World} {n mf : Nat} {pv : Value} {q : StP} {F : Fs} {S : St} {D : Dk}
def KeepPost (W : World) (n mf : Nat) (pv : Value) (q : StP) (R : Int × Fs × St × Dk) (e : Ending) (w' : World) : Prop :=
  e = .returned (.int .i64 R.1) ∧ (∃ q', AccAt w' n mf pv q' R.2.1 R.2.2.1 R.2.2.2 ∧ Went q q' W.heap.size) ∧ Ext (fun b => b = mf ∨ q.own b) W w'
set_option maxRecDepth 100000 in
set_option maxHeartbeats 6400000 in
theorem acc_keep (h : AccAt W n mf pv q F S D) (key ver : Int) (f : Fa) (hk : 0 ≤ key ∧ key < 281474976710656) (hv : 0 ≤ ver ∧ ver < 281474976710656) (hf : f.ok) :
    Calls Tryz.prog 106 #[.pointer (some ⟨n, 0, none⟩), encS (key, ver), .agg f.cells] W (KeepPost W n mf pv q (keepA F S D key ver f)) := by
  unfold encS Fa.cells
  have htl : 0 ≤ tailF S key := by
    obtain ⟨tl, tr, sl, hget, k1, k2, k3, k4⟩ := S.get_form h.st key
    unfold tailF
    rw [hget]
    simp only []
    omega
  obtain ⟨W1, hW1⟩ : ∃ W1, W.alloc (.cells #[.int .i64 key, .int .i64 ver] 180) = W1 := ⟨_, rfl⟩
  have b1 : Below W.heap.size W W1 := by rw [← hW1]; exact (Below.refl _ W).alloc (Nat.le_refl _) _
  have kx : Blk W1 W.heap.size #[.int .i64 key, .int .i64 ver] 180 := by rw [← hW1]; exact Blk.new W _ _
  obtain ⟨W2, hW2⟩ : ∃ W2, W1.alloc (.cells #[.int .i64 f.pr, .int .i64 f.ba, .bool f.le, .string ⟨f.va.toArray⟩] 178) = W2 := ⟨_, rfl⟩
  have b2 : Below W1.heap.size W1 W2 := by rw [← hW2]; exact (Below.refl _ W1).alloc (Nat.le_refl _) _
  have kf : Blk W2 W1.heap.size #[.int .i64 f.pr, .int .i64 f.ba, .bool f.le, .string ⟨f.va.toArray⟩] 178 := by rw [← hW2]; exact Blk.new W1 _ _
  have HX := hid (kx.keep b2)
  have HY := hid kf
  have HA := hid ((h.keep b1).keep b2)
  have HBW := hid (b1.trans (b2.mono b1.size))
  have hszs : ∀ {b}, q.all b → b < W.heap.size := fun hb => h.st.size hb
  have HS := hid (And.intro (@hszs) (And.intro h.cell.lt (And.intro h.mlt b1.size)))
  have HK := hid (And.intro hk hv)
  have HO := hid hf
  have HT := hid htl
  have HL := hid (show (factB ver f).length ≤ 65536 by
    have := hf.va
    simp [factB, threeB_length, lowB_length]
    omega)
  clear kx kf h b1 b2 hszs hk hv hf htl
  go_enter Tryz.func106, Tryz.ntmps106
  go_wp2_with fail
  refine wp_region_inv rfl Grows (fun i v x => match i with
      | 0 => v = .pointer (some ⟨n, 0, none⟩)
      | 1 => v = .pointer (some ⟨n, 0, none⟩)
      | 2 => v = .pointer (some ⟨n, 2, none⟩)
      | 3 => v = .map (some mf)
      | 4 => v = .agg #[.int .i64 key, .int .i64 ver]
      | 5 => v = .agg (F.get (key, ver)).cells
      | 6 => v = .agg #[.int .i64 f.pr, .int .i64 f.ba, .bool f.le, .string ⟨f.va.toArray⟩]
      | 7 => v = .bool (decide (F.get (key, ver) = f))
      | _ => True) (by kernel_rfl) (Grows.refl _) Grows.trans ?rstab ?rsteps ?rfin
  case rstab =>
    intro i v x y hg h
    match i with
    | 0 | 1 | 2 | 3 | 4 | 5 | 6 | 7 => exact h
    | n + 8 => trivial
  case rsteps =>
    refine ⟨?_, ?_, ?_, ?_, ?_, ?_, ?_, ?_, trivial⟩
    · intro a x hA
      have t0 := hA.at_ 0 (by first | rfl | kernel_rfl) rfl
      refine step_value (w' := x) (v := .pointer (some ⟨n, 0, none⟩)) ?_ (Grows.refl _) ?_
      · go_simp
      · rfl
    · intro a x hA
      have t9 : a.tmps[9]?.getD undef = .pointer (some ⟨n, 0, none⟩) := hA.dep_ ⟨0, .data⟩ (by simp) _ 9 rfl rfl
      refine step_value (w' := x) (v := .pointer (some ⟨n, 0, none⟩)) ?_ (Grows.refl _) ?_
      · go_simp
      · rfl
    · intro a x hA
      have t10 : a.tmps[10]?.getD undef = .pointer (some ⟨n, 0, none⟩) := hA.dep_ ⟨1, .data⟩ (by simp) _ 10 rfl rfl
      refine step_value (w' := x) (v := .pointer (some ⟨n, 2, none⟩)) ?_ (Grows.refl _) ?_
      · go_simp
      · rfl
    · intro a x hA
      have t11 : a.tmps[11]?.getD undef = .pointer (some ⟨n, 2, none⟩) := hA.dep_ ⟨2, .data⟩ (by simp) _ 11 rfl rfl
      have hN := HA.out.cell.keep hA.grown
      have hn1 := hN.cell (o := 1) rfl
      have hn2 := hN.cell (o := 2) rfl
      clear hN
      refine step_value (w' := x) (v := .map (some mf)) ?_ (Grows.refl _) rfl
      clear hA
      go_simp
    · intro a x hA
      have t4 := hA.at_ 4 (by first | rfl | kernel_rfl) rfl
      have hX := HX.out.keep hA.grown
      have hx0 := hX.cell (o := 0) rfl
      have hx1 := hX.cell (o := 1) rfl
      clear hX
      refine step_value (w' := x) (v := .agg #[.int .i64 key, .int .i64 ver]) ?_ (Grows.refl _) rfl
      clear hA
      go_simp
    · intro a x hA
      have t12 : a.tmps[12]?.getD undef = .map (some mf) := hA.dep_ ⟨3, .data⟩ (by simp) _ 12 rfl rfl
      have t13 : a.tmps[13]?.getD undef = .agg #[.int .i64 key, .int .i64 ver] := hA.dep_ ⟨4, .data⟩ (by simp) _ 13 rfl rfl
      have hlk := (HA.out.keep hA.grown).look (key, ver)
      simp only [encS] at hlk
      refine step_value (w' := x) (v := .agg (F.get (key, ver)).cells) ?_ (Grows.refl _) rfl
      clear hA
      go_simp
    · intro a x hA
      have t5 := hA.at_ 5 (by first | rfl | kernel_rfl) rfl
      have hY := HY.out.keep hA.grown
      have hy0 := hY.cell (o := 0) rfl
      have hy1 := hY.cell (o := 1) rfl
      have hy2 := hY.cell (o := 2) rfl
      have hy3 := hY.cell (o := 3) rfl
      clear hY
      refine step_value (w' := x) (v := .agg #[.int .i64 f.pr, .int .i64 f.ba, .bool f.le, .string ⟨f.va.toArray⟩]) ?_ (Grows.refl _) rfl
      clear hA
      go_simp
    · intro a x hA
      have t14 : a.tmps[14]?.getD undef = .agg (F.get (key, ver)).cells := hA.dep_ ⟨5, .data⟩ (by simp) _ 14 rfl rfl
      have t15 : a.tmps[15]?.getD undef = .agg #[.int .i64 f.pr, .int .i64 f.ba, .bool f.le, .string ⟨f.va.toArray⟩] := hA.dep_ ⟨6, .data⟩ (by simp) _ 15 rfl rfl
      exact step_value (w' := x) (v := .bool (decide (F.get (key, ver) = f))) (run_eql_fact (f := F.get (key, ver)) (g := f) rfl (by simpa [Act.eval] using t14) (by simpa [Act.eval, Fa.cells] using t15) x) (Grows.refl _) rfl
  case rfin =>
    intro y W' hg hV
    simp only [AllVals] at hV
    obtain ⟨_, _, _, _, _, _, _, hB9, _⟩ := hV
    have HA := hid (HA.out.keep (Below.trans (below_of_drewN _ _ 1) hg))
    have HX := hid (HX.out.keep (Below.trans (below_of_drewN _ _ 1) hg))
    have HY := hid (HY.out.keep (Below.trans (below_of_drewN _ _ 1) hg))
    have HBW := hid (HBW.out.trans (Below.mono (Below.trans (below_of_drewN _ _ 1) hg) HBW.out.size))
    clear hg
    simp only [putAll, Act.put, List.setIfInBounds_toArray, List.set_cons_zero, List.set_cons_succ]
    rw [hB9]
    clear hB9
    by_cases hne : F.get (key, ver) = f
    · have HE := hid (show keepA F S D key ver f = (0, F, S, D) by unfold keepA; rw [if_pos hne])
      rw [decide_eq_true hne]
      clear hne
      go_wp2_with fail
      go_ret
      unfold KeepPost
      rw [HE.out]
      exact ⟨rfl, ⟨q, HA.out, Went.refl _ _⟩, Ext.ofBelow HBW.out⟩
    · have HNE := hid hne
      rw [decide_eq_false hne]
      clear hne
      go_wp2_with fail
      refine wp_region_inv rfl Grows (fun i v x => match i with
          | 0 => v = .pointer (some ⟨W.heap.size, 1, none⟩)
          | 1 => v = .int .i64 ver
          | 2 => v = .pointer (some ⟨W1.heap.size, 0, none⟩)
          | 3 => v = .int .i64 f.pr
          | 4 => v = .pointer (some ⟨W1.heap.size, 1, none⟩)
          | 5 => v = .int .i64 f.ba
          | 6 => ∃ g, v = .slice (some ⟨g, 0, none⟩) 3 3 ∧ Blk x g #[.int .i64 ver, .int .i64 f.pr, .int .i64 f.ba] 3
          | 7 => Own8 x W.heap.size 5 v (threeB ver f.pr f.ba)
          | 8 => v = .pointer (some ⟨W1.heap.size, 2, none⟩)
          | 9 => v = .bool f.le
          | 10 => v = .int .u8 (bit f.le)
          | 11 => ∃ g, v = .slice (some ⟨g, 0, none⟩) 1 1 ∧ Own8 x W.heap.size 5 (.slice (some ⟨g, 0, none⟩) 1 1) (lowB (bit f.le) 1)
          | 12 => v = .pointer (some ⟨W1.heap.size, 3, none⟩)
          | 13 => v = .string ⟨f.va.toArray⟩
          | 14 => ∃ g c, v = .slice (some ⟨g, 0, none⟩) f.va.length c ∧ Bs x (.slice (some ⟨g, 0, none⟩) f.va.length c) f.va
          | 15 => ∃ g vs, v = .slice (some ⟨g, 0, none⟩) 3 3 ∧ 3 = vs.length ∧ Parts x g vs [threeB ver f.pr f.ba, lowB (bit f.le) 1, f.va]
          | 16 => Own8 x W.heap.size 5 v (factB ver f)
          | 17 => Own8 x W.heap.size 5 v (factB ver f)
          | _ => True) (by kernel_rfl) (Grows.refl _) Grows.trans ?rstab ?rsteps ?rfin
      case rstab =>
        intro i v x y hg h
        match i with
        | 0 | 1 | 2 | 3 | 4 | 5 | 8 | 9 | 10 | 12 | 13 => exact h
        | 6 => exact (by obtain ⟨g9, e9, h9⟩ := h; exact ⟨g9, e9, h9.keep hg⟩)
        | 7 => exact Own8.keep h hg
        | 11 => exact (by obtain ⟨g9, e9, h9⟩ := h; exact ⟨g9, e9, h9.keep hg⟩)
        | 14 => exact (by obtain ⟨g9, c9, e9, h9⟩ := h; exact ⟨g9, c9, e9, h9.keep hg⟩)
        | 15 => exact (by obtain ⟨g, vs, e, h4, hb⟩ := h; exact ⟨g, vs, e, h4, hb.keep hg⟩)
        | 16 => exact Own8.keep h hg
        | 17 => exact Own8.keep h hg
        | n + 18 => trivial
      case rsteps =>
        refine ⟨?_, ?_, ?_, ?_, ?_, ?_, ?_, ?_, ?_, ?_, ?_, ?_, ?_, ?_, ?_, ?_, ?_, ?_, trivial⟩
        · intro a x hA
          have t4 := hA.at_ 4 (by first | rfl | kernel_rfl) rfl
          refine step_value (w' := x) (v := .pointer (some ⟨W.heap.size, 1, none⟩)) ?_ (Grows.refl _) ?_
          · go_simp
          · rfl
        · intro a x hA
          have t17 : a.tmps[17]?.getD undef = .pointer (some ⟨W.heap.size, 1, none⟩) := hA.dep_ ⟨0, .data⟩ (by simp) _ 17 rfl rfl
          have hX := HX.out.keep hA.grown
          have hx0 := hX.cell (o := 0) rfl
          have hx1 := hX.cell (o := 1) rfl
          clear hX
          refine step_value (w' := x) (v := .int .i64 ver) ?_ (Grows.refl _) rfl
          clear hA
          go_simp
        · intro a x hA
          have t5 := hA.at_ 5 (by first | rfl | kernel_rfl) rfl
          refine step_value (w' := x) (v := .pointer (some ⟨W1.heap.size, 0, none⟩)) ?_ (Grows.refl _) ?_
          · go_simp
          · rfl
        · intro a x hA
          have t19 : a.tmps[19]?.getD undef = .pointer (some ⟨W1.heap.size, 0, none⟩) := hA.dep_ ⟨2, .data⟩ (by simp) _ 19 rfl rfl
          have hY := HY.out.keep hA.grown
          have hy0 := hY.cell (o := 0) rfl
          have hy1 := hY.cell (o := 1) rfl
          have hy2 := hY.cell (o := 2) rfl
          have hy3 := hY.cell (o := 3) rfl
          clear hY
          refine step_value (w' := x) (v := .int .i64 f.pr) ?_ (Grows.refl _) rfl
          clear hA
          go_simp
        · intro a x hA
          have t5 := hA.at_ 5 (by first | rfl | kernel_rfl) rfl
          refine step_value (w' := x) (v := .pointer (some ⟨W1.heap.size, 1, none⟩)) ?_ (Grows.refl _) ?_
          · go_simp
          · rfl
        · intro a x hA
          have t21 : a.tmps[21]?.getD undef = .pointer (some ⟨W1.heap.size, 1, none⟩) := hA.dep_ ⟨4, .data⟩ (by simp) _ 21 rfl rfl
          have hY := HY.out.keep hA.grown
          have hy0 := hY.cell (o := 0) rfl
          have hy1 := hY.cell (o := 1) rfl
          have hy2 := hY.cell (o := 2) rfl
          have hy3 := hY.cell (o := 3) rfl
          clear hY
          refine step_value (w' := x) (v := .int .i64 f.ba) ?_ (Grows.refl _) rfl
          clear hA
          go_simp
        · intro a x hA
          have t18 : a.tmps[18]?.getD undef = .int .i64 ver := hA.dep_ ⟨1, .data⟩ (by simp) _ 18 rfl rfl
          have t20 : a.tmps[20]?.getD undef = .int .i64 f.pr := hA.dep_ ⟨3, .data⟩ (by simp) _ 20 rfl rfl
          have t22 : a.tmps[22]?.getD undef = .int .i64 f.ba := hA.dep_ ⟨5, .data⟩ (by simp) _ 22 rfl rfl
          refine step_value (w' := x.alloc (.cells #[.int .i64 ver, .int .i64 f.pr, .int .i64 f.ba] 3)) (v := .slice (some ⟨x.heap.size, 0, none⟩) 3 3) (by go_simp) (Grows.alloc _ _) ?_
          exact ⟨_, rfl, Blk.new x _ _⟩
        · intro a x hA
          have t23 : ∃ g, (a.tmps[23]?.getD undef) = .slice (some ⟨g, 0, none⟩) 3 3 ∧ Blk x g #[.int .i64 ver, .int .i64 f.pr, .int .i64 f.ba] 3 := hA.dep_ ⟨6, .data⟩ (by simp) _ 23 rfl rfl
          obtain ⟨g, e9, h9⟩ := t23
          have hs := Nat.le_trans HBW.out.size hA.grow.size
          have hcs : ∀ i z, ([ver, f.pr, f.ba] : List Int)[i]? = some z → x.cell? ⟨g, i, none⟩ = some (.int .i64 z) := by
            intro i z hz
            match i, hz with
            | 0, hz => simp at hz; subst hz; exact h9.cell rfl
            | 1, hz => simp at hz; subst hz; exact h9.cell rfl
            | 2, hz => simp at hz; subst hz; exact h9.cell rfl
          have hf9 : flat6 [ver, f.pr, f.ba] = threeB ver f.pr f.ba := by simp [flat6, threeB]
          clear h9
          refine step_call (f := 59) (args := #[.slice (some ⟨g, 0, none⟩) 3 3]) (by clear hcs; go_simp) ((acc_low g 3 3 [ver, f.pr, f.ba] x rfl (by simp) hcs (by simp; exact ⟨HK.out.2, HO.out.pr, HO.out.ba⟩)).mono ?_)
          rw [hf9]
          rintro e w' ⟨v, rfl, ho, hb⟩
          exact ⟨v, rfl, hb, ho.mono hs⟩
        · intro a x hA
          have t5 := hA.at_ 5 (by first | rfl | kernel_rfl) rfl
          refine step_value (w' := x) (v := .pointer (some ⟨W1.heap.size, 2, none⟩)) ?_ (Grows.refl _) ?_
          · go_simp
          · rfl
        · intro a x hA
          have t25 : a.tmps[25]?.getD undef = .pointer (some ⟨W1.heap.size, 2, none⟩) := hA.dep_ ⟨8, .data⟩ (by simp) _ 25 rfl rfl
          have hY := HY.out.keep hA.grown
          have hy0 := hY.cell (o := 0) rfl
          have hy1 := hY.cell (o := 1) rfl
          have hy2 := hY.cell (o := 2) rfl
          have hy3 := hY.cell (o := 3) rfl
          clear hY
          refine step_value (w' := x) (v := .bool f.le) ?_ (Grows.refl _) rfl
          clear hA
          go_simp
        · intro a x hA
          have t26 : a.tmps[26]?.getD undef = .bool f.le := hA.dep_ ⟨9, .data⟩ (by simp) _ 26 rfl rfl
          refine step_call (f := 108) (args := #[.bool f.le]) (by go_simp) ((acc_truth f.le x).mono ?_)
          rintro e w' ⟨rfl, hw⟩
          exact ⟨_, rfl, by rw [hw]; exact Grows.refl _, rfl⟩
        · intro a x hA
          have t27 : a.tmps[27]?.getD undef = .int .u8 (bit f.le) := hA.dep_ ⟨10, .data⟩ (by simp) _ 27 rfl rfl
          have hsx : W.heap.size ≤ x.heap.size := Nat.le_trans HBW.out.size hA.grow.size
          refine step_value (w' := x.alloc (.cells #[.int .u8 (bit f.le)] 5)) (v := .slice (some ⟨x.heap.size, 0, none⟩) 1 1) (by go_simp) (Grows.alloc _ _) ?_
          exact ⟨_, rfl, own8_mk hsx (Blk.new x _ _) rfl (Nat.le_refl _) (by unfold maxLen; omega) rfl (fun i u h => by
            match i, h with
            | 0, h => simp [lowB] at h; subst h; simp [byteOf_val]; (cases f.le <;> simp [bit]))⟩
        · intro a x hA
          have t5 := hA.at_ 5 (by first | rfl | kernel_rfl) rfl
          refine step_value (w' := x) (v := .pointer (some ⟨W1.heap.size, 3, none⟩)) ?_ (Grows.refl _) ?_
          · go_simp
          · rfl
        · intro a x hA
          have t29 : a.tmps[29]?.getD undef = .pointer (some ⟨W1.heap.size, 3, none⟩) := hA.dep_ ⟨12, .data⟩ (by simp) _ 29 rfl rfl
          have hY := HY.out.keep hA.grown
          have hy0 := hY.cell (o := 0) rfl
          have hy1 := hY.cell (o := 1) rfl
          have hy2 := hY.cell (o := 2) rfl
          have hy3 := hY.cell (o := 3) rfl
          clear hY
          refine step_value (w' := x) (v := .string ⟨f.va.toArray⟩) ?_ (Grows.refl _) rfl
          clear hA
          go_simp
        · intro a x hA
          have t30 : a.tmps[30]?.getD undef = .string ⟨f.va.toArray⟩ := hA.dep_ ⟨13, .data⟩ (by simp) _ 30 rfl rfl
          obtain ⟨w', c, hc, hbs, hb⟩ := str_convA x f.va (by have := HO.out.va; omega)
          refine step_value (w' := w') (v := .slice (some ⟨x.heap.size, 0, none⟩) f.va.length c) ?_ hb ⟨_, _, rfl, hbs⟩
          clear hbs hb hA
          go_simp
        · intro a x hA
          have t24 : Own8 x W.heap.size 5 (a.tmps[24]?.getD undef) (threeB ver f.pr f.ba) := hA.dep_ ⟨7, .data⟩ (by simp) _ 24 rfl rfl
          have t28 : ∃ g, (a.tmps[28]?.getD undef) = .slice (some ⟨g, 0, none⟩) 1 1 ∧ Own8 x W.heap.size 5 (.slice (some ⟨g, 0, none⟩) 1 1) (lowB (bit f.le) 1) := hA.dep_ ⟨11, .data⟩ (by simp) _ 28 rfl rfl
          have t31 : ∃ g c, (a.tmps[31]?.getD undef) = .slice (some ⟨g, 0, none⟩) f.va.length c ∧ Bs x (.slice (some ⟨g, 0, none⟩) f.va.length c) f.va := hA.dep_ ⟨14, .data⟩ (by simp) _ 31 rfl rfl
          obtain ⟨gA, eA, oA⟩ := t28
          obtain ⟨aB, cB, eB⟩ := t24.form
          rw [eB] at t24
          obtain ⟨gC, cC, eC, oC⟩ := t31
          have hgr := Grows.alloc x (.cells #[.slice aB (threeB ver f.pr f.ba).length cB, .slice (some ⟨gA, 0, none⟩) 1 1, .slice (some ⟨gC, 0, none⟩) f.va.length cC] 30)
          refine step_value (w' := x.alloc (.cells #[.slice aB (threeB ver f.pr f.ba).length cB, .slice (some ⟨gA, 0, none⟩) 1 1, .slice (some ⟨gC, 0, none⟩) f.va.length cC] 30)) (v := .slice (some ⟨x.heap.size, 0, none⟩) 3 3) ?_ hgr ?_
          · clear t24 oA oC
            go_simp
          · exact ⟨_, _, rfl, rfl, Parts.three (Blk.new _ _ _) (t24.bs.keep hgr) (oA.bs.keep hgr) (oC.keep hgr)⟩
        · intro a x hA
          have t32 : ∃ g vs, (a.tmps[32]?.getD undef) = .slice (some ⟨g, 0, none⟩) 3 3 ∧ 3 = vs.length ∧ Parts x g vs [threeB ver f.pr f.ba, lowB (bit f.le) 1, f.va] := hA.dep_ ⟨15, .data⟩ (by simp) _ 32 rfl rfl
          obtain ⟨g, vs, ev, h4, hp⟩ := t32
          have hF9 : ([threeB ver f.pr f.ba, lowB (bit f.le) 1, f.va] : List (List UInt8)).flatten = factB ver f := by simp [factB]
          have hFl := HL.out
          have hs := Nat.le_trans HBW.out.size hA.grow.size
          refine step_call (f := 58) (args := #[.slice (some ⟨g, 0, none⟩) 3 3]) (by clear hp; go_simp) ((slices_Concat _ _ _ _ _ x h4 hp (by omega) (by rw [hF9]; omega)).mono ?_)
          rw [hF9]
          rintro e w' ⟨v, rfl, ho, hb⟩
          exact ⟨v, rfl, hb, ho.mono hs⟩
        · intro a x hA
          have t33 : Own8 x W.heap.size 5 (a.tmps[33]?.getD undef) (factB ver f) := hA.dep_ ⟨16, .data⟩ (by simp) _ 33 rfl rfl
          exact step_value (w' := x) (v := a.tmps[33]?.getD undef) (by go_simp) (Grows.refl _) t33
      case rfin =>
        intro y W' hg hV
        simp only [AllVals] at hV
        obtain ⟨_, _, _, _, _, _, _, _, _, _, _, _, _, _, _, _, _, hB9, _⟩ := hV
        have HA4 := hid (HA.out.keep (Below.trans (below_of_drewN _ _ 1) hg))
        have HX4 := hid (HX.out.keep (Below.trans (below_of_drewN _ _ 1) hg))
        have HY4 := hid (HY.out.keep (Below.trans (below_of_drewN _ _ 1) hg))
        have HB4 := hid (HBW.out.trans (Below.mono (Below.trans (below_of_drewN _ _ 1) hg) HBW.out.size))
        clear hg
        obtain ⟨av, cv, eB⟩ := hB9.form
        have HG := hid (fun g hg => (hB9.blk g hg).1)
        have HV4 := hid hB9.bs
        simp only [putAll, Act.put, List.setIfInBounds_toArray, List.set_cons_zero, List.set_cons_succ]
        rw [eB] at HV4 HG ⊢
        clear hB9 eB
        go_wp2_with fail
        by_cases hle : tailF S key ≤ 4095
        · refine wp_region_tail 14 rfl Grows (fun i v x => match i with
              | 0 => v = .pointer (some ⟨n, 0, none⟩)
              | 1 => v = .pointer (some ⟨n, 0, none⟩)
              | 2 => v = .pointer (some ⟨n, 1, none⟩)
              | 3 => v = .pointer (some ⟨q.s, 0, none⟩)
              | 4 => v = .pointer (some ⟨W.heap.size, 0, none⟩)
              | 5 => v = .int .i64 key
              | 6 => v = .pointer (some ⟨n, 0, none⟩)
              | 7 => v = .pointer (some ⟨n, 0, none⟩)
              | 8 => v = .pointer (some ⟨n, 1, none⟩)
              | 9 => v = .pointer (some ⟨q.s, 0, none⟩)
              | 10 => v = .pointer (some ⟨W.heap.size, 0, none⟩)
              | 11 => v = .int .i64 key
              | 12 => v = .int .i64 (tailF S key)
              | 13 => v = .slice av (factB ver f).length cv
              | _ => True) (by kernel_rfl) (Grows.refl _) Grows.trans ?rstab ?rsteps ?rfin
          case rstab =>
            intro i v x y hg h
            match i with
            | 0 | 1 | 2 | 3 | 4 | 5 | 6 | 7 | 8 | 9 | 10 | 11 | 12 | 13 => exact h
            | n + 14 => trivial
          case rsteps =>
            simp only [List.take_succ_cons, List.take_zero]
            refine ⟨?_, ?_, ?_, ?_, ?_, ?_, ?_, ?_, ?_, ?_, ?_, ?_, ?_, ?_, trivial⟩
            · intro a x hA
              have t0 := hA.at_ 0 (by first | rfl | kernel_rfl) rfl
              refine step_value (w' := x) (v := .pointer (some ⟨n, 0, none⟩)) ?_ (Grows.refl _) ?_
              · go_simp
              · rfl
            · intro a x hA
              have t34 : a.tmps[34]?.getD undef = .pointer (some ⟨n, 0, none⟩) := hA.dep_ ⟨0, .data⟩ (by simp) _ 34 rfl rfl
              refine step_value (w' := x) (v := .pointer (some ⟨n, 0, none⟩)) ?_ (Grows.refl _) ?_
              · go_simp
              · rfl
            · intro a x hA
              have t35 : a.tmps[35]?.getD undef = .pointer (some ⟨n, 0, none⟩) := hA.dep_ ⟨1, .data⟩ (by simp) _ 35 rfl rfl
              refine step_value (w' := x) (v := .pointer (some ⟨n, 1, none⟩)) ?_ (Grows.refl _) ?_
              · go_simp
              · rfl
            · intro a x hA
              have t36 : a.tmps[36]?.getD undef = .pointer (some ⟨n, 1, none⟩) := hA.dep_ ⟨2, .data⟩ (by simp) _ 36 rfl rfl
              have hN := HA4.out.cell.keep hA.grown
              have hn1 := hN.cell (o := 1) rfl
              have hn2 := hN.cell (o := 2) rfl
              clear hN
              refine step_value (w' := x) (v := .pointer (some ⟨q.s, 0, none⟩)) ?_ (Grows.refl _) rfl
              clear hA
              go_simp
            · intro a x hA
              have t4 := hA.at_ 4 (by first | rfl | kernel_rfl) rfl
              refine step_value (w' := x) (v := .pointer (some ⟨W.heap.size, 0, none⟩)) ?_ (Grows.refl _) ?_
              · go_simp
              · rfl
            · intro a x hA
              have t38 : a.tmps[38]?.getD undef = .pointer (some ⟨W.heap.size, 0, none⟩) := hA.dep_ ⟨4, .data⟩ (by simp) _ 38 rfl rfl
              have hX := HX4.out.keep hA.grown
              have hx0 := hX.cell (o := 0) rfl
              have hx1 := hX.cell (o := 1) rfl
              clear hX
              refine step_value (w' := x) (v := .int .i64 key) ?_ (Grows.refl _) rfl
              clear hA
              go_simp
            · intro a x hA
              have t0 := hA.at_ 0 (by first | rfl | kernel_rfl) rfl
              refine step_value (w' := x) (v := .pointer (some ⟨n, 0, none⟩)) ?_ (Grows.refl _) ?_
              · go_simp
              · rfl
            · intro a x hA
              have t40 : a.tmps[40]?.getD undef = .pointer (some ⟨n, 0, none⟩) := hA.dep_ ⟨6, .data⟩ (by simp) _ 40 rfl rfl
              refine step_value (w' := x) (v := .pointer (some ⟨n, 0, none⟩)) ?_ (Grows.refl _) ?_
              · go_simp
              · rfl
            · intro a x hA
              have t41 : a.tmps[41]?.getD undef = .pointer (some ⟨n, 0, none⟩) := hA.dep_ ⟨7, .data⟩ (by simp) _ 41 rfl rfl
              refine step_value (w' := x) (v := .pointer (some ⟨n, 1, none⟩)) ?_ (Grows.refl _) ?_
              · go_simp
              · rfl
            · intro a x hA
              have t42 : a.tmps[42]?.getD undef = .pointer (some ⟨n, 1, none⟩) := hA.dep_ ⟨8, .data⟩ (by simp) _ 42 rfl rfl
              have hN := HA4.out.cell.keep hA.grown
              have hn1 := hN.cell (o := 1) rfl
              have hn2 := hN.cell (o := 2) rfl
              clear hN
              refine step_value (w' := x) (v := .pointer (some ⟨q.s, 0, none⟩)) ?_ (Grows.refl _) rfl
              clear hA
              go_simp
            · intro a x hA
              have t4 := hA.at_ 4 (by first | rfl | kernel_rfl) rfl
              refine step_value (w' := x) (v := .pointer (some ⟨W.heap.size, 0, none⟩)) ?_ (Grows.refl _) ?_
              · go_simp
              · rfl
            · intro a x hA
              have t44 : a.tmps[44]?.getD undef = .pointer (some ⟨W.heap.size, 0, none⟩) := hA.dep_ ⟨10, .data⟩ (by simp) _ 44 rfl rfl
              have hX := HX4.out.keep hA.grown
              have hx0 := hX.cell (o := 0) rfl
              have hx1 := hX.cell (o := 1) rfl
              clear hX
              refine step_value (w' := x) (v := .int .i64 key) ?_ (Grows.refl _) rfl
              clear hA
              go_simp
            · intro a x hA
              have t43 : a.tmps[43]?.getD undef = .pointer (some ⟨q.s, 0, none⟩) := hA.dep_ ⟨9, .data⟩ (by simp) _ 43 rfl rfl
              have t45 : a.tmps[45]?.getD undef = .int .i64 key := hA.dep_ ⟨11, .data⟩ (by simp) _ 45 rfl rfl
              refine step_call (f := 92) (args := #[.pointer (some ⟨q.s, 0, none⟩), .int .i64 key]) (by go_simp) ((store_Tail (HA4.out.st.keep hA.grown) key).mono ?_)
              rintro e w' ⟨rfl, hb⟩
              exact ⟨_, rfl, hb, rfl⟩
            · intro a x hA
              have t7 := hA.at_ 7 (by first | rfl | kernel_rfl) rfl
              refine step_value (w' := x) (v := .slice av (factB ver f).length cv) ?_ (Grows.refl _) ?_
              · go_simp
              · rfl
          case rfin =>
            intro y W' hg hV
            simp only [List.take_succ_cons, List.take_zero, AllVals] at hV
            obtain ⟨_, _, _, hS9, _, hK9, _, _, _, _, _, _, hT9, hB9, _⟩ := hV
            have HA5 := hid (HA4.out.keep (Below.trans (below_of_drewN _ _ 1) hg))
            have HX5 := hid (HX4.out.keep (Below.trans (below_of_drewN _ _ 1) hg))
            have HY5 := hid (HY4.out.keep (Below.trans (below_of_drewN _ _ 1) hg))
            have HV5 := hid (HV4.out.keep (Below.trans (below_of_drewN _ _ 1) hg))
            have HB5 := hid (HB4.out.trans (Below.mono (Below.trans (below_of_drewN _ _ 1) hg) HB4.out.size))
            clear hg
            simp only [List.take_succ_cons, List.take_zero, List.drop_succ_cons, List.drop_zero, putAll, Act.put, List.setIfInBounds_toArray, List.set_cons_zero, List.set_cons_succ]
            rw [hS9, hK9, hT9, hB9]
            clear hS9 hK9 hT9 hB9
            go_wp2_with fail
            refine (store_Put HA5.out.st HA5.out.on key (tailF S key) _ _ false HV5.out (fun g hg hc => ?_) HL.out HK.out.1.1 HK.out.1.2 HT.out hle).mono ?_
            · have h1 := HS.out.1 hc
              have h2 := HG.out g hg
              omega
            rintro e W6 ⟨rfl, ⟨q4, h6, hw6⟩, x6⟩
            have HP := putF_not1 S D key (tailF S key) (factB ver f) false
            have hon := putF_on HA5.out.on key (tailF S key) (factB ver f) false
            have HE := hid (show keepA F S D key ver f = if (putF S D key (tailF S key) (factB ver f) false).1 = 0 then (0, F.set (key, ver) f, (putF S D key (tailF S key) (factB ver f) false).2) else ((putF S D key (tailF S key) (factB ver f) false).1, F, (putF S D key (tailF S key) (factB ver f) false).2) by unfold keepA; rw [if_neg HNE.out, if_pos hle])
            generalize (putF S D key (tailF S key) (factB ver f) false) = R at HP hon HE h6 ⊢
            obtain ⟨re, rS, rD⟩ := R
            simp only at HP hon h6 HE ⊢
            have a6 := HA5.out.went h6 hon (hw6) x6
            have HW := hid (hw6.le HB5.out.size)
            have HX7 := hid (HX5.out.ext x6 (fun hc => by have := HS.out.1 (Or.inl hc); omega))
            have HY7 := hid (HY5.out.ext x6 (fun hc => by have := HS.out.1 (Or.inl hc); have := HS.out.2.2.2; omega))
            have HA7 := hid a6
            have HB7 := hid x6
            clear h6 hw6 x6 hon a6
            by_cases h0 : re = 0
            · subst h0
              rw [if_pos rfl] at HE
              clear HP
              go_wp2_with fail
              refine wp_region_tail 6 rfl Grows (fun i v x => match i with
                  | 0 => v = .pointer (some ⟨n, 0, none⟩)
                  | 1 => v = .pointer (some ⟨n, 0, none⟩)
                  | 2 => v = .pointer (some ⟨n, 2, none⟩)
                  | 3 => v = .map (some mf)
                  | 4 => v = .agg #[.int .i64 key, .int .i64 ver]
                  | 5 => v = .agg #[.int .i64 f.pr, .int .i64 f.ba, .bool f.le, .string ⟨f.va.toArray⟩]
                  | _ => True) (by kernel_rfl) (Grows.refl _) Grows.trans ?rstab ?rsteps ?rfin
              case rstab =>
                intro i v x y hg h
                match i with
                | 0 | 1 | 2 | 3 | 4 | 5 => exact h
                | n + 6 => trivial
              case rsteps =>
                simp only [List.take_succ_cons, List.take_zero]
                refine ⟨?_, ?_, ?_, ?_, ?_, ?_, trivial⟩
                · intro a x hA
                  have t0 := hA.at_ 0 (by first | rfl | kernel_rfl) rfl
                  refine step_value (w' := x) (v := .pointer (some ⟨n, 0, none⟩)) ?_ (Grows.refl _) ?_
                  · go_simp
                  · rfl
                · intro a x hA
                  have t52 : a.tmps[52]?.getD undef = .pointer (some ⟨n, 0, none⟩) := hA.dep_ ⟨0, .data⟩ (by simp) _ 52 rfl rfl
                  refine step_value (w' := x) (v := .pointer (some ⟨n, 0, none⟩)) ?_ (Grows.refl _) ?_
                  · go_simp
                  · rfl
                · intro a x hA
                  have t53 : a.tmps[53]?.getD undef = .pointer (some ⟨n, 0, none⟩) := hA.dep_ ⟨1, .data⟩ (by simp) _ 53 rfl rfl
                  refine step_value (w' := x) (v := .pointer (some ⟨n, 2, none⟩)) ?_ (Grows.refl _) ?_
                  · go_simp
                  · rfl
                · intro a x hA
                  have t54 : a.tmps[54]?.getD undef = .pointer (some ⟨n, 2, none⟩) := hA.dep_ ⟨2, .data⟩ (by simp) _ 54 rfl rfl
                  have hN := HA7.out.cell.keep hA.grown
                  have hn1 := hN.cell (o := 1) rfl
                  have hn2 := hN.cell (o := 2) rfl
                  clear hN
                  refine step_value (w' := x) (v := .map (some mf)) ?_ (Grows.refl _) rfl
                  clear hA
                  go_simp
                · intro a x hA
                  have t4 := hA.at_ 4 (by first | rfl | kernel_rfl) rfl
                  have hX := HX7.out.keep hA.grown
                  have hx0 := hX.cell (o := 0) rfl
                  have hx1 := hX.cell (o := 1) rfl
                  clear hX
                  refine step_value (w' := x) (v := .agg #[.int .i64 key, .int .i64 ver]) ?_ (Grows.refl _) rfl
                  clear hA
                  go_simp
                · intro a x hA
                  have t5 := hA.at_ 5 (by first | rfl | kernel_rfl) rfl
                  have hY := HY7.out.keep hA.grown
                  have hy0 := hY.cell (o := 0) rfl
                  have hy1 := hY.cell (o := 1) rfl
                  have hy2 := hY.cell (o := 2) rfl
                  have hy3 := hY.cell (o := 3) rfl
                  clear hY
                  refine step_value (w' := x) (v := .agg #[.int .i64 f.pr, .int .i64 f.ba, .bool f.le, .string ⟨f.va.toArray⟩]) ?_ (Grows.refl _) rfl
                  clear hA
                  go_simp
              case rfin =>
                intro y W' hg hV
                simp only [List.take_succ_cons, List.take_zero, AllVals] at hV
                obtain ⟨_, _, _, hM7, hX7, hF7, _⟩ := hV
                have HA8 := HA7.out.keep (Below.trans (below_of_drewN _ _ 1) hg)
                obtain ⟨W8, hr8, a8, x8⟩ := HA8.put (key, ver) f HO.out
                have bg : Below W6.heap.size W6 W' := Below.trans (below_of_drewN _ _ 1) hg
                clear hg
                simp only [List.take_succ_cons, List.take_zero, List.drop_succ_cons, List.drop_zero, putAll, Act.put, List.setIfInBounds_toArray, List.set_cons_zero, List.set_cons_succ]
                rw [hM7, hX7, hF7]
                refine wpList_skip rfl (exec_mapUpdate rfl hr8) ?_
                clear hr8
                go_wp2_with fail
                go_ret
                unfold KeepPost
                rw [HE.out]
                exact ⟨rfl, ⟨q4, a8, HW.out⟩, (((Ext.ofBelow HB5.out).trans HB7.out (fun _ h => .inl (.inr h))).then bg).trans x8 (fun _ h => .inl (.inl h))⟩
            · rw [if_neg h0] at HE
              have d0 : (re == 0) = false := by simp [h0]
              have d1 : (re == 1) = false := by simp [HP.1]
              have hi := HP.2
              clear HP h0
              go_wp2_with fail
              go_ret
              unfold KeepPost
              rw [HE.out]
              exact ⟨rfl, ⟨q4, HA7.out, HW.out⟩, (Ext.ofBelow HB5.out).trans HB7.out (fun _ h => .inl (.inr h))⟩
        · refine wp_region_tail 14 rfl Grows (fun i v x => match i with
              | 0 => v = .pointer (some ⟨n, 0, none⟩)
              | 1 => v = .pointer (some ⟨n, 0, none⟩)
              | 2 => v = .pointer (some ⟨n, 1, none⟩)
              | 3 => v = .pointer (some ⟨q.s, 0, none⟩)
              | 4 => v = .pointer (some ⟨W.heap.size, 0, none⟩)
              | 5 => v = .int .i64 key
              | 6 => v = .pointer (some ⟨n, 0, none⟩)
              | 7 => v = .pointer (some ⟨n, 0, none⟩)
              | 8 => v = .pointer (some ⟨n, 1, none⟩)
              | 9 => v = .pointer (some ⟨q.s, 0, none⟩)
              | 10 => v = .pointer (some ⟨W.heap.size, 0, none⟩)
              | 11 => v = .int .i64 key
              | 12 => v = .int .i64 (tailF S key)
              | 13 => v = .slice av (factB ver f).length cv
              | _ => True) (by kernel_rfl) (Grows.refl _) Grows.trans ?rstab ?rsteps ?rfin
          case rstab =>
            intro i v x y hg h
            match i with
            | 0 | 1 | 2 | 3 | 4 | 5 | 6 | 7 | 8 | 9 | 10 | 11 | 12 | 13 => exact h
            | n + 14 => trivial
          case rsteps =>
            simp only [List.take_succ_cons, List.take_zero]
            refine ⟨?_, ?_, ?_, ?_, ?_, ?_, ?_, ?_, ?_, ?_, ?_, ?_, ?_, ?_, trivial⟩
            · intro a x hA
              have t0 := hA.at_ 0 (by first | rfl | kernel_rfl) rfl
              refine step_value (w' := x) (v := .pointer (some ⟨n, 0, none⟩)) ?_ (Grows.refl _) ?_
              · go_simp
              · rfl
            · intro a x hA
              have t34 : a.tmps[34]?.getD undef = .pointer (some ⟨n, 0, none⟩) := hA.dep_ ⟨0, .data⟩ (by simp) _ 34 rfl rfl
              refine step_value (w' := x) (v := .pointer (some ⟨n, 0, none⟩)) ?_ (Grows.refl _) ?_
              · go_simp
              · rfl
            · intro a x hA
              have t35 : a.tmps[35]?.getD undef = .pointer (some ⟨n, 0, none⟩) := hA.dep_ ⟨1, .data⟩ (by simp) _ 35 rfl rfl
              refine step_value (w' := x) (v := .pointer (some ⟨n, 1, none⟩)) ?_ (Grows.refl _) ?_
              · go_simp
              · rfl
            · intro a x hA
              have t36 : a.tmps[36]?.getD undef = .pointer (some ⟨n, 1, none⟩) := hA.dep_ ⟨2, .data⟩ (by simp) _ 36 rfl rfl
              have hN := HA4.out.cell.keep hA.grown
              have hn1 := hN.cell (o := 1) rfl
              have hn2 := hN.cell (o := 2) rfl
              clear hN
              refine step_value (w' := x) (v := .pointer (some ⟨q.s, 0, none⟩)) ?_ (Grows.refl _) rfl
              clear hA
              go_simp
            · intro a x hA
              have t4 := hA.at_ 4 (by first | rfl | kernel_rfl) rfl
              refine step_value (w' := x) (v := .pointer (some ⟨W.heap.size, 0, none⟩)) ?_ (Grows.refl _) ?_
              · go_simp
              · rfl
            · intro a x hA
              have t38 : a.tmps[38]?.getD undef = .pointer (some ⟨W.heap.size, 0, none⟩) := hA.dep_ ⟨4, .data⟩ (by simp) _ 38 rfl rfl
              have hX := HX4.out.keep hA.grown
              have hx0 := hX.cell (o := 0) rfl
              have hx1 := hX.cell (o := 1) rfl
              clear hX
              refine step_value (w' := x) (v := .int .i64 key) ?_ (Grows.refl _) rfl
              clear hA
              go_simp
            · intro a x hA
              have t0 := hA.at_ 0 (by first | rfl | kernel_rfl) rfl
              refine step_value (w' := x) (v := .pointer (some ⟨n, 0, none⟩)) ?_ (Grows.refl _) ?_
              · go_simp
              · rfl
            · intro a x hA
              have t40 : a.tmps[40]?.getD undef = .pointer (some ⟨n, 0, none⟩) := hA.dep_ ⟨6, .data⟩ (by simp) _ 40 rfl rfl
              refine step_value (w' := x) (v := .pointer (some ⟨n, 0, none⟩)) ?_ (Grows.refl _) ?_
              · go_simp
              · rfl
            · intro a x hA
              have t41 : a.tmps[41]?.getD undef = .pointer (some ⟨n, 0, none⟩) := hA.dep_ ⟨7, .data⟩ (by simp) _ 41 rfl rfl
              refine step_value (w' := x) (v := .pointer (some ⟨n, 1, none⟩)) ?_ (Grows.refl _) ?_
              · go_simp
              · rfl
            · intro a x hA
              have t42 : a.tmps[42]?.getD undef = .pointer (some ⟨n, 1, none⟩) := hA.dep_ ⟨8, .data⟩ (by simp) _ 42 rfl rfl
              have hN := HA4.out.cell.keep hA.grown
              have hn1 := hN.cell (o := 1) rfl
              have hn2 := hN.cell (o := 2) rfl
              clear hN
              refine step_value (w' := x) (v := .pointer (some ⟨q.s, 0, none⟩)) ?_ (Grows.refl _) rfl
              clear hA
              go_simp
            · intro a x hA
              have t4 := hA.at_ 4 (by first | rfl | kernel_rfl) rfl
              refine step_value (w' := x) (v := .pointer (some ⟨W.heap.size, 0, none⟩)) ?_ (Grows.refl _) ?_
              · go_simp
              · rfl
            · intro a x hA
              have t44 : a.tmps[44]?.getD undef = .pointer (some ⟨W.heap.size, 0, none⟩) := hA.dep_ ⟨10, .data⟩ (by simp) _ 44 rfl rfl
              have hX := HX4.out.keep hA.grown
              have hx0 := hX.cell (o := 0) rfl
              have hx1 := hX.cell (o := 1) rfl
              clear hX
              refine step_value (w' := x) (v := .int .i64 key) ?_ (Grows.refl _) rfl
              clear hA
              go_simp
            · intro a x hA
              have t43 : a.tmps[43]?.getD undef = .pointer (some ⟨q.s, 0, none⟩) := hA.dep_ ⟨9, .data⟩ (by simp) _ 43 rfl rfl
              have t45 : a.tmps[45]?.getD undef = .int .i64 key := hA.dep_ ⟨11, .data⟩ (by simp) _ 45 rfl rfl
              refine step_call (f := 92) (args := #[.pointer (some ⟨q.s, 0, none⟩), .int .i64 key]) (by go_simp) ((store_Tail (HA4.out.st.keep hA.grown) key).mono ?_)
              rintro e w' ⟨rfl, hb⟩
              exact ⟨_, rfl, hb, rfl⟩
            · intro a x hA
              have t7 := hA.at_ 7 (by first | rfl | kernel_rfl) rfl
              refine step_value (w' := x) (v := .slice av (factB ver f).length cv) ?_ (Grows.refl _) ?_
              · go_simp
              · rfl
          case rfin =>
            intro y W' hg hV
            simp only [List.take_succ_cons, List.take_zero, AllVals] at hV
            obtain ⟨_, _, _, hS9, _, hK9, _, _, _, _, _, _, hT9, hB9, _⟩ := hV
            have HA5 := hid (HA4.out.keep (Below.trans (below_of_drewN _ _ 1) hg))
            have HX5 := hid (HX4.out.keep (Below.trans (below_of_drewN _ _ 1) hg))
            have HY5 := hid (HY4.out.keep (Below.trans (below_of_drewN _ _ 1) hg))
            have HV5 := hid (HV4.out.keep (Below.trans (below_of_drewN _ _ 1) hg))
            have HB5 := hid (HB4.out.trans (Below.mono (Below.trans (below_of_drewN _ _ 1) hg) HB4.out.size))
            clear hg
            simp only [List.take_succ_cons, List.take_zero, List.drop_succ_cons, List.drop_zero, putAll, Act.put, List.setIfInBounds_toArray, List.set_cons_zero, List.set_cons_succ]
            rw [hS9, hK9, hT9, hB9]
            clear hS9 hK9 hT9 hB9
            go_wp2_with fail
            refine (store_Put_arg HA5.out.st key (tailF S key) _ false (by omega)).mono ?_
            rintro e W6 ⟨rfl, b6⟩
            have b9 := HB5.out.trans (b6.mono HB5.out.size)
            have HE := hid (show keepA F S D key ver f = (7, F, S, D) by unfold keepA; rw [if_neg HNE.out, if_neg (by omega)])
            have H6 := hid (And.intro b9 (HA5.out.keep b6))
            clear b6 b9
            go_wp2_with fail
            go_ret
            unfold KeepPost
            rw [HE.out]
            exact ⟨rfl, ⟨q, H6.out.2, Went.refl _ _⟩, (Ext.ofBelow H6.out.1)⟩
end
end Go.Proofs.YtcdcjoofcbdilaaGreat
