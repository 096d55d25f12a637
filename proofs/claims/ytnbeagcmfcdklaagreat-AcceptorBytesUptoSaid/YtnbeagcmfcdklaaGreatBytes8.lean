import Derived.Test.YtnbeagcmfcdklaaGreatMSameB8
import Derived.Test.YtnbeagcmfcdklaaGreatMLent
/-! gazettelaw08.AcceptorBytes: the walk. -/
namespace Go.Proofs.YtnbeagcmfcdklaaGreat
open Go.RowKit

/-- What bytes say as an answer; its error. -/
def ansV (l : List UInt8) : Int × Int × Int × Int × Bool × List UInt8 × Int := match getAns l with
  | none => (0, 0, 0, 0, false, [], 22)
  | some (er, ver, pr, ba, le, d) => (er, ver, pr, ba, le, d, 0)
theorem AnsPost.vals {W w' : World} {l : List UInt8} {e : Ending} (h : AnsPost W l e w') {er ver pr ba c : Int} {le : Bool} {d : List UInt8} (hq : ansV l = (er, ver, pr, ba, le, d, c)) : ∃ v, e = .returned (.tuple #[.agg #[.int .i64 er, .int .i64 ver, .int .i64 pr, .int .i64 ba, .bool le, v], .int .i64 c]) ∧ Own8 w' W.heap.size 5 v d ∧ Below W.heap.size W w' := by
  unfold AnsPost at h
  unfold ansV at hq
  cases hg : getAns l with
  | none =>
    rw [hg] at h hq
    cases hq
    obtain ⟨rfl, hb⟩ := h
    exact ⟨_, rfl, Own8.nil _ _ _, hb⟩
  | some z =>
    obtain ⟨er', ver', pr', ba', le', d'⟩ := z
    rw [hg] at h hq
    cases hq
    exact h

set_option maxRecDepth 100000 in
set_option maxHeartbeats 12800000 in
theorem law_accBytes (k key rv bal er ver pr ba : Int) (le : Bool) (qv pv vb : Value) (m n b : List UInt8) (W : World) (hrv : BsW W qv m) (hm : m.length ≤ 1073741824) (hpv : BsW W pv n) (hn : n.length ≤ 1073741824) (hb : Bs W vb b) (hbl : b.length ≤ 1073741824) :
    Calls Tryz.prog 3 #[.agg #[.int .i64 k, .int .i64 key, .int .i64 rv, .int .i64 bal, qv], .agg #[.int .i64 er, .int .i64 ver, .int .i64 pr, .int .i64 ba, .bool le, pv], vb] W fun e W' => e = .returned (.bool true) ∧ Below W.heap.size W W' := by
  obtain ⟨ra, rc, rfl⟩ := hrv.form
  obtain ⟨pa, pc, rfl⟩ := hpv.form
  obtain ⟨va, vc, rfl⟩ := hb.form
  obtain ⟨W1, hW1⟩ : ∃ W1, W.alloc (.cells #[.int .i64 k, .int .i64 key, .int .i64 rv, .int .i64 bal, .slice ra m.length rc] 24) = W1 := ⟨_, rfl⟩
  have b1 : Below W.heap.size W W1 := by rw [← hW1]; exact (Below.refl _ W).alloc (Nat.le_refl _) _
  have k1 : Blk W1 W.heap.size #[.int .i64 k, .int .i64 key, .int .i64 rv, .int .i64 bal, .slice ra m.length rc] 24 := by rw [← hW1]; exact Blk.new W _ _
  obtain ⟨W2, hW2⟩ : ∃ W2, W1.alloc (.cells #[.int .i64 er, .int .i64 ver, .int .i64 pr, .int .i64 ba, .bool le, .slice pa n.length pc] 26) = W2 := ⟨_, rfl⟩
  have b2 : Below W1.heap.size W1 W2 := by rw [← hW2]; exact (Below.refl _ W1).alloc (Nat.le_refl _) _
  have KP : Hid (Blk W2 W1.heap.size #[.int .i64 er, .int .i64 ver, .int .i64 pr, .int .i64 ba, .bool le, .slice pa n.length pc] 26) := hid (by rw [← hW2]; exact Blk.new W1 _ _)
  have KR := hid (k1.keep b2)
  have b12 := b1.trans (b2.mono b1.size)
  have HRV := hid (hrv.keep b12)
  have HPV := hid (hpv.keep b12)
  have HY := hid (hb.keep b12)
  have HB := hid b12
  obtain ⟨cq, hcq⟩ : ∃ cq : Int, (if askOk k key rv bal m.length = true then (0 : Int) else 1) = cq := ⟨_, rfl⟩
  have HCQ := hid hcq
  obtain ⟨cc, hcc⟩ : ∃ cc : Int, (if ansOk er ver pr ba n.length = true then (0 : Int) else 1) = cc := ⟨_, rfl⟩
  have HC := hid hcc
  clear hrv hpv hb k1 b1 b2 b12 hcq hcc
  have x0 := KR.out.cell (o := 0) rfl
  have x1 := KR.out.cell (o := 1) rfl
  have x2 := KR.out.cell (o := 2) rfl
  have x3 := KR.out.cell (o := 3) rfl
  have x4 := KR.out.cell (o := 4) rfl
  go_enter Tryz.func3, Tryz.ntmps3
  go_wp2_with fail
  clear hW1 hW2
  refine (law8_Own k key rv bal _ m W2 HRV.out (by omega)).mono ?_
  rintro e Wa ⟨v1, rfl, o1, bb⟩
  have O7 := hid o1.bs
  clear o1
  clear x0 x1 x2 x3 x4
  have KP := hid (KP.out.keep bb)
  have KR := hid (KR.out.keep bb)
  have HRV := hid (HRV.out.keep bb)
  have HPV := hid (HPV.out.keep bb)
  have HY := hid (HY.out.keep bb)
  have HB := hid (HB.out.trans (bb.mono HB.out.size))
  clear bb
  go_wp2_with fail
  refine (acc_PutAsk _ _ _ _ v1 _ Wa O7.out).mono ?_
  rw [HCQ.out]
  rintro e Wb ⟨v7, rfl, o, bb⟩
  obtain ⟨a7, c7, e7⟩ := o.form
  subst e7
  have S9 := hid o.bs
  clear o
  have KP := hid (KP.out.keep bb)
  have KR := hid (KR.out.keep bb)
  have HRV := hid (HRV.out.keep bb)
  have HPV := hid (HPV.out.keep bb)
  have HY := hid (HY.out.keep bb)
  have O7 := hid (O7.out.keep bb)
  have HB := hid (HB.out.trans (bb.mono HB.out.size))
  clear bb
  have x0 := KR.out.cell (o := 0) rfl
  have x1 := KR.out.cell (o := 1) rfl
  have x2 := KR.out.cell (o := 2) rfl
  have x3 := KR.out.cell (o := 3) rfl
  have x4 := KR.out.cell (o := 4) rfl
  go_wp2_with fail
  refine (ref8_PutAsk _ _ _ _ _ m Wb HRV.out hm).mono ?_
  rw [HCQ.out]
  rintro e W3 ⟨v9, rfl, o, bb⟩
  obtain ⟨a8, c8, e8⟩ := o.form
  subst e8
  have S11 := hid o.bs
  clear o
  clear x0 x1 x2 x3 x4
  have KP := hid (KP.out.keep bb)
  have KR := hid (KR.out.keep bb)
  have HRV := hid (HRV.out.keep bb)
  have HPV := hid (HPV.out.keep bb)
  have HY := hid (HY.out.keep bb)
  have O7 := hid (O7.out.keep bb)
  have S9 := hid (S9.out.keep bb)
  have HB := hid (HB.out.trans (bb.mono HB.out.size))
  clear bb
  go_wp2_with fail
  refine wp_region_invW rfl Grows (fun i v x => match i with
      | 0 => v = .pointer (some ⟨W1.heap.size, 0, none⟩)
      | 1 => v = .int .i64 er
      | 2 => v = .pointer (some ⟨W1.heap.size, 1, none⟩)
      | 3 => v = .int .i64 ver
      | 4 => v = .pointer (some ⟨W1.heap.size, 2, none⟩)
      | 5 => v = .int .i64 pr
      | 6 => v = .pointer (some ⟨W1.heap.size, 3, none⟩)
      | 7 => v = .int .i64 ba
      | 8 => v = .pointer (some ⟨W1.heap.size, 4, none⟩)
      | 9 => v = .bool le
      | 10 => ∃ g, v = .slice (some ⟨g, 0, none⟩) 0 0 ∧ Own8 x W3.heap.size 5 (.slice (some ⟨g, 0, none⟩) 0 0) []
      | 11 => v = .pointer (some ⟨W1.heap.size, 5, none⟩)
      | 12 => v = .slice pa n.length pc
      | 13 => Own8 x W3.heap.size 5 v n
      | 14 => ∃ a9 c9, v = .agg #[.int .i64 er, .int .i64 ver, .int .i64 pr, .int .i64 ba, .bool le, .slice a9 n.length c9] ∧ Own8 x W3.heap.size 5 (.slice a9 n.length c9) n
      | 15 => ∃ v9, v = .tuple #[v9, .int .i64 cc] ∧ Own8 x W3.heap.size 5 v9 (putAnsB er ver pr ba le n)
      | 16 => ∃ v9, v = .tuple #[v9, .int .i64 cc] ∧ Own8 x W3.heap.size 5 v9 (putAnsB er ver pr ba le n)
      | 17 => Own8 x W3.heap.size 5 v (putAnsB er ver pr ba le n)
      | 18 => v = .int .i64 cc
      | 19 => Own8 x W3.heap.size 5 v (putAnsB er ver pr ba le n)
      | 20 => v = .int .i64 cc
      | _ => True) (by kernel_rfl) (Grows.refl _) Grows.trans ?rstab ?rsteps ?rfin
  case rstab =>
    intro i v x y hg h
    match i with
    | 0 | 1 | 2 | 3 | 4 | 5 | 6 | 7 | 8 | 9 | 11 | 12 | 18 | 20 => exact h
    | 10 => exact (by obtain ⟨g9, e9, h9⟩ := h; exact ⟨g9, e9, h9.keep hg⟩)
    | 13 => exact Own8.keep h hg
    | 14 => exact (by obtain ⟨a9, c9, e9, h9⟩ := h; exact ⟨a9, c9, e9, h9.keep hg⟩)
    | 15 => exact (by obtain ⟨v9, e9, h9⟩ := h; exact ⟨v9, e9, h9.keep hg⟩)
    | 16 => exact (by obtain ⟨v9, e9, h9⟩ := h; exact ⟨v9, e9, h9.keep hg⟩)
    | 17 => exact Own8.keep h hg
    | 19 => exact Own8.keep h hg
    | n + 21 => trivial
  case rsteps =>
    refine ⟨?_, ?_, ?_, ?_, ?_, ?_, ?_, ?_, ?_, ?_, ?_, ?_, ?_, ?_, ?_, ?_, ?_, ?_, ?_, ?_, ?_, trivial⟩
    · intro a x hA
      have t4 := hA.at_ 4 (by first | rfl | kernel_rfl) rfl
      refine step_value (w' := x) (v := .pointer (some ⟨W1.heap.size, 0, none⟩)) ?_ (Grows.refl _) ?_
      · go_simp
      · rfl
    · intro a x hA
      have t36 : a.tmps[36]?.getD undef = .pointer (some ⟨W1.heap.size, 0, none⟩) := hA.dep_ ⟨0, .data⟩ (by simp) _ 36 rfl rfl
      have hBx := KP.out.keep hA.grown
      have hc0 := hBx.cell (o := 0) rfl
      have hc1 := hBx.cell (o := 1) rfl
      have hc2 := hBx.cell (o := 2) rfl
      have hc3 := hBx.cell (o := 3) rfl
      have hc4 := hBx.cell (o := 4) rfl
      have hc5 := hBx.cell (o := 5) rfl
      clear hBx
      refine step_value (w' := x) (v := .int .i64 er) ?_ (Grows.refl _) ?_
      · go_simp
      · rfl
    · intro a x hA
      have t4 := hA.at_ 4 (by first | rfl | kernel_rfl) rfl
      refine step_value (w' := x) (v := .pointer (some ⟨W1.heap.size, 1, none⟩)) ?_ (Grows.refl _) ?_
      · go_simp
      · rfl
    · intro a x hA
      have t38 : a.tmps[38]?.getD undef = .pointer (some ⟨W1.heap.size, 1, none⟩) := hA.dep_ ⟨2, .data⟩ (by simp) _ 38 rfl rfl
      have hBx := KP.out.keep hA.grown
      have hc0 := hBx.cell (o := 0) rfl
      have hc1 := hBx.cell (o := 1) rfl
      have hc2 := hBx.cell (o := 2) rfl
      have hc3 := hBx.cell (o := 3) rfl
      have hc4 := hBx.cell (o := 4) rfl
      have hc5 := hBx.cell (o := 5) rfl
      clear hBx
      refine step_value (w' := x) (v := .int .i64 ver) ?_ (Grows.refl _) ?_
      · go_simp
      · rfl
    · intro a x hA
      have t4 := hA.at_ 4 (by first | rfl | kernel_rfl) rfl
      refine step_value (w' := x) (v := .pointer (some ⟨W1.heap.size, 2, none⟩)) ?_ (Grows.refl _) ?_
      · go_simp
      · rfl
    · intro a x hA
      have t40 : a.tmps[40]?.getD undef = .pointer (some ⟨W1.heap.size, 2, none⟩) := hA.dep_ ⟨4, .data⟩ (by simp) _ 40 rfl rfl
      have hBx := KP.out.keep hA.grown
      have hc0 := hBx.cell (o := 0) rfl
      have hc1 := hBx.cell (o := 1) rfl
      have hc2 := hBx.cell (o := 2) rfl
      have hc3 := hBx.cell (o := 3) rfl
      have hc4 := hBx.cell (o := 4) rfl
      have hc5 := hBx.cell (o := 5) rfl
      clear hBx
      refine step_value (w' := x) (v := .int .i64 pr) ?_ (Grows.refl _) ?_
      · go_simp
      · rfl
    · intro a x hA
      have t4 := hA.at_ 4 (by first | rfl | kernel_rfl) rfl
      refine step_value (w' := x) (v := .pointer (some ⟨W1.heap.size, 3, none⟩)) ?_ (Grows.refl _) ?_
      · go_simp
      · rfl
    · intro a x hA
      have t42 : a.tmps[42]?.getD undef = .pointer (some ⟨W1.heap.size, 3, none⟩) := hA.dep_ ⟨6, .data⟩ (by simp) _ 42 rfl rfl
      have hBx := KP.out.keep hA.grown
      have hc0 := hBx.cell (o := 0) rfl
      have hc1 := hBx.cell (o := 1) rfl
      have hc2 := hBx.cell (o := 2) rfl
      have hc3 := hBx.cell (o := 3) rfl
      have hc4 := hBx.cell (o := 4) rfl
      have hc5 := hBx.cell (o := 5) rfl
      clear hBx
      refine step_value (w' := x) (v := .int .i64 ba) ?_ (Grows.refl _) ?_
      · go_simp
      · rfl
    · intro a x hA
      have t4 := hA.at_ 4 (by first | rfl | kernel_rfl) rfl
      refine step_value (w' := x) (v := .pointer (some ⟨W1.heap.size, 4, none⟩)) ?_ (Grows.refl _) ?_
      · go_simp
      · rfl
    · intro a x hA
      have t44 : a.tmps[44]?.getD undef = .pointer (some ⟨W1.heap.size, 4, none⟩) := hA.dep_ ⟨8, .data⟩ (by simp) _ 44 rfl rfl
      have hBx := KP.out.keep hA.grown
      have hc0 := hBx.cell (o := 0) rfl
      have hc1 := hBx.cell (o := 1) rfl
      have hc2 := hBx.cell (o := 2) rfl
      have hc3 := hBx.cell (o := 3) rfl
      have hc4 := hBx.cell (o := 4) rfl
      have hc5 := hBx.cell (o := 5) rfl
      clear hBx
      refine step_value (w' := x) (v := .bool le) ?_ (Grows.refl _) ?_
      · go_simp
      · rfl
    · intro a x hA
      have hsx : W3.heap.size ≤ x.heap.size := hA.grow.size
      refine step_value (w' := x.alloc (.cells #[] 5)) (v := .slice (some ⟨x.heap.size, 0, none⟩) 0 0) (by go_simp) (Grows.alloc _ _) ?_
      exact ⟨_, rfl, own8_mk hsx (Blk.new x _ _) rfl (Nat.le_refl _) (by simp [maxLen]) rfl (by simp)⟩
    · intro a x hA
      have t4 := hA.at_ 4 (by first | rfl | kernel_rfl) rfl
      refine step_value (w' := x) (v := .pointer (some ⟨W1.heap.size, 5, none⟩)) ?_ (Grows.refl _) ?_
      · go_simp
      · rfl
    · intro a x hA
      have t47 : a.tmps[47]?.getD undef = .pointer (some ⟨W1.heap.size, 5, none⟩) := hA.dep_ ⟨11, .data⟩ (by simp) _ 47 rfl rfl
      have hBx := KP.out.keep hA.grown
      have hc0 := hBx.cell (o := 0) rfl
      have hc1 := hBx.cell (o := 1) rfl
      have hc2 := hBx.cell (o := 2) rfl
      have hc3 := hBx.cell (o := 3) rfl
      have hc4 := hBx.cell (o := 4) rfl
      have hc5 := hBx.cell (o := 5) rfl
      clear hBx
      refine step_value (w' := x) (v := .slice pa n.length pc) ?_ (Grows.refl _) ?_
      · go_simp
      · rfl
    · intro a x hA
      have t46 : ∃ g, (a.tmps[46]?.getD undef) = .slice (some ⟨g, 0, none⟩) 0 0 ∧ Own8 x W3.heap.size 5 (.slice (some ⟨g, 0, none⟩) 0 0) [] := hA.dep_ ⟨10, .data⟩ (by simp) _ 46 rfl rfl
      have t48 : a.tmps[48]?.getD undef = .slice pa n.length pc := hA.dep_ ⟨12, .data⟩ (by simp) _ 48 rfl rfl
      obtain ⟨g1, e9, ho9⟩ := t46
      obtain ⟨i0, hi, hz0, hz1, hz2⟩ := info_parts info_u8
      have hsx : W3.heap.size ≤ x.heap.size := hA.grow.size
      have hvx := HPV.out.keep hA.grown
      obtain ⟨v', w', hr, q1, q2⟩ := run_append_empty (P := Tryz.prog) Tryz.underlying22 hi hz0 hz1 hz2 22 ho9 hvx (by omega) hsx
      refine step_value (w' := w') (v := v') (exec_append rfl (by
        have e1 : a.eval (.tmp 46) = .slice (some ⟨g1, 0, none⟩) 0 0 := by simp [go_sem, e9]
        have e2 : a.eval (.tmp 48) = .slice pa n.length pc := by simp [go_sem, t48]
        rw [e1, e2]; exact hr)) q2 ?_
      exact q1
    · intro a x hA
      have t37 : a.tmps[37]?.getD undef = .int .i64 er := hA.dep_ ⟨1, .data⟩ (by simp) _ 37 rfl rfl
      have t39 : a.tmps[39]?.getD undef = .int .i64 ver := hA.dep_ ⟨3, .data⟩ (by simp) _ 39 rfl rfl
      have t41 : a.tmps[41]?.getD undef = .int .i64 pr := hA.dep_ ⟨5, .data⟩ (by simp) _ 41 rfl rfl
      have t43 : a.tmps[43]?.getD undef = .int .i64 ba := hA.dep_ ⟨7, .data⟩ (by simp) _ 43 rfl rfl
      have t45 : a.tmps[45]?.getD undef = .bool le := hA.dep_ ⟨9, .data⟩ (by simp) _ 45 rfl rfl
      have t49 : Own8 x W3.heap.size 5 (a.tmps[49]?.getD undef) n := hA.dep_ ⟨13, .data⟩ (by simp) _ 49 rfl rfl
      obtain ⟨a9, c9, e9⟩ := t49.form
      rw [e9] at t49
      refine step_value (w' := x) (v := .agg #[.int .i64 er, .int .i64 ver, .int .i64 pr, .int .i64 ba, .bool le, .slice a9 n.length c9]) ?_ (Grows.refl _) ⟨a9, c9, rfl, t49⟩
      clear t49
      go_simp
    · intro a x hA
      have t50 : ∃ a9 c9, (a.tmps[50]?.getD undef) = .agg #[.int .i64 er, .int .i64 ver, .int .i64 pr, .int .i64 ba, .bool le, .slice a9 n.length c9] ∧ Own8 x W3.heap.size 5 (.slice a9 n.length c9) n := hA.dep_ ⟨14, .data⟩ (by simp) _ 50 rfl rfl
      obtain ⟨a9, c9, e9, ho9⟩ := t50
      have hs := hA.grow.size
      refine step_call (f := 12) (args := #[.agg #[.int .i64 er, .int .i64 ver, .int .i64 pr, .int .i64 ba, .bool le, .slice a9 n.length c9]]) (by clear ho9; go_simp) ((acc_PutAnswer er ver pr ba le _ n x ho9.bs).mono ?_)
      rw [HC.out]
      rintro e w' ⟨v9, rfl, ho, hb⟩
      exact ⟨_, rfl, hb, v9, rfl, ho.mono hs⟩
    · intro a x hA
      have t51 : ∃ v9, (a.tmps[51]?.getD undef) = .tuple #[v9, .int .i64 cc] ∧ Own8 x W3.heap.size 5 v9 (putAnsB er ver pr ba le n) := hA.dep_ ⟨15, .data⟩ (by simp) _ 51 rfl rfl
      obtain ⟨v9, e9, ho9⟩ := t51
      exact step_value (w' := x) (v := .tuple #[v9, .int .i64 cc]) (by clear ho9; go_simp) (Grows.refl _) ⟨v9, rfl, ho9⟩
    · intro a x hA
      have t35 : ∃ v9, (a.tmps[35]?.getD undef) = .tuple #[v9, .int .i64 cc] ∧ Own8 x W3.heap.size 5 v9 (putAnsB er ver pr ba le n) := hA.dep_ ⟨16, .data⟩ (by simp) _ 35 rfl rfl
      obtain ⟨v9, e9, ho9⟩ := t35
      exact step_value (w' := x) (v := v9) (by clear ho9; go_simp) (Grows.refl _) ho9
    · intro a x hA
      have t35 : ∃ v9, (a.tmps[35]?.getD undef) = .tuple #[v9, .int .i64 cc] ∧ Own8 x W3.heap.size 5 v9 (putAnsB er ver pr ba le n) := hA.dep_ ⟨16, .data⟩ (by simp) _ 35 rfl rfl
      have hBx := KP.out.keep hA.grown
      have hc0 := hBx.cell (o := 0) rfl
      have hc1 := hBx.cell (o := 1) rfl
      have hc2 := hBx.cell (o := 2) rfl
      have hc3 := hBx.cell (o := 3) rfl
      have hc4 := hBx.cell (o := 4) rfl
      have hc5 := hBx.cell (o := 5) rfl
      clear hBx
      obtain ⟨v9, e9, ho9⟩ := t35
      exact step_value (w' := x) (v := .int .i64 cc) (by clear ho9; go_simp) (Grows.refl _) rfl
    · intro a x hA
      have t52 : Own8 x W3.heap.size 5 (a.tmps[52]?.getD undef) (putAnsB er ver pr ba le n) := hA.dep_ ⟨17, .data⟩ (by simp) _ 52 rfl rfl
      exact step_value (w' := x) (v := a.tmps[52]?.getD undef) (by go_simp) (Grows.refl _) t52
    · intro a x hA
      have t53 : a.tmps[53]?.getD undef = .int .i64 cc := hA.dep_ ⟨18, .data⟩ (by simp) _ 53 rfl rfl
      refine step_value (w' := x) (v := .int .i64 cc) ?_ (Grows.refl _) ?_
      · go_simp
      · rfl
  case rfin =>
    intro y W' hg hV
    simp only [AllVals] at hV
    obtain ⟨_, _, _, _, _, _, _, _, _, _, _, _, _, _, _, _, _, _, _, u19, u20, _⟩ := hV
    simp only [putAll, Act.put, List.setIfInBounds_toArray, List.set_cons_zero, List.set_cons_succ]
    have b5 : Below W3.heap.size W3 W' := (below_of_drewN _ W3 1).trans hg
    rw [u20]
    clear u20
    have o13 := u19.bs
    obtain ⟨a13, c13, e13⟩ := o13.form
    rw [e13] at o13 ⊢
    have S13 := hid o13
    clear hg u19 o13 e13
    have KP := hid (KP.out.keep b5)
    have KR := hid (KR.out.keep b5)
    have HRV := hid (HRV.out.keep b5)
    have HPV := hid (HPV.out.keep b5)
    have HY := hid (HY.out.keep b5)
    have O7 := hid (O7.out.keep b5)
    have S9 := hid (S9.out.keep b5)
    have S11 := hid (S11.out.keep b5)
    have HB := hid (HB.out.trans (b5.mono HB.out.size))
    clear b5
    have x0 := KP.out.cell (o := 0) rfl
    have x1 := KP.out.cell (o := 1) rfl
    have x2 := KP.out.cell (o := 2) rfl
    have x3 := KP.out.cell (o := 3) rfl
    have x4 := KP.out.cell (o := 4) rfl
    have x5 := KP.out.cell (o := 5) rfl
    go_wp2_with fail
    refine (ref8_PutAnswer _ _ _ _ _ _ n W' HPV.out hn).mono ?_
    rw [HC.out]
    rintro e We ⟨v15, rfl, o, bb⟩
    obtain ⟨a15, c15, e15⟩ := o.form
    subst e15
    have S15 := hid o.bs
    clear o
    clear x0 x1 x2 x3 x4 x5
    have KP := hid (KP.out.keep bb)
    have KR := hid (KR.out.keep bb)
    have HRV := hid (HRV.out.keep bb)
    have HPV := hid (HPV.out.keep bb)
    have HY := hid (HY.out.keep bb)
    have O7 := hid (O7.out.keep bb)
    have S9 := hid (S9.out.keep bb)
    have S11 := hid (S11.out.keep bb)
    have S13 := hid (S13.out.keep bb)
    have HB := hid (HB.out.trans (bb.mono HB.out.size))
    clear bb
    go_wp2_with fail
    refine (law_Lent _ b We HY.out hbl).mono ?_
    rintro e Wf ⟨gl, cl, rfl, o, bb⟩
    have L17 := hid o.bs
    clear o
    have KP := hid (KP.out.keep bb)
    have KR := hid (KR.out.keep bb)
    have HRV := hid (HRV.out.keep bb)
    have HPV := hid (HPV.out.keep bb)
    have HY := hid (HY.out.keep bb)
    have O7 := hid (O7.out.keep bb)
    have S9 := hid (S9.out.keep bb)
    have S11 := hid (S11.out.keep bb)
    have S13 := hid (S13.out.keep bb)
    have S15 := hid (S15.out.keep bb)
    have HB := hid (HB.out.trans (bb.mono HB.out.size))
    clear bb
    have S17 := hid (show Bs Wf (.slice (some ⟨gl, 0, none⟩) b.length cl) b by
      have := L17.out.slice (lo := 0) (hi := b.length) (by omega) (by omega)
      simpa [sla, Addr.add] using this)
    obtain ⟨k9, y9, r9, b9, d9, q9, hqv⟩ : ∃ k y r q d c, askV b = (k, y, r, q, d, c) := ⟨_, _, _, _, _, _, rfl⟩
    have HQ := hid hqv
    obtain ⟨e8, t8, p8, f8, s8, d8, q8, hqw⟩ : ∃ e v p f s d c, ansV b = (e, v, p, f, s, d, c) := ⟨_, _, _, _, _, _, _, rfl⟩
    have HP := hid hqw
    clear hqv hqw
    go_wp2_with fail
    refine (acc_GetAsk _ b Wf S17.out hbl).mono ?_
    intro e Wg hpost
    obtain ⟨ve, rfl, oe, bb⟩ := AskPost.vals hpost HQ.out
    clear hpost
    obtain ⟨a18, c18, rfl⟩ := oe.form
    have S18 := hid oe.bs
    clear oe
    have KP := hid (KP.out.keep bb)
    have KR := hid (KR.out.keep bb)
    have HRV := hid (HRV.out.keep bb)
    have HPV := hid (HPV.out.keep bb)
    have HY := hid (HY.out.keep bb)
    have O7 := hid (O7.out.keep bb)
    have S9 := hid (S9.out.keep bb)
    have S11 := hid (S11.out.keep bb)
    have S13 := hid (S13.out.keep bb)
    have S15 := hid (S15.out.keep bb)
    have L17 := hid (L17.out.keep bb)
    have S17 := hid (S17.out.keep bb)
    have HB := hid (HB.out.trans (bb.mono HB.out.size))
    clear bb
    obtain ⟨Wh, hW⟩ : ∃ Wx, Wg.alloc (.cells #[.int .i64 k9, .int .i64 y9, .int .i64 r9, .int .i64 b9, .slice a18 d9.length c18] 30) = Wx := ⟨_, rfl⟩
    have ba9 : Below Wg.heap.size Wg Wh := by rw [← hW]; exact (Below.refl _ Wg).alloc (Nat.le_refl _) _
    have K18 : Hid (Blk Wh Wg.heap.size #[.int .i64 k9, .int .i64 y9, .int .i64 r9, .int .i64 b9, .slice a18 d9.length c18] 30) := hid (by rw [← hW]; exact Blk.new Wg _ _)
    have KP := hid (KP.out.keep ba9)
    have KR := hid (KR.out.keep ba9)
    have HRV := hid (HRV.out.keep ba9)
    have HPV := hid (HPV.out.keep ba9)
    have HY := hid (HY.out.keep ba9)
    have O7 := hid (O7.out.keep ba9)
    have S9 := hid (S9.out.keep ba9)
    have S11 := hid (S11.out.keep ba9)
    have S13 := hid (S13.out.keep ba9)
    have S15 := hid (S15.out.keep ba9)
    have L17 := hid (L17.out.keep ba9)
    have S17 := hid (S17.out.keep ba9)
    have S18 := hid (S18.out.keep ba9)
    have HB := hid (HB.out.trans (ba9.mono HB.out.size))
    clear ba9
    go_wp2_with fail
    clear hW
    refine (ref8_GetAsk _ b Wh HY.out hbl).mono ?_
    intro e Wi hpost
    obtain ⟨ve, rfl, oe, bb⟩ := AskPost.vals hpost HQ.out
    clear hpost
    obtain ⟨a20, c20, rfl⟩ := oe.form
    have S20 := hid oe.bs
    clear oe
    have KP := hid (KP.out.keep bb)
    have KR := hid (KR.out.keep bb)
    have HRV := hid (HRV.out.keep bb)
    have HPV := hid (HPV.out.keep bb)
    have HY := hid (HY.out.keep bb)
    have O7 := hid (O7.out.keep bb)
    have S9 := hid (S9.out.keep bb)
    have S11 := hid (S11.out.keep bb)
    have S13 := hid (S13.out.keep bb)
    have S15 := hid (S15.out.keep bb)
    have L17 := hid (L17.out.keep bb)
    have S17 := hid (S17.out.keep bb)
    have S18 := hid (S18.out.keep bb)
    have K18 := hid (K18.out.keep bb)
    have HB := hid (HB.out.trans (bb.mono HB.out.size))
    clear bb
    obtain ⟨Wj, hW⟩ : ∃ Wx, Wi.alloc (.cells #[.int .i64 k9, .int .i64 y9, .int .i64 r9, .int .i64 b9, .slice a20 d9.length c20] 24) = Wx := ⟨_, rfl⟩
    have ba9 : Below Wi.heap.size Wi Wj := by rw [← hW]; exact (Below.refl _ Wi).alloc (Nat.le_refl _) _
    have K20 : Hid (Blk Wj Wi.heap.size #[.int .i64 k9, .int .i64 y9, .int .i64 r9, .int .i64 b9, .slice a20 d9.length c20] 24) := hid (by rw [← hW]; exact Blk.new Wi _ _)
    have KP := hid (KP.out.keep ba9)
    have KR := hid (KR.out.keep ba9)
    have HRV := hid (HRV.out.keep ba9)
    have HPV := hid (HPV.out.keep ba9)
    have HY := hid (HY.out.keep ba9)
    have O7 := hid (O7.out.keep ba9)
    have S9 := hid (S9.out.keep ba9)
    have S11 := hid (S11.out.keep ba9)
    have S13 := hid (S13.out.keep ba9)
    have S15 := hid (S15.out.keep ba9)
    have L17 := hid (L17.out.keep ba9)
    have S17 := hid (S17.out.keep ba9)
    have S18 := hid (S18.out.keep ba9)
    have K18 := hid (K18.out.keep ba9)
    have S20 := hid (S20.out.keep ba9)
    have HB := hid (HB.out.trans (ba9.mono HB.out.size))
    clear ba9
    go_wp2_with fail
    clear hW
    refine (acc_GetAnswer _ b Wj S17.out hbl).mono ?_
    intro e Wk hpost
    obtain ⟨ve, rfl, oe, bb⟩ := AnsPost.vals hpost HP.out
    clear hpost
    obtain ⟨a22, c22, rfl⟩ := oe.form
    have S22 := hid oe.bs
    clear oe
    have KP := hid (KP.out.keep bb)
    have KR := hid (KR.out.keep bb)
    have HRV := hid (HRV.out.keep bb)
    have HPV := hid (HPV.out.keep bb)
    have HY := hid (HY.out.keep bb)
    have O7 := hid (O7.out.keep bb)
    have S9 := hid (S9.out.keep bb)
    have S11 := hid (S11.out.keep bb)
    have S13 := hid (S13.out.keep bb)
    have S15 := hid (S15.out.keep bb)
    have L17 := hid (L17.out.keep bb)
    have S17 := hid (S17.out.keep bb)
    have S18 := hid (S18.out.keep bb)
    have K18 := hid (K18.out.keep bb)
    have S20 := hid (S20.out.keep bb)
    have K20 := hid (K20.out.keep bb)
    have HB := hid (HB.out.trans (bb.mono HB.out.size))
    clear bb
    obtain ⟨Wl, hW⟩ : ∃ Wx, Wk.alloc (.cells #[.int .i64 e8, .int .i64 t8, .int .i64 p8, .int .i64 f8, .bool s8, .slice a22 d8.length c22] 36) = Wx := ⟨_, rfl⟩
    have ba9 : Below Wk.heap.size Wk Wl := by rw [← hW]; exact (Below.refl _ Wk).alloc (Nat.le_refl _) _
    have K22 : Hid (Blk Wl Wk.heap.size #[.int .i64 e8, .int .i64 t8, .int .i64 p8, .int .i64 f8, .bool s8, .slice a22 d8.length c22] 36) := hid (by rw [← hW]; exact Blk.new Wk _ _)
    have KP := hid (KP.out.keep ba9)
    have KR := hid (KR.out.keep ba9)
    have HRV := hid (HRV.out.keep ba9)
    have HPV := hid (HPV.out.keep ba9)
    have HY := hid (HY.out.keep ba9)
    have O7 := hid (O7.out.keep ba9)
    have S9 := hid (S9.out.keep ba9)
    have S11 := hid (S11.out.keep ba9)
    have S13 := hid (S13.out.keep ba9)
    have S15 := hid (S15.out.keep ba9)
    have L17 := hid (L17.out.keep ba9)
    have S17 := hid (S17.out.keep ba9)
    have S18 := hid (S18.out.keep ba9)
    have K18 := hid (K18.out.keep ba9)
    have S20 := hid (S20.out.keep ba9)
    have K20 := hid (K20.out.keep ba9)
    have S22 := hid (S22.out.keep ba9)
    have HB := hid (HB.out.trans (ba9.mono HB.out.size))
    clear ba9
    go_wp2_with fail
    clear hW
    refine (ref8_GetAnswer _ b Wl HY.out hbl).mono ?_
    intro e Wm hpost
    obtain ⟨ve, rfl, oe, bb⟩ := AnsPost.vals hpost HP.out
    clear hpost
    obtain ⟨a24, c24, rfl⟩ := oe.form
    have S24 := hid oe.bs
    clear oe
    have KP := hid (KP.out.keep bb)
    have KR := hid (KR.out.keep bb)
    have HRV := hid (HRV.out.keep bb)
    have HPV := hid (HPV.out.keep bb)
    have HY := hid (HY.out.keep bb)
    have O7 := hid (O7.out.keep bb)
    have S9 := hid (S9.out.keep bb)
    have S11 := hid (S11.out.keep bb)
    have S13 := hid (S13.out.keep bb)
    have S15 := hid (S15.out.keep bb)
    have L17 := hid (L17.out.keep bb)
    have S17 := hid (S17.out.keep bb)
    have S18 := hid (S18.out.keep bb)
    have K18 := hid (K18.out.keep bb)
    have S20 := hid (S20.out.keep bb)
    have K20 := hid (K20.out.keep bb)
    have S22 := hid (S22.out.keep bb)
    have K22 := hid (K22.out.keep bb)
    have HB := hid (HB.out.trans (bb.mono HB.out.size))
    clear bb
    obtain ⟨Wn, hW⟩ : ∃ Wx, Wm.alloc (.cells #[.int .i64 e8, .int .i64 t8, .int .i64 p8, .int .i64 f8, .bool s8, .slice a24 d8.length c24] 26) = Wx := ⟨_, rfl⟩
    have ba9 : Below Wm.heap.size Wm Wn := by rw [← hW]; exact (Below.refl _ Wm).alloc (Nat.le_refl _) _
    have K24 : Hid (Blk Wn Wm.heap.size #[.int .i64 e8, .int .i64 t8, .int .i64 p8, .int .i64 f8, .bool s8, .slice a24 d8.length c24] 26) := hid (by rw [← hW]; exact Blk.new Wm _ _)
    have KP := hid (KP.out.keep ba9)
    have KR := hid (KR.out.keep ba9)
    have HRV := hid (HRV.out.keep ba9)
    have HPV := hid (HPV.out.keep ba9)
    have HY := hid (HY.out.keep ba9)
    have O7 := hid (O7.out.keep ba9)
    have S9 := hid (S9.out.keep ba9)
    have S11 := hid (S11.out.keep ba9)
    have S13 := hid (S13.out.keep ba9)
    have S15 := hid (S15.out.keep ba9)
    have L17 := hid (L17.out.keep ba9)
    have S17 := hid (S17.out.keep ba9)
    have S18 := hid (S18.out.keep ba9)
    have K18 := hid (K18.out.keep ba9)
    have S20 := hid (S20.out.keep ba9)
    have K20 := hid (K20.out.keep ba9)
    have S22 := hid (S22.out.keep ba9)
    have K22 := hid (K22.out.keep ba9)
    have S24 := hid (S24.out.keep ba9)
    have HB := hid (HB.out.trans (ba9.mono HB.out.size))
    clear ba9
    have hcv0 := run_bytes_string (P := Tryz.prog) Tryz.underlying22 Tryz.underlying5 Tryz.underlying9 S9.out
    have hcv1 := run_bytes_string (P := Tryz.prog) Tryz.underlying22 Tryz.underlying5 Tryz.underlying9 S11.out
    have hcv2 := run_bytes_string (P := Tryz.prog) Tryz.underlying22 Tryz.underlying5 Tryz.underlying9 S13.out
    have hcv3 := run_bytes_string (P := Tryz.prog) Tryz.underlying22 Tryz.underlying5 Tryz.underlying9 S15.out
    go_wp2_with fail
    clear hW
    refine (law8_num _ _).mono ?_
    rintro e Wx ⟨rfl, hw⟩
    rw [hw]
    clear hw Wx
    go_wp2_with fail
    refine (law8_num _ _).mono ?_
    rintro e Wx ⟨rfl, hw⟩
    rw [hw]
    clear hw Wx
    clear hcv0 hcv1 hcv2 hcv3
    have x0 := K18.out.cell (o := 0) rfl
    have x1 := K18.out.cell (o := 1) rfl
    have x2 := K18.out.cell (o := 2) rfl
    have x3 := K18.out.cell (o := 3) rfl
    have x4 := K18.out.cell (o := 4) rfl
    have y0 := K20.out.cell (o := 0) rfl
    have y1 := K20.out.cell (o := 1) rfl
    have y2 := K20.out.cell (o := 2) rfl
    have y3 := K20.out.cell (o := 3) rfl
    have y4 := K20.out.cell (o := 4) rfl
    go_wp2_with fail
    clear x0 x1 x2 x3 x4
    clear y0 y1 y2 y3 y4
    refine (law8_sameAsk _ _ _ _ _ _ d9 Wn (.inl S18.out) (.inl S20.out)).mono ?_
    rintro e Wo ⟨rfl, bb⟩
    have KP := hid (KP.out.keep bb)
    have KR := hid (KR.out.keep bb)
    have HRV := hid (HRV.out.keep bb)
    have HPV := hid (HPV.out.keep bb)
    have HY := hid (HY.out.keep bb)
    have O7 := hid (O7.out.keep bb)
    have S9 := hid (S9.out.keep bb)
    have S11 := hid (S11.out.keep bb)
    have S13 := hid (S13.out.keep bb)
    have S15 := hid (S15.out.keep bb)
    have L17 := hid (L17.out.keep bb)
    have S17 := hid (S17.out.keep bb)
    have S18 := hid (S18.out.keep bb)
    have K18 := hid (K18.out.keep bb)
    have S20 := hid (S20.out.keep bb)
    have K20 := hid (K20.out.keep bb)
    have S22 := hid (S22.out.keep bb)
    have K22 := hid (K22.out.keep bb)
    have S24 := hid (S24.out.keep bb)
    have K24 := hid (K24.out.keep bb)
    have HB := hid (HB.out.trans (bb.mono HB.out.size))
    clear bb
    go_wp2_with fail
    refine (law8_num _ _).mono ?_
    rintro e Wx ⟨rfl, hw⟩
    rw [hw]
    clear hw Wx
    have x0 := K22.out.cell (o := 0) rfl
    have x1 := K22.out.cell (o := 1) rfl
    have x2 := K22.out.cell (o := 2) rfl
    have x3 := K22.out.cell (o := 3) rfl
    have x4 := K22.out.cell (o := 4) rfl
    have x5 := K22.out.cell (o := 5) rfl
    have y0 := K24.out.cell (o := 0) rfl
    have y1 := K24.out.cell (o := 1) rfl
    have y2 := K24.out.cell (o := 2) rfl
    have y3 := K24.out.cell (o := 3) rfl
    have y4 := K24.out.cell (o := 4) rfl
    have y5 := K24.out.cell (o := 5) rfl
    go_wp2_with fail
    clear x0 x1 x2 x3 x4 x5
    clear y0 y1 y2 y3 y4 y5
    refine (law8_sameAnswer _ _ _ _ _ _ _ d8 Wo (.inl S22.out) (.inl S24.out)).mono ?_
    rintro e Wr ⟨rfl, bb⟩
    have KP := hid (KP.out.keep bb)
    have KR := hid (KR.out.keep bb)
    have HRV := hid (HRV.out.keep bb)
    have HPV := hid (HPV.out.keep bb)
    have HY := hid (HY.out.keep bb)
    have O7 := hid (O7.out.keep bb)
    have S9 := hid (S9.out.keep bb)
    have S11 := hid (S11.out.keep bb)
    have S13 := hid (S13.out.keep bb)
    have S15 := hid (S15.out.keep bb)
    have L17 := hid (L17.out.keep bb)
    have S17 := hid (S17.out.keep bb)
    have S18 := hid (S18.out.keep bb)
    have K18 := hid (K18.out.keep bb)
    have S20 := hid (S20.out.keep bb)
    have K20 := hid (K20.out.keep bb)
    have S22 := hid (S22.out.keep bb)
    have K22 := hid (K22.out.keep bb)
    have S24 := hid (S24.out.keep bb)
    have K24 := hid (K24.out.keep bb)
    have HB := hid (HB.out.trans (bb.mono HB.out.size))
    clear bb
    go_wp2_with fail
    refine (law8_num _ _).mono ?_
    rintro e Wx ⟨rfl, hw⟩
    rw [hw]
    clear hw Wx
    go_wp2_with fail
    refine (law_Stays gl cl _ b Wr hbl L17.out HY.out).mono ?_
    rintro e Ws ⟨rfl, bb⟩
    have KP := hid (KP.out.keep bb)
    have KR := hid (KR.out.keep bb)
    have HRV := hid (HRV.out.keep bb)
    have HPV := hid (HPV.out.keep bb)
    have HY := hid (HY.out.keep bb)
    have O7 := hid (O7.out.keep bb)
    have S9 := hid (S9.out.keep bb)
    have S11 := hid (S11.out.keep bb)
    have S13 := hid (S13.out.keep bb)
    have S15 := hid (S15.out.keep bb)
    have L17 := hid (L17.out.keep bb)
    have S17 := hid (S17.out.keep bb)
    have S18 := hid (S18.out.keep bb)
    have K18 := hid (K18.out.keep bb)
    have S20 := hid (S20.out.keep bb)
    have K20 := hid (K20.out.keep bb)
    have S22 := hid (S22.out.keep bb)
    have K22 := hid (K22.out.keep bb)
    have S24 := hid (S24.out.keep bb)
    have K24 := hid (K24.out.keep bb)
    have HB := hid (HB.out.trans (bb.mono HB.out.size))
    clear bb
    go_wp2_with fail
    refine (law8_knows _).mono ?_
    rintro e Wt ⟨rfl, bb⟩
    have KP := hid (KP.out.keep bb)
    have KR := hid (KR.out.keep bb)
    have HRV := hid (HRV.out.keep bb)
    have HPV := hid (HPV.out.keep bb)
    have HY := hid (HY.out.keep bb)
    have O7 := hid (O7.out.keep bb)
    have S9 := hid (S9.out.keep bb)
    have S11 := hid (S11.out.keep bb)
    have S13 := hid (S13.out.keep bb)
    have S15 := hid (S15.out.keep bb)
    have L17 := hid (L17.out.keep bb)
    have S17 := hid (S17.out.keep bb)
    have S18 := hid (S18.out.keep bb)
    have K18 := hid (K18.out.keep bb)
    have S20 := hid (S20.out.keep bb)
    have K20 := hid (K20.out.keep bb)
    have S22 := hid (S22.out.keep bb)
    have K22 := hid (K22.out.keep bb)
    have S24 := hid (S24.out.keep bb)
    have K24 := hid (K24.out.keep bb)
    have HB := hid (HB.out.trans (bb.mono HB.out.size))
    clear bb
    go_wp2_with fail
    go_ret
    exact ⟨rfl, HB.out⟩
end Go.Proofs.YtnbeagcmfcdklaaGreat
