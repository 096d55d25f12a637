import Derived.Test.YtbofcocfcmlcaaaMGen
import Derived.Test.YtbofcocfcmlcaaaMLKnow
import Derived.Test.YtbofcocfcmlcaaaMWriteB
/-! gazettelaw05.Request. -/
namespace Go.Proofs.Ytbofcocfcmlcaaa
open Go.RowKit

set_option maxRecDepth 100000 in
set_option maxHeartbeats 1600000 in
theorem law_Request (k lo po : Int) (v : Value) (m : List UInt8) (W : World) (hv : BsW W v m) (hm : m.length ≤ 140737488355328) :
    Calls Try.prog 22 #[.agg #[.int .i64 k, .int .i64 lo, .int .i64 po, v]] W fun e w' => ∃ v', e = .returned (.agg #[.int .i64 k, .int .i64 lo, .int .i64 po, v']) ∧ Own8 w' W.heap.size 5 v' m ∧ Below W.heap.size W w' := by
  obtain ⟨av, cv, rfl⟩ := hv.form
  obtain ⟨W1, hW1⟩ : ∃ W1, W.alloc (.cells #[.int .i64 k, .int .i64 lo, .int .i64 po, .slice av m.length cv] 54) = W1 := ⟨_, rfl⟩
  have b1 : Below W.heap.size W W1 := by rw [← hW1]; exact (Below.refl _ W).alloc (Nat.le_refl _) _
  have k1 : Blk W1 W.heap.size #[.int .i64 k, .int .i64 lo, .int .i64 po, .slice av m.length cv] 54 := by rw [← hW1]; exact Blk.new W _ _
  have hs1 : W1.heap.size = W.heap.size + 1 := by rw [← hW1]; simp
  have b2 : Below W1.heap.size W1 (W1.alloc (.cells #[.int .i64 0, .int .i64 0, .int .i64 0, .slice none 0 0] 57)) := (Below.refl _ W1).alloc (Nat.le_refl _) _
  have k2 := Blk.new' W1 (W.heap.size + 1) hs1.symm #[.int .i64 0, .int .i64 0, .int .i64 0, .slice none 0 0] 57
  have hv2 := hv.keep (b1.trans (b2.mono b1.size))
  have k12 := k1.keep b2
  have b12 := b1.trans (b2.mono b1.size)
  go_enter Try.func22, Try.ntmps22
  go_wp2_with fail
  have hs2 : (W1.alloc (.cells #[.int .i64 0, .int .i64 0, .int .i64 0, .slice none 0 0] 57)).heap.size = W.heap.size + 2 := by simp [hs1]
  generalize W1.alloc (.cells #[.int .i64 0, .int .i64 0, .int .i64 0, .slice none 0 0] 57) = W2 at *
  have bd : Below W2.heap.size W2 W2.drew := (Below.refl _ W2).drew
  have K1 := hid k12
  have K2 := hid k2
  have HV := hid hv2
  have HB := hid (And.intro b12 hs2)
  clear hW1 b1 k1 hs1 b2 k2 hv2 k12 b12 hv bd
  refine wp_region_tail 11 rfl Grows (fun i v x => match i with
      | 0 => v = .pointer (some ⟨W.heap.size, 0, none⟩)
      | 1 => v = .int .i64 k
      | 2 => v = .pointer (some ⟨W.heap.size, 1, none⟩)
      | 3 => v = .int .i64 lo
      | 4 => v = .pointer (some ⟨W.heap.size, 2, none⟩)
      | 5 => v = .int .i64 po
      | 6 => ∃ g, v = .slice (some ⟨g, 0, none⟩) 0 0 ∧ Own8 x W.heap.size 5 (.slice (some ⟨g, 0, none⟩) 0 0) []
      | 7 => v = .pointer (some ⟨W.heap.size, 3, none⟩)
      | 8 => v = .slice av m.length cv
      | 9 => Own8 x W.heap.size 5 v m
      | 10 => ∃ v9, v = .agg #[.int .i64 k, .int .i64 lo, .int .i64 po, v9] ∧ Own8 x W.heap.size 5 v9 m
      | _ => True) (by kernel_rfl) (Grows.refl _) Grows.trans ?rstab ?rsteps ?rfin
  case rstab =>
    intro i v x y hg h
    match i with
    | 0 | 1 | 2 | 3 | 4 | 5 | 7 | 8 => exact h
    | 6 => exact (by obtain ⟨g9, e9, h9⟩ := h; exact ⟨g9, e9, h9.keep hg⟩)
    | 9 => exact Own8.keep h hg
    | 10 => exact (by obtain ⟨v9, e9, h9⟩ := h; exact ⟨v9, e9, h9.keep hg⟩)
    | n + 11 => trivial
  case rsteps =>
    simp only [List.take_succ_cons, List.take_zero]
    refine ⟨?_, ?_, ?_, ?_, ?_, ?_, ?_, ?_, ?_, ?_, ?_, trivial⟩
    · intro a x hA
      have t1 := hA.at_ 1 (by rfl) rfl
      refine step_value (w' := x) (v := .pointer (some ⟨W.heap.size, 0, none⟩)) ?_ (Grows.refl _) ?_
      · go_simp
      · rfl
    · intro a x hA
      have t3 : a.tmps[3]?.getD undef = .pointer (some ⟨W.heap.size, 0, none⟩) := hA.dep_ ⟨0, .data⟩ (by simp) _ 3 rfl rfl
      have hBx := K1.out.keep hA.grown
      have hc0 := hBx.cell (o := 0) rfl
      have hc1 := hBx.cell (o := 1) rfl
      have hc2 := hBx.cell (o := 2) rfl
      have hc3 := hBx.cell (o := 3) rfl
      clear hBx
      refine step_value (w' := x) (v := .int .i64 k) ?_ (Grows.refl _) ?_
      · go_simp
      · rfl
    · intro a x hA
      have t1 := hA.at_ 1 (by rfl) rfl
      refine step_value (w' := x) (v := .pointer (some ⟨W.heap.size, 1, none⟩)) ?_ (Grows.refl _) ?_
      · go_simp
      · rfl
    · intro a x hA
      have t5 : a.tmps[5]?.getD undef = .pointer (some ⟨W.heap.size, 1, none⟩) := hA.dep_ ⟨2, .data⟩ (by simp) _ 5 rfl rfl
      have hBx := K1.out.keep hA.grown
      have hc0 := hBx.cell (o := 0) rfl
      have hc1 := hBx.cell (o := 1) rfl
      have hc2 := hBx.cell (o := 2) rfl
      have hc3 := hBx.cell (o := 3) rfl
      clear hBx
      refine step_value (w' := x) (v := .int .i64 lo) ?_ (Grows.refl _) ?_
      · go_simp
      · rfl
    · intro a x hA
      have t1 := hA.at_ 1 (by rfl) rfl
      refine step_value (w' := x) (v := .pointer (some ⟨W.heap.size, 2, none⟩)) ?_ (Grows.refl _) ?_
      · go_simp
      · rfl
    · intro a x hA
      have t7 : a.tmps[7]?.getD undef = .pointer (some ⟨W.heap.size, 2, none⟩) := hA.dep_ ⟨4, .data⟩ (by simp) _ 7 rfl rfl
      have hBx := K1.out.keep hA.grown
      have hc0 := hBx.cell (o := 0) rfl
      have hc1 := hBx.cell (o := 1) rfl
      have hc2 := hBx.cell (o := 2) rfl
      have hc3 := hBx.cell (o := 3) rfl
      clear hBx
      refine step_value (w' := x) (v := .int .i64 po) ?_ (Grows.refl _) ?_
      · go_simp
      · rfl
    · intro a x hA
      have hsx : W.heap.size ≤ x.heap.size := Nat.le_trans HB.out.1.size hA.grow.size
      refine step_value (w' := x.alloc (.cells #[] 5)) (v := .slice (some ⟨x.heap.size, 0, none⟩) 0 0) (by go_simp) (Grows.alloc _ _) ?_
      exact ⟨_, rfl, own8_mk hsx (Blk.new x _ _) rfl (Nat.le_refl _) (by simp [maxLen]) rfl (by simp)⟩
    · intro a x hA
      have t1 := hA.at_ 1 (by rfl) rfl
      refine step_value (w' := x) (v := .pointer (some ⟨W.heap.size, 3, none⟩)) ?_ (Grows.refl _) ?_
      · go_simp
      · rfl
    · intro a x hA
      have t10 : a.tmps[10]?.getD undef = .pointer (some ⟨W.heap.size, 3, none⟩) := hA.dep_ ⟨7, .data⟩ (by simp) _ 10 rfl rfl
      have hBx := K1.out.keep hA.grown
      have hc0 := hBx.cell (o := 0) rfl
      have hc1 := hBx.cell (o := 1) rfl
      have hc2 := hBx.cell (o := 2) rfl
      have hc3 := hBx.cell (o := 3) rfl
      clear hBx
      refine step_value (w' := x) (v := .slice av m.length cv) ?_ (Grows.refl _) ?_
      · go_simp
      · rfl
    · intro a x hA
      have t9 : ∃ g, (a.tmps[9]?.getD undef) = .slice (some ⟨g, 0, none⟩) 0 0 ∧ Own8 x W.heap.size 5 (.slice (some ⟨g, 0, none⟩) 0 0) [] := hA.dep_ ⟨6, .data⟩ (by simp) _ 9 rfl rfl
      have t11 : a.tmps[11]?.getD undef = .slice av m.length cv := hA.dep_ ⟨8, .data⟩ (by simp) _ 11 rfl rfl
      obtain ⟨g, e9, ho9⟩ := t9
      obtain ⟨i0, hi, hz0, hz1, hz2⟩ := info_parts info_u8
      have hsx : W.heap.size ≤ x.heap.size := Nat.le_trans HB.out.1.size hA.grow.size
      have hvx := HV.out.keep hA.grown
      obtain ⟨v', w', hr, q1, q2⟩ := run_append_empty (P := Try.prog) Try.underlying34 hi hz0 hz1 hz2 34 ho9 hvx hm hsx
      refine step_value (w' := w') (v := v') (exec_append rfl (by
        have e1 : a.eval (.tmp 9) = .slice (some ⟨g, 0, none⟩) 0 0 := by simp [go_sem, e9]
        have e2 : a.eval (.tmp 11) = .slice av m.length cv := by simp [go_sem, t11]
        rw [e1, e2]; exact hr)) q2 ?_
      exact q1
    · intro a x hA
      have t4 : a.tmps[4]?.getD undef = .int .i64 k := hA.dep_ ⟨1, .data⟩ (by simp) _ 4 rfl rfl
      have t6 : a.tmps[6]?.getD undef = .int .i64 lo := hA.dep_ ⟨3, .data⟩ (by simp) _ 6 rfl rfl
      have t8 : a.tmps[8]?.getD undef = .int .i64 po := hA.dep_ ⟨5, .data⟩ (by simp) _ 8 rfl rfl
      have t12 : Own8 x W.heap.size 5 (a.tmps[12]?.getD undef) m := hA.dep_ ⟨9, .data⟩ (by simp) _ 12 rfl rfl
      generalize hq : a.tmps[12]?.getD undef = q9 at t12
      obtain ⟨a9, c9, rfl⟩ := t12.form
      refine step_value (w' := x) (v := .agg #[.int .i64 k, .int .i64 lo, .int .i64 po, .slice a9 m.length c9]) ?_ (Grows.refl _) ?_
      · go_simp
      · exact ⟨_, rfl, t12⟩
  case rfin =>
    intro y W' hg hV
    simp only [List.take_succ_cons, List.take_zero, AllVals] at hV
    obtain ⟨_, _, _, _, _, _, _, _, _, _, u10, _⟩ := hV
    simp only [List.take_succ_cons, List.take_zero, List.drop_succ_cons, List.drop_zero, putAll, Act.put, List.setIfInBounds_toArray, List.set_cons_zero, List.set_cons_succ]
    obtain ⟨v9, e9, o9⟩ := u10
    rw [e9]
    clear e9
    obtain ⟨a9, c9, rfl⟩ := o9.form
    have bdW : Below W2.heap.size W2 W' := (below_of_drewN _ W2 1).trans hg
    have kR6 := K2.out.keep bdW
    have b6W : Below W.heap.size W W' := HB.out.1.trans (bdW.mono HB.out.1.size)
    have r0 := kR6.cell (o := 0) rfl
    have f0 := kR6.free 0
    have r1 := kR6.cell (o := 1) rfl
    have f1 := kR6.free 1
    have r2 := kR6.cell (o := 2) rfl
    have f2 := kR6.free 2
    have r3 := kR6.cell (o := 3) rfl
    have f3 := kR6.free 3
    obtain ⟨W7, hW7⟩ : ∃ W7, (((W'.setCell ⟨W.heap.size + 1, 0, none⟩ (.int .i64 k)).setCell ⟨W.heap.size + 1, 1, none⟩ (.int .i64 lo)).setCell ⟨W.heap.size + 1, 2, none⟩ (.int .i64 po)).setCell ⟨W.heap.size + 1, 3, none⟩ (.slice a9 m.length c9) = W7 := ⟨_, rfl⟩
    have k7 := ((((kR6.set (o := 0) (.int .i64 k)).set (o := 1) (.int .i64 lo)).set (o := 2) (.int .i64 po)).set (o := 3) (.slice a9 m.length c9))
    rw [hW7] at k7
    simp only [List.setIfInBounds_toArray, List.set_cons_zero, List.set_cons_succ] at k7
    have x7 : Ext (fun b => b = W.heap.size + 1) W' W7 := by rw [← hW7]; exact ((((Ext.refl (fun b => b = W.heap.size + 1) W').setCell (.inl rfl) _).setCell (.inl rfl) _).setCell (.inl rfl) _).setCell (.inl rfl) _
    have o7 := own_set W' W7 (W.heap.size + 1) _ o9 kR6 x7 (by decide)
    have b7 : Below W.heap.size W W7 := b6W.trans (x7.belowOf b6W.size (fun b hb e => by omega))
    have HH := hid (And.intro k7 (And.intro o7 b7))
    have HW7 := hid hW7
    clear k7 o7 b7 x7 o9 kR6 b6W hW7 bdW hg
    go_wp2_with fail
    rw [HW7.out]
    have hld := run_loadVar_row (P := Try.prog) W7 (W.heap.size + 1) 57 57 _ (0, 0) _ HH.out.1 Try.underlying57 rfl size_request
    refine bodyPost_ret (v := .agg #[.int .i64 k, .int .i64 lo, .int .i64 po, .slice a9 m.length c9]) ?_ rfl ?_
    · simp [results, Try.results22, hld, asAddr]
    · exact ⟨_, rfl, HH.out.2.1, HH.out.2.2⟩
end Go.Proofs.Ytbofcocfcmlcaaa

/-! Plain laws: numbers and frames, there and back. -/
namespace Go.Proofs.Ytbofcocfcmlcaaa
open Go.RowKit

theorem getRep_put (e tl : Nat) (sl : Bool) (l : List UInt8) (h : tellsB e tl l.length = true) : getRep (putRepB e tl sl l) = some (e, tl, sl, l) := by
  have h0 := of_decide_eq_true h
  have hb : bodyF (frameB 2 (repB e tl (if sl then 1 else 0) l)) 2 4 = some (repB e tl (if sl then 1 else 0) l) := bodyF_frame 2 4 _ (by omega) (by simp [repB, lowB_length]; omega) (by simp [repB, lowB_length]; omega)
  unfold putRepB
  rw [if_pos h]
  unfold getRep
  rw [hb]
  have e1 : (repB e tl (if sl then 1 else 0) l).take 1 = lowB (e : Int) 1 := rfl
  have e2 : ((repB e tl (if sl then 1 else 0) l).drop 1).take 2 = lowB (tl : Int) 2 := rfl
  have e3 : ((repB e tl (if sl then 1 else 0) l).drop 3).take 1 = lowB ((if sl then 1 else 0 : Nat) : Int) 1 := by cases sl <;> rfl
  have e4 : (repB e tl (if sl then 1 else 0) l).drop 4 = l := rfl
  simp only [e1, e2, e3, e4]
  rw [numOf_low' (n := e) (by omega), numOf_low' (n := tl) (by omega), numOf_low' (n := if sl then 1 else 0) (by cases sl <;> simp)]
  rw [if_pos ⟨by cases sl <;> simp, h⟩]
  cases sl <;> rfl
theorem getReq_put (k lo po : Nat) (l : List UInt8) (h : rightB k lo po l.length = true) : getReq (frameB 1 (reqB k lo po l)) = some (k, lo, po, l) := by
  have h0 := of_decide_eq_true h
  have hb : bodyF (frameB 1 (reqB k lo po l)) 1 9 = some (reqB k lo po l) := bodyF_frame 1 9 _ (by omega) (by simp [reqB, lowB_length]; omega) (by simp [reqB, lowB_length]; omega)
  unfold getReq
  rw [hb]
  have e1 : (reqB k lo po l).take 1 = lowB (k : Int) 1 := rfl
  have e2 : ((reqB k lo po l).drop 1).take 6 = lowB (lo : Int) 6 := rfl
  have e3 : ((reqB k lo po l).drop 7).take 2 = lowB (po : Int) 2 := rfl
  have e4 : (reqB k lo po l).drop 9 = l := rfl
  simp only [e1, e2, e3, e4]
  rw [numOf_low' (by omega), numOf_low' (by omega), numOf_low' (by omega)]
  rw [if_pos h]
end Go.Proofs.Ytbofcocfcmlcaaa
