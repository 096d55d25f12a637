import Derived.Test.YtpkaepmmkojdaaaMDiskB
import Derived.Test.YtpkaepmmkojdaaaMDisk
import Derived.Test.YtpkaepmmkojdaaaMParts
/-! The walk of an entry's bytes. -/
namespace Go.Proofs.Ytpkaepmmkojdaaa
open Go.RowKit

def entryB (kind loglet pos : Int) (data : List UInt8) : List UInt8 := byteOf kind 0 :: (lowB loglet 6 ++ lowB pos 6 ++ data)

theorem Parts.four {w : World} {g : Nat} {t : TypeId} {a b c d : Value} {x y z u : List UInt8} (h : Blk w g #[a, b, c, d] t) (ha : Bs w a x) (hb : Bs w b y) (hc : Bs w c z) (hd : Bs w d u) : Parts w g [a, b, c, d] [x, y, z, u] := by
  refine ⟨rfl, fun i v hv => h.cell (by simpa using hv), fun i v l hv hl => ?_⟩
  match i, hv, hl with
  | 0, hv, hl => simp at hv hl; subst hv hl; exact ha
  | 1, hv, hl => simp at hv hl; subst hv hl; exact hb
  | 2, hv, hl => simp at hv hl; subst hv hl; exact hc
  | 3, hv, hl => simp at hv hl; subst hv hl; exact hd

set_option maxRecDepth 100000 in
set_option maxHeartbeats 1600000 in
theorem entry_bytes (kind loglet pos : Int) (v : Value) (l : List UInt8) (w : World) (hk0 : 0 ≤ kind) (hk1 : kind ≤ 255) (h0 : 0 ≤ loglet) (h1 : loglet < 281474976710656) (p0 : 0 ≤ pos) (p1 : pos < 281474976710656) (hv : Bs w v l) (hl : l.length ≤ 1000000000) :
    Calls Try.prog 54 #[.agg #[.int .i64 kind, .int .i64 loglet, .int .i64 pos, v]] w fun e w' => ∃ v', e = .returned v' ∧ Own8 w' w.heap.size 5 v' (entryB kind loglet pos l) ∧ Below w.heap.size w w' := by
  obtain ⟨a0, c0, rfl⟩ := hv.form
  have hb1 : Below w.heap.size w (w.alloc (.cells #[.int .i64 kind, .int .i64 loglet, .int .i64 pos, .slice a0 l.length c0] 62)) := (Below.refl _ w).alloc (Nat.le_refl _) _
  have B1 := Blk.new w #[.int .i64 kind, .int .i64 loglet, .int .i64 pos, .slice a0 l.length c0] 62
  have hv1 := hv.keep hb1
  have hw8 : IntKind.u8.wrap kind = kind := by rw [IntKind.wrap_u8']; omega
  clear hv
  go_enter Try.func54, Try.ntmps54
  go_wp2_with fail
  generalize w.alloc (.cells #[.int .i64 kind, .int .i64 loglet, .int .i64 pos, .slice a0 l.length c0] 62) = W at *
  refine wp_region_inv rfl Grows (fun i v x => match i with
      | 0 => v = .pointer (some ⟨w.heap.size, 0, none⟩)
      | 1 => v = .int .i64 kind
      | 2 => v = .int .u8 kind
      | 3 => ∃ g, v = .slice (some ⟨g, 0, none⟩) 1 1 ∧ Bs x v [byteOf kind 0]
      | 4 => v = .pointer (some ⟨w.heap.size, 1, none⟩)
      | 5 => v = .int .i64 loglet
      | 6 => Bs x v (lowB loglet 6)
      | 7 => v = .pointer (some ⟨w.heap.size, 2, none⟩)
      | 8 => v = .int .i64 pos
      | 9 => Bs x v (lowB pos 6)
      | 10 => v = .pointer (some ⟨w.heap.size, 3, none⟩)
      | 11 => v = .slice a0 l.length c0
      | 12 => ∃ g vs, v = .slice (some ⟨g, 0, none⟩) 4 4 ∧ 4 = vs.length ∧ Parts x g vs [[byteOf kind 0], lowB loglet 6, lowB pos 6, l]
      | 13 => Own8 x w.heap.size 5 v (entryB kind loglet pos l)
      | 14 => Own8 x w.heap.size 5 v (entryB kind loglet pos l)
      | _ => True) (by kernel_rfl) (Grows.refl _) Grows.trans ?stab ?steps ?fin
  case stab =>
    intro i v x y hg h
    match i with
    | 0 | 1 | 2 | 4 | 5 | 7 | 8 | 10 | 11 => exact h
    | 3 => exact (by obtain ⟨g, e, hb⟩ := h; exact ⟨g, e, hb.keep hg⟩)
    | 6 => exact Bs.keep h hg
    | 9 => exact Bs.keep h hg
    | 12 => exact (by obtain ⟨g, vs, e, h4, hb⟩ := h; exact ⟨g, vs, e, h4, hb.keep hg⟩)
    | 13 => exact Own8.keep h hg
    | 14 => exact Own8.keep h hg
    | n + 15 => trivial
  case steps =>
    refine ⟨?_, ?_, ?_, ?_, ?_, ?_, ?_, ?_, ?_, ?_, ?_, ?_, ?_, ?_, ?_, trivial⟩
    · intro a x hA
      have t1 := hA.at_ 1 (by rfl) rfl
      refine step_value (w' := x) (v := .pointer (some ⟨w.heap.size, 0, none⟩)) ?_ (Grows.refl _) ?_
      · go_simp
      · rfl
    · intro a x hA
      have t3 : a.tmps[3]?.getD undef = .pointer (some ⟨w.heap.size, 0, none⟩) := hA.dep_ ⟨0, .data⟩ (by simp) _ 3 rfl rfl
      have hBx := B1.keep hA.grown
      have hc0 := hBx.cell (o := 0) rfl
      have hc1 := hBx.cell (o := 1) rfl
      have hc2 := hBx.cell (o := 2) rfl
      have hc3 := hBx.cell (o := 3) rfl
      refine step_value (w' := x) (v := .int .i64 kind) ?_ (Grows.refl _) ?_
      · go_simp
      · rfl
    · intro a x hA
      have t4 : a.tmps[4]?.getD undef = .int .i64 kind := hA.dep_ ⟨1, .data⟩ (by simp) _ 4 rfl rfl
      refine step_value (w' := x) (v := .int .u8 kind) ?_ (Grows.refl _) ?_
      · go_simp
      · rfl
    · intro a x hA
      have t5 : a.tmps[5]?.getD undef = .int .u8 kind := hA.dep_ ⟨2, .data⟩ (by simp) _ 5 rfl rfl
      refine step_value (w' := x.alloc (.cells #[.int .u8 kind] 5)) (v := .slice (some ⟨x.heap.size, 0, none⟩) 1 1) ?_ (Grows.alloc _ _) ?_
      · go_simp
      · exact ⟨_, rfl, (Blk.new _ _ _).bs1 (by rw [byteOf_val]; simp; omega)⟩
    · intro a x hA
      have t1 := hA.at_ 1 (by rfl) rfl
      refine step_value (w' := x) (v := .pointer (some ⟨w.heap.size, 1, none⟩)) ?_ (Grows.refl _) ?_
      · go_simp
      · rfl
    · intro a x hA
      have t7 : a.tmps[7]?.getD undef = .pointer (some ⟨w.heap.size, 1, none⟩) := hA.dep_ ⟨4, .data⟩ (by simp) _ 7 rfl rfl
      have hBx := B1.keep hA.grown
      have hc0 := hBx.cell (o := 0) rfl
      have hc1 := hBx.cell (o := 1) rfl
      have hc2 := hBx.cell (o := 2) rfl
      have hc3 := hBx.cell (o := 3) rfl
      refine step_value (w' := x) (v := .int .i64 loglet) ?_ (Grows.refl _) ?_
      · go_simp
      · rfl
    · intro a x hA
      have t8 : a.tmps[8]?.getD undef = .int .i64 loglet := hA.dep_ ⟨5, .data⟩ (by simp) _ 8 rfl rfl
      refine step_call (f := 62) (args := #[.int .i64 loglet, .int .i64 6]) (by go_simp) ((store_low _ _ x h0 (by omega) (by omega) (by simpa using h1)).mono ?_)
      rintro e w' ⟨v, rfl, ho, hb⟩
      exact ⟨v, rfl, hb, ho.bs⟩
    · intro a x hA
      have t1 := hA.at_ 1 (by rfl) rfl
      refine step_value (w' := x) (v := .pointer (some ⟨w.heap.size, 2, none⟩)) ?_ (Grows.refl _) ?_
      · go_simp
      · rfl
    · intro a x hA
      have t10 : a.tmps[10]?.getD undef = .pointer (some ⟨w.heap.size, 2, none⟩) := hA.dep_ ⟨7, .data⟩ (by simp) _ 10 rfl rfl
      have hBx := B1.keep hA.grown
      have hc0 := hBx.cell (o := 0) rfl
      have hc1 := hBx.cell (o := 1) rfl
      have hc2 := hBx.cell (o := 2) rfl
      have hc3 := hBx.cell (o := 3) rfl
      refine step_value (w' := x) (v := .int .i64 pos) ?_ (Grows.refl _) ?_
      · go_simp
      · rfl
    · intro a x hA
      have t11 : a.tmps[11]?.getD undef = .int .i64 pos := hA.dep_ ⟨8, .data⟩ (by simp) _ 11 rfl rfl
      refine step_call (f := 62) (args := #[.int .i64 pos, .int .i64 6]) (by go_simp) ((store_low _ _ x p0 (by omega) (by omega) (by simpa using p1)).mono ?_)
      rintro e w' ⟨v, rfl, ho, hb⟩
      exact ⟨v, rfl, hb, ho.bs⟩
    · intro a x hA
      have t1 := hA.at_ 1 (by rfl) rfl
      refine step_value (w' := x) (v := .pointer (some ⟨w.heap.size, 3, none⟩)) ?_ (Grows.refl _) ?_
      · go_simp
      · rfl
    · intro a x hA
      have t13 : a.tmps[13]?.getD undef = .pointer (some ⟨w.heap.size, 3, none⟩) := hA.dep_ ⟨10, .data⟩ (by simp) _ 13 rfl rfl
      have hBx := B1.keep hA.grown
      have hc0 := hBx.cell (o := 0) rfl
      have hc1 := hBx.cell (o := 1) rfl
      have hc2 := hBx.cell (o := 2) rfl
      have hc3 := hBx.cell (o := 3) rfl
      refine step_value (w' := x) (v := .slice a0 l.length c0) ?_ (Grows.refl _) ?_
      · go_simp
      · rfl
    · intro a x hA
      have t6 : ∃ g, (a.tmps[6]?.getD undef) = .slice (some ⟨g, 0, none⟩) 1 1 ∧ Bs x (a.tmps[6]?.getD undef) [byteOf kind 0] := hA.dep_ ⟨3, .data⟩ (by simp) _ 6 rfl rfl
      have t9 : Bs x (a.tmps[9]?.getD undef) (lowB loglet 6) := hA.dep_ ⟨6, .data⟩ (by simp) _ 9 rfl rfl
      have t12 : Bs x (a.tmps[12]?.getD undef) (lowB pos 6) := hA.dep_ ⟨9, .data⟩ (by simp) _ 12 rfl rfl
      have t14 : a.tmps[14]?.getD undef = .slice a0 l.length c0 := hA.dep_ ⟨11, .data⟩ (by simp) _ 14 rfl rfl
      obtain ⟨g6, e6, b6⟩ := t6
      obtain ⟨a9, c9, e9⟩ := t9.form
      obtain ⟨a12, c12, e12⟩ := t12.form
      rw [e6] at b6
      rw [e9] at t9
      rw [e12] at t12
      have hl := hv1.keep hA.grown
      have hgr := Grows.alloc x (.cells #[.slice (some ⟨g6, 0, none⟩) 1 1, .slice a9 (lowB loglet 6).length c9, .slice a12 (lowB pos 6).length c12, .slice a0 l.length c0] 40)
      refine step_value (w' := x.alloc (.cells #[.slice (some ⟨g6, 0, none⟩) 1 1, .slice a9 (lowB loglet 6).length c9, .slice a12 (lowB pos 6).length c12, .slice a0 l.length c0] 40)) (v := .slice (some ⟨x.heap.size, 0, none⟩) 4 4) ?_ hgr ?_
      · clear b6 t9 t12 hl
        go_simp
      · exact ⟨_, _, rfl, rfl, Parts.four (Blk.new _ _ _) (b6.keep hgr) (t9.keep hgr) (t12.keep hgr) (hl.keep hgr)⟩
    · intro a x hA
      have t15 : ∃ g vs, (a.tmps[15]?.getD undef) = .slice (some ⟨g, 0, none⟩) 4 4 ∧ 4 = vs.length ∧ Parts x g vs [[byteOf kind 0], lowB loglet 6, lowB pos 6, l] := hA.dep_ ⟨12, .data⟩ (by simp) _ 15 rfl rfl
      obtain ⟨g, vs, e15, h4, hp⟩ := t15
      have hF : [[byteOf kind 0], lowB loglet 6, lowB pos 6, l].flatten = entryB kind loglet pos l := by simp [entryB]
      have hFl : (entryB kind loglet pos l).length ≤ l.length + 13 := by simp [entryB, lowB_length]; omega
      refine step_call (f := 34) (args := #[.slice (some ⟨g, 0, none⟩) 4 4]) (by clear hp; go_simp) ((slices_Concat _ _ _ _ _ x h4 hp (by omega) (by rw [hF]; omega)).mono ?_)
      rw [hF]
      rintro e w' ⟨v, rfl, ho, hb⟩
      have hs := hA.grow.size
      exact ⟨v, rfl, hb, ho.mono (Nat.le_trans hb1.size hs)⟩
    · intro a x hA
      have t16 : Own8 x w.heap.size 5 (a.tmps[16]?.getD undef) (entryB kind loglet pos l) := hA.dep_ ⟨13, .data⟩ (by simp) _ 16 rfl rfl
      exact step_value (w' := x) (v := a.tmps[16]?.getD undef) (by go_simp) (Grows.refl _) t16
  case fin =>
    intro y W' hg hV
    simp only [AllVals] at hV
    obtain ⟨_, _, _, _, _, _, _, _, _, _, _, _, _, _, h14, _⟩ := hV
    have hbW := hb1.trans (Below.mono (Below.trans (below_of_drewN _ W 1) hg) hb1.size)
    clear hg
    simp only [putAll, Act.put, List.setIfInBounds_toArray, List.set_cons_zero, List.set_cons_succ]
    go_wp2_with fail
    go_ret
    exact ⟨y 2, rfl, h14, hbW⟩

end Go.Proofs.Ytpkaepmmkojdaaa
