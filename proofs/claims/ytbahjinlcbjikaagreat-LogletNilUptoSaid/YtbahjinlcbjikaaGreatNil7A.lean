import Derived.Test.YtbahjinlcbjikaaGreatMLLgC
import Derived.Test.YtbahjinlcbjikaaGreatConfigs
/-! Links without a net: every call. -/
namespace Go.Proofs.YtbahjinlcbjikaaGreat
open Go.RowKit

def NoNet (w : World) (pn : Value) : Prop := pn = .pointer none ∨ ∃ N l t, pn = .pointer (some ⟨N, 0, none⟩) ∧ Blk w N #[l, t, .bool false] 64
def NoLk (w : World) (v : Value) : Prop := v = .pointer none ∨ ∃ L pn, v = .pointer (some ⟨L, 0, none⟩) ∧ Blk w L #[pn, .slice none 0 0] 41 ∧ NoNet w pn
section
variable {W w w' : World} {v pn : Value}
theorem NoNet.keep (h : NoNet w pn) (hb : Below w.heap.size w w') : NoNet w' pn := by
  rcases h with h | ⟨N, l, t, e, h⟩
  · exact .inl h
  · exact .inr ⟨N, l, t, e, h.keep hb⟩
theorem NoLk.keep (h : NoLk w v) (hb : Below w.heap.size w w') : NoLk w' v := by
  rcases h with h | ⟨L, pn, e, h, h2⟩
  · exact .inl h
  · exact .inr ⟨L, pn, e, h.keep hb, h2.keep hb⟩
theorem NoLk.ptr (h : NoLk w v) : ∃ a, v = .pointer a := by
  rcases h with h | ⟨L, pn, e, _⟩
  · exact ⟨_, h⟩
  · exact ⟨_, e⟩
theorem net_Made_no (h : NoNet w pn) : Calls Tryz.prog 16 #[pn] w fun e w' => e = .returned (.bool false) ∧ w' = w := by
  rcases h with rfl | ⟨N, l, t, rfl, h⟩
  · go_enter Tryz.func16, Tryz.ntmps16
    go_wp2_with fail
    go_ret
    exact ⟨rfl, rfl⟩
  · have c2 := h.cell (o := 2) rfl
    go_enter Tryz.func16, Tryz.ntmps16
    go_wp2_with fail
    go_ret
    exact ⟨rfl, rfl⟩
theorem nolk_none (h : NoLk w v) : Calls Tryz.prog 45 #[v] w fun e w' => e = .returned (.bool true) ∧ w' = w := by
  rcases h with rfl | ⟨L, pn, rfl, h, h2⟩
  · go_enter Tryz.func45, Tryz.ntmps45
    go_wp2_with fail
    go_ret
    exact ⟨rfl, rfl⟩
  · have c0 := h.cell (o := 0) rfl
    have HM := hid (net_Made_no h2)
    obtain ⟨a, hpn⟩ : ∃ a, pn = .pointer a := by
      rcases h2 with e | ⟨N, l, t, e, _⟩
      · exact ⟨_, e⟩
      · exact ⟨_, e⟩
    subst hpn
    clear h2 h
    go_enter Tryz.func45, Tryz.ntmps45
    go_wp2_with fail
    refine HM.out.mono ?_
    rintro e Wx ⟨rfl, hw⟩
    rw [hw]
    clear hw Wx
    go_wp2_with fail
    go_ret
    exact ⟨rfl, rfl⟩
theorem nolk_Deliver (h : NoLk w v) (k : Int) : Calls Tryz.prog 23 #[v, .int .i64 k] w fun e w' => e = .returned (.bool false) ∧ w' = w := by
  have HN := hid (nolk_none h)
  obtain ⟨pa, hv⟩ := h.ptr
  subst hv
  clear h
  go_enter Tryz.func23, Tryz.ntmps23
  go_wp2_with fail
  refine HN.out.mono ?_
  rintro e Wx ⟨rfl, hw⟩
  rw [hw]
  clear hw Wx
  go_wp2_with fail
  go_ret
  exact ⟨rfl, rfl⟩

set_option maxRecDepth 100000 in
set_option maxHeartbeats 6400000 in
theorem nolk_may (h : NoLk w v) (iz pos most : Int) (na : Option Addr) (nn nc : Nat) :
    Calls Tryz.prog 38 #[v, .agg #[.int .i64 iz, .slice na nn nc], .int .i64 pos, .int .i64 most] w fun e w' => e = .returned (.bool false) ∧ Below w.heap.size w w' := by
  obtain ⟨pa, hv⟩ := h.ptr
  subst hv
  obtain ⟨W1, hW1⟩ : ∃ W1, w.alloc (.cells #[.int .i64 iz, .slice na nn nc] 24) = W1 := ⟨_, rfl⟩
  have HB := hid (show Below w.heap.size w W1 by rw [← hW1]; exact (Below.refl _ _).alloc (Nat.le_refl _) _)
  have HK := hid h
  clear h
  go_enter Tryz.func38, Tryz.ntmps38
  go_wp2_with fail
  clear hW1
  refine wp_region_invG rfl Grows (fun i v x => match i with
      | 0 => v = .pointer pa
      | 1 => v = .bool true
      | 2 => v = .bool false
      | 3 => v = .bool false
      | 4 => v = undef
      | 5 => v = undef
      | 6 => v = undef
      | 7 => v = undef
      | 8 => v = undef
      | 9 => v = undef
      | 10 => v = undef
      | 11 => v = undef
      | 12 => v = .bool false
      | 13 => v = .bool false
      | 14 => v = undef
      | 15 => v = undef
      | 16 => v = .bool false
      | 17 => v = .bool false
      | 18 => v = undef
      | 19 => v = undef
      | 20 => v = undef
      | 21 => v = .bool false
      | 22 => v = .bool false
      | _ => True) (by kernel_rfl) Grows.refl Grows.trans ?rstab ?rsteps ?rfin
  case rstab =>
    intro i v x y hg h
    match i with
    | 0 | 1 | 2 | 3 | 4 | 5 | 6 | 7 | 8 | 9 | 10 | 11 | 12 | 13 | 14 | 15 | 16 | 17 | 18 | 19 | 20 | 21 | 22 => exact h
    | n + 23 => trivial
  case rsteps =>
    refine ⟨?_, ?_, ?_, ?_, ?_, ?_, ?_, ?_, ?_, ?_, ?_, ?_, ?_, ?_, ?_, ?_, ?_, ?_, ?_, ?_, ?_, ?_, ?_, trivial⟩
    · intro a x hA
      refine .inl ⟨rfl, ?_⟩
      have t0 := hA.at_ 0 (by first | rfl | kernel_rfl) rfl
      refine step_value (w' := x) (v := .pointer pa) ?_ (Grows.refl _) ?_
      · go_simp
      · rfl
    · intro a x hA
      refine .inl ⟨rfl, ?_⟩
      have t9 : a.tmps[9]?.getD undef = .pointer pa := hA.dep_ ⟨0, .data⟩ (by simp) _ 9 rfl rfl
      refine step_call (f := 45) (args := #[.pointer pa]) (by go_simp) ((nolk_none (HK.out.keep (HB.out.trans (hA.grown.mono HB.out.size)))).mono ?_)
      rintro e w' ⟨rfl, hw⟩
      subst hw
      exact ⟨_, rfl, Grows.refl _, rfl⟩
    · intro a x hA
      refine .inl ⟨rfl, ?_⟩
      have t10 : a.tmps[10]?.getD undef = .bool true := hA.dep_ ⟨1, .data⟩ (by simp) _ 10 rfl rfl
      refine step_value (w' := x) (v := .bool false) ?_ (Grows.refl _) ?_
      · go_simp
      · rfl
    · intro a x hA
      refine .inl ⟨rfl, ?_⟩
      have t11 : a.tmps[11]?.getD undef = .bool false := hA.dep_ ⟨2, .data⟩ (by simp) _ 11 rfl rfl
      refine step_value (w' := x) (v := .bool false) ?_ (Grows.refl _) ?_
      · go_simp
      · rfl
    · intro a x hA
      have tg : a.tmps[12]?.getD undef = .bool false := hA.dep_ ⟨3, .guard⟩ (by simp) _ 12 rfl rfl
      exact .inr ⟨by rw [wanted_of (j := 3) rfl (yielded_of (by rfl) rfl tg)]; rfl, rfl⟩
    · intro a x hA
      have tg : a.tmps[12]?.getD undef = .bool false := hA.dep_ ⟨3, .guard⟩ (by simp) _ 12 rfl rfl
      exact .inr ⟨by rw [wanted_of (j := 3) rfl (yielded_of (by rfl) rfl tg)]; rfl, rfl⟩
    · intro a x hA
      have tg : a.tmps[12]?.getD undef = .bool false := hA.dep_ ⟨3, .guard⟩ (by simp) _ 12 rfl rfl
      exact .inr ⟨by rw [wanted_of (j := 3) rfl (yielded_of (by rfl) rfl tg)]; rfl, rfl⟩
    · intro a x hA
      have tg : a.tmps[12]?.getD undef = .bool false := hA.dep_ ⟨3, .guard⟩ (by simp) _ 12 rfl rfl
      exact .inr ⟨by rw [wanted_of (j := 3) rfl (yielded_of (by rfl) rfl tg)]; rfl, rfl⟩
    · intro a x hA
      have tg : a.tmps[12]?.getD undef = .bool false := hA.dep_ ⟨3, .guard⟩ (by simp) _ 12 rfl rfl
      exact .inr ⟨by rw [wanted_of (j := 3) rfl (yielded_of (by rfl) rfl tg)]; rfl, rfl⟩
    · intro a x hA
      have tg : a.tmps[12]?.getD undef = .bool false := hA.dep_ ⟨3, .guard⟩ (by simp) _ 12 rfl rfl
      exact .inr ⟨by rw [wanted_of (j := 3) rfl (yielded_of (by rfl) rfl tg)]; rfl, rfl⟩
    · intro a x hA
      have tg : a.tmps[12]?.getD undef = .bool false := hA.dep_ ⟨3, .guard⟩ (by simp) _ 12 rfl rfl
      exact .inr ⟨by rw [wanted_of (j := 3) rfl (yielded_of (by rfl) rfl tg)]; rfl, rfl⟩
    · intro a x hA
      have tg : a.tmps[12]?.getD undef = .bool false := hA.dep_ ⟨3, .guard⟩ (by simp) _ 12 rfl rfl
      exact .inr ⟨by rw [wanted_of (j := 3) rfl (yielded_of (by rfl) rfl tg)]; rfl, rfl⟩
    · intro a x hA
      refine .inl ⟨rfl, ?_⟩
      have t12 : a.tmps[12]?.getD undef = .bool false := hA.dep_ ⟨3, .data⟩ (by simp) _ 12 rfl rfl
      have t20 : a.tmps[20]?.getD undef = undef := hA.dep_ ⟨11, .data⟩ (by simp) _ 20 rfl rfl
      refine step_value (w' := x) (v := .bool false) ?_ (Grows.refl _) ?_
      · go_simp
      · rfl
    · intro a x hA
      refine .inl ⟨rfl, ?_⟩
      have t21 : a.tmps[21]?.getD undef = .bool false := hA.dep_ ⟨12, .data⟩ (by simp) _ 21 rfl rfl
      refine step_value (w' := x) (v := .bool false) ?_ (Grows.refl _) ?_
      · go_simp
      · rfl
    · intro a x hA
      have tg : a.tmps[22]?.getD undef = .bool false := hA.dep_ ⟨13, .guard⟩ (by simp) _ 22 rfl rfl
      exact .inr ⟨by rw [wanted_of (j := 13) rfl (yielded_of (by rfl) rfl tg)]; rfl, rfl⟩
    · intro a x hA
      have tg : a.tmps[22]?.getD undef = .bool false := hA.dep_ ⟨13, .guard⟩ (by simp) _ 22 rfl rfl
      exact .inr ⟨by rw [wanted_of (j := 13) rfl (yielded_of (by rfl) rfl tg)]; rfl, rfl⟩
    · intro a x hA
      refine .inl ⟨rfl, ?_⟩
      have t22 : a.tmps[22]?.getD undef = .bool false := hA.dep_ ⟨13, .data⟩ (by simp) _ 22 rfl rfl
      have t24 : a.tmps[24]?.getD undef = undef := hA.dep_ ⟨15, .data⟩ (by simp) _ 24 rfl rfl
      refine step_value (w' := x) (v := .bool false) ?_ (Grows.refl _) ?_
      · go_simp
      · rfl
    · intro a x hA
      refine .inl ⟨rfl, ?_⟩
      have t25 : a.tmps[25]?.getD undef = .bool false := hA.dep_ ⟨16, .data⟩ (by simp) _ 25 rfl rfl
      refine step_value (w' := x) (v := .bool false) ?_ (Grows.refl _) ?_
      · go_simp
      · rfl
    · intro a x hA
      have tg : a.tmps[26]?.getD undef = .bool false := hA.dep_ ⟨17, .guard⟩ (by simp) _ 26 rfl rfl
      exact .inr ⟨by rw [wanted_of (j := 17) rfl (yielded_of (by rfl) rfl tg)]; rfl, rfl⟩
    · intro a x hA
      have tg : a.tmps[26]?.getD undef = .bool false := hA.dep_ ⟨17, .guard⟩ (by simp) _ 26 rfl rfl
      exact .inr ⟨by rw [wanted_of (j := 17) rfl (yielded_of (by rfl) rfl tg)]; rfl, rfl⟩
    · intro a x hA
      have tg : a.tmps[26]?.getD undef = .bool false := hA.dep_ ⟨17, .guard⟩ (by simp) _ 26 rfl rfl
      exact .inr ⟨by rw [wanted_of (j := 17) rfl (yielded_of (by rfl) rfl tg)]; rfl, rfl⟩
    · intro a x hA
      refine .inl ⟨rfl, ?_⟩
      have t26 : a.tmps[26]?.getD undef = .bool false := hA.dep_ ⟨17, .data⟩ (by simp) _ 26 rfl rfl
      have t29 : a.tmps[29]?.getD undef = undef := hA.dep_ ⟨20, .data⟩ (by simp) _ 29 rfl rfl
      refine step_value (w' := x) (v := .bool false) ?_ (Grows.refl _) ?_
      · go_simp
      · rfl
    · intro a x hA
      refine .inl ⟨rfl, ?_⟩
      have t30 : a.tmps[30]?.getD undef = .bool false := hA.dep_ ⟨21, .data⟩ (by simp) _ 30 rfl rfl
      refine step_value (w' := x) (v := .bool false) ?_ (Grows.refl _) ?_
      · go_simp
      · rfl
  case rfin =>
    intro y W' hg hV
    simp only [AllVals] at hV
    obtain ⟨_, _, _, _, _, _, _, _, _, _, _, _, _, _, _, _, _, _, _, _, _, _, hA9, _⟩ := hV
    have hb := grows_below hg
    clear hg
    simp only [putAll, Act.put, List.setIfInBounds_toArray, List.set_cons_zero, List.set_cons_succ]
    rw [hA9]
    clear hA9
    have HBW := hid (HB.out.trans (hb.mono HB.out.size))
    clear hb
    go_wp2_with fail
    go_ret
    exact ⟨rfl, HBW.out⟩

set_option maxRecDepth 100000 in
set_option maxHeartbeats 1600000 in
theorem nolk_Append (h : NoLk w v) (iz : Int) (na : Option Addr) (nn nc : Nat) (pos : Int) (da : Option Addr) (dn dc : Nat) :
    Calls Tryz.prog 18 #[v, .agg #[.int .i64 iz, .slice na nn nc], .int .i64 pos, .slice da dn dc] w fun e w' => e = .returned (.int .i64 1) ∧ Below w.heap.size w w' := by
  obtain ⟨pa, hv⟩ := h.ptr
  subst hv
  obtain ⟨W1, hW1⟩ : ∃ W1, w.alloc (.cells #[.int .i64 iz, .slice na nn nc] 24) = W1 := ⟨_, rfl⟩
  have b1 : Below w.heap.size w W1 := by rw [← hW1]; exact (Below.refl _ _).alloc (Nat.le_refl _) _
  have k1 : Blk W1 w.heap.size #[.int .i64 iz, .slice na nn nc] 24 := by rw [← hW1]; exact Blk.new _ _ _
  have c0 := k1.cell (o := 0) rfl
  have c1 := k1.cell (o := 1) rfl
  have HM := hid (nolk_may (h.keep b1) iz pos 4095 na nn nc)
  have HB := hid b1
  clear h b1 k1
  go_enter Tryz.func18, Tryz.ntmps18
  go_wp2_with fail
  refine HM.out.mono ?_
  rintro e W2 ⟨rfl, b2⟩
  have hb := HB.out.trans (b2.mono HB.out.size)
  have HF := hid hb
  clear hb b2
  go_wp2_with fail
  go_ret
  exact ⟨rfl, HF.out⟩

set_option maxRecDepth 100000 in
set_option maxHeartbeats 1600000 in
theorem nolk_Trim (h : NoLk w v) (iz : Int) (na : Option Addr) (nn nc : Nat) (pos : Int) :
    Calls Tryz.prog 21 #[v, .agg #[.int .i64 iz, .slice na nn nc], .int .i64 pos] w fun e w' => e = .returned (.int .i64 1) ∧ Below w.heap.size w w' := by
  obtain ⟨pa, hv⟩ := h.ptr
  subst hv
  obtain ⟨W1, hW1⟩ : ∃ W1, w.alloc (.cells #[.int .i64 iz, .slice na nn nc] 24) = W1 := ⟨_, rfl⟩
  have b1 : Below w.heap.size w W1 := by rw [← hW1]; exact (Below.refl _ _).alloc (Nat.le_refl _) _
  have k1 : Blk W1 w.heap.size #[.int .i64 iz, .slice na nn nc] 24 := by rw [← hW1]; exact Blk.new _ _ _
  have c0 := k1.cell (o := 0) rfl
  have c1 := k1.cell (o := 1) rfl
  have HM := hid (nolk_may (h.keep b1) iz pos 4096 na nn nc)
  have HB := hid b1
  clear h b1 k1
  go_enter Tryz.func21, Tryz.ntmps21
  go_wp2_with fail
  refine HM.out.mono ?_
  rintro e W2 ⟨rfl, b2⟩
  have hb := HB.out.trans (b2.mono HB.out.size)
  have HF := hid hb
  clear hb b2
  go_wp2_with fail
  go_ret
  exact ⟨rfl, HF.out⟩

set_option maxRecDepth 100000 in
set_option maxHeartbeats 1600000 in
theorem nolk_Repair (h : NoLk w v) (iz : Int) (na : Option Addr) (nn nc : Nat) (fa tb : Int) :
    Calls Tryz.prog 24 #[v, .agg #[.int .i64 iz, .slice na nn nc], .int .i64 fa, .int .i64 tb] w fun e w' => e = .returned (.int .i64 1) ∧ Below w.heap.size w w' := by
  obtain ⟨pa, hv⟩ := h.ptr
  subst hv
  obtain ⟨W1, hW1⟩ : ∃ W1, w.alloc (.cells #[.int .i64 iz, .slice na nn nc] 24) = W1 := ⟨_, rfl⟩
  have b1 : Below w.heap.size w W1 := by rw [← hW1]; exact (Below.refl _ _).alloc (Nat.le_refl _) _
  have k1 : Blk W1 w.heap.size #[.int .i64 iz, .slice na nn nc] 24 := by rw [← hW1]; exact Blk.new _ _ _
  have c0 := k1.cell (o := 0) rfl
  have c1 := k1.cell (o := 1) rfl
  have HM := hid (nolk_may (h.keep b1) iz fa tb na nn nc)
  have HB := hid b1
  clear h b1 k1
  go_enter Tryz.func24, Tryz.ntmps24
  go_wp2_with fail
  refine HM.out.mono ?_
  rintro e W2 ⟨rfl, b2⟩
  have hb := HB.out.trans (b2.mono HB.out.size)
  have HF := hid hb
  clear hb b2
  go_wp2_with fail
  go_ret
  exact ⟨rfl, HF.out⟩

set_option maxRecDepth 100000 in
set_option maxHeartbeats 1600000 in
theorem nolk_Seal (h : NoLk w v) (iz : Int) (na : Option Addr) (nn nc : Nat)  :
    Calls Tryz.prog 20 #[v, .agg #[.int .i64 iz, .slice na nn nc]] w fun e w' => e = .returned (.tuple #[.int .i64 0, .int .i64 1]) ∧ Below w.heap.size w w' := by
  obtain ⟨pa, hv⟩ := h.ptr
  subst hv
  obtain ⟨W1, hW1⟩ : ∃ W1, (w.alloc (.cells #[.int .i64 iz, .slice na nn nc] 24)).alloc (.cells #[.int .i64 0] 3) = W1 := ⟨_, rfl⟩
  have b1 : Below w.heap.size w W1 := by rw [← hW1]; exact ((Below.refl _ _).alloc (Nat.le_refl _) _).alloc (by simp) _
  have k1 : Blk W1 w.heap.size #[.int .i64 iz, .slice na nn nc] 24 := by rw [← hW1]; exact (Blk.new _ _ _).alloc _
  have k9 := hid (show Blk W1 (w.heap.size + 1) #[.int .i64 0] 3 by rw [← hW1]; exact Blk.new' _ _ (by simp) _ _)
  have c0 := k1.cell (o := 0) rfl
  have c1 := k1.cell (o := 1) rfl
  have HM := hid (nolk_may (h.keep b1) iz 0 0 na nn nc)
  have HB := hid b1
  clear h b1 k1
  go_enter Tryz.func20, Tryz.ntmps20
  go_wp2_with fail
  refine HM.out.mono ?_
  rintro e W2 ⟨rfl, b2⟩
  have hb := HB.out.trans (b2.mono HB.out.size)
  have r1 := k9.out.keep b2
  have e0 := r1.cell (o := 0) rfl
  have f0 := r1.free 0
  have r2 := r1.set (o := 0) (.int .i64 0)
  have e9 := r2.cell (o := 0) rfl
  have HF := hid (show Below w.heap.size w (W2.setCell ⟨w.heap.size + 1, 0, none⟩ (.int .i64 0)) from hb.setCell (p := ⟨w.heap.size + 1, 0, none⟩) (by simp) _)
  clear hb b2 r1 r2
  go_wp2_with fail
  refine bodyPost_ret (v := .tuple #[.int .i64 0, .int .i64 1]) ?_ rfl ?_
  · simp [results, Tryz.results20, go_sem, e9, asAddr]
  exact ⟨rfl, HF.out⟩

set_option maxRecDepth 100000 in
set_option maxHeartbeats 1600000 in
theorem nolk_Read (h : NoLk w v) (iz : Int) (na : Option Addr) (nn nc : Nat) (pos : Int) :
    Calls Tryz.prog 19 #[v, .agg #[.int .i64 iz, .slice na nn nc], .int .i64 pos] w fun e w' => e = .returned (.tuple #[.slice none 0 0, .int .i64 1]) ∧ Below w.heap.size w w' := by
  obtain ⟨pa, hv⟩ := h.ptr
  subst hv
  obtain ⟨W1, hW1⟩ : ∃ W1, ((w.alloc (.cells #[.int .i64 iz, .slice na nn nc] 24)).alloc (.cells #[.slice none 0 0] 35)).alloc (.cells #[.int .i64 0] 28) = W1 := ⟨_, rfl⟩
  have b1 : Below w.heap.size w W1 := by rw [← hW1]; exact (((Below.refl _ _).alloc (Nat.le_refl _) _).alloc (by simp) _).alloc (by simp; omega) _
  have k1 : Blk W1 w.heap.size #[.int .i64 iz, .slice na nn nc] 24 := by rw [← hW1]; exact ((Blk.new _ _ _).alloc _).alloc _
  have k9 := hid (show Blk W1 (w.heap.size + 1) #[.slice none 0 0] 35 ∧ Blk W1 (w.heap.size + 2) #[.int .i64 0] 28 by rw [← hW1]; exact ⟨(Blk.new' _ _ (by simp) _ _).alloc _, Blk.new' _ _ (by simp) _ _⟩)
  have c0 := k1.cell (o := 0) rfl
  have c1 := k1.cell (o := 1) rfl
  have HM := hid (nolk_may (h.keep b1) iz pos 4095 na nn nc)
  have HB := hid b1
  clear h b1 k1
  go_enter Tryz.func19, Tryz.ntmps19
  go_wp2_with fail
  refine HM.out.mono ?_
  rintro e W2 ⟨rfl, b2⟩
  have hb := HB.out.trans (b2.mono HB.out.size)
  have r1 := k9.out.1.keep b2
  have r2 := k9.out.2.keep b2
  have e0 := r1.cell (o := 0) rfl
  have f0 := r1.free 0
  have r3 := (r2.setOther (a := ⟨w.heap.size + 1, 0, none⟩) (by simp) (.slice none 0 0))
  have e2 := r3.cell (o := 0) rfl
  have f2 := r3.free 0
  have y1 := ((r1.set (o := 0) (.slice none 0 0)).setOther (a := ⟨w.heap.size + 2, 0, none⟩) (by simp) (.int .i64 1)).cell (o := 0) rfl
  have y2 : ((W2.setCell ⟨w.heap.size + 1, 0, none⟩ (.slice none 0 0)).setCell ⟨w.heap.size + 2, 0, none⟩ (.int .i64 1)).cell? ⟨w.heap.size + 1 + 1, 0, none⟩ = some (.int .i64 1) := (r3.set (o := 0) (.int .i64 1)).cell (o := 0) rfl
  have HF := hid (show Below w.heap.size w ((W2.setCell ⟨w.heap.size + 1, 0, none⟩ (.slice none 0 0)).setCell ⟨w.heap.size + 2, 0, none⟩ (.int .i64 1)) from (hb.setCell (p := ⟨w.heap.size + 1, 0, none⟩) (by simp) _).setCell (p := ⟨w.heap.size + 2, 0, none⟩) (by show w.heap.size ≤ w.heap.size + 2; omega) _)
  clear hb b2 r1 r2 r3
  go_wp2_with fail
  refine bodyPost_ret (v := .tuple #[.slice none 0 0, .int .i64 1]) ?_ rfl ?_
  · simp [results, Tryz.results19, go_sem, y1, y2, asAddr]
  exact ⟨rfl, HF.out⟩

set_option maxRecDepth 100000 in
set_option maxHeartbeats 6400000 in
theorem nolk_Ask (h : NoLk w v) : Calls Tryz.prog 22 #[v, .int .i64 0, .agg #[.int .i64 5, .int .i64 0, .int .i64 0, .slice none 0 0]] w fun e w' => e = .returned (.tuple #[.agg #[.int .i64 0, .int .i64 0, .bool false, .slice none 0 0], .bool false]) ∧ Below w.heap.size w w' := by
  obtain ⟨pa, hv⟩ := h.ptr
  subst hv
  obtain ⟨W0, hW0⟩ : ∃ W0, (w.alloc (.cells #[.int .i64 5, .int .i64 0, .int .i64 0, .slice none 0 0] 55)).alloc (.cells #[.int .i64 0, .int .i64 0, .bool false, .slice none 0 0] 51) = W0 := ⟨_, rfl⟩
  have b0 : Below w.heap.size w W0 := by rw [← hW0]; exact ((Below.refl _ w).alloc (Nat.le_refl _) _).alloc (by simp) _
  have k5 : Blk W0 w.heap.size #[.int .i64 5, .int .i64 0, .int .i64 0, .slice none 0 0] 55 := by rw [← hW0]; exact (Blk.new w _ _).alloc _
  have k6 : Blk W0 (w.heap.size + 1) #[.int .i64 0, .int .i64 0, .bool false, .slice none 0 0] 51 := by rw [← hW0]; exact Blk.new' _ _ (by simp) _ _
  have x0 := k5.cell (o := 0) rfl
  have x1 := k5.cell (o := 1) rfl
  have x2 := k5.cell (o := 2) rfl
  have x3 := k5.cell (o := 3) rfl
  have HPC := hid (put_request 5 0 0 (.slice none 0 0) [] W0 (Bs.nil _) (by decide))
  have HN := hid (h.keep b0)
  have HK0 := hid k6
  have HB0 := hid b0
  clear b0 k5 k6 h
  go_enter Tryz.func22, Tryz.ntmps22
  go_wp2_with fail
  clear hW0
  refine HPC.out.mono ?_
  rintro e W2 ⟨v2, rfl, ho, b2⟩
  obtain ⟨a2, c2, rfl⟩ := ho.form
  have HL := hid (HN.out.keep b2)
  have K6 := hid (HK0.out.keep b2)
  have HX := hid (HB0.out.trans (b2.mono HB0.out.size))
  clear b2 x0 x1 x2 x3 ho
  go_wp2_with fail
  refine (nolk_none HL.out).mono ?_
  rintro e Wx ⟨rfl, hw⟩
  rw [hw]
  clear hw Wx
  have m0 := K6.out.cell (o := 0) rfl
  have mf0 := K6.out.free 0
  have m1 := K6.out.cell (o := 1) rfl
  have mf1 := K6.out.free 1
  have m2 := K6.out.cell (o := 2) rfl
  have mf2 := K6.out.free 2
  have m3 := K6.out.cell (o := 3) rfl
  have mf3 := K6.out.free 3
  go_wp2_with fail
  obtain ⟨WZ, hWZ⟩ : ∃ WZ, ((((W2.setCell ⟨w.heap.size + 1, 0, none⟩ (.int .i64 0)).setCell ⟨w.heap.size + 1, 1, none⟩ (.int .i64 0)).setCell ⟨w.heap.size + 1, 2, none⟩ (.bool false)).setCell ⟨w.heap.size + 1, 3, none⟩ (.slice none 0 0)) = WZ := ⟨_, rfl⟩
  have kZ := ((((K6.out.set (o := 0) (.int .i64 0)).set (o := 1) (.int .i64 0)).set (o := 2) (.bool false)).set (o := 3) (.slice none 0 0))
  rw [hWZ] at kZ
  simp only [List.setIfInBounds_toArray, List.set_cons_zero, List.set_cons_succ] at kZ
  have xZ : Ext (fun b => b = w.heap.size + 1) W2 WZ := by rw [← hWZ]; exact (((((Ext.refl (fun b => b = w.heap.size + 1) W2).setCell (a := ⟨w.heap.size + 1, 0, none⟩) (.inl rfl) _).setCell (a := ⟨w.heap.size + 1, 1, none⟩) (.inl rfl) _).setCell (a := ⟨w.heap.size + 1, 2, none⟩) (.inl rfl) _).setCell (a := ⟨w.heap.size + 1, 3, none⟩) (.inl rfl) _)
  rw [hWZ]
  have hld := run_loadVar_row (P := Tryz.prog) WZ (w.heap.size + 1) 51 51 _ (0, 0) _ kZ Tryz.underlying51 rfl size_reply
  refine bodyPost_ret (v := .tuple #[.agg #[.int .i64 0, .int .i64 0, .bool false, .slice none 0 0], .bool false]) ?_ rfl ?_
  · simp [results, Tryz.results22, hld, asAddr]
  · exact ⟨rfl, HX.out.trans (xZ.belowOf HX.out.size (fun b hb e => by have e2 : b = w.heap.size + 1 := e; omega))⟩
end
end Go.Proofs.YtbahjinlcbjikaaGreat
