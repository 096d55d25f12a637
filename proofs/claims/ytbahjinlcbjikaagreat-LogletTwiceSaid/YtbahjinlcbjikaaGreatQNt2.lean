import Derived.Test.YtbahjinlcbjikaaGreatQNt
import Derived.Deep.Cut
import Derived.Test.YtbahjinlcbjikaaGreatRegionW
/-! Package net: Take, Message, Double. -/
namespace Go.Proofs.YtbahjinlcbjikaaGreat
open Go.RowKit

/-- A message was taken, or looked at. -/
def GotPost (W : World) (q : NetP) (to : Int) (b : List UInt8) (ok : Bool) (s' : NetS) (e : Ending) (w' : World) : Prop :=
  ∃ v, e = .returned (.tuple #[.int .i64 to, v, .bool ok]) ∧ Own8 w' W.heap.size 5 v b ∧ ∃ q', NetAt w' q' s' ∧ q'.N = q.N ∧ (∀ g, q'.all g → q.all g ∨ W.heap.size ≤ g) ∧ Ext q.all W w' ∧ ∀ g, v.ownBlock = some g → ¬ q'.all g
section
variable {W w2 : World} {q : NetP} {s : NetS}
theorem NetAt.row_at (h : NetAt W q s) {k : Nat} {m : Int × List UInt8} (hk : s.late[k]? = some m) : ∃ rs va vc, MsAt W q.tv q.mo rs s.late ∧ rs[k]? = some (m.1, .slice va m.2.length vc) ∧ Bs W (.slice va m.2.length vc) m.2 ∧ m.2.length ≤ 1000000 ∧ ∀ g, (Value.slice va m.2.length vc).ownBlock = some g → q.mo g ∧ q.tv.ownBlock ≠ some g := by
  obtain ⟨rs, hm⟩ := h.ms
  have hl : k < rs.length := by have := (List.getElem?_eq_some_iff.1 hk).1; have := hm.len; omega
  obtain ⟨a1, a2, a3, a4⟩ := hm.at_ k m rs[k] hk (by simp)
  obtain ⟨va, vc, e⟩ := a2.form
  refine ⟨rs, va, vc, hm, ?_, e ▸ a2, a3, fun g hg => a4 g (by rw [e]; exact hg)⟩
  rw [List.getElem?_eq_getElem hl, ← a1, ← e]
/-- A row was taken from. -/
theorem NetAt.taken (h : NetAt W q s) {rs : List (Int × Value)} (hm : MsAt W q.tv q.mo rs s.late) {k : Nat} {tv' : Value} (h1 : Blk w2 q.N #[q.lv, tv', .bool true] 64) (h2 : OwnM w2 0 tv' (rs.eraseIdx k)) (h3 : tv'.ownBlock = q.tv.ownBlock) (h4 : Ext (fun b => b = q.N ∨ q.tv.ownBlock = some b) W w2) :
    NetAt w2 ⟨q.N, q.lv, tv', q.mo⟩ ⟨s.luck, s.late.eraseIdx k⟩ ∧ (∀ b, (⟨q.N, q.lv, tv', q.mo⟩ : NetP).all b → q.all b) ∧ Ext q.all W w2 := by
  refine ⟨⟨h1, h.luck.ext h4 (fun k hk hc => ?_), ⟨_, hm.gone h2 h3 h4 (fun b hb hc => hc.elim (fun e => absurd (e ▸ hb) h.nmo) id)⟩, h.lvd, h.nmo⟩, fun b hb => hb, h4.mono (fun b _ hb => hb.elim .inl (fun e => .inr (.inr (hm.own b e))))⟩
  rcases hc with e | e
  · exact (h.lvd k hk).1 e
  · exact (h.lvd k hk).2 (hm.own k e)

set_option maxRecDepth 100000 in
set_option maxHeartbeats 6400000 in
theorem net_Take (h : NetAt W q s) (k : Nat) (to : Int) (b : List UInt8) (hk : s.late[k]? = some (to, b)) :
    Calls Tryz.prog 49 #[.pointer (some ⟨q.N, 0, none⟩), .int .i64 (k : Int)] W (GotPost W q to b true ⟨s.luck, s.late.eraseIdx k⟩) := by
  obtain ⟨rs, va, vc, hm, hr, hb, hbl, hvo⟩ := h.row_at hk
  simp only at hr hb hbl hvo
  have HN := hid (net_none h.net)
  have HT := hid (mrow_take rs k to va b.length vc h.net hm.row hm.slicy (fun e => h.nmo (hm.own _ e)) hr)
  have HH := hid (And.intro h (And.intro hm (And.intro hb hvo)))
  clear h hm hr hb hvo hk
  go_enter Tryz.func49, Tryz.ntmps49
  go_wp2_with fail
  refine HN.out.mono ?_
  rintro e Wx ⟨rfl, hw⟩
  rw [hw]
  clear hw Wx
  go_wp2_with fail
  refine HT.out.mono ?_
  rintro e W2 ⟨rfl, tv', k1, k2, k3, k4⟩
  obtain ⟨a1, a2, a3⟩ := HH.out.1.taken HH.out.2.1 k1 k2 k3 k4
  have hv2 : Bs W2 (.slice va b.length vc) b := HH.out.2.2.1.ext k4 (fun g hg _ hc => by
    rcases hc with e | e
    · exact HH.out.1.nmo (e ▸ (HH.out.2.2.2 g hg).1)
    · exact (HH.out.2.2.2 g hg).2 e)
  go_upto_region 4 with fail
  obtain ⟨T7, hT7⟩ : ∃ T, W2.heap.size = T := ⟨_, rfl⟩
  have hx3 : Below W2.heap.size W2 (W2.alloc (.cells #[.int .i64 to, .slice va b.length vc] 120)) := (Below.refl _ _).alloc (Nat.le_refl _) _
  have k3 : Blk (W2.alloc (.cells #[.int .i64 to, .slice va b.length vc] 120)) W2.heap.size #[.int .i64 to, .slice va b.length vc] 120 := Blk.new _ _ _
  rw [hT7] at k3 ⊢
  generalize W2.alloc (.cells #[.int .i64 to, .slice va b.length vc] 120) = W3 at *
  have HT7 := hid k3
  have HV7 := hid (hv2.keep hx3)
  have HFIN := hid (show ∀ v w', Own8 w' W3.heap.size 5 v b → Below W3.heap.size W3 w' → Own8 w' W.heap.size 5 v b ∧ ∃ q', NetAt w' q' ⟨s.luck, s.late.eraseIdx k⟩ ∧ q'.N = q.N ∧ (∀ g, q'.all g → q.all g ∨ W.heap.size ≤ g) ∧ Ext q.all W w' ∧ ∀ g, v.ownBlock = some g → ¬ q'.all g from fun v w' ho hb9 => by
    have hsz := hx3.size
    have hs2 := a3.size
    refine ⟨ho.mono (Nat.le_trans hs2 hsz), _, (a1.keep hx3).keep hb9, rfl, fun g hg => .inl (a2 g hg), (a3.then hx3).then hb9, fun g hg hc => ?_⟩
    have h1 := (ho.blk g hg).1
    have h2 := a1.size hc
    omega)
  clear k3 hv2 a1 a2 a3 k1 k2 k4 hx3 HT HN
  refine wp_region_invW rfl Grows (fun i v x => match i with
      | 0 => v = .pointer (some ⟨T7, 0, none⟩)
      | 1 => v = .int .i64 to
      | 2 => v = .pointer (some ⟨T7, 1, none⟩)
      | 3 => v = .slice va b.length vc
      | 4 => Own8 x W3.heap.size 5 v b
      | 5 => v = .bool true
      | 6 => v = .int .i64 to
      | 7 => Own8 x W3.heap.size 5 v b
      | 8 => v = .bool true
      | _ => True) (by kernel_rfl) (Grows.refl _) Grows.trans ?rstab ?rsteps ?rfin
  case rstab =>
    intro i v x y hg h
    match i with
    | 0 | 1 | 2 | 3 | 5 | 6 | 8 => exact h
    | 4 => exact (h.keep ⟨hg.os, hg.tape, hg.output, hg.size, hg.block⟩)
    | 7 => exact (h.keep ⟨hg.os, hg.tape, hg.output, hg.size, hg.block⟩)
    | n + 9 => trivial
  case rsteps =>
    refine ⟨?_, ?_, ?_, ?_, ?_, ?_, ?_, ?_, ?_, trivial⟩
    · intro a x hA
      have t7 := hA.at_ 7 (by first | rfl | kernel_rfl) rfl
      refine step_value (w' := x) (v := .pointer (some ⟨T7, 0, none⟩)) ?_ (Grows.refl _) ?_
      · go_simp
      · rfl
    · intro a x hA
      have t18 : a.tmps[18]?.getD undef = .pointer (some ⟨T7, 0, none⟩) := hA.dep_ ⟨0, .data⟩ (by simp) _ 18 rfl rfl
      have hBx := HT7.out.keep hA.grown
      have hc0 := hBx.cell (o := 0) rfl
      have hc1 := hBx.cell (o := 1) rfl
      clear hBx
      refine step_value (w' := x) (v := .int .i64 to) ?_ (Grows.refl _) ?_
      · go_simp
      · rfl
    · intro a x hA
      have t7 := hA.at_ 7 (by first | rfl | kernel_rfl) rfl
      refine step_value (w' := x) (v := .pointer (some ⟨T7, 1, none⟩)) ?_ (Grows.refl _) ?_
      · go_simp
      · rfl
    · intro a x hA
      have t20 : a.tmps[20]?.getD undef = .pointer (some ⟨T7, 1, none⟩) := hA.dep_ ⟨2, .data⟩ (by simp) _ 20 rfl rfl
      have hBx := HT7.out.keep hA.grown
      have hc0 := hBx.cell (o := 0) rfl
      have hc1 := hBx.cell (o := 1) rfl
      clear hBx
      refine step_value (w' := x) (v := .slice va b.length vc) ?_ (Grows.refl _) ?_
      · go_simp
      · rfl
    · intro a x hA
      have t21 : a.tmps[21]?.getD undef = .slice va b.length vc := hA.dep_ ⟨3, .data⟩ (by simp) _ 21 rfl rfl
      have hvx := HV7.out.keep hA.grown
      have hsz := hA.grown.size
      refine step_call (f := 42) (args := #[.slice va b.length vc]) (by clear hvx hsz; go_simp) ((slices_Clone _ b x hvx (by omega)).mono ?_)
      rintro e w' ⟨v', rfl, hb, ho, hbb⟩
      exact ⟨_, rfl, hbb, ho.mono hsz⟩
    · intro a x hA
      have t6 := hA.at_ 6 (by first | rfl | kernel_rfl) rfl
      refine step_value (w' := x) (v := .bool true) ?_ (Grows.refl _) ?_
      · go_simp
      · rfl
    · intro a x hA
      have t19 : a.tmps[19]?.getD undef = .int .i64 to := hA.dep_ ⟨1, .data⟩ (by simp) _ 19 rfl rfl
      refine step_value (w' := x) (v := .int .i64 to) ?_ (Grows.refl _) ?_
      · go_simp
      · rfl
    · intro a x hA
      have t22 : Own8 x W3.heap.size 5 (a.tmps[22]?.getD undef) b := hA.dep_ ⟨4, .data⟩ (by simp) _ 22 rfl rfl
      have o22 := t22
      obtain ⟨a8, c8, e8⟩ := o22.form
      refine step_value (w' := x) (v := .slice a8 b.length c8) ?_ (Grows.refl _) (by rw [e8] at o22; exact o22)
      clear o22 hA
      go_simp
    · intro a x hA
      have t23 : a.tmps[23]?.getD undef = .bool true := hA.dep_ ⟨5, .data⟩ (by simp) _ 23 rfl rfl
      refine step_value (w' := x) (v := .bool true) ?_ (Grows.refl _) ?_
      · go_simp
      · rfl
  case rfin =>
    intro y W' hg hV
    simp only [List.take_succ_cons, List.take_zero, AllVals] at hV
    obtain ⟨-, -, -, -, -, -, e1, o4, e6, -⟩ := hV
    have hb1 := grows_below hg
    clear hg
    obtain ⟨a8, c8, e8⟩ := o4.form
    rw [e8] at o4
    simp only [List.take_succ_cons, List.take_zero, List.drop_succ_cons, List.drop_zero, putAll, Act.put, List.setIfInBounds_toArray, List.set_cons_zero, List.set_cons_succ]
    rw [e1, e8, e6]
    clear e1 e8 e6
    have HO4 := hid (And.intro o4 hb1)
    clear o4 hb1
    go_wp2_with fail
    go_ret3
    exact ⟨_, rfl, HFIN.out _ _ HO4.out.1 HO4.out.2⟩

set_option maxRecDepth 100000 in
set_option maxHeartbeats 6400000 in
theorem net_Message (h : NetAt W q s) (k : Nat) (to : Int) (b : List UInt8) (hk : s.late[k]? = some (to, b)) :
    Calls Tryz.prog 53 #[.pointer (some ⟨q.N, 0, none⟩), .int .i64 (k : Int)] W (GotPost W q to b true s) := by
  obtain ⟨rs, va, vc, hm, hr, hb, hbl, hvo⟩ := h.row_at hk
  simp only at hr hb hbl hvo
  have HL := hid (net_Late h)
  have hkl : k < s.late.length := (List.getElem?_eq_some_iff.1 hk).1
  have hkr : k < rs.length := by have := hm.len; omega
  obtain ⟨g, cap, hg⟩ : ∃ g c, q.tv = .slice (some ⟨g, 0, none⟩) s.late.length c := by
    rcases hm.row.form with ⟨_, e⟩ | ⟨g, c, e⟩
    · subst e; simp at hkr
    · rw [hm.len] at e; exact ⟨g, c, e⟩
  have c1 : W.cell? ⟨q.N, 1, none⟩ = some (.slice (some ⟨g, 0, none⟩) s.late.length cap) := by rw [← hg]; exact h.net.cell (o := 1) rfl
  have hrow := hm.row
  rw [hg] at hrow
  have hca := hrow.cells (mcells_at hr).1
  have hcb := hrow.cells (mcells_at hr).2
  have hd0 : decide ((k : Int) < 0) = false := decide_eq_false (by omega)
  have hd1 : decide ((k : Int) ≥ (s.late.length : Int)) = false := decide_eq_false (by omega)
  have hk1 : (k : Int) < (s.late.length : Int) := by omega
  have HH := hid (And.intro h (And.intro hm hb))
  clear h hm hr hb hvo hk hg hkl hkr hrow
  go_enter Tryz.func53, Tryz.ntmps53
  go_wp2_with fail
  refine HL.out.mono ?_
  rintro e Wx ⟨rfl, hw⟩
  rw [hw]
  clear hw Wx
  go_upto_region 4 with fail
  clear hca hcb c1
  obtain ⟨T7, hT7⟩ : ∃ T, W.heap.size = T := ⟨_, rfl⟩
  have hx3 : Below W.heap.size W (W.alloc (.cells #[.int .i64 to, .slice va b.length vc] 120)) := (Below.refl _ _).alloc (Nat.le_refl _) _
  have k3 : Blk (W.alloc (.cells #[.int .i64 to, .slice va b.length vc] 120)) W.heap.size #[.int .i64 to, .slice va b.length vc] 120 := Blk.new _ _ _
  have HT8 := hid hT7
  try rw [hT7]
  rw [hT7] at k3
  generalize W.alloc (.cells #[.int .i64 to, .slice va b.length vc] 120) = W3 at *
  have HT7 := hid k3
  have HV7 := hid (HH.out.2.2.keep hx3)
  have HFIN := hid (show ∀ v w', Own8 w' W3.heap.size 5 v b → Below W3.heap.size W3 w' → Own8 w' W.heap.size 5 v b ∧ ∃ q', NetAt w' q' s ∧ q'.N = q.N ∧ (∀ g, q'.all g → q.all g ∨ W.heap.size ≤ g) ∧ Ext q.all W w' ∧ ∀ g, v.ownBlock = some g → ¬ q'.all g from fun v w' ho hb9 => by
    have hsz := hx3.size
    refine ⟨ho.mono hsz, q, (HH.out.1.keep hx3).keep hb9, rfl, fun g hg => .inl hg, (Ext.ofBelow hx3 : Ext q.all W W3).then hb9, fun g hg hc => ?_⟩
    have h1 := (ho.blk g hg).1
    have h2 := HH.out.1.size hc
    omega)
  clear k3 hx3 HL hT7
  refine wp_region_invW rfl Grows (fun i v x => match i with
      | 0 => v = .pointer (some ⟨T7, 0, none⟩)
      | 1 => v = .int .i64 to
      | 2 => v = .pointer (some ⟨T7, 1, none⟩)
      | 3 => v = .slice va b.length vc
      | 4 => Own8 x W3.heap.size 5 v b
      | 5 => v = .int .i64 to
      | 6 => Own8 x W3.heap.size 5 v b
      | 7 => v = .bool true
      | _ => True) (by kernel_rfl) (Grows.refl _) Grows.trans ?rstab ?rsteps ?rfin
  case rstab =>
    intro i v x y hg h
    match i with
    | 0 | 1 | 2 | 3 | 5 | 7 => exact h
    | 4 => exact (h.keep ⟨hg.os, hg.tape, hg.output, hg.size, hg.block⟩)
    | 6 => exact (h.keep ⟨hg.os, hg.tape, hg.output, hg.size, hg.block⟩)
    | n + 8 => trivial
  case rsteps =>
    refine ⟨?_, ?_, ?_, ?_, ?_, ?_, ?_, ?_, trivial⟩
    · intro a x hA
      have t7 := hA.at_ 7 (by first | rfl | kernel_rfl) rfl
      refine step_value (w' := x) (v := .pointer (some ⟨T7, 0, none⟩)) ?_ (Grows.refl _) ?_
      · go_simp
      · rfl
    · intro a x hA
      have t24 : a.tmps[24]?.getD undef = .pointer (some ⟨T7, 0, none⟩) := hA.dep_ ⟨0, .data⟩ (by simp) _ 24 rfl rfl
      have hBx := HT7.out.keep hA.grown
      have hc0 := hBx.cell (o := 0) rfl
      have hc1 := hBx.cell (o := 1) rfl
      clear hBx
      refine step_value (w' := x) (v := .int .i64 to) ?_ (Grows.refl _) ?_
      · go_simp
      · rfl
    · intro a x hA
      have t7 := hA.at_ 7 (by first | rfl | kernel_rfl) rfl
      refine step_value (w' := x) (v := .pointer (some ⟨T7, 1, none⟩)) ?_ (Grows.refl _) ?_
      · go_simp
      · rfl
    · intro a x hA
      have t26 : a.tmps[26]?.getD undef = .pointer (some ⟨T7, 1, none⟩) := hA.dep_ ⟨2, .data⟩ (by simp) _ 26 rfl rfl
      have hBx := HT7.out.keep hA.grown
      have hc0 := hBx.cell (o := 0) rfl
      have hc1 := hBx.cell (o := 1) rfl
      clear hBx
      refine step_value (w' := x) (v := .slice va b.length vc) ?_ (Grows.refl _) ?_
      · go_simp
      · rfl
    · intro a x hA
      have t27 : a.tmps[27]?.getD undef = .slice va b.length vc := hA.dep_ ⟨3, .data⟩ (by simp) _ 27 rfl rfl
      have hvx := HV7.out.keep hA.grown
      have hsz := hA.grown.size
      refine step_call (f := 42) (args := #[.slice va b.length vc]) (by clear hvx hsz; go_simp) ((slices_Clone _ b x hvx (by omega)).mono ?_)
      rintro e w' ⟨v', rfl, hb, ho, hbb⟩
      exact ⟨_, rfl, hbb, ho.mono hsz⟩
    · intro a x hA
      have t25 : a.tmps[25]?.getD undef = .int .i64 to := hA.dep_ ⟨1, .data⟩ (by simp) _ 25 rfl rfl
      refine step_value (w' := x) (v := .int .i64 to) ?_ (Grows.refl _) ?_
      · go_simp
      · rfl
    · intro a x hA
      have t28 : Own8 x W3.heap.size 5 (a.tmps[28]?.getD undef) b := hA.dep_ ⟨4, .data⟩ (by simp) _ 28 rfl rfl
      have o22 := t28
      obtain ⟨a8, c8, e8⟩ := o22.form
      refine step_value (w' := x) (v := .slice a8 b.length c8) ?_ (Grows.refl _) (by rw [e8] at o22; exact o22)
      clear o22 hA
      go_simp
    · intro a x hA
      refine step_value (w' := x) (v := .bool true) ?_ (Grows.refl _) ?_
      · go_simp
      · rfl
  case rfin =>
    intro y W' hg hV
    simp only [List.take_succ_cons, List.take_zero, AllVals] at hV
    obtain ⟨-, -, -, -, -, e1, o4, e6, -⟩ := hV
    have hb1 := grows_below hg
    clear hg
    obtain ⟨a8, c8, e8⟩ := o4.form
    rw [e8] at o4
    simp only [List.take_succ_cons, List.take_zero, List.drop_succ_cons, List.drop_zero, putAll, Act.put, List.setIfInBounds_toArray, List.set_cons_zero, List.set_cons_succ]
    rw [e1, e8, e6]
    clear e1 e8 e6
    have HO4 := hid (And.intro o4 hb1)
    clear o4 hb1
    go_wp2_with fail
    go_ret3
    exact ⟨_, rfl, HFIN.out _ _ HO4.out.1 HO4.out.2⟩
end
end Go.Proofs.YtbahjinlcbjikaaGreat
