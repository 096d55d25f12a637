import Derived.Test.YtbofcocfcmlcaaaMCall
/-! gazettelaw04.call. -/
namespace Go.Proofs.Ytbofcocfcmlcaaa
open Go.RowKit

section
variable {W : World} {q : StP} {S : St} {D : Dk}
set_option maxRecDepth 100000 in
set_option maxHeartbeats 1600000 in
theorem law_call (h : StAt W q S D) (hon : On S D) (o : Opr) (ho0 : OprOk o) (bv lv : Value) (hb : BsW W bv o.b) :
    Calls Try.prog 20 #[.pointer (some ⟨q.s, 0, none⟩), o.val bv lv] W fun e w' => e = .returned (.int .i64 (callF S D o).1) ∧ (∃ q', StAt w' q' (callF S D o).2.1 (callF S D o).2.2 ∧ Went q q' W.heap.size) ∧ Ext q.own W w' := by
  obtain ⟨av, cv, rfl⟩ := hb.form
  obtain ⟨DT, hdt⟩ : ∃ DT, DT = o.data := ⟨_, rfl⟩
  have hDTl := hid (show DT.length ≤ 9223372036854775807 by rw [hdt]; have := o.data_len ho0; omega)
  have hDT := hid hdt.symm
  clear hdt
  have ho := hid ho0
  clear ho0
  obtain ⟨od, ol, op, on, orp, ob, os, oll⟩ := o
  obtain ⟨mi, hi1, hi2, hi3⟩ := mod3_num ol 3 (by omega)
  obtain ⟨mp, hp1, hp2, hp3⟩ := mod3_num op 6 (by omega)
  have hw1 := mod3_wrap ol 3 (by omega) (by omega)
  have hw2 := mod3_wrap op 6 (by omega) (by omega)
  have hip := hid (And.intro hi3 hp3)
  clear hi3 hp3
  unfold Opr.val
  simp only at hb ⊢
  have b1 : Below W.heap.size W (W.alloc (.cells #[.int .i64 od, .int .i64 ol, .int .i64 op, .int .i64 on, .bool orp, .slice av ob.length cv, .int .i64 os, lv] 48)) := (Below.refl _ W).alloc (Nat.le_refl _) _
  have bE := Blk.new W #[.int .i64 od, .int .i64 ol, .int .i64 op, .int .i64 on, .bool orp, .slice av ob.length cv, .int .i64 os, lv] 48
  have hv1 := hb.keep b1
  have r1 := h.keep b1
  obtain ⟨W1, hW1⟩ : ∃ W1, W.alloc (.cells #[.int .i64 od, .int .i64 ol, .int .i64 op, .int .i64 on, .bool orp, .slice av ob.length cv, .int .i64 os, lv] 48) = W1 := ⟨_, rfl⟩
  rw [hW1] at b1 bE hv1 r1
  have HV := hid hv1
  have HR := hid (And.intro r1 b1)
  have c0 := bE.cell (o := 0) rfl
  have c1 := bE.cell (o := 1) rfl
  have c2 := bE.cell (o := 2) rfl
  clear hb hv1 r1 b1 h
  have Hon := hid hon
  clear hon
  go_enter Try.func20, Try.ntmps20
  by_cases hk : od = 0
  · have hk0 := hid hk
    have hkb : (od == 0) = true := beq_iff_eq.2 hk
    clear hk
    go_wp2_with fail
    clear hW1 c0 c1 c2
    refine wp_region_tail 7 rfl Grows (fun i v x => match i with
        | 0 => v = .pointer (some ⟨q.s, 0, none⟩)
        | 1 => v = .int .i64 (mi : Int)
        | 2 => v = .int .i64 (mp : Int)
        | 3 => v = .agg #[.int .i64 od, .int .i64 ol, .int .i64 op, .int .i64 on, .bool orp, .slice av ob.length cv, .int .i64 os, lv]
        | 4 => Own8 x W1.heap.size 5 v DT
        | 5 => v = .pointer (some ⟨W.heap.size, 4, none⟩)
        | 6 => v = .bool orp
        | _ => True) (by kernel_rfl) (Grows.refl _) Grows.trans ?rstab ?rsteps ?rfin
    case rstab =>
      intro i v x y hg h
      match i with
      | 0 | 1 | 2 | 3 | 5 | 6 => exact h
      | 4 => exact Own8.keep h hg
      | n + 7 => trivial
    case rsteps =>
      simp only [List.take_succ_cons, List.take_zero]
      refine ⟨?_, ?_, ?_, ?_, ?_, ?_, ?_, trivial⟩
      · intro a x hA
        have t0 := hA.at_ 0 (by rfl) rfl
        refine step_value (w' := x) (v := .pointer (some ⟨q.s, 0, none⟩)) ?_ (Grows.refl _) ?_
        · go_simp
        · rfl
      · intro a x hA
        have t5 := hA.at_ 5 (by rfl) rfl
        refine step_value (w' := x) (v := .int .i64 (mi : Int)) ?_ (Grows.refl _) ?_
        · go_simp
        · rfl
      · intro a x hA
        have t6 := hA.at_ 6 (by rfl) rfl
        refine step_value (w' := x) (v := .int .i64 (mp : Int)) ?_ (Grows.refl _) ?_
        · go_simp
        · rfl
      · intro a x hA
        have t3 := hA.at_ 3 (by rfl) rfl
        have hEx := bE.keep hA.grown
        have hc0 := hEx.cell (o := 0) rfl
        have hc1 := hEx.cell (o := 1) rfl
        have hc2 := hEx.cell (o := 2) rfl
        have hc3 := hEx.cell (o := 3) rfl
        have hc4 := hEx.cell (o := 4) rfl
        have hc5 := hEx.cell (o := 5) rfl
        have hc6 := hEx.cell (o := 6) rfl
        have hc7 := hEx.cell (o := 7) rfl
        clear hEx
        refine step_value (w' := x) (v := .agg #[.int .i64 od, .int .i64 ol, .int .i64 op, .int .i64 on, .bool orp, .slice av ob.length cv, .int .i64 os, lv]) ?_ (Grows.refl _) ?_
        · go_simp
        · rfl
      · intro a x hA
        have t24 : a.tmps[24]?.getD undef = .agg #[.int .i64 od, .int .i64 ol, .int .i64 op, .int .i64 on, .bool orp, .slice av ob.length cv, .int .i64 os, lv] := hA.dep_ ⟨3, .data⟩ (by simp) _ 24 rfl rfl
        have hbx := HV.out.keep hA.grown
        have hs := hA.grow.size
        refine step_call (f := 62) (args := #[.agg #[.int .i64 od, .int .i64 ol, .int .i64 op, .int .i64 on, .bool orp, .slice av ob.length cv, .int .i64 os, lv]]) (by clear hbx; go_simp) ((op_data _ ho.out _ lv hbx).mono ?_)
        rintro e w' ⟨v, rfl, ho9, hb9⟩
        exact ⟨v, rfl, hb9, by rw [← hDT.out]; exact ho9.mono hs⟩
      · intro a x hA
        have t3 := hA.at_ 3 (by rfl) rfl
        refine step_value (w' := x) (v := .pointer (some ⟨W.heap.size, 4, none⟩)) ?_ (Grows.refl _) ?_
        · go_simp
        · rfl
      · intro a x hA
        have t26 : a.tmps[26]?.getD undef = .pointer (some ⟨W.heap.size, 4, none⟩) := hA.dep_ ⟨5, .data⟩ (by simp) _ 26 rfl rfl
        have hEx := bE.keep hA.grown
        have hc0 := hEx.cell (o := 0) rfl
        have hc1 := hEx.cell (o := 1) rfl
        have hc2 := hEx.cell (o := 2) rfl
        have hc3 := hEx.cell (o := 3) rfl
        have hc4 := hEx.cell (o := 4) rfl
        have hc5 := hEx.cell (o := 5) rfl
        have hc6 := hEx.cell (o := 6) rfl
        have hc7 := hEx.cell (o := 7) rfl
        clear hEx
        refine step_value (w' := x) (v := .bool orp) ?_ (Grows.refl _) ?_
        · go_simp
        · rfl
    case rfin =>
      intro y W' hg hV
      simp only [List.take_succ_cons, List.take_zero, AllVals] at hV
      obtain ⟨u0, u1, u2, u3, u4, u5, u6, _⟩ := hV
      simp only [List.take_succ_cons, List.take_zero, List.drop_succ_cons, List.drop_zero, putAll, Act.put, List.setIfInBounds_toArray, List.set_cons_zero, List.set_cons_succ]
      rw [u0, u1, u2, u6]
      clear u0 u1 u2 u3 u5 u6
      have hbW : Below W.heap.size W W' := HR.out.2.trans (Below.mono (Below.trans (below_of_drewN _ W1 1) hg) HR.out.2.size)
      have r' := HR.out.1.keep (Below.trans (below_of_drewN _ W1 1) hg)
      clear hg
      generalize y 25 = dv at *
      obtain ⟨da, dc, rfl⟩ := u4.form
      have hdb := u4.bs
      have hdo := u4.blk
      clear u4
      by_cases hmuch : 65536 < DT.length
      · have hF := hid (show callF S D ⟨od, ol, op, on, orp, ob, os, oll⟩ = (6, S, D) by unfold callF; rw [if_pos hk0.out, hDT.out, if_pos hmuch])
        have hP := hid (store_Put_much r' (mi : Int) (mp : Int) da DT.length dc orp hmuch hDTl.out (by omega) (by omega) (by omega) (by omega))
        have HH := hid (And.intro r' hbW)
        clear r' hbW hdb hdo
        go_wp2_with fail
        refine hP.out.mono ?_
        rintro e w9 ⟨rfl, b9⟩
        go_wp2_with fail
        refine (law_num _ _).mono ?_
        rintro e w' ⟨rfl, rfl⟩
        go_wp2_with fail
        go_ret
        rw [hF.out]
        exact ⟨rfl, ⟨q, HH.out.1.keep b9, Went.refl _ _⟩, Ext.ofBelow (HH.out.2.trans (b9.mono HH.out.2.size))⟩
      · have hF := hid (show callF S D ⟨od, ol, op, on, orp, ob, os, oll⟩ = putF S D (mi : Int) (mp : Int) DT orp by unfold callF; rw [if_pos hk0.out, hDT.out, if_neg hmuch, hip.out.1, hip.out.2])
        have hP := hid (store_Put r' Hon.out (mi : Int) (mp : Int) _ DT orp hdb (fun g hg hq => by
          have h1 := (hdo g hg).1
          have h2 := HR.out.1.size hq
          omega) (by omega) (by omega) (by omega) (by omega) (by omega))
        have HH := hid hbW
        clear r' hbW hdb hdo
        go_wp2_with fail
        refine hP.out.mono ?_
        rintro e w9 hpost
        have HQ := hid hpost.2
        obtain ⟨rfl, _⟩ := hpost
        go_wp2_with fail
        refine (law_num _ _).mono ?_
        rintro e w' ⟨rfl, rfl⟩
        go_wp2_with fail
        go_ret
        rw [hF.out]
        obtain ⟨⟨q', a1, a2⟩, a3⟩ := HQ.out
        exact ⟨rfl, ⟨q', a1, a2.le HH.out.size⟩, (Ext.ofBelow HH.out : Ext q.own W W').trans' a3⟩

  · have hk0 := hid hk
    have hkb : (od == 0) = false := beq_eq_false_iff_ne.2 hk
    clear hk
    by_cases hk1 : od = 1
    · have hkb1 : (od == 1) = true := beq_iff_eq.2 hk1
      have hF := hid (show callF S D ⟨od, ol, op, on, orp, ob, os, oll⟩ = sealF S D (mi : Int) by unfold callF; rw [if_neg hk0.out, if_pos hk1, hip.out.1])
      have hP := hid (store_Seal HR.out.1 Hon.out (mi : Int) (by omega) (by omega))
      clear hk1
      go_wp2_with fail
      refine hP.out.mono ?_
      rintro e w9 hpost
      have HQ := hid hpost.2
      obtain ⟨rfl, _⟩ := hpost
      go_wp2_with fail
      refine (law_num _ _).mono ?_
      rintro e w' ⟨rfl, rfl⟩
      go_wp2_with fail
      go_ret
      rw [hF.out]
      obtain ⟨⟨q', a1, a2⟩, a3⟩ := HQ.out
      exact ⟨rfl, ⟨q', a1, a2.le HR.out.2.size⟩, (Ext.ofBelow HR.out.2 : Ext q.own W _).trans' a3⟩
    have hk1' := hid hk1
    have hkb1 : (od == 1) = false := beq_eq_false_iff_ne.2 hk1
    clear hk1
    by_cases hk2 : od = 2
    · have hkb2 : (od == 2) = true := beq_iff_eq.2 hk2
      have hF := hid (show callF S D ⟨od, ol, op, on, orp, ob, os, oll⟩ = trimF S D (mi : Int) (mp : Int) by unfold callF; rw [if_neg hk0.out, if_neg hk1'.out, if_pos hk2, hip.out.1, hip.out.2])
      have hP := hid (store_Trim HR.out.1 Hon.out (mi : Int) (mp : Int) (by omega) (by omega) (by omega) (by omega))
      clear hk2
      go_wp2_with fail
      refine hP.out.mono ?_
      rintro e w9 hpost
      have HQ := hid hpost.2
      obtain ⟨rfl, _⟩ := hpost
      go_wp2_with fail
      refine (law_num _ _).mono ?_
      rintro e w' ⟨rfl, rfl⟩
      go_wp2_with fail
      go_ret
      rw [hF.out]
      obtain ⟨⟨q', a1, a2⟩, a3⟩ := HQ.out
      exact ⟨rfl, ⟨q', a1, a2.le HR.out.2.size⟩, (Ext.ofBelow HR.out.2 : Ext q.own W _).trans' a3⟩
    · have hF := hid (show callF S D ⟨od, ol, op, on, orp, ob, os, oll⟩ = (99, S, D) by unfold callF; rw [if_neg hk0.out, if_neg hk1'.out, if_neg hk2])
      have hkb2 : (od == 2) = false := beq_eq_false_iff_ne.2 hk2
      clear hk2
      go_wp2_with fail
      go_ret
      rw [hF.out]
      exact ⟨rfl, ⟨q, HR.out.1, Went.refl _ _⟩, Ext.ofBelow HR.out.2⟩
end

theorem run_call {B : Nat} {W : World} {q : StP} {S : St} {D : Dk} (r : Run B W q S D) (hB : B ≤ W.heap.size) (o : Opr) (ho0 : OprOk o) (bv lv : Value) (hb : BsW W bv o.b) :
    Calls Try.prog 20 #[.pointer (some ⟨q.s, 0, none⟩), o.val bv lv] W fun e w' => e = .returned (.int .i64 (callF S D o).1) ∧ (∃ q', Run B w' q' (callF S D o).2.1 (callF S D o).2.2 ∧ q'.s = q.s) ∧ Below B W w' := by
  refine (law_call r.at_ r.on o ho0 bv lv hb).mono ?_
  rintro e w' ⟨rfl, ⟨q', h1, h2⟩, hx⟩
  exact ⟨rfl, ⟨q', r.went hB h1 h2 (callF_on r.on o), h2.1⟩, r.below hB hx⟩

end Go.Proofs.Ytbofcocfcmlcaaa
