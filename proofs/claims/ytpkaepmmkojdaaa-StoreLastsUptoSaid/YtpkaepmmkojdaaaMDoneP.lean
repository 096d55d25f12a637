import Derived.Test.YtpkaepmmkojdaaaLastP
import Derived.Test.YtpkaepmmkojdaaaPPut
/-! gazettelaw04.call. -/
namespace Go.Proofs.Ytpkaepmmkojdaaa
open Go.RowKit

section
variable {W : World} {q : StP} {S : St} {D : Dk}
set_option maxRecDepth 100000 in
set_option maxHeartbeats 1600000 in
theorem law_callP (h : StAt W q S D) (hq : Quiet D) (o : Opr) (ho0 : OprOk o) (bv lv : Value) (hb : BsW W bv o.b) :
    Calls Try.prog 10 #[.pointer (some ⟨q.s, 0, none⟩), o.val bv lv] W fun e w' => e = .returned (.int .i64 (callP S D o).1) ∧ (∃ q', StAt w' q' (callP S D o).2.1 (callP S D o).2.2 ∧ Went q q' W.heap.size) ∧ Ext q.own W w' := by
  obtain ⟨av, cv, rfl⟩ := hb.form
  obtain ⟨DT, hdt⟩ : ∃ DT, DT = o.data := ⟨_, rfl⟩
  have hDTl := hid (show DT.length ≤ 9223372036854775807 by rw [hdt]; have := o.data_len ho0; omega)
  have hDT := hid hdt.symm
  clear hdt
  have ho := hid ho0
  clear ho0
  obtain ⟨od, ol, op, on, orp, ob, os, oll⟩ := o
  obtain ⟨mi, hi1, hi2, hi3⟩ := mod3_num ol 3 (by omega)
  obtain ⟨mp, hp1, hp2, hp3⟩ := mod3_num op 6 (by omega)
  have hw1 := mod3_wrap ol 3 (by omega) (by omega)
  have hw2 := mod3_wrap op 6 (by omega) (by omega)
  have hip := hid (And.intro hi3 hp3)
  clear hi3 hp3
  unfold Opr.val
  simp only at hb ⊢
  have b1 : Below W.heap.size W (W.alloc (.cells #[.int .i64 od, .int .i64 ol, .int .i64 op, .int .i64 on, .bool orp, .slice av ob.length cv, .int .i64 os, lv] 43)) := (Below.refl _ W).alloc (Nat.le_refl _) _
  have bE := Blk.new W #[.int .i64 od, .int .i64 ol, .int .i64 op, .int .i64 on, .bool orp, .slice av ob.length cv, .int .i64 os, lv] 43
  have hv1 := hb.keep b1
  have r1 := h.keep b1
  obtain ⟨W1, hW1⟩ : ∃ W1, W.alloc (.cells #[.int .i64 od, .int .i64 ol, .int .i64 op, .int .i64 on, .bool orp, .slice av ob.length cv, .int .i64 os, lv] 43) = W1 := ⟨_, rfl⟩
  rw [hW1] at b1 bE hv1 r1
  have HV := hid hv1
  have HR := hid (And.intro r1 b1)
  have c0 := bE.cell (o := 0) rfl
  have c1 := bE.cell (o := 1) rfl
  have c2 := bE.cell (o := 2) rfl
  clear hb hv1 r1 b1 h
  have Hon := hid hq
  clear hq
  go_enter Try.func10, Try.ntmps10
  by_cases hk : od = 0
  · have hk0 := hid hk
    have hkb : (od == 0) = true := beq_iff_eq.2 hk
    clear hk
    go_wp2_with fail
    clear hW1 c0 c1 c2
    refine wp_region_tail 7 rfl Grows (fun i v x => match i with
        | 0 => v = .pointer (some ⟨q.s, 0, none⟩)
        | 1 => v = .int .i64 (mi : Int)
        | 2 => v = .int .i64 (mp : Int)
        | 3 => v = .agg #[.int .i64 od, .int .i64 ol, .int .i64 op, .int .i64 on, .bool orp, .slice av ob.length cv, .int .i64 os, lv]
        | 4 => Own8 x W1.heap.size 5 v DT
        | 5 => v = .pointer (some ⟨W.heap.size, 4, none⟩)
        | 6 => v = .bool orp
        | _ => True) (by kernel_rfl) (Grows.refl _) Grows.trans ?rstab ?rsteps ?rfin
    case rstab =>
      intro i v x y hg h
      match i with
      | 0 | 1 | 2 | 3 | 5 | 6 => exact h
      | 4 => exact Own8.keep h hg
      | n + 7 => trivial
    case rsteps =>
      simp only [List.take_succ_cons, List.take_zero]
      refine ⟨?_, ?_, ?_, ?_, ?_, ?_, ?_, trivial⟩
      · intro a x hA
        have t0 := hA.at_ 0 (by rfl) rfl
        refine step_value (w' := x) (v := .pointer (some ⟨q.s, 0, none⟩)) ?_ (Grows.refl _) ?_
        · go_simp
        · rfl
      · intro a x hA
        have t5 := hA.at_ 5 (by rfl) rfl
        refine step_value (w' := x) (v := .int .i64 (mi : Int)) ?_ (Grows.refl _) ?_
        · go_simp
        · rfl
      · intro a x hA
        have t6 := hA.at_ 6 (by rfl) rfl
        refine step_value (w' := x) (v := .int .i64 (mp : Int)) ?_ (Grows.refl _) ?_
        · go_simp
        · rfl
      · intro a x hA
        have t3 := hA.at_ 3 (by rfl) rfl
        have hEx := bE.keep hA.grown
        have hc0 := hEx.cell (o := 0) rfl
        have hc1 := hEx.cell (o := 1) rfl
        have hc2 := hEx.cell (o := 2) rfl
        have hc3 := hEx.cell (o := 3) rfl
        have hc4 := hEx.cell (o := 4) rfl
        have hc5 := hEx.cell (o := 5) rfl
        have hc6 := hEx.cell (o := 6) rfl
        have hc7 := hEx.cell (o := 7) rfl
        clear hEx
        refine step_value (w' := x) (v := .agg #[.int .i64 od, .int .i64 ol, .int .i64 op, .int .i64 on, .bool orp, .slice av ob.length cv, .int .i64 os, lv]) ?_ (Grows.refl _) ?_
        · go_simp
        · rfl
      · intro a x hA
        have t24 : a.tmps[24]?.getD undef = .agg #[.int .i64 od, .int .i64 ol, .int .i64 op, .int .i64 on, .bool orp, .slice av ob.length cv, .int .i64 os, lv] := hA.dep_ ⟨3, .data⟩ (by simp) _ 24 rfl rfl
        have hbx := HV.out.keep hA.grown
        have hs := hA.grow.size
        refine step_call (f := 28) (args := #[.agg #[.int .i64 od, .int .i64 ol, .int .i64 op, .int .i64 on, .bool orp, .slice av ob.length cv, .int .i64 os, lv]]) (by clear hbx; go_simp) ((op_data _ ho.out _ lv hbx).mono ?_)
        rintro e w' ⟨v, rfl, ho9, hb9⟩
        exact ⟨v, rfl, hb9, by rw [← hDT.out]; exact ho9.mono hs⟩
      · intro a x hA
        have t3 := hA.at_ 3 (by rfl) rfl
        refine step_value (w' := x) (v := .pointer (some ⟨W.heap.size, 4, none⟩)) ?_ (Grows.refl _) ?_
        · go_simp
        · rfl
      · intro a x hA
        have t26 : a.tmps[26]?.getD undef = .pointer (some ⟨W.heap.size, 4, none⟩) := hA.dep_ ⟨5, .data⟩ (by simp) _ 26 rfl rfl
        have hEx := bE.keep hA.grown
        have hc0 := hEx.cell (o := 0) rfl
        have hc1 := hEx.cell (o := 1) rfl
        have hc2 := hEx.cell (o := 2) rfl
        have hc3 := hEx.cell (o := 3) rfl
        have hc4 := hEx.cell (o := 4) rfl
        have hc5 := hEx.cell (o := 5) rfl
        have hc6 := hEx.cell (o := 6) rfl
        have hc7 := hEx.cell (o := 7) rfl
        clear hEx
        refine step_value (w' := x) (v := .bool orp) ?_ (Grows.refl _) ?_
        · go_simp
        · rfl
    case rfin =>
      intro y W' hg hV
      simp only [List.take_succ_cons, List.take_zero, AllVals] at hV
      obtain ⟨u0, u1, u2, u3, u4, u5, u6, _⟩ := hV
      simp only [List.take_succ_cons, List.take_zero, List.drop_succ_cons, List.drop_zero, putAll, Act.put, List.setIfInBounds_toArray, List.set_cons_zero, List.set_cons_succ]
      rw [u0, u1, u2, u6]
      clear u0 u1 u2 u3 u5 u6
      have hbW : Below W.heap.size W W' := HR.out.2.trans (Below.mono (Below.trans (below_of_drewN _ W1 1) hg) HR.out.2.size)
      have r' := HR.out.1.keep (Below.trans (below_of_drewN _ W1 1) hg)
      clear hg
      generalize y 25 = dv at *
      obtain ⟨da, dc, rfl⟩ := u4.form
      have hdb := u4.bs
      have hdo := u4.blk
      clear u4
      by_cases hmuch : 65536 < DT.length
      · have hF := hid (show callP S D ⟨od, ol, op, on, orp, ob, os, oll⟩ = (6, S, D) by unfold callP; rw [if_pos hk0.out, hDT.out, if_pos hmuch])
        have hP := hid (store_Put_much r' (mi : Int) (mp : Int) da DT.length dc orp hmuch hDTl.out (by omega) (by omega) (by omega) (by omega))
        have HH := hid (And.intro r' hbW)
        clear r' hbW hdb hdo
        go_wp2_with fail
        refine hP.out.mono ?_
        rintro e w9 ⟨rfl, b9⟩
        go_wp2_with fail
        refine (law_num _ _).mono ?_
        rintro e w' ⟨rfl, rfl⟩
        go_wp2_with fail
        go_ret
        rw [hF.out]
        exact ⟨rfl, ⟨q, HH.out.1.keep b9, Went.refl _ _⟩, Ext.ofBelow (HH.out.2.trans (b9.mono HH.out.2.size))⟩
      · have hF := hid (show callP S D ⟨od, ol, op, on, orp, ob, os, oll⟩ = putP S D (mi : Int) (mp : Int) DT orp by unfold callP; rw [if_pos hk0.out, hDT.out, if_neg hmuch, hip.out.1, hip.out.2])
        have hP := hid (store_PutP r' Hon.out (mi : Int) (mp : Int) _ DT orp hdb (fun g hg hq => by
          have h1 := (hdo g hg).1
          have h2 := HR.out.1.size hq
          omega) (by omega) (by omega) (by omega) (by omega) (by omega))
        have HH := hid hbW
        clear r' hbW hdb hdo
        go_wp2_with fail
        refine hP.out.mono ?_
        rintro e w9 hpost
        have HQ := hid hpost.2
        obtain ⟨rfl, _⟩ := hpost
        go_wp2_with fail
        refine (law_num _ _).mono ?_
        rintro e w' ⟨rfl, rfl⟩
        go_wp2_with fail
        go_ret
        rw [hF.out]
        obtain ⟨⟨q', a1, a2⟩, a3⟩ := HQ.out
        exact ⟨rfl, ⟨q', a1, a2.le HH.out.size⟩, (Ext.ofBelow HH.out : Ext q.own W W').trans' a3⟩

  · have hk0 := hid hk
    have hkb : (od == 0) = false := beq_eq_false_iff_ne.2 hk
    clear hk
    by_cases hk1 : od = 1
    · have hkb1 : (od == 1) = true := beq_iff_eq.2 hk1
      have hF := hid (show callP S D ⟨od, ol, op, on, orp, ob, os, oll⟩ = sealP S D (mi : Int) by unfold callP; rw [if_neg hk0.out, if_pos hk1, hip.out.1])
      have hP := hid (store_SealP HR.out.1 Hon.out (mi : Int) (by omega) (by omega))
      clear hk1
      go_wp2_with fail
      refine hP.out.mono ?_
      rintro e w9 hpost
      have HQ := hid hpost.2
      obtain ⟨rfl, _⟩ := hpost
      go_wp2_with fail
      refine (law_num _ _).mono ?_
      rintro e w' ⟨rfl, rfl⟩
      go_wp2_with fail
      go_ret
      rw [hF.out]
      obtain ⟨⟨q', a1, a2⟩, a3⟩ := HQ.out
      exact ⟨rfl, ⟨q', a1, a2.le HR.out.2.size⟩, (Ext.ofBelow HR.out.2 : Ext q.own W _).trans' a3⟩
    have hk1' := hid hk1
    have hkb1 : (od == 1) = false := beq_eq_false_iff_ne.2 hk1
    clear hk1
    by_cases hk2 : od = 2
    · have hkb2 : (od == 2) = true := beq_iff_eq.2 hk2
      have hF := hid (show callP S D ⟨od, ol, op, on, orp, ob, os, oll⟩ = trimP S D (mi : Int) (mp : Int) by unfold callP; rw [if_neg hk0.out, if_neg hk1'.out, if_pos hk2, hip.out.1, hip.out.2])
      have hP := hid (store_TrimP HR.out.1 Hon.out (mi : Int) (mp : Int) (by omega) (by omega) (by omega) (by omega))
      clear hk2
      go_wp2_with fail
      refine hP.out.mono ?_
      rintro e w9 hpost
      have HQ := hid hpost.2
      obtain ⟨rfl, _⟩ := hpost
      go_wp2_with fail
      refine (law_num _ _).mono ?_
      rintro e w' ⟨rfl, rfl⟩
      go_wp2_with fail
      go_ret
      rw [hF.out]
      obtain ⟨⟨q', a1, a2⟩, a3⟩ := HQ.out
      exact ⟨rfl, ⟨q', a1, a2.le HR.out.2.size⟩, (Ext.ofBelow HR.out.2 : Ext q.own W _).trans' a3⟩
    · have hF := hid (show callP S D ⟨od, ol, op, on, orp, ob, os, oll⟩ = (99, S, D) by unfold callP; rw [if_neg hk0.out, if_neg hk1'.out, if_neg hk2])
      have hkb2 : (od == 2) = false := beq_eq_false_iff_ne.2 hk2
      clear hk2
      go_wp2_with fail
      go_ret
      rw [hF.out]
      exact ⟨rfl, ⟨q, HR.out.1, Went.refl _ _⟩, Ext.ofBelow HR.out.2⟩
end

end Go.Proofs.Ytpkaepmmkojdaaa

/-! gazettelaw04.done, plain: what is told behind a call. -/
namespace Go.Proofs.Ytpkaepmmkojdaaa
open Go.RowKit
theorem getF_put (S : St) (lo po : Int) (d : List UInt8) (ht : (S.get lo).2.1 ≤ po) (a b : Int) : getF (applyPut S lo po d) a b = if a = lo ∧ b = po then (0, d) else getF S a b := by
  have hg : ((applyPut S lo po d).get a).2.1 = (S.get a).2.1 := by
    unfold applyPut
    rw [get_state]
    split
    · rename_i e; rw [e]
    · rfl
  have hs : (applyPut S lo po d).slots (a, b) = if (a, b) = (lo, po) then some d else S.slots (a, b) := rfl
  unfold getF
  rw [hg, hs]
  by_cases h : a = lo ∧ b = po
  · obtain ⟨rfl, rfl⟩ := h
    rw [if_neg (by omega), if_pos (rfl : (a, b) = (a, b)), if_pos ⟨rfl, rfl⟩]
  · rw [if_neg h, if_neg (fun e => h ⟨congrArg Prod.fst e, congrArg Prod.snd e⟩)]
theorem getF_seal (S : St) (lo : Int) (a b : Int) : getF (applySeal S lo) a b = getF S a b := by
  have hg : ((applySeal S lo).get a).2.1 = (S.get a).2.1 := by
    unfold applySeal
    rw [get_state]
    split
    · rename_i e; rw [e]
    · rfl
  unfold getF
  rw [hg]
  rfl
theorem getF_trim (S : St) (lo po : Int) (a b : Int) : getF (applyTrim S lo po) a b = if a = lo ∧ b < max (S.get lo).2.1 po then (32, []) else getF S a b := by
  have hs : (applyTrim S lo po).slots (a, b) = S.slots (a, b) := rfl
  by_cases h : a = lo
  · subst h
    have hg : ((applyTrim S a po).get a).2.1 = max (S.get a).2.1 po := by unfold applyTrim; rw [get_state, if_pos rfl]
    unfold getF
    rw [hg, hs]
    by_cases h2 : b < max (S.get a).2.1 po
    · rw [if_pos h2, if_pos ⟨rfl, h2⟩]
    · rw [if_neg h2, if_neg (fun h => h2 h.2), if_neg (by omega)]
  · have hg : ((applyTrim S lo po).get a).2.1 = (S.get a).2.1 := by unfold applyTrim; rw [get_state, if_neg h]
    rw [if_neg (fun hh => h hh.1)]
    unfold getF
    rw [hg, hs]
theorem div_mod6 {j i k : Nat} (hk : k < 6) : ((j / 6 : Nat) : Int) = (i : Int) ∧ ((j % 6 : Nat) : Int) = (k : Int) ↔ j = i * 6 + k := by omega
theorem told_put (S : St) (i k : Nat) (hi : i < 3) (hk : k < 6) (d : List UInt8) (ht : (S.get (i : Int)).2.1 ≤ (k : Int)) :
    ((told S).setIfInBounds (18 + i * 6 + k) (.bool true)).setIfInBounds (i * 6 + k) (.string ⟨d.toArray⟩) = told (applyPut S i k d) := by
  have hz := told_size S
  apply Array.ext_getElem?
  intro j
  rw [told_get]
  have hst : ∀ a : Int, ((applyPut S i k d).get a).2 = (S.get a).2 := fun a => by
    unfold applyPut
    rw [get_state]
    split
    · rename_i e; rw [e]
    · rfl
  by_cases h1 : j < 18
  · rw [if_pos h1]
    unfold tData
    rw [getF_put S _ _ d ht]
    by_cases hj : j = i * 6 + k
    · rw [if_pos ((div_mod6 hk).2 hj), hj, Array.getElem?_setIfInBounds_self_of_lt (by simp; omega)]
    · rw [if_neg (fun h => hj ((div_mod6 hk).1 h)), Array.getElem?_setIfInBounds_ne (by omega), Array.getElem?_setIfInBounds_ne (by omega), told_get, if_pos h1]
      rfl
  rw [if_neg h1, Array.getElem?_setIfInBounds_ne (by omega)]
  by_cases h2 : j < 36
  · rw [if_pos h2]
    unfold tThere
    rw [getF_put S _ _ d ht]
    by_cases hj : j - 18 = i * 6 + k
    · rw [if_pos ((div_mod6 hk).2 hj), show j = 18 + i * 6 + k by omega, Array.getElem?_setIfInBounds_self_of_lt (by omega)]
      rfl
    · rw [if_neg (fun h => hj ((div_mod6 hk).1 h)), Array.getElem?_setIfInBounds_ne (by omega), told_get, if_neg h1, if_pos h2]
      rfl
  rw [if_neg h2, Array.getElem?_setIfInBounds_ne (by omega), told_get, if_neg h1, if_neg h2]
  unfold tSealed tTrim
  rw [hst, hst]
theorem told_seal (S : St) (i : Nat) (hi : i < 3) : (told S).setIfInBounds (36 + i) (.bool true) = told (applySeal S i) := by
  have hz := told_size S
  apply Array.ext_getElem?
  intro j
  rw [told_get]
  unfold tData tThere
  rw [getF_seal, getF_seal]
  by_cases h1 : j < 18
  · rw [if_pos h1, Array.getElem?_setIfInBounds_ne (by omega), told_get, if_pos h1]; rfl
  rw [if_neg h1]
  by_cases h2 : j < 36
  · rw [if_pos h2, Array.getElem?_setIfInBounds_ne (by omega), told_get, if_neg h1, if_pos h2]; rfl
  rw [if_neg h2]
  have hst : ∀ a : Int, ((applySeal S i).get a).2.1 = (S.get a).2.1 := fun a => by
    unfold applySeal
    rw [get_state]
    split
    · rename_i e; rw [e]
    · rfl
  by_cases h3 : j < 39
  · rw [if_pos h3]
    unfold tSealed
    by_cases hj : j = 36 + i
    · rw [hj, Array.getElem?_setIfInBounds_self_of_lt (by omega), Nat.add_sub_cancel_left]
      unfold applySeal
      rw [get_state, if_pos rfl]
    · rw [Array.getElem?_setIfInBounds_ne (by omega), told_get, if_neg h1, if_neg h2, if_pos h3]
      unfold tSealed applySeal
      rw [get_state, if_neg (by omega)]
  · rw [if_neg h3, Array.getElem?_setIfInBounds_ne (by omega), told_get, if_neg h1, if_neg h2, if_neg h3]
    unfold tTrim
    rw [hst]
/-- Places below n of a loglet are given up. -/
def gone (c : Array Value) (i : Nat) : Nat → Array Value
  | 0 => c
  | n + 1 => ((gone c i n).setIfInBounds (18 + i * 6 + n) (.bool false)).setIfInBounds (i * 6 + n) (.string ⟨#[]⟩)
theorem gone_size (c : Array Value) (i : Nat) : ∀ n, (gone c i n).size = c.size
  | 0 => rfl
  | n + 1 => by unfold gone; simp [gone_size c i n]
theorem gone_get (c : Array Value) (i : Nat) (hi : i < 3) (hz : c.size = 42) (j : Nat) : ∀ n, n ≤ 6 → (gone c i n)[j]? = if i * 6 ≤ j ∧ j < i * 6 + n then some (.string ⟨#[]⟩) else if 18 + i * 6 ≤ j ∧ j < 18 + i * 6 + n then some (.bool false) else c[j]?
  | 0, _ => by rw [if_neg (by omega), if_neg (by omega)]; rfl
  | n + 1, hn => by
    have hs := gone_size c i n
    have := gone_get c i hi hz j n (by omega)
    unfold gone
    by_cases h1 : j = i * 6 + n
    · subst h1
      rw [if_pos (by omega), Array.getElem?_setIfInBounds_self_of_lt (by simp; omega)]
    rw [Array.getElem?_setIfInBounds_ne (by omega)]
    by_cases h2 : j = 18 + i * 6 + n
    · subst h2
      rw [if_neg (by omega), if_pos (by omega), Array.getElem?_setIfInBounds_self_of_lt (by omega)]
    rw [Array.getElem?_setIfInBounds_ne (by omega), this]
    by_cases h3 : i * 6 ≤ j ∧ j < i * 6 + n
    · rw [if_pos h3, if_pos (show i * 6 ≤ j ∧ j < i * 6 + (n + 1) by omega)]
    rw [if_neg h3, if_neg (show ¬ (i * 6 ≤ j ∧ j < i * 6 + (n + 1)) by omega)]
    by_cases h4 : 18 + i * 6 ≤ j ∧ j < 18 + i * 6 + n
    · rw [if_pos h4, if_pos (show 18 + i * 6 ≤ j ∧ j < 18 + i * 6 + (n + 1) by omega)]
    · rw [if_neg h4, if_neg (show ¬ (18 + i * 6 ≤ j ∧ j < 18 + i * 6 + (n + 1)) by omega)]
theorem told_trimmed (S : St) (i k T : Nat) (hi : i < 3) (hT : max (S.get (i : Int)).2.1 (k : Int) = (T : Int)) (hT6 : T ≤ 6) : gone ((told S).setIfInBounds (39 + i) (.int .i64 (T : Int))) i T = told (applyTrim S i k) := by
  have hz := told_size S
  apply Array.ext_getElem?
  intro j
  rw [gone_get _ i hi (by simp [hz]) j T hT6, told_get]
  have hget : ∀ a : Int, (applyTrim S i k).get a = if a = (i : Int) then ((S.get i).1, (T : Int), (S.get i).2.2) else S.get a := fun a => by
    unfold applyTrim
    rw [get_state, hT]
  by_cases h1 : j < 18
  · rw [if_pos h1]
    unfold tData
    rw [getF_trim, hT]
    by_cases hj : i * 6 ≤ j ∧ j < i * 6 + T
    · rw [if_pos hj, if_pos (by omega)]
    · rw [if_neg hj, if_neg (by omega), if_neg (by omega), Array.getElem?_setIfInBounds_ne (by omega), told_get, if_pos h1]
      rfl
  rw [if_neg h1]
  by_cases h2 : j < 36
  · rw [if_pos h2, if_neg (by omega)]
    unfold tThere
    rw [getF_trim, hT]
    by_cases hj : 18 + i * 6 ≤ j ∧ j < 18 + i * 6 + T
    · rw [if_pos hj, if_pos (by omega)]
      rfl
    · rw [if_neg hj, if_neg (by omega), Array.getElem?_setIfInBounds_ne (by omega), told_get, if_neg h1, if_pos h2]
      rfl
  rw [if_neg h2, if_neg (by omega), if_neg (by omega)]
  by_cases h3 : j < 39
  · rw [if_pos h3, Array.getElem?_setIfInBounds_ne (by omega), told_get, if_neg h1, if_neg h2, if_pos h3]
    unfold tSealed
    rw [hget]
    split
    · rename_i e; rw [e]
    · rfl
  rw [if_neg h3]
  by_cases h4 : j < 42
  · rw [if_pos h4]
    unfold tTrim
    rw [hget]
    by_cases hj : j = 39 + i
    · rw [hj, Array.getElem?_setIfInBounds_self_of_lt (by omega), Nat.add_sub_cancel_left, if_pos rfl]
    · rw [if_neg (by omega), Array.getElem?_setIfInBounds_ne (by omega), told_get, if_neg h1, if_neg h2, if_neg h3, if_pos h4]
      rfl
  · rw [if_neg h4, Array.getElem?_setIfInBounds_ne (by omega), told_get, if_neg h1, if_neg h2, if_neg h3, if_neg h4]
/-- A row of what may be told: strings, bools, bools, ints. -/
theorem gone_all (c : Array Value) (i : Nat) (h : c.all (·.oneCell') = true) : ∀ n, (gone c i n).all (·.oneCell') = true
  | 0 => h
  | n + 1 => by
    unfold gone
    exact all_set (all_set (gone_all c i h n) rfl) rfl
where
  all_set {c : Array Value} {j : Nat} {v : Value} (h : c.all (·.oneCell') = true) (hv : v.oneCell' = true) : (c.setIfInBounds j v).all (·.oneCell') = true := by
    rw [Array.all_eq_true] at h ⊢
    intro x hx
    rw [Array.getElem_setIfInBounds]
    split
    · exact hv
    · exact h x (by simpa using hx)
end Go.Proofs.Ytpkaepmmkojdaaa
