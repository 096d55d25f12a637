import Derived.Test.YtbahjinlcbjikaaGreatMQLinkB
import Derived.Test.YtbahjinlcbjikaaGreatQLinkF
import Derived.Test.YtbahjinlcbjikaaGreatRegionG
/-! Package loglet: tally.first, Link.may. -/
namespace Go.Proofs.YtbahjinlcbjikaaGreat
open Go.RowKit

theorem firstE_drop {es : List Int} {k : Nat} {x : Int} (h : es[k]? = some x) (rs : List LRp) : firstE (es.drop k) rs = if 0 < cntE x rs then x else firstE (es.drop (k + 1)) rs := by
  obtain ⟨hk, rfl⟩ := List.getElem?_eq_some_iff.1 h
  rw [List.drop_eq_getElem_cons hk]
  rfl
section
variable {W : World} {L : Nat} {p : LkP} {s : LkS}
set_option maxRecDepth 100000 in
set_option maxHeartbeats 3200000 in
theorem tally_first (m : Nat) (rs : List LRp) (v : Value) (es : List Int) (hT : TabAt W m (.int .i64 0) (cntF rs)) (hv : Is W v es) (hl : es.length ≤ 9223372036854775806) :
    Calls Tryz.prog 40 #[.map (some m), v] W fun e w' => e = .returned (.int .i64 (firstE es rs)) ∧ w' = W := by
  have HV := hid hv
  have HT := hid hT
  obtain ⟨a, c, hav⟩ : ∃ a c, v = .slice a es.length c := by obtain ⟨a, c, e, _⟩ := hv; exact ⟨a, c, e⟩
  subst hav
  clear hv hT
  go_enter Tryz.func40, Tryz.ntmps40
  go_wp2_with fail
  go_loopw [9] (fun i wr => ∃ k : Nat, k ≤ es.length ∧ i = .int .i64 (k : Int) ∧ firstE es rs = firstE (es.drop k) rs ∧ wr = W) (fun i _ => es.length - (intOf i).toNat)
  case atStart => exact ⟨0, Nat.zero_le _, rfl, rfl, rfl⟩
  case round =>
    obtain ⟨k, hk, rfl, hf, rfl⟩ := hrel
    by_cases hlt : k < es.length
    · obtain ⟨x, hx⟩ : ∃ x, es[k]? = some x := ⟨es[k], by simp⟩
      have hd1 : decide ((k : Int) < (es.length : Int)) = true := decide_eq_true (by omega)
      obtain ⟨a9, c9, ea, hr⟩ := HV.out
      cases ea
      obtain ⟨g, o, eg, hc⟩ := hr k x hx
      subst eg
      have hlk := HT.out.look (P := Tryz.prog) Tryz.underlying102 Tryz.underlying28 (fun w => by kernel_rfl) x
      rw [firstE_drop hx] at hf
      unfold cntF at hlk
      generalize cntE x rs = cn at *
      clear hr
      by_cases hp : 0 < cn
      · rw [if_pos hp] at hf
        have HF := hid hf
        clear hf
        go_wp2_with fail
        go_ret
        exact ⟨by rw [HF.out] <;> first | rfl | simp, rfl⟩
      · rw [if_neg hp] at hf
        have HF := hid hf
        clear hf
        go_wp2_with fail
        go_roundw
        case rel => exact ⟨k + 1, by omega, by go_num, HF.out, trivial⟩
        case measure => simp [intOf]; omega
    · obtain rfl : k = es.length := by omega
      have hd1 : decide ((es.length : Int) < (es.length : Int)) = false := decide_eq_false (by omega)
      rw [List.drop_length] at hf
      have HF := hid hf
      clear hf
      go_wp2_with fail
      go_ret
      exact ⟨by rw [HF.out]; rfl, rfl⟩

set_option maxRecDepth 100000 in
set_option maxHeartbeats 6400000 in
theorem link_may (h : LkAt W L p s) (id : Int) (v : Value) (l : List Int) (pos most : Int) (hv : Is W v l) (hl : l.length ≤ 1073741824) (hm : mayB s ⟨id, l⟩ pos most = true) :
    Calls Tryz.prog 38 #[.pointer (some ⟨L, 0, none⟩), .agg #[.int .i64 id, v], .int .i64 pos, .int .i64 most] W fun e w' => e = .returned (.bool true) ∧ Below W.heap.size W w' := by
  obtain ⟨va, vc, hav⟩ : ∃ a c, v = .slice a l.length c := by obtain ⟨a, c, e, _⟩ := hv; exact ⟨a, c, e⟩
  subst hav
  unfold mayB at hm
  rw [Bool.and_eq_true] at hm
  have hm2 := of_decide_eq_true hm.2
  have hp1 : decide (pos ≥ 0) = true := decide_eq_true hm2.1
  have hp2 : decide (pos ≤ most) = true := decide_eq_true hm2.2
  have HM := hid (show checkE (checkB ⟨id, l⟩ s.nds.length) = 0 ∧ True from ⟨by rw [hm.1]; rfl, trivial⟩)
  clear hm hm2
  obtain ⟨W1, hW1⟩ : ∃ W1, W.alloc (.cells #[.int .i64 id, .slice va l.length vc] 24) = W1 := ⟨_, rfl⟩
  have HB1 := hid (show Blk W1 W.heap.size #[.int .i64 id, .slice va l.length vc] 24 ∧ Below W.heap.size W W1 by rw [← hW1]; exact ⟨Blk.new _ _ _, (Below.refl _ _).alloc (Nat.le_refl _) _⟩)
  have hfew := h.few
  have HK := hid h
  have HV := hid hv
  clear h hv
  go_enter Tryz.func38, Tryz.ntmps38
  go_wp2_with fail
  clear hW1
  refine wp_region_invG rfl Grows (fun i v x => match i with
      | 0 => v = .pointer (some ⟨L, 0, none⟩)
      | 1 => v = .bool false
      | 2 => v = .bool true
      | 3 => v = .bool true
      | 4 => v = .agg #[.int .i64 id, .slice va l.length vc]
      | 5 => v = .pointer (some ⟨L, 0, none⟩)
      | 6 => v = .pointer (some ⟨L, 0, none⟩)
      | 7 => v = .pointer (some ⟨L, 1, none⟩)
      | 8 => v = .slice (some ⟨p.na, 0, none⟩) s.nds.length p.cap
      | 9 => v = .int .i64 (s.nds.length : Int)
      | 10 => v = .int .i64 0
      | 11 => v = .bool true
      | 12 => v = .bool true
      | 13 => v = .bool true
      | 14 => v = .int .i64 pos
      | 15 => v = .bool true
      | 16 => v = .bool true
      | 17 => v = .bool true
      | 18 => v = .int .i64 pos
      | 19 => v = .int .i64 most
      | 20 => v = .bool true
      | 21 => v = .bool true
      | 22 => v = .bool true
      | _ => True) (by kernel_rfl) Grows.refl Grows.trans ?rstab ?rsteps ?rfin
  case rstab =>
    intro i v x y hg h
    match i with
    | 0 | 1 | 2 | 3 | 4 | 5 | 6 | 7 | 8 | 9 | 10 | 11 | 12 | 13 | 14 | 15 | 16 | 17 | 18 | 19 | 20 | 21 | 22 => exact h
    | n + 23 => trivial
  case rsteps =>
    refine ⟨?_, ?_, ?_, ?_, ?_, ?_, ?_, ?_, ?_, ?_, ?_, ?_, ?_, ?_, ?_, ?_, ?_, ?_, ?_, ?_, ?_, ?_, ?_, trivial⟩
    · intro a x hA
      refine .inl ⟨rfl, ?_⟩
      have t0 := hA.at_ 0 (by first | rfl | kernel_rfl) rfl
      refine step_value (w' := x) (v := .pointer (some ⟨L, 0, none⟩)) ?_ (Grows.refl _) ?_
      · go_simp
      · rfl
    · intro a x hA
      refine .inl ⟨rfl, ?_⟩
      have t9 : a.tmps[9]?.getD undef = .pointer (some ⟨L, 0, none⟩) := hA.dep_ ⟨0, .data⟩ (by simp) _ 9 rfl rfl
      have hBx := HB1.out.1.keep hA.grown
      have hc0 := hBx.cell (o := 0) rfl
      have hc1 := hBx.cell (o := 1) rfl
      have hLx := (HK.out.keep (HB1.out.2.trans (hA.grown.mono HB1.out.2.size))).link
      have hl0 := hLx.cell (o := 0) rfl
      have hl1 := hLx.cell (o := 1) rfl
      clear hBx hLx
      refine step_call (f := 45) (args := #[.pointer (some ⟨L, 0, none⟩)]) (by clear hc0 hc1 hl0 hl1; go_simp) ((link_none (HK.out.keep (HB1.out.2.trans (hA.grown.mono HB1.out.2.size)))).mono ?_)
      rintro e w' ⟨rfl, hw⟩
      subst hw
      exact ⟨_, rfl, Grows.refl _, rfl⟩
    · intro a x hA
      refine .inl ⟨rfl, ?_⟩
      have t10 : a.tmps[10]?.getD undef = .bool false := hA.dep_ ⟨1, .data⟩ (by simp) _ 10 rfl rfl
      refine step_value (w' := x) (v := .bool true) ?_ (Grows.refl _) ?_
      · go_simp
      · rfl
    · intro a x hA
      refine .inl ⟨rfl, ?_⟩
      have t11 : a.tmps[11]?.getD undef = .bool true := hA.dep_ ⟨2, .data⟩ (by simp) _ 11 rfl rfl
      refine step_value (w' := x) (v := .bool true) ?_ (Grows.refl _) ?_
      · go_simp
      · rfl
    · intro a x hA
      have tg : a.tmps[12]?.getD undef = .bool true := hA.dep_ ⟨3, .guard⟩ (by simp) _ 12 rfl rfl
      refine .inl ⟨by rw [wanted_of (j := 3) rfl (yielded_of (by rfl) rfl tg)]; rfl, ?_⟩
      clear tg
      have t5 := hA.at_ 5 (by first | rfl | kernel_rfl) rfl
      have hBx := HB1.out.1.keep hA.grown
      have hc0 := hBx.cell (o := 0) rfl
      have hc1 := hBx.cell (o := 1) rfl
      have hLx := (HK.out.keep (HB1.out.2.trans (hA.grown.mono HB1.out.2.size))).link
      have hl0 := hLx.cell (o := 0) rfl
      have hl1 := hLx.cell (o := 1) rfl
      clear hBx hLx
      refine step_value (w' := x) (v := .agg #[.int .i64 id, .slice va l.length vc]) ?_ (Grows.refl _) ?_
      · go_simp
      · rfl
    · intro a x hA
      have tg : a.tmps[12]?.getD undef = .bool true := hA.dep_ ⟨3, .guard⟩ (by simp) _ 12 rfl rfl
      refine .inl ⟨by rw [wanted_of (j := 3) rfl (yielded_of (by rfl) rfl tg)]; rfl, ?_⟩
      clear tg
      have t0 := hA.at_ 0 (by first | rfl | kernel_rfl) rfl
      refine step_value (w' := x) (v := .pointer (some ⟨L, 0, none⟩)) ?_ (Grows.refl _) ?_
      · go_simp
      · rfl
    · intro a x hA
      have tg : a.tmps[12]?.getD undef = .bool true := hA.dep_ ⟨3, .guard⟩ (by simp) _ 12 rfl rfl
      refine .inl ⟨by rw [wanted_of (j := 3) rfl (yielded_of (by rfl) rfl tg)]; rfl, ?_⟩
      clear tg
      have t14 : a.tmps[14]?.getD undef = .pointer (some ⟨L, 0, none⟩) := hA.dep_ ⟨5, .data⟩ (by simp) _ 14 rfl rfl
      refine step_value (w' := x) (v := .pointer (some ⟨L, 0, none⟩)) ?_ (Grows.refl _) ?_
      · go_simp
      · rfl
    · intro a x hA
      have tg : a.tmps[12]?.getD undef = .bool true := hA.dep_ ⟨3, .guard⟩ (by simp) _ 12 rfl rfl
      refine .inl ⟨by rw [wanted_of (j := 3) rfl (yielded_of (by rfl) rfl tg)]; rfl, ?_⟩
      clear tg
      have t15 : a.tmps[15]?.getD undef = .pointer (some ⟨L, 0, none⟩) := hA.dep_ ⟨6, .data⟩ (by simp) _ 15 rfl rfl
      refine step_value (w' := x) (v := .pointer (some ⟨L, 1, none⟩)) ?_ (Grows.refl _) ?_
      · go_simp
      · rfl
    · intro a x hA
      have tg : a.tmps[12]?.getD undef = .bool true := hA.dep_ ⟨3, .guard⟩ (by simp) _ 12 rfl rfl
      refine .inl ⟨by rw [wanted_of (j := 3) rfl (yielded_of (by rfl) rfl tg)]; rfl, ?_⟩
      clear tg
      have t16 : a.tmps[16]?.getD undef = .pointer (some ⟨L, 1, none⟩) := hA.dep_ ⟨7, .data⟩ (by simp) _ 16 rfl rfl
      have hBx := HB1.out.1.keep hA.grown
      have hc0 := hBx.cell (o := 0) rfl
      have hc1 := hBx.cell (o := 1) rfl
      have hLx := (HK.out.keep (HB1.out.2.trans (hA.grown.mono HB1.out.2.size))).link
      have hl0 := hLx.cell (o := 0) rfl
      have hl1 := hLx.cell (o := 1) rfl
      clear hBx hLx
      refine step_value (w' := x) (v := .slice (some ⟨p.na, 0, none⟩) s.nds.length p.cap) ?_ (Grows.refl _) ?_
      · go_simp
      · rfl
    · intro a x hA
      have tg : a.tmps[12]?.getD undef = .bool true := hA.dep_ ⟨3, .guard⟩ (by simp) _ 12 rfl rfl
      refine .inl ⟨by rw [wanted_of (j := 3) rfl (yielded_of (by rfl) rfl tg)]; rfl, ?_⟩
      clear tg
      have t17 : a.tmps[17]?.getD undef = .slice (some ⟨p.na, 0, none⟩) s.nds.length p.cap := hA.dep_ ⟨8, .data⟩ (by simp) _ 17 rfl rfl
      refine step_value (w' := x) (v := .int .i64 (s.nds.length : Int)) ?_ (Grows.refl _) ?_
      · go_simp
      · rfl
    · intro a x hA
      have tg : a.tmps[12]?.getD undef = .bool true := hA.dep_ ⟨3, .guard⟩ (by simp) _ 12 rfl rfl
      refine .inl ⟨by rw [wanted_of (j := 3) rfl (yielded_of (by rfl) rfl tg)]; rfl, ?_⟩
      clear tg
      have t13 : a.tmps[13]?.getD undef = .agg #[.int .i64 id, .slice va l.length vc] := hA.dep_ ⟨4, .data⟩ (by simp) _ 13 rfl rfl
      have t18 : a.tmps[18]?.getD undef = .int .i64 (s.nds.length : Int) := hA.dep_ ⟨9, .data⟩ (by simp) _ 18 rfl rfl
      have hBx := HB1.out.1.keep hA.grown
      have hc0 := hBx.cell (o := 0) rfl
      have hc1 := hBx.cell (o := 1) rfl
      have hLx := (HK.out.keep (HB1.out.2.trans (hA.grown.mono HB1.out.2.size))).link
      have hl0 := hLx.cell (o := 0) rfl
      have hl1 := hLx.cell (o := 1) rfl
      clear hBx hLx
      refine step_call (f := 11) (args := #[.agg #[.int .i64 id, .slice va l.length vc], .int .i64 (s.nds.length : Int)]) (by clear hc0 hc1 hl0 hl1; go_simp) ((log_Check id (.slice va l.length vc) l (s.nds.length : Int) (HV.out.keep (HB1.out.2.trans (hA.grown.mono HB1.out.2.size))) (by omega)).mono ?_)
      rw [HM.out.1]
      rintro e w' ⟨rfl, hb⟩
      exact ⟨_, rfl, grows_of_below hb, rfl⟩
    · intro a x hA
      have tg : a.tmps[12]?.getD undef = .bool true := hA.dep_ ⟨3, .guard⟩ (by simp) _ 12 rfl rfl
      refine .inl ⟨by rw [wanted_of (j := 3) rfl (yielded_of (by rfl) rfl tg)]; rfl, ?_⟩
      clear tg
      have t19 : a.tmps[19]?.getD undef = .int .i64 0 := hA.dep_ ⟨10, .data⟩ (by simp) _ 19 rfl rfl
      refine step_value (w' := x) (v := .bool true) ?_ (Grows.refl _) ?_
      · go_simp
      · rfl
    · intro a x hA
      refine .inl ⟨rfl, ?_⟩
      have t12 : a.tmps[12]?.getD undef = .bool true := hA.dep_ ⟨3, .data⟩ (by simp) _ 12 rfl rfl
      have t20 : a.tmps[20]?.getD undef = .bool true := hA.dep_ ⟨11, .data⟩ (by simp) _ 20 rfl rfl
      refine step_value (w' := x) (v := .bool true) ?_ (Grows.refl _) ?_
      · go_simp
      · rfl
    · intro a x hA
      refine .inl ⟨rfl, ?_⟩
      have t21 : a.tmps[21]?.getD undef = .bool true := hA.dep_ ⟨12, .data⟩ (by simp) _ 21 rfl rfl
      refine step_value (w' := x) (v := .bool true) ?_ (Grows.refl _) ?_
      · go_simp
      · rfl
    · intro a x hA
      have tg : a.tmps[22]?.getD undef = .bool true := hA.dep_ ⟨13, .guard⟩ (by simp) _ 22 rfl rfl
      refine .inl ⟨by rw [wanted_of (j := 13) rfl (yielded_of (by rfl) rfl tg)]; rfl, ?_⟩
      clear tg
      have t2 := hA.at_ 2 (by first | rfl | kernel_rfl) rfl
      refine step_value (w' := x) (v := .int .i64 pos) ?_ (Grows.refl _) ?_
      · go_simp
      · rfl
    · intro a x hA
      have tg : a.tmps[22]?.getD undef = .bool true := hA.dep_ ⟨13, .guard⟩ (by simp) _ 22 rfl rfl
      refine .inl ⟨by rw [wanted_of (j := 13) rfl (yielded_of (by rfl) rfl tg)]; rfl, ?_⟩
      clear tg
      have t23 : a.tmps[23]?.getD undef = .int .i64 pos := hA.dep_ ⟨14, .data⟩ (by simp) _ 23 rfl rfl
      refine step_value (w' := x) (v := .bool true) ?_ (Grows.refl _) ?_
      · go_simp
      · rfl
    · intro a x hA
      refine .inl ⟨rfl, ?_⟩
      have t22 : a.tmps[22]?.getD undef = .bool true := hA.dep_ ⟨13, .data⟩ (by simp) _ 22 rfl rfl
      have t24 : a.tmps[24]?.getD undef = .bool true := hA.dep_ ⟨15, .data⟩ (by simp) _ 24 rfl rfl
      refine step_value (w' := x) (v := .bool true) ?_ (Grows.refl _) ?_
      · go_simp
      · rfl
    · intro a x hA
      refine .inl ⟨rfl, ?_⟩
      have t25 : a.tmps[25]?.getD undef = .bool true := hA.dep_ ⟨16, .data⟩ (by simp) _ 25 rfl rfl
      refine step_value (w' := x) (v := .bool true) ?_ (Grows.refl _) ?_
      · go_simp
      · rfl
    · intro a x hA
      have tg : a.tmps[26]?.getD undef = .bool true := hA.dep_ ⟨17, .guard⟩ (by simp) _ 26 rfl rfl
      refine .inl ⟨by rw [wanted_of (j := 17) rfl (yielded_of (by rfl) rfl tg)]; rfl, ?_⟩
      clear tg
      have t2 := hA.at_ 2 (by first | rfl | kernel_rfl) rfl
      refine step_value (w' := x) (v := .int .i64 pos) ?_ (Grows.refl _) ?_
      · go_simp
      · rfl
    · intro a x hA
      have tg : a.tmps[26]?.getD undef = .bool true := hA.dep_ ⟨17, .guard⟩ (by simp) _ 26 rfl rfl
      refine .inl ⟨by rw [wanted_of (j := 17) rfl (yielded_of (by rfl) rfl tg)]; rfl, ?_⟩
      clear tg
      have t3 := hA.at_ 3 (by first | rfl | kernel_rfl) rfl
      refine step_value (w' := x) (v := .int .i64 most) ?_ (Grows.refl _) ?_
      · go_simp
      · rfl
    · intro a x hA
      have tg : a.tmps[26]?.getD undef = .bool true := hA.dep_ ⟨17, .guard⟩ (by simp) _ 26 rfl rfl
      refine .inl ⟨by rw [wanted_of (j := 17) rfl (yielded_of (by rfl) rfl tg)]; rfl, ?_⟩
      clear tg
      have t27 : a.tmps[27]?.getD undef = .int .i64 pos := hA.dep_ ⟨18, .data⟩ (by simp) _ 27 rfl rfl
      have t28 : a.tmps[28]?.getD undef = .int .i64 most := hA.dep_ ⟨19, .data⟩ (by simp) _ 28 rfl rfl
      refine step_value (w' := x) (v := .bool true) ?_ (Grows.refl _) ?_
      · go_simp
      · rfl
    · intro a x hA
      refine .inl ⟨rfl, ?_⟩
      have t26 : a.tmps[26]?.getD undef = .bool true := hA.dep_ ⟨17, .data⟩ (by simp) _ 26 rfl rfl
      have t29 : a.tmps[29]?.getD undef = .bool true := hA.dep_ ⟨20, .data⟩ (by simp) _ 29 rfl rfl
      refine step_value (w' := x) (v := .bool true) ?_ (Grows.refl _) ?_
      · go_simp
      · rfl
    · intro a x hA
      refine .inl ⟨rfl, ?_⟩
      have t30 : a.tmps[30]?.getD undef = .bool true := hA.dep_ ⟨21, .data⟩ (by simp) _ 30 rfl rfl
      refine step_value (w' := x) (v := .bool true) ?_ (Grows.refl _) ?_
      · go_simp
      · rfl
  case rfin =>
    intro y W' hg hV
    simp only [AllVals] at hV
    obtain ⟨_, _, _, _, _, _, _, _, _, _, _, _, _, _, _, _, _, _, _, _, _, _, hA9, _⟩ := hV
    have hb := grows_below hg
    clear hg
    simp only [putAll, Act.put, List.setIfInBounds_toArray, List.set_cons_zero, List.set_cons_succ]
    rw [hA9]
    clear hA9
    have HBW := hid (HB1.out.2.trans (hb.mono HB1.out.2.size))
    clear hb
    go_wp2_with fail
    go_ret
    exact ⟨rfl, HBW.out⟩
end
end Go.Proofs.YtbahjinlcbjikaaGreat
