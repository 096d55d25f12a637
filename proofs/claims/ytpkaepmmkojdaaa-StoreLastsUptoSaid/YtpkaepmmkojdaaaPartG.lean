import Derived.Test.YtpkaepmmkojdaaaMRegionG
import Derived.Test.YtpkaepmmkojdaaaMParts
import Derived.Test.YtpkaepmmkojdaaaMDisk
import Derived.Deep.CutRange
/-! Package store: part of a block that bears the mark. -/
namespace Go.Proofs.Ytpkaepmmkojdaaa
open Go.RowKit
theorem pg_to {W W' : World} (h : Grows W.drew W') : Below W.heap.size W W' := ⟨h.os, h.tape, h.output, h.size, h.block⟩
theorem pg_of {W W' : World} (h : Below W.heap.size W W') : Grows W W' := ⟨h.os, h.tape, h.output, h.size, h.block⟩
section
variable {W : World} {q : StP} {S : St} {D : Dk}

set_option maxRecDepth 100000 in
set_option maxHeartbeats 3200000 in
theorem store_part_num (h : StAt W q S D) (hoff : D.off = false) (kk : Nat) (t : List UInt8) (hv : D.vers (kk : Int) = none) (hbad : D.bad (kk : Int) = false) (ht : D.texts[kk]? = some t) (h0 : t[0]? = some 165) (h1 : numOf ((t.drop 1).take 6) ≠ S.num) :
    Calls Try.prog 33 #[.pointer (some ⟨q.s, 0, none⟩), .int .i64 (kk : Int)] W fun e w' => e = .returned (.tuple #[.int .i64 0, .int .i64 0, .slice none 0 0, .bool false]) ∧ Below W.heap.size W w' := by
  have c0 := h.cell.cell (o := 0) rfl
  have HL := hid (h.disk.lens t (List.mem_of_getElem? ht))
  go_enter Try.func33, Try.ntmps33
  go_wp2_with fail
  refine (disk_Read_text h.disk hoff kk t hv hbad ht).mono ?_
  rintro e W1 ⟨g, rfl, hg, hb, hbl⟩
  have HG : Hid (W1.cell? ⟨g, 0, none⟩ = some (bv 165)) := hid (by
    rcases hb.cases with ⟨e, _⟩ | ⟨g', o', c', e, _, _, hc⟩ | ⟨e, _⟩
    · cases e
    rotate_left
    · rw [e] at h0; simp at h0
    · injection e with e1 e2 e3
      injection e1 with e1
      injection e1 with e1 e4
      subst e1 e4
      exact hc 0 165 h0)
  have HV := hid hb
  have HGG := hid hg
  have HB := hid hbl
  have HC := hid (h.cell.keep hbl)
  obtain ⟨n1, hn1⟩ : ∃ n1, numOf ((t.drop 1).take 6) = n1 := ⟨_, rfl⟩
  obtain ⟨sn, hsn⟩ : ∃ sn, S.num = sn := ⟨_, rfl⟩
  rw [hsn] at HC
  have H1 := hid hn1
  have hz1 : ((n1 : Int) == (sn : Int)) = false := beq_eq_false_iff_ne.2 (fun h9 => h1 (by omega))
  have hz2 : decide ((n1 : Int) = (sn : Int)) = false := decide_eq_false (fun h9 => h1 (by omega))
  have hz3 : ¬ (n1 : Int) = (sn : Int) := fun h9 => h1 (by omega)
  clear h1 hn1 hsn
  clear hb hbl h hoff hv hbad ht h0 c0 hg
  have hw0 : IntKind.i64.wrap 0 = 0 := by rw [IntKind.wrap_i64]; rfl
  go_upto_region 2 with fail
  refine wp_region_invG rfl Grows (fun i v x => match i with
      | 0 => v = .int .i64 0
      | 1 => v = .bool false
      | 2 => v = .bool false
      | 3 => v = .slice (some ⟨g, 0, none⟩) 256 256
      | 4 => v = .pointer (some ⟨g, 0, none⟩)
      | 5 => v = .int .u8 165
      | 6 => v = .bool false
      | 7 => v = .bool false
      | 8 => v = .bool false
      | 9 => v = .slice (some ⟨g, 0, none⟩) 256 256
      | 10 => v = .int .i64 (n1 : Int)
      | 11 => v = .pointer (some ⟨q.s, 0, none⟩)
      | 12 => v = .pointer (some ⟨q.s, 0, none⟩)
      | 13 => v = .pointer (some ⟨q.s, 4, none⟩)
      | 14 => v = .int .i64 (sn : Int)
      | 15 => v = .bool true
      | 16 => v = .bool true
      | 17 => v = .bool true
      | 18 => v = undef
      | 19 => v = undef
      | 20 => v = undef
      | 21 => v = undef
      | 22 => v = undef
      | 23 => v = undef
      | 24 => v = undef
      | 25 => v = .bool true
      | _ => True) (by kernel_rfl) Grows.refl Grows.trans ?rstab ?rsteps ?rfin
  case rstab =>
    intro i v x y hg h
    match i with
    | 0 | 1 | 2 | 3 | 4 | 5 | 6 | 7 | 8 | 9 | 10 | 11 | 12 | 13 | 14 | 15 | 16 | 17 | 18 | 19 | 20 | 21 | 22 | 23 | 24 | 25 => exact h
    | n + 26 => trivial
  case rsteps =>
    refine ⟨?_, ?_, ?_, ?_, ?_, ?_, ?_, ?_, ?_, ?_, ?_, ?_, ?_, ?_, ?_, ?_, ?_, ?_, ?_, ?_, ?_, ?_, ?_, ?_, ?_, ?_, trivial⟩
    · intro a x hA
      refine .inl ⟨rfl, ?_⟩
      have t9 := hA.at_ 9 (by first | rfl | kernel_rfl) rfl
      refine step_value (w' := x) (v := .int .i64 0) ?_ (Grows.refl _) ?_
      · go_simp
      · rfl
    · intro a x hA
      refine .inl ⟨rfl, ?_⟩
      have t20 : a.tmps[20]?.getD undef = .int .i64 0 := hA.dep_ ⟨0, .data⟩ (by simp) _ 20 rfl rfl
      refine step_value (w' := x) (v := .bool false) ?_ (Grows.refl _) ?_
      · go_simp
      · rfl
    · intro a x hA
      refine .inl ⟨rfl, ?_⟩
      have t21 : a.tmps[21]?.getD undef = .bool false := hA.dep_ ⟨1, .data⟩ (by simp) _ 21 rfl rfl
      refine step_value (w' := x) (v := .bool false) ?_ (Grows.refl _) ?_
      · go_simp
      · rfl
    · intro a x hA
      have tg : a.tmps[22]?.getD undef = .bool false := hA.dep_ ⟨2, .guard⟩ (by simp) _ 22 rfl rfl
      refine .inl ⟨by rw [wanted_of (j := 2) rfl (yielded_of (by rfl) rfl tg)]; rfl, ?_⟩
      clear tg
      have t8 := hA.at_ 8 (by first | rfl | kernel_rfl) rfl
      refine step_value (w' := x) (v := .slice (some ⟨g, 0, none⟩) 256 256) ?_ (Grows.refl _) ?_
      · go_simp
      · rfl
    · intro a x hA
      have tg : a.tmps[22]?.getD undef = .bool false := hA.dep_ ⟨2, .guard⟩ (by simp) _ 22 rfl rfl
      refine .inl ⟨by rw [wanted_of (j := 2) rfl (yielded_of (by rfl) rfl tg)]; rfl, ?_⟩
      clear tg
      have t23 : a.tmps[23]?.getD undef = .slice (some ⟨g, 0, none⟩) 256 256 := hA.dep_ ⟨3, .data⟩ (by simp) _ 23 rfl rfl
      refine step_value (w' := x) (v := .pointer (some ⟨g, 0, none⟩)) ?_ (Grows.refl _) ?_
      · go_simp
      · rfl
    · intro a x hA
      have tg : a.tmps[22]?.getD undef = .bool false := hA.dep_ ⟨2, .guard⟩ (by simp) _ 22 rfl rfl
      refine .inl ⟨by rw [wanted_of (j := 2) rfl (yielded_of (by rfl) rfl tg)]; rfl, ?_⟩
      clear tg
      have t24 : a.tmps[24]?.getD undef = .pointer (some ⟨g, 0, none⟩) := hA.dep_ ⟨4, .data⟩ (by simp) _ 24 rfl rfl
      have hBx := HV.out.keep hA.grown
      have cs4 := (HC.out.keep hA.grown).cell (o := 4) rfl
      have cg0 : x.cell? ⟨g, 0, none⟩ = some (bv 165) := ext_cell HG.out (fp := nofp) (Ext.ofBelow hA.grown) (fun h => h)
      clear hBx
      refine step_value (w' := x) (v := .int .u8 165) ?_ (Grows.refl _) ?_
      · go_simp
      · rfl
    · intro a x hA
      have tg : a.tmps[22]?.getD undef = .bool false := hA.dep_ ⟨2, .guard⟩ (by simp) _ 22 rfl rfl
      refine .inl ⟨by rw [wanted_of (j := 2) rfl (yielded_of (by rfl) rfl tg)]; rfl, ?_⟩
      clear tg
      have t25 : a.tmps[25]?.getD undef = .int .u8 165 := hA.dep_ ⟨5, .data⟩ (by simp) _ 25 rfl rfl
      refine step_value (w' := x) (v := .bool false) ?_ (Grows.refl _) ?_
      · go_simp
      · rfl
    · intro a x hA
      refine .inl ⟨rfl, ?_⟩
      have t22 : a.tmps[22]?.getD undef = .bool false := hA.dep_ ⟨2, .data⟩ (by simp) _ 22 rfl rfl
      have t26 : a.tmps[26]?.getD undef = .bool false := hA.dep_ ⟨6, .data⟩ (by simp) _ 26 rfl rfl
      refine step_value (w' := x) (v := .bool false) ?_ (Grows.refl _) ?_
      · go_simp
      · rfl
    · intro a x hA
      refine .inl ⟨rfl, ?_⟩
      have t27 : a.tmps[27]?.getD undef = .bool false := hA.dep_ ⟨7, .data⟩ (by simp) _ 27 rfl rfl
      refine step_value (w' := x) (v := .bool false) ?_ (Grows.refl _) ?_
      · go_simp
      · rfl
    · intro a x hA
      have tg : a.tmps[28]?.getD undef = .bool false := hA.dep_ ⟨8, .guard⟩ (by simp) _ 28 rfl rfl
      refine .inl ⟨by rw [wanted_of (j := 8) rfl (yielded_of (by rfl) rfl tg)]; rfl, ?_⟩
      clear tg
      have t8 := hA.at_ 8 (by first | rfl | kernel_rfl) rfl
      refine step_value (w' := x) (v := .slice (some ⟨g, 0, none⟩) 256 256) ?_ (Grows.refl _) ?_
      · go_simp
      · rfl
    · intro a x hA
      have tg : a.tmps[28]?.getD undef = .bool false := hA.dep_ ⟨8, .guard⟩ (by simp) _ 28 rfl rfl
      refine .inl ⟨by rw [wanted_of (j := 8) rfl (yielded_of (by rfl) rfl tg)]; rfl, ?_⟩
      clear tg
      have t29 : a.tmps[29]?.getD undef = .slice (some ⟨g, 0, none⟩) 256 256 := hA.dep_ ⟨9, .data⟩ (by simp) _ 29 rfl rfl
      have hBx := HV.out.keep hA.grown
      have cs4 := (HC.out.keep hA.grown).cell (o := 4) rfl
      have cg0 : x.cell? ⟨g, 0, none⟩ = some (bv 165) := ext_cell HG.out (fp := nofp) (Ext.ofBelow hA.grown) (fun h => h)
      clear hBx
      have hBx := HV.out.keep hA.grown
      refine step_call (f := 35) (args := #[.slice (some ⟨g, 0, none⟩) 256 256, .int .i64 1, .int .i64 6]) (by clear hBx; go_simp) ((store_number _ _ 1 6 x hBx (by omega) (by omega) (by omega) (by have := HL.out; omega)).mono ?_)
      rintro e w' ⟨rfl, hb⟩
      exact ⟨_, rfl, pg_of hb, congrArg (fun k : Nat => Value.int .i64 (k : Int)) H1.out⟩
    · intro a x hA
      have tg : a.tmps[28]?.getD undef = .bool false := hA.dep_ ⟨8, .guard⟩ (by simp) _ 28 rfl rfl
      refine .inl ⟨by rw [wanted_of (j := 8) rfl (yielded_of (by rfl) rfl tg)]; rfl, ?_⟩
      clear tg
      have t0 := hA.at_ 0 (by first | rfl | kernel_rfl) rfl
      refine step_value (w' := x) (v := .pointer (some ⟨q.s, 0, none⟩)) ?_ (Grows.refl _) ?_
      · go_simp
      · rfl
    · intro a x hA
      have tg : a.tmps[28]?.getD undef = .bool false := hA.dep_ ⟨8, .guard⟩ (by simp) _ 28 rfl rfl
      refine .inl ⟨by rw [wanted_of (j := 8) rfl (yielded_of (by rfl) rfl tg)]; rfl, ?_⟩
      clear tg
      have t31 : a.tmps[31]?.getD undef = .pointer (some ⟨q.s, 0, none⟩) := hA.dep_ ⟨11, .data⟩ (by simp) _ 31 rfl rfl
      refine step_value (w' := x) (v := .pointer (some ⟨q.s, 0, none⟩)) ?_ (Grows.refl _) ?_
      · go_simp
      · rfl
    · intro a x hA
      have tg : a.tmps[28]?.getD undef = .bool false := hA.dep_ ⟨8, .guard⟩ (by simp) _ 28 rfl rfl
      refine .inl ⟨by rw [wanted_of (j := 8) rfl (yielded_of (by rfl) rfl tg)]; rfl, ?_⟩
      clear tg
      have t32 : a.tmps[32]?.getD undef = .pointer (some ⟨q.s, 0, none⟩) := hA.dep_ ⟨12, .data⟩ (by simp) _ 32 rfl rfl
      refine step_value (w' := x) (v := .pointer (some ⟨q.s, 4, none⟩)) ?_ (Grows.refl _) ?_
      · go_simp
      · rfl
    · intro a x hA
      have tg : a.tmps[28]?.getD undef = .bool false := hA.dep_ ⟨8, .guard⟩ (by simp) _ 28 rfl rfl
      refine .inl ⟨by rw [wanted_of (j := 8) rfl (yielded_of (by rfl) rfl tg)]; rfl, ?_⟩
      clear tg
      have t33 : a.tmps[33]?.getD undef = .pointer (some ⟨q.s, 4, none⟩) := hA.dep_ ⟨13, .data⟩ (by simp) _ 33 rfl rfl
      have hBx := HV.out.keep hA.grown
      have cs4 := (HC.out.keep hA.grown).cell (o := 4) rfl
      have cg0 : x.cell? ⟨g, 0, none⟩ = some (bv 165) := ext_cell HG.out (fp := nofp) (Ext.ofBelow hA.grown) (fun h => h)
      clear hBx
      refine step_value (w' := x) (v := .int .i64 (sn : Int)) ?_ (Grows.refl _) ?_
      · go_simp
      · rfl
    · intro a x hA
      have tg : a.tmps[28]?.getD undef = .bool false := hA.dep_ ⟨8, .guard⟩ (by simp) _ 28 rfl rfl
      refine .inl ⟨by rw [wanted_of (j := 8) rfl (yielded_of (by rfl) rfl tg)]; rfl, ?_⟩
      clear tg
      have t30 : a.tmps[30]?.getD undef = .int .i64 (n1 : Int) := hA.dep_ ⟨10, .data⟩ (by simp) _ 30 rfl rfl
      have t34 : a.tmps[34]?.getD undef = .int .i64 (sn : Int) := hA.dep_ ⟨14, .data⟩ (by simp) _ 34 rfl rfl
      refine step_value (w' := x) (v := .bool true) ?_ (Grows.refl _) ?_
      · go_simp
      · rfl
    · intro a x hA
      refine .inl ⟨rfl, ?_⟩
      have t28 : a.tmps[28]?.getD undef = .bool false := hA.dep_ ⟨8, .data⟩ (by simp) _ 28 rfl rfl
      have t35 : a.tmps[35]?.getD undef = .bool true := hA.dep_ ⟨15, .data⟩ (by simp) _ 35 rfl rfl
      refine step_value (w' := x) (v := .bool true) ?_ (Grows.refl _) ?_
      · go_simp
      · rfl
    · intro a x hA
      refine .inl ⟨rfl, ?_⟩
      have t36 : a.tmps[36]?.getD undef = .bool true := hA.dep_ ⟨16, .data⟩ (by simp) _ 36 rfl rfl
      refine step_value (w' := x) (v := .bool true) ?_ (Grows.refl _) ?_
      · go_simp
      · rfl
    · intro a x hA
      have tg : a.tmps[37]?.getD undef = .bool true := hA.dep_ ⟨17, .guard⟩ (by simp) _ 37 rfl rfl
      exact .inr ⟨by rw [wanted_of (j := 17) rfl (yielded_of (by rfl) rfl tg)]; rfl, rfl⟩
    · intro a x hA
      have tg : a.tmps[37]?.getD undef = .bool true := hA.dep_ ⟨17, .guard⟩ (by simp) _ 37 rfl rfl
      exact .inr ⟨by rw [wanted_of (j := 17) rfl (yielded_of (by rfl) rfl tg)]; rfl, rfl⟩
    · intro a x hA
      have tg : a.tmps[37]?.getD undef = .bool true := hA.dep_ ⟨17, .guard⟩ (by simp) _ 37 rfl rfl
      exact .inr ⟨by rw [wanted_of (j := 17) rfl (yielded_of (by rfl) rfl tg)]; rfl, rfl⟩
    · intro a x hA
      have tg : a.tmps[37]?.getD undef = .bool true := hA.dep_ ⟨17, .guard⟩ (by simp) _ 37 rfl rfl
      exact .inr ⟨by rw [wanted_of (j := 17) rfl (yielded_of (by rfl) rfl tg)]; rfl, rfl⟩
    · intro a x hA
      have tg : a.tmps[37]?.getD undef = .bool true := hA.dep_ ⟨17, .guard⟩ (by simp) _ 37 rfl rfl
      exact .inr ⟨by rw [wanted_of (j := 17) rfl (yielded_of (by rfl) rfl tg)]; rfl, rfl⟩
    · intro a x hA
      have tg : a.tmps[37]?.getD undef = .bool true := hA.dep_ ⟨17, .guard⟩ (by simp) _ 37 rfl rfl
      exact .inr ⟨by rw [wanted_of (j := 17) rfl (yielded_of (by rfl) rfl tg)]; rfl, rfl⟩
    · intro a x hA
      have tg : a.tmps[37]?.getD undef = .bool true := hA.dep_ ⟨17, .guard⟩ (by simp) _ 37 rfl rfl
      exact .inr ⟨by rw [wanted_of (j := 17) rfl (yielded_of (by rfl) rfl tg)]; rfl, rfl⟩
    · intro a x hA
      refine .inl ⟨rfl, ?_⟩
      have t37 : a.tmps[37]?.getD undef = .bool true := hA.dep_ ⟨17, .data⟩ (by simp) _ 37 rfl rfl
      have t44 : a.tmps[44]?.getD undef = undef := hA.dep_ ⟨24, .data⟩ (by simp) _ 44 rfl rfl
      refine step_value (w' := x) (v := .bool true) ?_ (Grows.refl _) ?_
      · go_simp
      · rfl
  case rfin =>
    intro y W' hg hV
    simp only [AllVals] at hV
    obtain ⟨_, _, _, _, _, _, _, _, _, _, _, _, _, _, _, _, _, _, _, _, _, _, _, _, _, u25, _⟩ := hV
    have hb := pg_to hg
    clear hg
    simp only [putAll, Act.put, List.setIfInBounds_toArray, List.set_cons_zero, List.set_cons_succ]
    rw [u25]
    clear u25
    have HBW := hid (HB.out.trans (hb.mono HB.out.size))
    clear hb
    go_wp2_with fail
    refine bodyPost_ret (v := .tuple #[.int .i64 0, .int .i64 0, .slice none 0 0, .bool false]) (by simp [results, Try.results33, go_sem]) rfl ?_
    exact ⟨rfl, HBW.out⟩

set_option maxRecDepth 100000 in
set_option maxHeartbeats 3200000 in
theorem store_part_crc (h : StAt W q S D) (hoff : D.off = false) (kk : Nat) (t : List UInt8) (hv : D.vers (kk : Int) = none) (hbad : D.bad (kk : Int) = false) (ht : D.texts[kk]? = some t) (h0 : t[0]? = some 165) (h1 : numOf ((t.drop 1).take 6) = S.num) (h2 : numOf ((t.drop 252).take 4) ≠ crcOf (t.take 252)) :
    Calls Try.prog 33 #[.pointer (some ⟨q.s, 0, none⟩), .int .i64 (kk : Int)] W fun e w' => e = .returned (.tuple #[.int .i64 0, .int .i64 0, .slice none 0 0, .bool false]) ∧ Below W.heap.size W w' := by
  have c0 := h.cell.cell (o := 0) rfl
  have HL := hid (h.disk.lens t (List.mem_of_getElem? ht))
  go_enter Try.func33, Try.ntmps33
  go_wp2_with fail
  refine (disk_Read_text h.disk hoff kk t hv hbad ht).mono ?_
  rintro e W1 ⟨g, rfl, hg, hb, hbl⟩
  have HG : Hid (W1.cell? ⟨g, 0, none⟩ = some (bv 165)) := hid (by
    rcases hb.cases with ⟨e, _⟩ | ⟨g', o', c', e, _, _, hc⟩ | ⟨e, _⟩
    · cases e
    rotate_left
    · rw [e] at h0; simp at h0
    · injection e with e1 e2 e3
      injection e1 with e1
      injection e1 with e1 e4
      subst e1 e4
      exact hc 0 165 h0)
  have HV := hid hb
  have HGG := hid hg
  have HB := hid hbl
  have HC := hid (h.cell.keep hbl)
  obtain ⟨sn, hsn⟩ : ∃ sn, S.num = sn := ⟨_, rfl⟩
  rw [hsn] at HC h1
  have H1 := hid h1
  obtain ⟨n2, hn2⟩ : ∃ n2, numOf ((t.drop 252).take 4) = n2 := ⟨_, rfl⟩
  obtain ⟨cr, hcr⟩ : ∃ cr, crcOf (t.take 252) = cr := ⟨_, rfl⟩
  have hcl := crcOf_lt (t.take 252)
  rw [hn2, hcr] at h2
  rw [hcr] at hcl
  have H2 := hid hn2
  have H3 := hid hcr
  have HT : Hid (Bs W1 (.slice (some ⟨g, 0, none⟩) 252 256) (t.take 252)) := hid (hb.slice (lo := 0) (hi := 252) (by omega) (by omega))
  have hsl := fun (w : World) => run_slice_to (P := Try.prog) Try.underlying40 szu8 (some ⟨g, 0, none⟩) 256 256 252 (by omega) (by omega) w
  rw [show ((252 : Int)).toNat = 252 from rfl] at hsl
  have hwc : IntKind.i64.wrap (cr : Int) = (cr : Int) := by rw [IntKind.wrap_i64]; omega
  have hz3 : ¬ (n2 : Int) = (cr : Int) := fun h9 => h2 (by omega)
  have hz4 : ((n2 : Int) == (cr : Int)) = false := beq_eq_false_iff_ne.2 hz3
  clear h1 h2 hsn hn2 hcr hcl
  clear hb hbl h hoff hv hbad ht h0 c0 hg
  have hw0 : IntKind.i64.wrap 0 = 0 := by rw [IntKind.wrap_i64]; rfl
  go_upto_region 2 with fail
  refine wp_region_invG rfl Grows (fun i v x => match i with
      | 0 => v = .int .i64 0
      | 1 => v = .bool false
      | 2 => v = .bool false
      | 3 => v = .slice (some ⟨g, 0, none⟩) 256 256
      | 4 => v = .pointer (some ⟨g, 0, none⟩)
      | 5 => v = .int .u8 165
      | 6 => v = .bool false
      | 7 => v = .bool false
      | 8 => v = .bool false
      | 9 => v = .slice (some ⟨g, 0, none⟩) 256 256
      | 10 => v = .int .i64 (sn : Int)
      | 11 => v = .pointer (some ⟨q.s, 0, none⟩)
      | 12 => v = .pointer (some ⟨q.s, 0, none⟩)
      | 13 => v = .pointer (some ⟨q.s, 4, none⟩)
      | 14 => v = .int .i64 (sn : Int)
      | 15 => v = .bool false
      | 16 => v = .bool false
      | 17 => v = .bool false
      | 18 => v = .slice (some ⟨g, 0, none⟩) 256 256
      | 19 => v = .int .i64 (n2 : Int)
      | 20 => v = .slice (some ⟨g, 0, none⟩) 256 256
      | 21 => v = .slice (some ⟨g, 0, none⟩) 252 256
      | 22 => v = .int .u32 (cr : Int)
      | 23 => v = .int .i64 (cr : Int)
      | 24 => v = .bool true
      | 25 => v = .bool true
      | _ => True) (by kernel_rfl) Grows.refl Grows.trans ?rstab ?rsteps ?rfin
  case rstab =>
    intro i v x y hg h
    match i with
    | 0 | 1 | 2 | 3 | 4 | 5 | 6 | 7 | 8 | 9 | 10 | 11 | 12 | 13 | 14 | 15 | 16 | 17 | 18 | 19 | 20 | 21 | 22 | 23 | 24 | 25 => exact h
    | n + 26 => trivial
  case rsteps =>
    refine ⟨?_, ?_, ?_, ?_, ?_, ?_, ?_, ?_, ?_, ?_, ?_, ?_, ?_, ?_, ?_, ?_, ?_, ?_, ?_, ?_, ?_, ?_, ?_, ?_, ?_, ?_, trivial⟩
    · intro a x hA
      refine .inl ⟨rfl, ?_⟩
      have t9 := hA.at_ 9 (by first | rfl | kernel_rfl) rfl
      refine step_value (w' := x) (v := .int .i64 0) ?_ (Grows.refl _) ?_
      · go_simp
      · rfl
    · intro a x hA
      refine .inl ⟨rfl, ?_⟩
      have t20 : a.tmps[20]?.getD undef = .int .i64 0 := hA.dep_ ⟨0, .data⟩ (by simp) _ 20 rfl rfl
      refine step_value (w' := x) (v := .bool false) ?_ (Grows.refl _) ?_
      · go_simp
      · rfl
    · intro a x hA
      refine .inl ⟨rfl, ?_⟩
      have t21 : a.tmps[21]?.getD undef = .bool false := hA.dep_ ⟨1, .data⟩ (by simp) _ 21 rfl rfl
      refine step_value (w' := x) (v := .bool false) ?_ (Grows.refl _) ?_
      · go_simp
      · rfl
    · intro a x hA
      have tg : a.tmps[22]?.getD undef = .bool false := hA.dep_ ⟨2, .guard⟩ (by simp) _ 22 rfl rfl
      refine .inl ⟨by rw [wanted_of (j := 2) rfl (yielded_of (by rfl) rfl tg)]; rfl, ?_⟩
      clear tg
      have t8 := hA.at_ 8 (by first | rfl | kernel_rfl) rfl
      refine step_value (w' := x) (v := .slice (some ⟨g, 0, none⟩) 256 256) ?_ (Grows.refl _) ?_
      · go_simp
      · rfl
    · intro a x hA
      have tg : a.tmps[22]?.getD undef = .bool false := hA.dep_ ⟨2, .guard⟩ (by simp) _ 22 rfl rfl
      refine .inl ⟨by rw [wanted_of (j := 2) rfl (yielded_of (by rfl) rfl tg)]; rfl, ?_⟩
      clear tg
      have t23 : a.tmps[23]?.getD undef = .slice (some ⟨g, 0, none⟩) 256 256 := hA.dep_ ⟨3, .data⟩ (by simp) _ 23 rfl rfl
      refine step_value (w' := x) (v := .pointer (some ⟨g, 0, none⟩)) ?_ (Grows.refl _) ?_
      · go_simp
      · rfl
    · intro a x hA
      have tg : a.tmps[22]?.getD undef = .bool false := hA.dep_ ⟨2, .guard⟩ (by simp) _ 22 rfl rfl
      refine .inl ⟨by rw [wanted_of (j := 2) rfl (yielded_of (by rfl) rfl tg)]; rfl, ?_⟩
      clear tg
      have t24 : a.tmps[24]?.getD undef = .pointer (some ⟨g, 0, none⟩) := hA.dep_ ⟨4, .data⟩ (by simp) _ 24 rfl rfl
      have hBx := HV.out.keep hA.grown
      have cs4 := (HC.out.keep hA.grown).cell (o := 4) rfl
      have cg0 : x.cell? ⟨g, 0, none⟩ = some (bv 165) := ext_cell HG.out (fp := nofp) (Ext.ofBelow hA.grown) (fun h => h)
      clear hBx
      refine step_value (w' := x) (v := .int .u8 165) ?_ (Grows.refl _) ?_
      · go_simp
      · rfl
    · intro a x hA
      have tg : a.tmps[22]?.getD undef = .bool false := hA.dep_ ⟨2, .guard⟩ (by simp) _ 22 rfl rfl
      refine .inl ⟨by rw [wanted_of (j := 2) rfl (yielded_of (by rfl) rfl tg)]; rfl, ?_⟩
      clear tg
      have t25 : a.tmps[25]?.getD undef = .int .u8 165 := hA.dep_ ⟨5, .data⟩ (by simp) _ 25 rfl rfl
      refine step_value (w' := x) (v := .bool false) ?_ (Grows.refl _) ?_
      · go_simp
      · rfl
    · intro a x hA
      refine .inl ⟨rfl, ?_⟩
      have t22 : a.tmps[22]?.getD undef = .bool false := hA.dep_ ⟨2, .data⟩ (by simp) _ 22 rfl rfl
      have t26 : a.tmps[26]?.getD undef = .bool false := hA.dep_ ⟨6, .data⟩ (by simp) _ 26 rfl rfl
      refine step_value (w' := x) (v := .bool false) ?_ (Grows.refl _) ?_
      · go_simp
      · rfl
    · intro a x hA
      refine .inl ⟨rfl, ?_⟩
      have t27 : a.tmps[27]?.getD undef = .bool false := hA.dep_ ⟨7, .data⟩ (by simp) _ 27 rfl rfl
      refine step_value (w' := x) (v := .bool false) ?_ (Grows.refl _) ?_
      · go_simp
      · rfl
    · intro a x hA
      have tg : a.tmps[28]?.getD undef = .bool false := hA.dep_ ⟨8, .guard⟩ (by simp) _ 28 rfl rfl
      refine .inl ⟨by rw [wanted_of (j := 8) rfl (yielded_of (by rfl) rfl tg)]; rfl, ?_⟩
      clear tg
      have t8 := hA.at_ 8 (by first | rfl | kernel_rfl) rfl
      refine step_value (w' := x) (v := .slice (some ⟨g, 0, none⟩) 256 256) ?_ (Grows.refl _) ?_
      · go_simp
      · rfl
    · intro a x hA
      have tg : a.tmps[28]?.getD undef = .bool false := hA.dep_ ⟨8, .guard⟩ (by simp) _ 28 rfl rfl
      refine .inl ⟨by rw [wanted_of (j := 8) rfl (yielded_of (by rfl) rfl tg)]; rfl, ?_⟩
      clear tg
      have t29 : a.tmps[29]?.getD undef = .slice (some ⟨g, 0, none⟩) 256 256 := hA.dep_ ⟨9, .data⟩ (by simp) _ 29 rfl rfl
      have hBx := HV.out.keep hA.grown
      have cs4 := (HC.out.keep hA.grown).cell (o := 4) rfl
      have cg0 : x.cell? ⟨g, 0, none⟩ = some (bv 165) := ext_cell HG.out (fp := nofp) (Ext.ofBelow hA.grown) (fun h => h)
      clear hBx
      have hBx := HV.out.keep hA.grown
      refine step_call (f := 35) (args := #[.slice (some ⟨g, 0, none⟩) 256 256, .int .i64 1, .int .i64 6]) (by clear hBx; go_simp) ((store_number _ _ 1 6 x hBx (by omega) (by omega) (by omega) (by have := HL.out; omega)).mono ?_)
      rintro e w' ⟨rfl, hb⟩
      exact ⟨_, rfl, pg_of hb, congrArg (fun k : Nat => Value.int .i64 (k : Int)) H1.out⟩
    · intro a x hA
      have tg : a.tmps[28]?.getD undef = .bool false := hA.dep_ ⟨8, .guard⟩ (by simp) _ 28 rfl rfl
      refine .inl ⟨by rw [wanted_of (j := 8) rfl (yielded_of (by rfl) rfl tg)]; rfl, ?_⟩
      clear tg
      have t0 := hA.at_ 0 (by first | rfl | kernel_rfl) rfl
      refine step_value (w' := x) (v := .pointer (some ⟨q.s, 0, none⟩)) ?_ (Grows.refl _) ?_
      · go_simp
      · rfl
    · intro a x hA
      have tg : a.tmps[28]?.getD undef = .bool false := hA.dep_ ⟨8, .guard⟩ (by simp) _ 28 rfl rfl
      refine .inl ⟨by rw [wanted_of (j := 8) rfl (yielded_of (by rfl) rfl tg)]; rfl, ?_⟩
      clear tg
      have t31 : a.tmps[31]?.getD undef = .pointer (some ⟨q.s, 0, none⟩) := hA.dep_ ⟨11, .data⟩ (by simp) _ 31 rfl rfl
      refine step_value (w' := x) (v := .pointer (some ⟨q.s, 0, none⟩)) ?_ (Grows.refl _) ?_
      · go_simp
      · rfl
    · intro a x hA
      have tg : a.tmps[28]?.getD undef = .bool false := hA.dep_ ⟨8, .guard⟩ (by simp) _ 28 rfl rfl
      refine .inl ⟨by rw [wanted_of (j := 8) rfl (yielded_of (by rfl) rfl tg)]; rfl, ?_⟩
      clear tg
      have t32 : a.tmps[32]?.getD undef = .pointer (some ⟨q.s, 0, none⟩) := hA.dep_ ⟨12, .data⟩ (by simp) _ 32 rfl rfl
      refine step_value (w' := x) (v := .pointer (some ⟨q.s, 4, none⟩)) ?_ (Grows.refl _) ?_
      · go_simp
      · rfl
    · intro a x hA
      have tg : a.tmps[28]?.getD undef = .bool false := hA.dep_ ⟨8, .guard⟩ (by simp) _ 28 rfl rfl
      refine .inl ⟨by rw [wanted_of (j := 8) rfl (yielded_of (by rfl) rfl tg)]; rfl, ?_⟩
      clear tg
      have t33 : a.tmps[33]?.getD undef = .pointer (some ⟨q.s, 4, none⟩) := hA.dep_ ⟨13, .data⟩ (by simp) _ 33 rfl rfl
      have hBx := HV.out.keep hA.grown
      have cs4 := (HC.out.keep hA.grown).cell (o := 4) rfl
      have cg0 : x.cell? ⟨g, 0, none⟩ = some (bv 165) := ext_cell HG.out (fp := nofp) (Ext.ofBelow hA.grown) (fun h => h)
      clear hBx
      refine step_value (w' := x) (v := .int .i64 (sn : Int)) ?_ (Grows.refl _) ?_
      · go_simp
      · rfl
    · intro a x hA
      have tg : a.tmps[28]?.getD undef = .bool false := hA.dep_ ⟨8, .guard⟩ (by simp) _ 28 rfl rfl
      refine .inl ⟨by rw [wanted_of (j := 8) rfl (yielded_of (by rfl) rfl tg)]; rfl, ?_⟩
      clear tg
      have t30 : a.tmps[30]?.getD undef = .int .i64 (sn : Int) := hA.dep_ ⟨10, .data⟩ (by simp) _ 30 rfl rfl
      have t34 : a.tmps[34]?.getD undef = .int .i64 (sn : Int) := hA.dep_ ⟨14, .data⟩ (by simp) _ 34 rfl rfl
      refine step_value (w' := x) (v := .bool false) ?_ (Grows.refl _) ?_
      · go_simp
      · rfl
    · intro a x hA
      refine .inl ⟨rfl, ?_⟩
      have t28 : a.tmps[28]?.getD undef = .bool false := hA.dep_ ⟨8, .data⟩ (by simp) _ 28 rfl rfl
      have t35 : a.tmps[35]?.getD undef = .bool false := hA.dep_ ⟨15, .data⟩ (by simp) _ 35 rfl rfl
      refine step_value (w' := x) (v := .bool false) ?_ (Grows.refl _) ?_
      · go_simp
      · rfl
    · intro a x hA
      refine .inl ⟨rfl, ?_⟩
      have t36 : a.tmps[36]?.getD undef = .bool false := hA.dep_ ⟨16, .data⟩ (by simp) _ 36 rfl rfl
      refine step_value (w' := x) (v := .bool false) ?_ (Grows.refl _) ?_
      · go_simp
      · rfl
    · intro a x hA
      have tg : a.tmps[37]?.getD undef = .bool false := hA.dep_ ⟨17, .guard⟩ (by simp) _ 37 rfl rfl
      refine .inl ⟨by rw [wanted_of (j := 17) rfl (yielded_of (by rfl) rfl tg)]; rfl, ?_⟩
      clear tg
      have t8 := hA.at_ 8 (by first | rfl | kernel_rfl) rfl
      refine step_value (w' := x) (v := .slice (some ⟨g, 0, none⟩) 256 256) ?_ (Grows.refl _) ?_
      · go_simp
      · rfl
    · intro a x hA
      have tg : a.tmps[37]?.getD undef = .bool false := hA.dep_ ⟨17, .guard⟩ (by simp) _ 37 rfl rfl
      refine .inl ⟨by rw [wanted_of (j := 17) rfl (yielded_of (by rfl) rfl tg)]; rfl, ?_⟩
      clear tg
      have t38 : a.tmps[38]?.getD undef = .slice (some ⟨g, 0, none⟩) 256 256 := hA.dep_ ⟨18, .data⟩ (by simp) _ 38 rfl rfl
      have hBx := HV.out.keep hA.grown
      have cs4 := (HC.out.keep hA.grown).cell (o := 4) rfl
      have cg0 : x.cell? ⟨g, 0, none⟩ = some (bv 165) := ext_cell HG.out (fp := nofp) (Ext.ofBelow hA.grown) (fun h => h)
      clear hBx
      have hBx := HV.out.keep hA.grown
      refine step_call (f := 35) (args := #[.slice (some ⟨g, 0, none⟩) 256 256, .int .i64 252, .int .i64 4]) (by clear hBx; go_simp) ((store_number _ _ 252 4 x hBx (by omega) (by omega) (by omega) (by have := HL.out; omega)).mono ?_)
      rintro e w' ⟨rfl, hb⟩
      exact ⟨_, rfl, pg_of hb, congrArg (fun k : Nat => Value.int .i64 (k : Int)) H2.out⟩
    · intro a x hA
      have tg : a.tmps[37]?.getD undef = .bool false := hA.dep_ ⟨17, .guard⟩ (by simp) _ 37 rfl rfl
      refine .inl ⟨by rw [wanted_of (j := 17) rfl (yielded_of (by rfl) rfl tg)]; rfl, ?_⟩
      clear tg
      have t8 := hA.at_ 8 (by first | rfl | kernel_rfl) rfl
      refine step_value (w' := x) (v := .slice (some ⟨g, 0, none⟩) 256 256) ?_ (Grows.refl _) ?_
      · go_simp
      · rfl
    · intro a x hA
      have tg : a.tmps[37]?.getD undef = .bool false := hA.dep_ ⟨17, .guard⟩ (by simp) _ 37 rfl rfl
      refine .inl ⟨by rw [wanted_of (j := 17) rfl (yielded_of (by rfl) rfl tg)]; rfl, ?_⟩
      clear tg
      have t40 : a.tmps[40]?.getD undef = .slice (some ⟨g, 0, none⟩) 256 256 := hA.dep_ ⟨20, .data⟩ (by simp) _ 40 rfl rfl
      refine step_value (w' := x) (v := .slice (some ⟨g, 0, none⟩) 252 256) ?_ (Grows.refl _) ?_
      · go_simp
      · rfl
    · intro a x hA
      have tg : a.tmps[37]?.getD undef = .bool false := hA.dep_ ⟨17, .guard⟩ (by simp) _ 37 rfl rfl
      refine .inl ⟨by rw [wanted_of (j := 17) rfl (yielded_of (by rfl) rfl tg)]; rfl, ?_⟩
      clear tg
      have t41 : a.tmps[41]?.getD undef = .slice (some ⟨g, 0, none⟩) 252 256 := hA.dep_ ⟨21, .data⟩ (by simp) _ 41 rfl rfl
      have hBx := HV.out.keep hA.grown
      have cs4 := (HC.out.keep hA.grown).cell (o := 4) rfl
      have cg0 : x.cell? ⟨g, 0, none⟩ = some (bv 165) := ext_cell HG.out (fp := nofp) (Ext.ofBelow hA.grown) (fun h => h)
      clear hBx
      have hBx := HT.out.keep hA.grown
      refine step_call (f := 51) (args := #[.slice (some ⟨g, 0, none⟩) 252 256]) (by clear hBx; go_simp) ((wire_Crc _ _ x hBx (by have := HL.out; simp; omega)).mono ?_)
      rintro e w' ⟨rfl, hb⟩
      exact ⟨_, rfl, pg_of hb, congrArg (fun k : Nat => Value.int .u32 (k : Int)) H3.out⟩
    · intro a x hA
      have tg : a.tmps[37]?.getD undef = .bool false := hA.dep_ ⟨17, .guard⟩ (by simp) _ 37 rfl rfl
      refine .inl ⟨by rw [wanted_of (j := 17) rfl (yielded_of (by rfl) rfl tg)]; rfl, ?_⟩
      clear tg
      have t42 : a.tmps[42]?.getD undef = .int .u32 (cr : Int) := hA.dep_ ⟨22, .data⟩ (by simp) _ 42 rfl rfl
      refine step_value (w' := x) (v := .int .i64 (cr : Int)) ?_ (Grows.refl _) ?_
      · go_simp
      · rfl
    · intro a x hA
      have tg : a.tmps[37]?.getD undef = .bool false := hA.dep_ ⟨17, .guard⟩ (by simp) _ 37 rfl rfl
      refine .inl ⟨by rw [wanted_of (j := 17) rfl (yielded_of (by rfl) rfl tg)]; rfl, ?_⟩
      clear tg
      have t39 : a.tmps[39]?.getD undef = .int .i64 (n2 : Int) := hA.dep_ ⟨19, .data⟩ (by simp) _ 39 rfl rfl
      have t43 : a.tmps[43]?.getD undef = .int .i64 (cr : Int) := hA.dep_ ⟨23, .data⟩ (by simp) _ 43 rfl rfl
      refine step_value (w' := x) (v := .bool true) ?_ (Grows.refl _) ?_
      · go_simp
      · rfl
    · intro a x hA
      refine .inl ⟨rfl, ?_⟩
      have t37 : a.tmps[37]?.getD undef = .bool false := hA.dep_ ⟨17, .data⟩ (by simp) _ 37 rfl rfl
      have t44 : a.tmps[44]?.getD undef = .bool true := hA.dep_ ⟨24, .data⟩ (by simp) _ 44 rfl rfl
      refine step_value (w' := x) (v := .bool true) ?_ (Grows.refl _) ?_
      · go_simp
      · rfl
  case rfin =>
    intro y W' hg hV
    simp only [AllVals] at hV
    obtain ⟨_, _, _, _, _, _, _, _, _, _, _, _, _, _, _, _, _, _, _, _, _, _, _, _, _, u25, _⟩ := hV
    have hb := pg_to hg
    clear hg
    simp only [putAll, Act.put, List.setIfInBounds_toArray, List.set_cons_zero, List.set_cons_succ]
    rw [u25]
    clear u25
    have HBW := hid (HB.out.trans (hb.mono HB.out.size))
    clear hb
    go_wp2_with fail
    refine bodyPost_ret (v := .tuple #[.int .i64 0, .int .i64 0, .slice none 0 0, .bool false]) (by simp [results, Try.results33, go_sem]) rfl ?_
    exact ⟨rfl, HBW.out⟩

set_option maxRecDepth 100000 in
set_option maxHeartbeats 3200000 in
theorem store_part_size (h : StAt W q S D) (hoff : D.off = false) (kk : Nat) (t : List UInt8) (hv : D.vers (kk : Int) = none) (hbad : D.bad (kk : Int) = false) (ht : D.texts[kk]? = some t) (h0 : t[0]? = some 165) (h1 : numOf ((t.drop 1).take 6) = S.num) (h2 : numOf ((t.drop 252).take 4) = crcOf (t.take 252)) (u : UInt8) (hu : t[11]? = some u) (hs : 240 < u.toNat ∨ (numOf ((t.drop 7).take 2) + 1 < numOf ((t.drop 9).take 2) ∧ u.toNat ≠ 240)) :
    Calls Try.prog 33 #[.pointer (some ⟨q.s, 0, none⟩), .int .i64 (kk : Int)] W fun e w' => e = .returned (.tuple #[.int .i64 0, .int .i64 0, .slice none 0 0, .bool false]) ∧ Below W.heap.size W w' := by
  have c0 := h.cell.cell (o := 0) rfl
  have HL := hid (h.disk.lens t (List.mem_of_getElem? ht))
  go_enter Try.func33, Try.ntmps33
  go_wp2_with fail
  refine (disk_Read_text h.disk hoff kk t hv hbad ht).mono ?_
  rintro e W1 ⟨g, rfl, hg, hb, hbl⟩
  have HG : Hid (W1.cell? ⟨g, 0, none⟩ = some (bv 165)) := hid (by
    rcases hb.cases with ⟨e, _⟩ | ⟨g', o', c', e, _, _, hc⟩ | ⟨e, _⟩
    · cases e
    rotate_left
    · rw [e] at h0; simp at h0
    · injection e with e1 e2 e3
      injection e1 with e1
      injection e1 with e1 e4
      subst e1 e4
      exact hc 0 165 h0)
  have HV := hid hb
  have HGG := hid hg
  have HB := hid hbl
  have HC := hid (h.cell.keep hbl)
  obtain ⟨sn, hsn⟩ : ∃ sn, S.num = sn := ⟨_, rfl⟩
  rw [hsn] at HC h1
  have H1 := hid h1
  obtain ⟨n2, hn2⟩ : ∃ n2, numOf ((t.drop 252).take 4) = n2 := ⟨_, rfl⟩
  obtain ⟨cr, hcr⟩ : ∃ cr, crcOf (t.take 252) = cr := ⟨_, rfl⟩
  have hcl := crcOf_lt (t.take 252)
  rw [hn2, hcr] at h2
  rw [hcr] at hcl
  have H2 := hid hn2
  have H3 := hid hcr
  have HT : Hid (Bs W1 (.slice (some ⟨g, 0, none⟩) 252 256) (t.take 252)) := hid (hb.slice (lo := 0) (hi := 252) (by omega) (by omega))
  have hsl := fun (w : World) => run_slice_to (P := Try.prog) Try.underlying40 szu8 (some ⟨g, 0, none⟩) 256 256 252 (by omega) (by omega) w
  rw [show ((252 : Int)).toNat = 252 from rfl] at hsl
  have hwc : IntKind.i64.wrap (cr : Int) = (cr : Int) := by rw [IntKind.wrap_i64]; omega
  obtain ⟨k, hk⟩ : ∃ k, numOf ((t.drop 7).take 2) = k := ⟨_, rfl⟩
  obtain ⟨n, hn⟩ : ∃ n, numOf ((t.drop 9).take 2) = n := ⟨_, rfl⟩
  obtain ⟨z, hz⟩ : ∃ z, u.toNat = z := ⟨_, rfl⟩
  rw [hk, hn, hz] at hs
  have hkl : k < 65536 := by
    have h9 := numOf_lt ((t.drop 7).take 2)
    rw [hk] at h9
    have h8 : 2 ^ (8 * ((t.drop 7).take 2).length) ≤ 2 ^ (8 * 2) := Nat.pow_le_pow_right (by omega) (by have := List.length_take_le 2 (t.drop 7); omega)
    omega
  have hnl : n < 65536 := by
    have h9 := numOf_lt ((t.drop 9).take 2)
    rw [hn] at h9
    have h8 : 2 ^ (8 * ((t.drop 9).take 2).length) ≤ 2 ^ (8 * 2) := Nat.pow_le_pow_right (by omega) (by have := List.length_take_le 2 (t.drop 9); omega)
    omega
  have hzl : z < 256 := by rw [← hz]; exact u.toNat_lt
  have HK := hid hk
  have HN := hid hn
  have HZ : Hid (W1.cell? ⟨g, 11, none⟩ = some (.int .u8 (z : Int))) := hid (by
    rcases hb.cases with ⟨e, _⟩ | ⟨g', o', c', e, _, _, hc⟩ | ⟨e, _⟩
    · cases e
    rotate_left
    · rw [e] at h0; simp at h0
    · injection e with e1 e2 e3
      injection e1 with e1
      injection e1 with e1 e4
      subst e1 e4
      rw [← hz]
      exact hc 11 u hu)
  have hwn : IntKind.i64.wrap ((n : Int) - 1) = (n : Int) - 1 := by rw [IntKind.wrap_i64]; omega
  have hwz : IntKind.i64.wrap (z : Int) = (z : Int) := by rw [IntKind.wrap_i64]; omega
  have hq1 : cr = n2 := by omega
  subst hq1
  clear h1 h2 hsn hn2 hcr hcl hk hn hz hu
  clear hb hbl h hoff hv hbad ht h0 c0 hg
  have hw0 : IntKind.i64.wrap 0 = 0 := by rw [IntKind.wrap_i64]; rfl
  go_upto_region 2 with fail
  refine wp_region_invG rfl Grows (fun i v x => match i with
      | 0 => v = .int .i64 0
      | 1 => v = .bool false
      | 2 => v = .bool false
      | 3 => v = .slice (some ⟨g, 0, none⟩) 256 256
      | 4 => v = .pointer (some ⟨g, 0, none⟩)
      | 5 => v = .int .u8 165
      | 6 => v = .bool false
      | 7 => v = .bool false
      | 8 => v = .bool false
      | 9 => v = .slice (some ⟨g, 0, none⟩) 256 256
      | 10 => v = .int .i64 (sn : Int)
      | 11 => v = .pointer (some ⟨q.s, 0, none⟩)
      | 12 => v = .pointer (some ⟨q.s, 0, none⟩)
      | 13 => v = .pointer (some ⟨q.s, 4, none⟩)
      | 14 => v = .int .i64 (sn : Int)
      | 15 => v = .bool false
      | 16 => v = .bool false
      | 17 => v = .bool false
      | 18 => v = .slice (some ⟨g, 0, none⟩) 256 256
      | 19 => v = .int .i64 (cr : Int)
      | 20 => v = .slice (some ⟨g, 0, none⟩) 256 256
      | 21 => v = .slice (some ⟨g, 0, none⟩) 252 256
      | 22 => v = .int .u32 (cr : Int)
      | 23 => v = .int .i64 (cr : Int)
      | 24 => v = .bool false
      | 25 => v = .bool false
      | _ => True) (by kernel_rfl) Grows.refl Grows.trans ?rstab ?rsteps ?rfin
  case rstab =>
    intro i v x y hg h
    match i with
    | 0 | 1 | 2 | 3 | 4 | 5 | 6 | 7 | 8 | 9 | 10 | 11 | 12 | 13 | 14 | 15 | 16 | 17 | 18 | 19 | 20 | 21 | 22 | 23 | 24 | 25 => exact h
    | n + 26 => trivial
  case rsteps =>
    refine ⟨?_, ?_, ?_, ?_, ?_, ?_, ?_, ?_, ?_, ?_, ?_, ?_, ?_, ?_, ?_, ?_, ?_, ?_, ?_, ?_, ?_, ?_, ?_, ?_, ?_, ?_, trivial⟩
    · intro a x hA
      refine .inl ⟨rfl, ?_⟩
      have t9 := hA.at_ 9 (by first | rfl | kernel_rfl) rfl
      refine step_value (w' := x) (v := .int .i64 0) ?_ (Grows.refl _) ?_
      · go_simp
      · rfl
    · intro a x hA
      refine .inl ⟨rfl, ?_⟩
      have t20 : a.tmps[20]?.getD undef = .int .i64 0 := hA.dep_ ⟨0, .data⟩ (by simp) _ 20 rfl rfl
      refine step_value (w' := x) (v := .bool false) ?_ (Grows.refl _) ?_
      · go_simp
      · rfl
    · intro a x hA
      refine .inl ⟨rfl, ?_⟩
      have t21 : a.tmps[21]?.getD undef = .bool false := hA.dep_ ⟨1, .data⟩ (by simp) _ 21 rfl rfl
      refine step_value (w' := x) (v := .bool false) ?_ (Grows.refl _) ?_
      · go_simp
      · rfl
    · intro a x hA
      have tg : a.tmps[22]?.getD undef = .bool false := hA.dep_ ⟨2, .guard⟩ (by simp) _ 22 rfl rfl
      refine .inl ⟨by rw [wanted_of (j := 2) rfl (yielded_of (by rfl) rfl tg)]; rfl, ?_⟩
      clear tg
      have t8 := hA.at_ 8 (by first | rfl | kernel_rfl) rfl
      refine step_value (w' := x) (v := .slice (some ⟨g, 0, none⟩) 256 256) ?_ (Grows.refl _) ?_
      · go_simp
      · rfl
    · intro a x hA
      have tg : a.tmps[22]?.getD undef = .bool false := hA.dep_ ⟨2, .guard⟩ (by simp) _ 22 rfl rfl
      refine .inl ⟨by rw [wanted_of (j := 2) rfl (yielded_of (by rfl) rfl tg)]; rfl, ?_⟩
      clear tg
      have t23 : a.tmps[23]?.getD undef = .slice (some ⟨g, 0, none⟩) 256 256 := hA.dep_ ⟨3, .data⟩ (by simp) _ 23 rfl rfl
      refine step_value (w' := x) (v := .pointer (some ⟨g, 0, none⟩)) ?_ (Grows.refl _) ?_
      · go_simp
      · rfl
    · intro a x hA
      have tg : a.tmps[22]?.getD undef = .bool false := hA.dep_ ⟨2, .guard⟩ (by simp) _ 22 rfl rfl
      refine .inl ⟨by rw [wanted_of (j := 2) rfl (yielded_of (by rfl) rfl tg)]; rfl, ?_⟩
      clear tg
      have t24 : a.tmps[24]?.getD undef = .pointer (some ⟨g, 0, none⟩) := hA.dep_ ⟨4, .data⟩ (by simp) _ 24 rfl rfl
      have hBx := HV.out.keep hA.grown
      have cs4 := (HC.out.keep hA.grown).cell (o := 4) rfl
      have cg0 : x.cell? ⟨g, 0, none⟩ = some (bv 165) := ext_cell HG.out (fp := nofp) (Ext.ofBelow hA.grown) (fun h => h)
      clear hBx
      refine step_value (w' := x) (v := .int .u8 165) ?_ (Grows.refl _) ?_
      · go_simp
      · rfl
    · intro a x hA
      have tg : a.tmps[22]?.getD undef = .bool false := hA.dep_ ⟨2, .guard⟩ (by simp) _ 22 rfl rfl
      refine .inl ⟨by rw [wanted_of (j := 2) rfl (yielded_of (by rfl) rfl tg)]; rfl, ?_⟩
      clear tg
      have t25 : a.tmps[25]?.getD undef = .int .u8 165 := hA.dep_ ⟨5, .data⟩ (by simp) _ 25 rfl rfl
      refine step_value (w' := x) (v := .bool false) ?_ (Grows.refl _) ?_
      · go_simp
      · rfl
    · intro a x hA
      refine .inl ⟨rfl, ?_⟩
      have t22 : a.tmps[22]?.getD undef = .bool false := hA.dep_ ⟨2, .data⟩ (by simp) _ 22 rfl rfl
      have t26 : a.tmps[26]?.getD undef = .bool false := hA.dep_ ⟨6, .data⟩ (by simp) _ 26 rfl rfl
      refine step_value (w' := x) (v := .bool false) ?_ (Grows.refl _) ?_
      · go_simp
      · rfl
    · intro a x hA
      refine .inl ⟨rfl, ?_⟩
      have t27 : a.tmps[27]?.getD undef = .bool false := hA.dep_ ⟨7, .data⟩ (by simp) _ 27 rfl rfl
      refine step_value (w' := x) (v := .bool false) ?_ (Grows.refl _) ?_
      · go_simp
      · rfl
    · intro a x hA
      have tg : a.tmps[28]?.getD undef = .bool false := hA.dep_ ⟨8, .guard⟩ (by simp) _ 28 rfl rfl
      refine .inl ⟨by rw [wanted_of (j := 8) rfl (yielded_of (by rfl) rfl tg)]; rfl, ?_⟩
      clear tg
      have t8 := hA.at_ 8 (by first | rfl | kernel_rfl) rfl
      refine step_value (w' := x) (v := .slice (some ⟨g, 0, none⟩) 256 256) ?_ (Grows.refl _) ?_
      · go_simp
      · rfl
    · intro a x hA
      have tg : a.tmps[28]?.getD undef = .bool false := hA.dep_ ⟨8, .guard⟩ (by simp) _ 28 rfl rfl
      refine .inl ⟨by rw [wanted_of (j := 8) rfl (yielded_of (by rfl) rfl tg)]; rfl, ?_⟩
      clear tg
      have t29 : a.tmps[29]?.getD undef = .slice (some ⟨g, 0, none⟩) 256 256 := hA.dep_ ⟨9, .data⟩ (by simp) _ 29 rfl rfl
      have hBx := HV.out.keep hA.grown
      have cs4 := (HC.out.keep hA.grown).cell (o := 4) rfl
      have cg0 : x.cell? ⟨g, 0, none⟩ = some (bv 165) := ext_cell HG.out (fp := nofp) (Ext.ofBelow hA.grown) (fun h => h)
      clear hBx
      have hBx := HV.out.keep hA.grown
      refine step_call (f := 35) (args := #[.slice (some ⟨g, 0, none⟩) 256 256, .int .i64 1, .int .i64 6]) (by clear hBx; go_simp) ((store_number _ _ 1 6 x hBx (by omega) (by omega) (by omega) (by have := HL.out; omega)).mono ?_)
      rintro e w' ⟨rfl, hb⟩
      exact ⟨_, rfl, pg_of hb, congrArg (fun k : Nat => Value.int .i64 (k : Int)) H1.out⟩
    · intro a x hA
      have tg : a.tmps[28]?.getD undef = .bool false := hA.dep_ ⟨8, .guard⟩ (by simp) _ 28 rfl rfl
      refine .inl ⟨by rw [wanted_of (j := 8) rfl (yielded_of (by rfl) rfl tg)]; rfl, ?_⟩
      clear tg
      have t0 := hA.at_ 0 (by first | rfl | kernel_rfl) rfl
      refine step_value (w' := x) (v := .pointer (some ⟨q.s, 0, none⟩)) ?_ (Grows.refl _) ?_
      · go_simp
      · rfl
    · intro a x hA
      have tg : a.tmps[28]?.getD undef = .bool false := hA.dep_ ⟨8, .guard⟩ (by simp) _ 28 rfl rfl
      refine .inl ⟨by rw [wanted_of (j := 8) rfl (yielded_of (by rfl) rfl tg)]; rfl, ?_⟩
      clear tg
      have t31 : a.tmps[31]?.getD undef = .pointer (some ⟨q.s, 0, none⟩) := hA.dep_ ⟨11, .data⟩ (by simp) _ 31 rfl rfl
      refine step_value (w' := x) (v := .pointer (some ⟨q.s, 0, none⟩)) ?_ (Grows.refl _) ?_
      · go_simp
      · rfl
    · intro a x hA
      have tg : a.tmps[28]?.getD undef = .bool false := hA.dep_ ⟨8, .guard⟩ (by simp) _ 28 rfl rfl
      refine .inl ⟨by rw [wanted_of (j := 8) rfl (yielded_of (by rfl) rfl tg)]; rfl, ?_⟩
      clear tg
      have t32 : a.tmps[32]?.getD undef = .pointer (some ⟨q.s, 0, none⟩) := hA.dep_ ⟨12, .data⟩ (by simp) _ 32 rfl rfl
      refine step_value (w' := x) (v := .pointer (some ⟨q.s, 4, none⟩)) ?_ (Grows.refl _) ?_
      · go_simp
      · rfl
    · intro a x hA
      have tg : a.tmps[28]?.getD undef = .bool false := hA.dep_ ⟨8, .guard⟩ (by simp) _ 28 rfl rfl
      refine .inl ⟨by rw [wanted_of (j := 8) rfl (yielded_of (by rfl) rfl tg)]; rfl, ?_⟩
      clear tg
      have t33 : a.tmps[33]?.getD undef = .pointer (some ⟨q.s, 4, none⟩) := hA.dep_ ⟨13, .data⟩ (by simp) _ 33 rfl rfl
      have hBx := HV.out.keep hA.grown
      have cs4 := (HC.out.keep hA.grown).cell (o := 4) rfl
      have cg0 : x.cell? ⟨g, 0, none⟩ = some (bv 165) := ext_cell HG.out (fp := nofp) (Ext.ofBelow hA.grown) (fun h => h)
      clear hBx
      refine step_value (w' := x) (v := .int .i64 (sn : Int)) ?_ (Grows.refl _) ?_
      · go_simp
      · rfl
    · intro a x hA
      have tg : a.tmps[28]?.getD undef = .bool false := hA.dep_ ⟨8, .guard⟩ (by simp) _ 28 rfl rfl
      refine .inl ⟨by rw [wanted_of (j := 8) rfl (yielded_of (by rfl) rfl tg)]; rfl, ?_⟩
      clear tg
      have t30 : a.tmps[30]?.getD undef = .int .i64 (sn : Int) := hA.dep_ ⟨10, .data⟩ (by simp) _ 30 rfl rfl
      have t34 : a.tmps[34]?.getD undef = .int .i64 (sn : Int) := hA.dep_ ⟨14, .data⟩ (by simp) _ 34 rfl rfl
      refine step_value (w' := x) (v := .bool false) ?_ (Grows.refl _) ?_
      · go_simp
      · rfl
    · intro a x hA
      refine .inl ⟨rfl, ?_⟩
      have t28 : a.tmps[28]?.getD undef = .bool false := hA.dep_ ⟨8, .data⟩ (by simp) _ 28 rfl rfl
      have t35 : a.tmps[35]?.getD undef = .bool false := hA.dep_ ⟨15, .data⟩ (by simp) _ 35 rfl rfl
      refine step_value (w' := x) (v := .bool false) ?_ (Grows.refl _) ?_
      · go_simp
      · rfl
    · intro a x hA
      refine .inl ⟨rfl, ?_⟩
      have t36 : a.tmps[36]?.getD undef = .bool false := hA.dep_ ⟨16, .data⟩ (by simp) _ 36 rfl rfl
      refine step_value (w' := x) (v := .bool false) ?_ (Grows.refl _) ?_
      · go_simp
      · rfl
    · intro a x hA
      have tg : a.tmps[37]?.getD undef = .bool false := hA.dep_ ⟨17, .guard⟩ (by simp) _ 37 rfl rfl
      refine .inl ⟨by rw [wanted_of (j := 17) rfl (yielded_of (by rfl) rfl tg)]; rfl, ?_⟩
      clear tg
      have t8 := hA.at_ 8 (by first | rfl | kernel_rfl) rfl
      refine step_value (w' := x) (v := .slice (some ⟨g, 0, none⟩) 256 256) ?_ (Grows.refl _) ?_
      · go_simp
      · rfl
    · intro a x hA
      have tg : a.tmps[37]?.getD undef = .bool false := hA.dep_ ⟨17, .guard⟩ (by simp) _ 37 rfl rfl
      refine .inl ⟨by rw [wanted_of (j := 17) rfl (yielded_of (by rfl) rfl tg)]; rfl, ?_⟩
      clear tg
      have t38 : a.tmps[38]?.getD undef = .slice (some ⟨g, 0, none⟩) 256 256 := hA.dep_ ⟨18, .data⟩ (by simp) _ 38 rfl rfl
      have hBx := HV.out.keep hA.grown
      have cs4 := (HC.out.keep hA.grown).cell (o := 4) rfl
      have cg0 : x.cell? ⟨g, 0, none⟩ = some (bv 165) := ext_cell HG.out (fp := nofp) (Ext.ofBelow hA.grown) (fun h => h)
      clear hBx
      have hBx := HV.out.keep hA.grown
      refine step_call (f := 35) (args := #[.slice (some ⟨g, 0, none⟩) 256 256, .int .i64 252, .int .i64 4]) (by clear hBx; go_simp) ((store_number _ _ 252 4 x hBx (by omega) (by omega) (by omega) (by have := HL.out; omega)).mono ?_)
      rintro e w' ⟨rfl, hb⟩
      exact ⟨_, rfl, pg_of hb, congrArg (fun k : Nat => Value.int .i64 (k : Int)) H2.out⟩
    · intro a x hA
      have tg : a.tmps[37]?.getD undef = .bool false := hA.dep_ ⟨17, .guard⟩ (by simp) _ 37 rfl rfl
      refine .inl ⟨by rw [wanted_of (j := 17) rfl (yielded_of (by rfl) rfl tg)]; rfl, ?_⟩
      clear tg
      have t8 := hA.at_ 8 (by first | rfl | kernel_rfl) rfl
      refine step_value (w' := x) (v := .slice (some ⟨g, 0, none⟩) 256 256) ?_ (Grows.refl _) ?_
      · go_simp
      · rfl
    · intro a x hA
      have tg : a.tmps[37]?.getD undef = .bool false := hA.dep_ ⟨17, .guard⟩ (by simp) _ 37 rfl rfl
      refine .inl ⟨by rw [wanted_of (j := 17) rfl (yielded_of (by rfl) rfl tg)]; rfl, ?_⟩
      clear tg
      have t40 : a.tmps[40]?.getD undef = .slice (some ⟨g, 0, none⟩) 256 256 := hA.dep_ ⟨20, .data⟩ (by simp) _ 40 rfl rfl
      refine step_value (w' := x) (v := .slice (some ⟨g, 0, none⟩) 252 256) ?_ (Grows.refl _) ?_
      · go_simp
      · rfl
    · intro a x hA
      have tg : a.tmps[37]?.getD undef = .bool false := hA.dep_ ⟨17, .guard⟩ (by simp) _ 37 rfl rfl
      refine .inl ⟨by rw [wanted_of (j := 17) rfl (yielded_of (by rfl) rfl tg)]; rfl, ?_⟩
      clear tg
      have t41 : a.tmps[41]?.getD undef = .slice (some ⟨g, 0, none⟩) 252 256 := hA.dep_ ⟨21, .data⟩ (by simp) _ 41 rfl rfl
      have hBx := HV.out.keep hA.grown
      have cs4 := (HC.out.keep hA.grown).cell (o := 4) rfl
      have cg0 : x.cell? ⟨g, 0, none⟩ = some (bv 165) := ext_cell HG.out (fp := nofp) (Ext.ofBelow hA.grown) (fun h => h)
      clear hBx
      have hBx := HT.out.keep hA.grown
      refine step_call (f := 51) (args := #[.slice (some ⟨g, 0, none⟩) 252 256]) (by clear hBx; go_simp) ((wire_Crc _ _ x hBx (by have := HL.out; simp; omega)).mono ?_)
      rintro e w' ⟨rfl, hb⟩
      exact ⟨_, rfl, pg_of hb, congrArg (fun k : Nat => Value.int .u32 (k : Int)) H3.out⟩
    · intro a x hA
      have tg : a.tmps[37]?.getD undef = .bool false := hA.dep_ ⟨17, .guard⟩ (by simp) _ 37 rfl rfl
      refine .inl ⟨by rw [wanted_of (j := 17) rfl (yielded_of (by rfl) rfl tg)]; rfl, ?_⟩
      clear tg
      have t42 : a.tmps[42]?.getD undef = .int .u32 (cr : Int) := hA.dep_ ⟨22, .data⟩ (by simp) _ 42 rfl rfl
      refine step_value (w' := x) (v := .int .i64 (cr : Int)) ?_ (Grows.refl _) ?_
      · go_simp
      · rfl
    · intro a x hA
      have tg : a.tmps[37]?.getD undef = .bool false := hA.dep_ ⟨17, .guard⟩ (by simp) _ 37 rfl rfl
      refine .inl ⟨by rw [wanted_of (j := 17) rfl (yielded_of (by rfl) rfl tg)]; rfl, ?_⟩
      clear tg
      have t39 : a.tmps[39]?.getD undef = .int .i64 (cr : Int) := hA.dep_ ⟨19, .data⟩ (by simp) _ 39 rfl rfl
      have t43 : a.tmps[43]?.getD undef = .int .i64 (cr : Int) := hA.dep_ ⟨23, .data⟩ (by simp) _ 43 rfl rfl
      refine step_value (w' := x) (v := .bool false) ?_ (Grows.refl _) ?_
      · go_simp
      · rfl
    · intro a x hA
      refine .inl ⟨rfl, ?_⟩
      have t37 : a.tmps[37]?.getD undef = .bool false := hA.dep_ ⟨17, .data⟩ (by simp) _ 37 rfl rfl
      have t44 : a.tmps[44]?.getD undef = .bool false := hA.dep_ ⟨24, .data⟩ (by simp) _ 44 rfl rfl
      refine step_value (w' := x) (v := .bool false) ?_ (Grows.refl _) ?_
      · go_simp
      · rfl
  case rfin =>
    intro y W' hg hV
    simp only [AllVals] at hV
    obtain ⟨_, _, _, _, _, _, _, _, _, _, _, _, _, _, _, _, _, _, _, _, _, _, _, _, _, u25, _⟩ := hV
    have hb := pg_to hg
    clear hg
    simp only [putAll, Act.put, List.setIfInBounds_toArray, List.set_cons_zero, List.set_cons_succ]
    rw [u25]
    clear u25
    
    have HB2 := hid hb
    have HBg := hid (hb.mono (Nat.le_refl _))
    clear hb
    go_wp2_with fail
    refine (store_number _ _ 7 2 W' (HV.out.keep HB2.out) (by omega) (by omega) (by omega) (by have := HL.out; omega)).mono ?_
    rintro e w3 ⟨rfl, hb3⟩
    rw [show numOf (List.take (Int.toNat 2) (List.drop (Int.toNat 7) t)) = k from HK.out]
    have HB3 := hid (HB2.out.trans (hb3.mono HB2.out.size))
    clear hb3
    go_wp2_with fail
    refine (store_number _ _ 9 2 w3 (HV.out.keep HB3.out) (by omega) (by omega) (by omega) (by have := HL.out; omega)).mono ?_
    rintro e w4 ⟨rfl, hb4⟩
    rw [show numOf (List.take (Int.toNat 2) (List.drop (Int.toNat 9) t)) = n from HN.out]
    have HB4 := hid (HB3.out.trans (hb4.mono HB3.out.size))
    have HBW := hid (HB.out.trans (HB4.out.mono HB.out.size))
    have c11 : w4.cell? ⟨g, 11, none⟩ = some (.int .u8 (z : Int)) := ext_cell HZ.out (fp := nofp) (Ext.ofBelow HB4.out) (fun h => h)
    clear hb4
    
    by_cases hz1 : 240 < z
    · have hd1 : decide ((z : Int) > 240) = true := decide_eq_true (by omega)
      clear hs
      go_wp2_with fail
      refine bodyPost_ret (v := .tuple #[.int .i64 0, .int .i64 0, .slice none 0 0, .bool false]) (by simp [results, Try.results33, go_sem]) rfl ?_
      exact ⟨rfl, HBW.out⟩
    · have hd1 : decide ((z : Int) > 240) = false := decide_eq_false (by omega)
      have hd2 : decide ((k : Int) < (n : Int) - 1) = true := decide_eq_true (by omega)
      have hd3 : ((z : Int) == 240) = false := beq_eq_false_iff_ne.2 (by omega)
      clear hs
      go_wp2_with fail
      refine bodyPost_ret (v := .tuple #[.int .i64 0, .int .i64 0, .slice none 0 0, .bool false]) (by simp [results, Try.results33, go_sem]) rfl ?_
      exact ⟨rfl, HBW.out⟩

set_option maxRecDepth 100000 in
set_option maxHeartbeats 3200000 in
theorem store_part_ok (h : StAt W q S D) (hoff : D.off = false) (kk : Nat) (t : List UInt8) (hv : D.vers (kk : Int) = none) (hbad : D.bad (kk : Int) = false) (ht : D.texts[kk]? = some t) (h0 : t[0]? = some 165) (h1 : numOf ((t.drop 1).take 6) = S.num) (h2 : numOf ((t.drop 252).take 4) = crcOf (t.take 252)) (u : UInt8) (hu : t[11]? = some u) (k n z : Nat) (hk : numOf ((t.drop 7).take 2) = k) (hn : numOf ((t.drop 9).take 2) = n) (hz : u.toNat = z) (hs : u.toNat ≤ 240 ∧ ¬ (numOf ((t.drop 7).take 2) + 1 < numOf ((t.drop 9).take 2) ∧ u.toNat ≠ 240)) :
    Calls Try.prog 33 #[.pointer (some ⟨q.s, 0, none⟩), .int .i64 (kk : Int)] W fun e w' => ∃ g, e = .returned (.tuple #[.int .i64 (k : Int), .int .i64 (n : Int), .slice (some ⟨g, 12, none⟩) z 244, .bool true]) ∧ W.heap.size ≤ g ∧ Bs w' (.slice (some ⟨g, 12, none⟩) z 244) ((t.drop 12).take z) ∧ Below W.heap.size W w' := by
  have c0 := h.cell.cell (o := 0) rfl
  have HL := hid (h.disk.lens t (List.mem_of_getElem? ht))
  go_enter Try.func33, Try.ntmps33
  go_wp2_with fail
  refine (disk_Read_text h.disk hoff kk t hv hbad ht).mono ?_
  rintro e W1 ⟨g, rfl, hg, hb, hbl⟩
  have HG : Hid (W1.cell? ⟨g, 0, none⟩ = some (bv 165)) := hid (by
    rcases hb.cases with ⟨e, _⟩ | ⟨g', o', c', e, _, _, hc⟩ | ⟨e, _⟩
    · cases e
    rotate_left
    · rw [e] at h0; simp at h0
    · injection e with e1 e2 e3
      injection e1 with e1
      injection e1 with e1 e4
      subst e1 e4
      exact hc 0 165 h0)
  have HV := hid hb
  have HGG := hid hg
  have HB := hid hbl
  have HC := hid (h.cell.keep hbl)
  obtain ⟨sn, hsn⟩ : ∃ sn, S.num = sn := ⟨_, rfl⟩
  rw [hsn] at HC h1
  have H1 := hid h1
  obtain ⟨n2, hn2⟩ : ∃ n2, numOf ((t.drop 252).take 4) = n2 := ⟨_, rfl⟩
  obtain ⟨cr, hcr⟩ : ∃ cr, crcOf (t.take 252) = cr := ⟨_, rfl⟩
  have hcl := crcOf_lt (t.take 252)
  rw [hn2, hcr] at h2
  rw [hcr] at hcl
  have H2 := hid hn2
  have H3 := hid hcr
  have HT : Hid (Bs W1 (.slice (some ⟨g, 0, none⟩) 252 256) (t.take 252)) := hid (hb.slice (lo := 0) (hi := 252) (by omega) (by omega))
  have hsl := fun (w : World) => run_slice_to (P := Try.prog) Try.underlying40 szu8 (some ⟨g, 0, none⟩) 256 256 252 (by omega) (by omega) w
  rw [show ((252 : Int)).toNat = 252 from rfl] at hsl
  have hwc : IntKind.i64.wrap (cr : Int) = (cr : Int) := by rw [IntKind.wrap_i64]; omega
  rw [hk, hn, hz] at hs
  have hkl : k < 65536 := by
    have h9 := numOf_lt ((t.drop 7).take 2)
    rw [hk] at h9
    have h8 : 2 ^ (8 * ((t.drop 7).take 2).length) ≤ 2 ^ (8 * 2) := Nat.pow_le_pow_right (by omega) (by have := List.length_take_le 2 (t.drop 7); omega)
    omega
  have hnl : n < 65536 := by
    have h9 := numOf_lt ((t.drop 9).take 2)
    rw [hn] at h9
    have h8 : 2 ^ (8 * ((t.drop 9).take 2).length) ≤ 2 ^ (8 * 2) := Nat.pow_le_pow_right (by omega) (by have := List.length_take_le 2 (t.drop 9); omega)
    omega
  have hzl : z < 256 := by rw [← hz]; exact u.toNat_lt
  have HK := hid hk
  have HN := hid hn
  have HZ : Hid (W1.cell? ⟨g, 11, none⟩ = some (.int .u8 (z : Int))) := hid (by
    rcases hb.cases with ⟨e, _⟩ | ⟨g', o', c', e, _, _, hc⟩ | ⟨e, _⟩
    · cases e
    rotate_left
    · rw [e] at h0; simp at h0
    · injection e with e1 e2 e3
      injection e1 with e1
      injection e1 with e1 e4
      subst e1 e4
      rw [← hz]
      exact hc 11 u hu)
  have hwn : IntKind.i64.wrap ((n : Int) - 1) = (n : Int) - 1 := by rw [IntKind.wrap_i64]; omega
  have hwz : IntKind.i64.wrap (z : Int) = (z : Int) := by rw [IntKind.wrap_i64]; omega
  have hq1 : cr = n2 := by omega
  subst hq1
  clear h1 h2 hsn hn2 hcr hcl hk hn hz hu
  clear hb hbl h hoff hv hbad ht h0 c0 hg
  have hw0 : IntKind.i64.wrap 0 = 0 := by rw [IntKind.wrap_i64]; rfl
  go_upto_region 2 with fail
  refine wp_region_invG rfl Grows (fun i v x => match i with
      | 0 => v = .int .i64 0
      | 1 => v = .bool false
      | 2 => v = .bool false
      | 3 => v = .slice (some ⟨g, 0, none⟩) 256 256
      | 4 => v = .pointer (some ⟨g, 0, none⟩)
      | 5 => v = .int .u8 165
      | 6 => v = .bool false
      | 7 => v = .bool false
      | 8 => v = .bool false
      | 9 => v = .slice (some ⟨g, 0, none⟩) 256 256
      | 10 => v = .int .i64 (sn : Int)
      | 11 => v = .pointer (some ⟨q.s, 0, none⟩)
      | 12 => v = .pointer (some ⟨q.s, 0, none⟩)
      | 13 => v = .pointer (some ⟨q.s, 4, none⟩)
      | 14 => v = .int .i64 (sn : Int)
      | 15 => v = .bool false
      | 16 => v = .bool false
      | 17 => v = .bool false
      | 18 => v = .slice (some ⟨g, 0, none⟩) 256 256
      | 19 => v = .int .i64 (cr : Int)
      | 20 => v = .slice (some ⟨g, 0, none⟩) 256 256
      | 21 => v = .slice (some ⟨g, 0, none⟩) 252 256
      | 22 => v = .int .u32 (cr : Int)
      | 23 => v = .int .i64 (cr : Int)
      | 24 => v = .bool false
      | 25 => v = .bool false
      | _ => True) (by kernel_rfl) Grows.refl Grows.trans ?rstab ?rsteps ?rfin
  case rstab =>
    intro i v x y hg h
    match i with
    | 0 | 1 | 2 | 3 | 4 | 5 | 6 | 7 | 8 | 9 | 10 | 11 | 12 | 13 | 14 | 15 | 16 | 17 | 18 | 19 | 20 | 21 | 22 | 23 | 24 | 25 => exact h
    | n + 26 => trivial
  case rsteps =>
    refine ⟨?_, ?_, ?_, ?_, ?_, ?_, ?_, ?_, ?_, ?_, ?_, ?_, ?_, ?_, ?_, ?_, ?_, ?_, ?_, ?_, ?_, ?_, ?_, ?_, ?_, ?_, trivial⟩
    · intro a x hA
      refine .inl ⟨rfl, ?_⟩
      have t9 := hA.at_ 9 (by first | rfl | kernel_rfl) rfl
      refine step_value (w' := x) (v := .int .i64 0) ?_ (Grows.refl _) ?_
      · go_simp
      · rfl
    · intro a x hA
      refine .inl ⟨rfl, ?_⟩
      have t20 : a.tmps[20]?.getD undef = .int .i64 0 := hA.dep_ ⟨0, .data⟩ (by simp) _ 20 rfl rfl
      refine step_value (w' := x) (v := .bool false) ?_ (Grows.refl _) ?_
      · go_simp
      · rfl
    · intro a x hA
      refine .inl ⟨rfl, ?_⟩
      have t21 : a.tmps[21]?.getD undef = .bool false := hA.dep_ ⟨1, .data⟩ (by simp) _ 21 rfl rfl
      refine step_value (w' := x) (v := .bool false) ?_ (Grows.refl _) ?_
      · go_simp
      · rfl
    · intro a x hA
      have tg : a.tmps[22]?.getD undef = .bool false := hA.dep_ ⟨2, .guard⟩ (by simp) _ 22 rfl rfl
      refine .inl ⟨by rw [wanted_of (j := 2) rfl (yielded_of (by rfl) rfl tg)]; rfl, ?_⟩
      clear tg
      have t8 := hA.at_ 8 (by first | rfl | kernel_rfl) rfl
      refine step_value (w' := x) (v := .slice (some ⟨g, 0, none⟩) 256 256) ?_ (Grows.refl _) ?_
      · go_simp
      · rfl
    · intro a x hA
      have tg : a.tmps[22]?.getD undef = .bool false := hA.dep_ ⟨2, .guard⟩ (by simp) _ 22 rfl rfl
      refine .inl ⟨by rw [wanted_of (j := 2) rfl (yielded_of (by rfl) rfl tg)]; rfl, ?_⟩
      clear tg
      have t23 : a.tmps[23]?.getD undef = .slice (some ⟨g, 0, none⟩) 256 256 := hA.dep_ ⟨3, .data⟩ (by simp) _ 23 rfl rfl
      refine step_value (w' := x) (v := .pointer (some ⟨g, 0, none⟩)) ?_ (Grows.refl _) ?_
      · go_simp
      · rfl
    · intro a x hA
      have tg : a.tmps[22]?.getD undef = .bool false := hA.dep_ ⟨2, .guard⟩ (by simp) _ 22 rfl rfl
      refine .inl ⟨by rw [wanted_of (j := 2) rfl (yielded_of (by rfl) rfl tg)]; rfl, ?_⟩
      clear tg
      have t24 : a.tmps[24]?.getD undef = .pointer (some ⟨g, 0, none⟩) := hA.dep_ ⟨4, .data⟩ (by simp) _ 24 rfl rfl
      have hBx := HV.out.keep hA.grown
      have cs4 := (HC.out.keep hA.grown).cell (o := 4) rfl
      have cg0 : x.cell? ⟨g, 0, none⟩ = some (bv 165) := ext_cell HG.out (fp := nofp) (Ext.ofBelow hA.grown) (fun h => h)
      clear hBx
      refine step_value (w' := x) (v := .int .u8 165) ?_ (Grows.refl _) ?_
      · go_simp
      · rfl
    · intro a x hA
      have tg : a.tmps[22]?.getD undef = .bool false := hA.dep_ ⟨2, .guard⟩ (by simp) _ 22 rfl rfl
      refine .inl ⟨by rw [wanted_of (j := 2) rfl (yielded_of (by rfl) rfl tg)]; rfl, ?_⟩
      clear tg
      have t25 : a.tmps[25]?.getD undef = .int .u8 165 := hA.dep_ ⟨5, .data⟩ (by simp) _ 25 rfl rfl
      refine step_value (w' := x) (v := .bool false) ?_ (Grows.refl _) ?_
      · go_simp
      · rfl
    · intro a x hA
      refine .inl ⟨rfl, ?_⟩
      have t22 : a.tmps[22]?.getD undef = .bool false := hA.dep_ ⟨2, .data⟩ (by simp) _ 22 rfl rfl
      have t26 : a.tmps[26]?.getD undef = .bool false := hA.dep_ ⟨6, .data⟩ (by simp) _ 26 rfl rfl
      refine step_value (w' := x) (v := .bool false) ?_ (Grows.refl _) ?_
      · go_simp
      · rfl
    · intro a x hA
      refine .inl ⟨rfl, ?_⟩
      have t27 : a.tmps[27]?.getD undef = .bool false := hA.dep_ ⟨7, .data⟩ (by simp) _ 27 rfl rfl
      refine step_value (w' := x) (v := .bool false) ?_ (Grows.refl _) ?_
      · go_simp
      · rfl
    · intro a x hA
      have tg : a.tmps[28]?.getD undef = .bool false := hA.dep_ ⟨8, .guard⟩ (by simp) _ 28 rfl rfl
      refine .inl ⟨by rw [wanted_of (j := 8) rfl (yielded_of (by rfl) rfl tg)]; rfl, ?_⟩
      clear tg
      have t8 := hA.at_ 8 (by first | rfl | kernel_rfl) rfl
      refine step_value (w' := x) (v := .slice (some ⟨g, 0, none⟩) 256 256) ?_ (Grows.refl _) ?_
      · go_simp
      · rfl
    · intro a x hA
      have tg : a.tmps[28]?.getD undef = .bool false := hA.dep_ ⟨8, .guard⟩ (by simp) _ 28 rfl rfl
      refine .inl ⟨by rw [wanted_of (j := 8) rfl (yielded_of (by rfl) rfl tg)]; rfl, ?_⟩
      clear tg
      have t29 : a.tmps[29]?.getD undef = .slice (some ⟨g, 0, none⟩) 256 256 := hA.dep_ ⟨9, .data⟩ (by simp) _ 29 rfl rfl
      have hBx := HV.out.keep hA.grown
      have cs4 := (HC.out.keep hA.grown).cell (o := 4) rfl
      have cg0 : x.cell? ⟨g, 0, none⟩ = some (bv 165) := ext_cell HG.out (fp := nofp) (Ext.ofBelow hA.grown) (fun h => h)
      clear hBx
      have hBx := HV.out.keep hA.grown
      refine step_call (f := 35) (args := #[.slice (some ⟨g, 0, none⟩) 256 256, .int .i64 1, .int .i64 6]) (by clear hBx; go_simp) ((store_number _ _ 1 6 x hBx (by omega) (by omega) (by omega) (by have := HL.out; omega)).mono ?_)
      rintro e w' ⟨rfl, hb⟩
      exact ⟨_, rfl, pg_of hb, congrArg (fun k : Nat => Value.int .i64 (k : Int)) H1.out⟩
    · intro a x hA
      have tg : a.tmps[28]?.getD undef = .bool false := hA.dep_ ⟨8, .guard⟩ (by simp) _ 28 rfl rfl
      refine .inl ⟨by rw [wanted_of (j := 8) rfl (yielded_of (by rfl) rfl tg)]; rfl, ?_⟩
      clear tg
      have t0 := hA.at_ 0 (by first | rfl | kernel_rfl) rfl
      refine step_value (w' := x) (v := .pointer (some ⟨q.s, 0, none⟩)) ?_ (Grows.refl _) ?_
      · go_simp
      · rfl
    · intro a x hA
      have tg : a.tmps[28]?.getD undef = .bool false := hA.dep_ ⟨8, .guard⟩ (by simp) _ 28 rfl rfl
      refine .inl ⟨by rw [wanted_of (j := 8) rfl (yielded_of (by rfl) rfl tg)]; rfl, ?_⟩
      clear tg
      have t31 : a.tmps[31]?.getD undef = .pointer (some ⟨q.s, 0, none⟩) := hA.dep_ ⟨11, .data⟩ (by simp) _ 31 rfl rfl
      refine step_value (w' := x) (v := .pointer (some ⟨q.s, 0, none⟩)) ?_ (Grows.refl _) ?_
      · go_simp
      · rfl
    · intro a x hA
      have tg : a.tmps[28]?.getD undef = .bool false := hA.dep_ ⟨8, .guard⟩ (by simp) _ 28 rfl rfl
      refine .inl ⟨by rw [wanted_of (j := 8) rfl (yielded_of (by rfl) rfl tg)]; rfl, ?_⟩
      clear tg
      have t32 : a.tmps[32]?.getD undef = .pointer (some ⟨q.s, 0, none⟩) := hA.dep_ ⟨12, .data⟩ (by simp) _ 32 rfl rfl
      refine step_value (w' := x) (v := .pointer (some ⟨q.s, 4, none⟩)) ?_ (Grows.refl _) ?_
      · go_simp
      · rfl
    · intro a x hA
      have tg : a.tmps[28]?.getD undef = .bool false := hA.dep_ ⟨8, .guard⟩ (by simp) _ 28 rfl rfl
      refine .inl ⟨by rw [wanted_of (j := 8) rfl (yielded_of (by rfl) rfl tg)]; rfl, ?_⟩
      clear tg
      have t33 : a.tmps[33]?.getD undef = .pointer (some ⟨q.s, 4, none⟩) := hA.dep_ ⟨13, .data⟩ (by simp) _ 33 rfl rfl
      have hBx := HV.out.keep hA.grown
      have cs4 := (HC.out.keep hA.grown).cell (o := 4) rfl
      have cg0 : x.cell? ⟨g, 0, none⟩ = some (bv 165) := ext_cell HG.out (fp := nofp) (Ext.ofBelow hA.grown) (fun h => h)
      clear hBx
      refine step_value (w' := x) (v := .int .i64 (sn : Int)) ?_ (Grows.refl _) ?_
      · go_simp
      · rfl
    · intro a x hA
      have tg : a.tmps[28]?.getD undef = .bool false := hA.dep_ ⟨8, .guard⟩ (by simp) _ 28 rfl rfl
      refine .inl ⟨by rw [wanted_of (j := 8) rfl (yielded_of (by rfl) rfl tg)]; rfl, ?_⟩
      clear tg
      have t30 : a.tmps[30]?.getD undef = .int .i64 (sn : Int) := hA.dep_ ⟨10, .data⟩ (by simp) _ 30 rfl rfl
      have t34 : a.tmps[34]?.getD undef = .int .i64 (sn : Int) := hA.dep_ ⟨14, .data⟩ (by simp) _ 34 rfl rfl
      refine step_value (w' := x) (v := .bool false) ?_ (Grows.refl _) ?_
      · go_simp
      · rfl
    · intro a x hA
      refine .inl ⟨rfl, ?_⟩
      have t28 : a.tmps[28]?.getD undef = .bool false := hA.dep_ ⟨8, .data⟩ (by simp) _ 28 rfl rfl
      have t35 : a.tmps[35]?.getD undef = .bool false := hA.dep_ ⟨15, .data⟩ (by simp) _ 35 rfl rfl
      refine step_value (w' := x) (v := .bool false) ?_ (Grows.refl _) ?_
      · go_simp
      · rfl
    · intro a x hA
      refine .inl ⟨rfl, ?_⟩
      have t36 : a.tmps[36]?.getD undef = .bool false := hA.dep_ ⟨16, .data⟩ (by simp) _ 36 rfl rfl
      refine step_value (w' := x) (v := .bool false) ?_ (Grows.refl _) ?_
      · go_simp
      · rfl
    · intro a x hA
      have tg : a.tmps[37]?.getD undef = .bool false := hA.dep_ ⟨17, .guard⟩ (by simp) _ 37 rfl rfl
      refine .inl ⟨by rw [wanted_of (j := 17) rfl (yielded_of (by rfl) rfl tg)]; rfl, ?_⟩
      clear tg
      have t8 := hA.at_ 8 (by first | rfl | kernel_rfl) rfl
      refine step_value (w' := x) (v := .slice (some ⟨g, 0, none⟩) 256 256) ?_ (Grows.refl _) ?_
      · go_simp
      · rfl
    · intro a x hA
      have tg : a.tmps[37]?.getD undef = .bool false := hA.dep_ ⟨17, .guard⟩ (by simp) _ 37 rfl rfl
      refine .inl ⟨by rw [wanted_of (j := 17) rfl (yielded_of (by rfl) rfl tg)]; rfl, ?_⟩
      clear tg
      have t38 : a.tmps[38]?.getD undef = .slice (some ⟨g, 0, none⟩) 256 256 := hA.dep_ ⟨18, .data⟩ (by simp) _ 38 rfl rfl
      have hBx := HV.out.keep hA.grown
      have cs4 := (HC.out.keep hA.grown).cell (o := 4) rfl
      have cg0 : x.cell? ⟨g, 0, none⟩ = some (bv 165) := ext_cell HG.out (fp := nofp) (Ext.ofBelow hA.grown) (fun h => h)
      clear hBx
      have hBx := HV.out.keep hA.grown
      refine step_call (f := 35) (args := #[.slice (some ⟨g, 0, none⟩) 256 256, .int .i64 252, .int .i64 4]) (by clear hBx; go_simp) ((store_number _ _ 252 4 x hBx (by omega) (by omega) (by omega) (by have := HL.out; omega)).mono ?_)
      rintro e w' ⟨rfl, hb⟩
      exact ⟨_, rfl, pg_of hb, congrArg (fun k : Nat => Value.int .i64 (k : Int)) H2.out⟩
    · intro a x hA
      have tg : a.tmps[37]?.getD undef = .bool false := hA.dep_ ⟨17, .guard⟩ (by simp) _ 37 rfl rfl
      refine .inl ⟨by rw [wanted_of (j := 17) rfl (yielded_of (by rfl) rfl tg)]; rfl, ?_⟩
      clear tg
      have t8 := hA.at_ 8 (by first | rfl | kernel_rfl) rfl
      refine step_value (w' := x) (v := .slice (some ⟨g, 0, none⟩) 256 256) ?_ (Grows.refl _) ?_
      · go_simp
      · rfl
    · intro a x hA
      have tg : a.tmps[37]?.getD undef = .bool false := hA.dep_ ⟨17, .guard⟩ (by simp) _ 37 rfl rfl
      refine .inl ⟨by rw [wanted_of (j := 17) rfl (yielded_of (by rfl) rfl tg)]; rfl, ?_⟩
      clear tg
      have t40 : a.tmps[40]?.getD undef = .slice (some ⟨g, 0, none⟩) 256 256 := hA.dep_ ⟨20, .data⟩ (by simp) _ 40 rfl rfl
      refine step_value (w' := x) (v := .slice (some ⟨g, 0, none⟩) 252 256) ?_ (Grows.refl _) ?_
      · go_simp
      · rfl
    · intro a x hA
      have tg : a.tmps[37]?.getD undef = .bool false := hA.dep_ ⟨17, .guard⟩ (by simp) _ 37 rfl rfl
      refine .inl ⟨by rw [wanted_of (j := 17) rfl (yielded_of (by rfl) rfl tg)]; rfl, ?_⟩
      clear tg
      have t41 : a.tmps[41]?.getD undef = .slice (some ⟨g, 0, none⟩) 252 256 := hA.dep_ ⟨21, .data⟩ (by simp) _ 41 rfl rfl
      have hBx := HV.out.keep hA.grown
      have cs4 := (HC.out.keep hA.grown).cell (o := 4) rfl
      have cg0 : x.cell? ⟨g, 0, none⟩ = some (bv 165) := ext_cell HG.out (fp := nofp) (Ext.ofBelow hA.grown) (fun h => h)
      clear hBx
      have hBx := HT.out.keep hA.grown
      refine step_call (f := 51) (args := #[.slice (some ⟨g, 0, none⟩) 252 256]) (by clear hBx; go_simp) ((wire_Crc _ _ x hBx (by have := HL.out; simp; omega)).mono ?_)
      rintro e w' ⟨rfl, hb⟩
      exact ⟨_, rfl, pg_of hb, congrArg (fun k : Nat => Value.int .u32 (k : Int)) H3.out⟩
    · intro a x hA
      have tg : a.tmps[37]?.getD undef = .bool false := hA.dep_ ⟨17, .guard⟩ (by simp) _ 37 rfl rfl
      refine .inl ⟨by rw [wanted_of (j := 17) rfl (yielded_of (by rfl) rfl tg)]; rfl, ?_⟩
      clear tg
      have t42 : a.tmps[42]?.getD undef = .int .u32 (cr : Int) := hA.dep_ ⟨22, .data⟩ (by simp) _ 42 rfl rfl
      refine step_value (w' := x) (v := .int .i64 (cr : Int)) ?_ (Grows.refl _) ?_
      · go_simp
      · rfl
    · intro a x hA
      have tg : a.tmps[37]?.getD undef = .bool false := hA.dep_ ⟨17, .guard⟩ (by simp) _ 37 rfl rfl
      refine .inl ⟨by rw [wanted_of (j := 17) rfl (yielded_of (by rfl) rfl tg)]; rfl, ?_⟩
      clear tg
      have t39 : a.tmps[39]?.getD undef = .int .i64 (cr : Int) := hA.dep_ ⟨19, .data⟩ (by simp) _ 39 rfl rfl
      have t43 : a.tmps[43]?.getD undef = .int .i64 (cr : Int) := hA.dep_ ⟨23, .data⟩ (by simp) _ 43 rfl rfl
      refine step_value (w' := x) (v := .bool false) ?_ (Grows.refl _) ?_
      · go_simp
      · rfl
    · intro a x hA
      refine .inl ⟨rfl, ?_⟩
      have t37 : a.tmps[37]?.getD undef = .bool false := hA.dep_ ⟨17, .data⟩ (by simp) _ 37 rfl rfl
      have t44 : a.tmps[44]?.getD undef = .bool false := hA.dep_ ⟨24, .data⟩ (by simp) _ 44 rfl rfl
      refine step_value (w' := x) (v := .bool false) ?_ (Grows.refl _) ?_
      · go_simp
      · rfl
  case rfin =>
    intro y W' hg hV
    simp only [AllVals] at hV
    obtain ⟨_, _, _, _, _, _, _, _, _, _, _, _, _, _, _, _, _, _, _, _, _, _, _, _, _, u25, _⟩ := hV
    have hb := pg_to hg
    clear hg
    simp only [putAll, Act.put, List.setIfInBounds_toArray, List.set_cons_zero, List.set_cons_succ]
    rw [u25]
    clear u25
    
    have HB2 := hid hb
    have HBg := hid (hb.mono (Nat.le_refl _))
    clear hb
    go_wp2_with fail
    refine (store_number _ _ 7 2 W' (HV.out.keep HB2.out) (by omega) (by omega) (by omega) (by have := HL.out; omega)).mono ?_
    rintro e w3 ⟨rfl, hb3⟩
    rw [show numOf (List.take (Int.toNat 2) (List.drop (Int.toNat 7) t)) = k from HK.out]
    have HB3 := hid (HB2.out.trans (hb3.mono HB2.out.size))
    clear hb3
    go_wp2_with fail
    refine (store_number _ _ 9 2 w3 (HV.out.keep HB3.out) (by omega) (by omega) (by omega) (by have := HL.out; omega)).mono ?_
    rintro e w4 ⟨rfl, hb4⟩
    rw [show numOf (List.take (Int.toNat 2) (List.drop (Int.toNat 9) t)) = n from HN.out]
    have HB4 := hid (HB3.out.trans (hb4.mono HB3.out.size))
    have HBW := hid (HB.out.trans (HB4.out.mono HB.out.size))
    have c11 : w4.cell? ⟨g, 11, none⟩ = some (.int .u8 (z : Int)) := ext_cell HZ.out (fp := nofp) (Ext.ofBelow HB4.out) (fun h => h)
    clear hb4
    
    have hz1 : z ≤ 240 := hs.1
    have hd1 : decide ((z : Int) > 240) = false := decide_eq_false (by omega)
    have HSL : Hid (Bs w4 (.slice (some ⟨g, 12, none⟩) z 244) ((t.drop 12).take z)) := hid (by
      have h9 := (HV.out.keep HB4.out).slice (lo := 12) (hi := 12 + z) (by omega) (by omega)
      rw [show 12 + z - 12 = z by omega] at h9
      exact h9)
    have hsl2 := fun (w : World) => run_slice_b (P := Try.prog) Try.underlying40 szu8 (some ⟨g, 0, none⟩) 256 256 12 ((12 : Int) + (z : Int)) (by omega) (by omega) (by omega) w
    rw [show sla (some (⟨g, 0, none⟩ : Addr)) 256 (Int.toNat 12) = some ⟨g, 12, none⟩ from rfl, show ((12 : Int) + (z : Int)).toNat - Int.toNat 12 = z by omega, show 256 - Int.toNat 12 = 244 from rfl] at hsl2
    have hw12 : IntKind.i64.wrap ((12 : Int) + (z : Int)) = (12 : Int) + (z : Int) := by rw [IntKind.wrap_i64]; omega
    by_cases hkn : k + 1 < n
    · obtain rfl : z = 240 := by have := hs.2; omega
      have hd2 : decide ((k : Int) < (n : Int) - 1) = true := decide_eq_true (by omega)
      clear hs hkn
      go_wp2_with fail
      go_quiet (fail)
      go_wp2_with fail
      refine bodyPost_ret (v := .tuple #[.int .i64 (k : Int), .int .i64 (n : Int), .slice (some ⟨g, 12, none⟩) 240 244, .bool true]) (by simp [results, Try.results33, go_sem]) rfl ?_
      exact ⟨g, rfl, HGG.out, HSL.out.keep (below_drewN (B := w4.heap.size) (Below.refl _ w4) _), below_drewN (B := W.heap.size) HBW.out _⟩
    · have hd2 : decide ((k : Int) < (n : Int) - 1) = false := decide_eq_false (by omega)
      clear hs hkn
      go_wp2_with fail
      go_quiet (fail)
      go_wp2_with fail
      refine bodyPost_ret (v := .tuple #[.int .i64 (k : Int), .int .i64 (n : Int), .slice (some ⟨g, 12, none⟩) z 244, .bool true]) (by simp [results, Try.results33, go_sem]) rfl ?_
      exact ⟨g, rfl, HGG.out, HSL.out.keep (below_drewN (B := w4.heap.size) (Below.refl _ w4) _), below_drewN (B := W.heap.size) HBW.out _⟩

end
end Go.Proofs.Ytpkaepmmkojdaaa
