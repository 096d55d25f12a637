import Derived.Test.YtbahjinlcbjikaaGreatNil7A
/-! gazettelaw07.LogletNil. -/
namespace Go.Proofs.YtbahjinlcbjikaaGreat
open Go.RowKit

theorem run_append0 {P : Program} {T E : TypeId} {i : TypeInfo} (ht : P.underlying T = some (.slice E)) (hi : P.info? E = some i) (hz : i.zero = some (.int .i64 0)) (hsz : i.size = 1) (hby : i.bytes = 8) (ty : TypeId)
    {w : World} {g : Nat} {x : Value} {m : List Int} (hx : Is w x m) (hlen : m.length * 8 ≤ 140737488355328) :
    ∃ v' w', (Builtin.append_ #[T, T] ty #[.slice (some ⟨g, 0, none⟩) 0 0, x]).run P w = .ok v' w' ∧ (∃ a n c, v' = .slice a n c) ∧ Below w.heap.size w w' := by
  obtain ⟨a, c, rfl, hr⟩ := hx
  by_cases hm : m = []
  · subst hm
    refine ⟨.slice (some ⟨g, 0, none⟩) 0 0, w, ?_, ⟨_, _, _, rfl⟩, Below.refl _ _⟩
    cases a with
    | none => simp [Builtin.append_, run_underlying ht, sizeOf, typeInfo, hi, Builtin.lenOf, Builtin.firstCells, storeCells]
    | some ad => simp [Builtin.append_, run_underlying ht, sizeOf, typeInfo, hi, hsz, Builtin.lenOf, Builtin.firstCells, storeCells, loadCells, loadCellsFrom]
  · obtain ⟨z, m', rfl⟩ := List.exists_cons_of_ne_nil hm
    obtain ⟨g0, o0, e0, _⟩ := hr 0 z rfl
    subst e0
    have hcells : ∀ (j : Nat) (u : Value), ((z :: m').map iv)[j]? = some u → w.cell? ((⟨g0, o0, none⟩ : Addr).add j) = some u := fun j u hu => by
      simp only [List.getElem?_map, Option.map_eq_some_iff] at hu
      obtain ⟨b, hb, rfl⟩ := hu
      obtain ⟨g1, o1, e1, hc⟩ := hr j b hb
      cases e1
      unfold Addr.add
      split
      · rename_i hz
        subst hz
        simpa using hc
      · exact hc
    obtain ⟨v', w', h1, h2, h3⟩ := run_append_arg_grows (P := P) w T ty E i _ 1 8 ht hi hz hsz hby rfl (by decide) ⟨g, 0, none⟩ 0 0 [] rfl (fun j u hu => by simp at hu) ⟨g0, o0, none⟩ (z :: m').length c ((z :: m').map iv) (by simp) hcells (by simp) (by unfold maxLen; omega) (by omega)
    refine ⟨v', w', h1, ?_, ⟨h3.os, h3.tape, h3.output, h3.size, fun k hk => h3.block k hk (by simp)⟩⟩
    rcases h2.2 with ⟨e, _⟩ | ⟨g9, cap, _, e, _⟩
    · exact ⟨_, _, _, e⟩
    · exact ⟨_, _, _, e⟩
def SN : LkS := ⟨[], [none, none, none]⟩
theorem sn_prompt : SN.prompt := fun x hx => by cases hx
theorem sn2_prompt : (sealL SN ⟨1, [0, 1, 2]⟩).2.2.prompt := sealL_prompt sn_prompt _
theorem sn_may : mayB SN ⟨1, [0, 1, 2]⟩ 0 0 = true := by kernel_rfl
theorem sn2_may : mayB (sealL SN ⟨1, [0, 1, 2]⟩).2.2 ⟨1, [0, 1, 2]⟩ 0 4095 = true := by kernel_rfl
theorem sn_seal : (sealL SN ⟨1, [0, 1, 2]⟩).1 = 0 ∧ (sealL SN ⟨1, [0, 1, 2]⟩).2.1 = 33 := ⟨by kernel_rfl, by kernel_rfl⟩
theorem sn2_append : (appendL (sealL SN ⟨1, [0, 1, 2]⟩).2.2 ⟨1, [0, 1, 2]⟩ 0 []).1 = 33 := by kernel_rfl
set_option maxRecDepth 100000 in
set_option maxHeartbeats 12800000 in
theorem law7_nil (id pos : Int) (v : Value) (l : List Int) (da : Option Addr) (dn dc : Nat) (W : World) (hv : Is W v l) (hl : l.length ≤ 1048576) :
    Calls Tryz.prog 5 #[.agg #[.int .i64 id, v], .int .i64 pos, .slice da dn dc] W fun e w' => e = .returned (.bool true) ∧ Below W.heap.size W w' := by
  obtain ⟨i9, hi, hz0⟩ := Option.map_eq_some_iff.1 info_int
  have HI := hid (show Tryz.prog.info? 3 = some i9 ∧ i9.zero = some (.int .i64 0) ∧ i9.size = 1 ∧ i9.bytes = 8 from ⟨hi, congrArg (fun p : Option Value × Nat × Nat => p.1) hz0, congrArg (fun p : Option Value × Nat × Nat => p.2.1) hz0, congrArg (fun p : Option Value × Nat × Nat => p.2.2) hz0⟩)
  obtain ⟨va, vc, hav⟩ : ∃ a c, v = .slice a l.length c := by obtain ⟨a, c, e, _⟩ := hv; exact ⟨a, c, e⟩
  subst hav
  have HV := hid hv
  obtain ⟨W1, hW1⟩ : ∃ W1, W.alloc (.cells #[.int .i64 id, .slice va l.length vc] 25) = W1 := ⟨_, rfl⟩
  have HB := hid (show Blk W1 W.heap.size #[.int .i64 id, .slice va l.length vc] 25 ∧ Below W.heap.size W W1 by rw [← hW1]; exact ⟨Blk.new _ _ _, (Below.refl _ _).alloc (Nat.le_refl _) _⟩)
  clear hi hz0 hv
  go_enter Tryz.func5, Tryz.ntmps5
  go_wp2_with fail
  clear hW1
  refine wp_region_tail 8 rfl Grows (fun i v x => match i with
      | 0 => v = .pointer (some ⟨W.heap.size, 0, none⟩)
      | 1 => v = .int .i64 id
      | 2 => ∃ g, v = .slice (some ⟨g, 0, none⟩) 0 0
      | 3 => v = .pointer (some ⟨W.heap.size, 1, none⟩)
      | 4 => v = .slice va l.length vc
      | 5 => ∃ aa nn cc, v = .slice aa nn cc
      | 6 => ∃ aa nn cc, v = .agg #[.int .i64 id, .slice aa nn cc]
      | 7 => ∃ T, v = .pointer (some ⟨T, 0, none⟩) ∧ Blk x T #[.int .i64 0, .slice none 0 0] 24 ∧ W.heap.size ≤ T
      | _ => True) (by kernel_rfl) (Grows.refl _) Grows.trans ?rstab ?rsteps ?rfin
  case rstab =>
    intro i v x y hg h
    match i with
    | 0 | 1 | 3 | 4 => exact h
    | 2 => exact h
    | 5 => exact h
    | 6 => exact h
    | 7 => exact (by obtain ⟨T, e, h1, h2⟩ := h; exact ⟨T, e, h1.keep ⟨hg.os, hg.tape, hg.output, hg.size, hg.block⟩, h2⟩)
    | n + 8 => trivial
  case rsteps =>
    simp only [List.take_succ_cons, List.take_zero]
    refine ⟨?_, ?_, ?_, ?_, ?_, ?_, ?_, ?_, trivial⟩
    · intro a x hA
      have t3 := hA.at_ 3 (by first | rfl | kernel_rfl) rfl
      refine step_value (w' := x) (v := .pointer (some ⟨W.heap.size, 0, none⟩)) ?_ (Grows.refl _) ?_
      · go_simp
      · rfl
    · intro a x hA
      have t18 : a.tmps[18]?.getD undef = .pointer (some ⟨W.heap.size, 0, none⟩) := hA.dep_ ⟨0, .data⟩ (by simp) _ 18 rfl rfl
      have hBx := HB.out.1.keep hA.grown
      have hc0 := hBx.cell (o := 0) rfl
      have hc1 := hBx.cell (o := 1) rfl
      clear hBx
      refine step_value (w' := x) (v := .int .i64 id) ?_ (Grows.refl _) ?_
      · go_simp
      · rfl
    · intro a x hA
      refine step_value (w' := x.alloc (.cells #[] 3)) (v := .slice (some ⟨x.heap.size, 0, none⟩) 0 0) ?_ (Grows.alloc x _) ?_
      · clear hA
        go_simp
      · exact ⟨_, rfl⟩
    · intro a x hA
      have t3 := hA.at_ 3 (by first | rfl | kernel_rfl) rfl
      refine step_value (w' := x) (v := .pointer (some ⟨W.heap.size, 1, none⟩)) ?_ (Grows.refl _) ?_
      · go_simp
      · rfl
    · intro a x hA
      have t21 : a.tmps[21]?.getD undef = .pointer (some ⟨W.heap.size, 1, none⟩) := hA.dep_ ⟨3, .data⟩ (by simp) _ 21 rfl rfl
      have hBx := HB.out.1.keep hA.grown
      have hc0 := hBx.cell (o := 0) rfl
      have hc1 := hBx.cell (o := 1) rfl
      clear hBx
      refine step_value (w' := x) (v := .slice va l.length vc) ?_ (Grows.refl _) ?_
      · go_simp
      · rfl
    · intro a x hA
      have t20 : ∃ g, (a.tmps[20]?.getD undef) = .slice (some ⟨g, 0, none⟩) 0 0 := hA.dep_ ⟨2, .data⟩ (by simp) _ 20 rfl rfl
      have t22 : a.tmps[22]?.getD undef = .slice va l.length vc := hA.dep_ ⟨4, .data⟩ (by simp) _ 22 rfl rfl
      obtain ⟨g, eg⟩ := t20
      obtain ⟨v', w', hr, ⟨a9, n9, c9, rfl⟩, hb⟩ := run_append0 (P := Tryz.prog) Tryz.underlying22 HI.out.1 HI.out.2.1 HI.out.2.2.1 HI.out.2.2.2 22 (g := g) (HV.out.keep (HB.out.2.trans (hA.grown.mono HB.out.2.size))) (by omega)
      refine step_value (w' := w') (v := .slice a9 n9 c9) ?_ (grows_of_below hb) ⟨_, _, _, rfl⟩
      clear hA
      unfold execOp
      simp only [resolve, invoke, builtin, Sem.run_bind, Sem.run_pure, Result.andThen_ok, List.map_toArray, List.map_cons, List.map_nil]
      rw [show a.eval (Operand.tmp 20) = .slice (some ⟨g, 0, none⟩) 0 0 from by simp [Act.eval, eg], show a.eval (Operand.tmp 22) = .slice va l.length vc from by simp [Act.eval, t22], hr]
      rfl
    · intro a x hA
      have t19 : a.tmps[19]?.getD undef = .int .i64 id := hA.dep_ ⟨1, .data⟩ (by simp) _ 19 rfl rfl
      have t23 : ∃ aa nn cc, (a.tmps[23]?.getD undef) = .slice aa nn cc := hA.dep_ ⟨5, .data⟩ (by simp) _ 23 rfl rfl
      obtain ⟨a9, n9, c9, e9⟩ := t23
      refine step_value (w' := x) (v := .agg #[.int .i64 id, .slice a9 n9 c9]) ?_ (Grows.refl _) ⟨_, _, _, rfl⟩
      clear hA
      go_simp
    · intro a x hA
      have hsz := (HB.out.2.trans (hA.grown.mono HB.out.2.size)).size
      refine step_value (w' := x.alloc (.cells #[.int .i64 0, .slice none 0 0] 24)) (v := .pointer (some ⟨x.heap.size, 0, none⟩)) ?_ (Grows.alloc x _) ?_
      · clear hA hsz
        go_simp
      · exact ⟨_, rfl, Blk.new _ _ _, hsz⟩
  case rfin =>
    intro y W' hg hV
    simp only [List.take_succ_cons, List.take_zero, AllVals] at hV
    obtain ⟨-, -, -, -, -, -, ⟨a9, n9, c9, e9⟩, ⟨T, eT, kT, hT⟩, -⟩ := hV
    have hb1 := grows_below hg
    clear hg
    simp only [List.take_succ_cons, List.take_zero, List.drop_succ_cons, List.drop_zero, putAll, Act.put, List.setIfInBounds_toArray, List.set_cons_zero, List.set_cons_succ]
    rw [e9, eT]
    clear e9 eT
    have d0 := kT.cell (o := 0) rfl
    have d1 := kT.cell (o := 1) rfl
    have g0 := kT.free 0
    have g1 := kT.free 1
    have k3 := (kT.set (o := 0) (.int .i64 id)).set (o := 1) (.slice a9 n9 c9)
    simp only [List.setIfInBounds_toArray, List.set_cons_zero, List.set_cons_succ] at k3
    have b3 : Below W.heap.size W ((W'.setCell ⟨T, 0, none⟩ (.int .i64 id)).setCell ⟨T, 1, none⟩ (.slice a9 n9 c9)) := ((HB.out.2.trans (hb1.mono HB.out.2.size)).setCell (p := ⟨T, 0, none⟩) hT _).setCell (p := ⟨T, 1, none⟩) hT _
    have H3 := hid (And.intro k3 b3)
    clear k3 b3 kT hb1
    go_wp2_with fail
    clear d0 d1 g0 g1
    generalize ((W'.setCell ⟨T, 0, none⟩ (.int .i64 id)).setCell ⟨T, 1, none⟩ (.slice a9 n9 c9)) = W3 at *
    go_loopw [8, 9] (fun lk i wr => ∃ k : Nat, k ≤ 3 ∧ i = .int .i64 (k : Int) ∧ NoLk wr lk ∧ Below W.heap.size W wr ∧ Blk wr T #[.int .i64 id, .slice a9 n9 c9] 24) (fun _ i _ => 3 - (intOf i).toNat)
    case atStart => exact ⟨0, by omega, rfl, .inl rfl, H3.out.2, H3.out.1⟩
    case round =>
      obtain ⟨k, hk, rfl, hn, hb, hT3⟩ := hrel
      by_cases hlt : k < 3
      · have hd1 : decide ((k : Int) < 3) = true := decide_eq_true (by omega)
        have HA := hid (nolk_Ask hn)
        obtain ⟨pa, hpa⟩ := hn.ptr
        subst hpa
        have HN := hid (And.intro hn (And.intro hb hT3))
        clear hn hb hT3
        go_wp2_with fail
        refine HA.out.mono ?_
        rintro e w1 ⟨rfl, b1⟩
        have b2 : Below w1.heap.size w1 (w1.alloc (.cells #[.int .i64 0, .int .i64 0, .bool false, .slice none 0 0] 51)) := (Below.refl _ _).alloc (Nat.le_refl _) _
        have b12 := b1.trans (b2.mono b1.size)
        obtain ⟨hn, hb, hT3⟩ := HN.out
        have hn2 := hn.keep b12
        have hT2 := hT3.keep b12
        have hb2 := hb.trans (b12.mono hb.size)
        have c0 := hT2.cell (o := 0) rfl
        have c1 := hT2.cell (o := 1) rfl
        have HS := hid (nolk_Seal hn2 id a9 n9 c9)
        have HN2 := hid (And.intro hn2 (And.intro hb2 hT2))
        clear hn hb hT3 hn2 hT2 hb2 b1 b2 b12 HA HN
        go_wp2_with fail
        refine HS.out.mono ?_
        rintro e w3 ⟨rfl, b3⟩
        clear HS c0 c1
        obtain ⟨hn, hb, hT3⟩ := HN2.out
        have hn2 := hn.keep b3
        have hT2 := hT3.keep b3
        have hb2 := hb.trans (b3.mono hb.size)
        have c0 := hT2.cell (o := 0) rfl
        have c1 := hT2.cell (o := 1) rfl
        have HC := hid (nolk_Read hn2 id a9 n9 c9 pos)
        have HN3 := hid (And.intro hn2 (And.intro hb2 hT2))
        clear hn hb hT3 hn2 hT2 hb2 b3 HN2
        go_wp2_with fail
        refine HC.out.mono ?_
        rintro e w4 ⟨rfl, b3⟩
        clear HC c0 c1
        obtain ⟨hn, hb, hT3⟩ := HN3.out
        have hn2 := hn.keep b3
        have hT2 := hT3.keep b3
        have hb2 := hb.trans (b3.mono hb.size)
        have c0 := hT2.cell (o := 0) rfl
        have c1 := hT2.cell (o := 1) rfl
        have HC := hid (nolk_Append hn2 id a9 n9 c9 pos da dn dc)
        have HN3 := hid (And.intro hn2 (And.intro hb2 hT2))
        clear hn hb hT3 hn2 hT2 hb2 b3 
        have HD := hid (nolk_Deliver HN3.out.1 0)
        go_wp2_with fail
        refine HD.out.mono ?_
        rintro e wd ⟨rfl, hwd⟩
        rw [hwd]
        clear hwd wd HD
        go_wp2_with fail
        refine (law7_num 1 _).mono ?_
        rintro e wd ⟨rfl, hwd⟩
        rw [hwd]
        clear hwd wd
        go_wp2_with fail
        refine (law7_num 1 _).mono ?_
        rintro e wd ⟨rfl, hwd⟩
        rw [hwd]
        clear hwd wd
        go_wp2_with fail
        refine HC.out.mono ?_
        rintro e w5 ⟨rfl, b3⟩
        clear HC c0 c1
        obtain ⟨hn, hb, hT3⟩ := HN3.out
        have hn2 := hn.keep b3
        have hT2 := hT3.keep b3
        have hb2 := hb.trans (b3.mono hb.size)
        have c0 := hT2.cell (o := 0) rfl
        have c1 := hT2.cell (o := 1) rfl
        have HC := hid (nolk_Repair hn2 id a9 n9 c9 0 0)
        have HN3 := hid (And.intro hn2 (And.intro hb2 hT2))
        clear hn hb hT3 hn2 hT2 hb2 b3 
        go_wp2_with fail
        refine (law7_num 1 _).mono ?_
        rintro e wd ⟨rfl, hwd⟩
        rw [hwd]
        clear hwd wd
        go_wp2_with fail
        refine HC.out.mono ?_
        rintro e w6 ⟨rfl, b3⟩
        clear HC c0 c1
        obtain ⟨hn, hb, hT3⟩ := HN3.out
        have hn2 := hn.keep b3
        have hT2 := hT3.keep b3
        have hb2 := hb.trans (b3.mono hb.size)
        have c0 := hT2.cell (o := 0) rfl
        have c1 := hT2.cell (o := 1) rfl
        have HC := hid (nolk_Trim hn2 id a9 n9 c9 pos)
        have HN3 := hid (And.intro hn2 (And.intro hb2 hT2))
        clear hn hb hT3 hn2 hT2 hb2 b3 
        go_wp2_with fail
        refine (law7_num 1 _).mono ?_
        rintro e wd ⟨rfl, hwd⟩
        rw [hwd]
        clear hwd wd
        go_wp2_with fail
        refine HC.out.mono ?_
        rintro e w7 ⟨rfl, b3⟩
        clear HC c0 c1
        obtain ⟨hn, hb, hT3⟩ := HN3.out
        have hn2 := hn.keep b3
        have hT2 := hT3.keep b3
        have hb2 := hb.trans (b3.mono hb.size)
        have c0 := hT2.cell (o := 0) rfl
        have c1 := hT2.cell (o := 1) rfl
        have HN3 := hid (And.intro hn2 (And.intro hb2 hT2))
        clear hn hb hT3 hn2 hT2 hb2 b3 
        go_wp2_with fail
        refine (law7_num 1 _).mono ?_
        rintro e wd ⟨rfl, hwd⟩
        rw [hwd]
        clear hwd wd
        obtain ⟨_, hb, hT3⟩ := HN3.out
        obtain ⟨w8, hw8⟩ : ∃ w8, w7.alloc (.cells #[.pointer none, .slice none 0 0] 41) = w8 := ⟨_, rfl⟩
        have b8 : Below w7.heap.size w7 w8 := by rw [← hw8]; exact (Below.refl _ _).alloc (Nat.le_refl _) _
        have k8 : Blk w8 w7.heap.size #[.pointer none, .slice none 0 0] 41 := by rw [← hw8]; exact Blk.new _ _ _
        by_cases h1 : k = 1
        · have hq : ((k : Int) == 1) = true := beq_iff_eq.2 (by omega)
          obtain ⟨w9, hw9⟩ : ∃ w9, w8.alloc (.cells #[.slice none 0 0, .slice none 0 0, .bool false] 64) = w9 := ⟨_, rfl⟩
          have b9 : Below w8.heap.size w8 w9 := by rw [← hw9]; exact (Below.refl _ _).alloc (Nat.le_refl _) _
          have k9 : Blk w9 w8.heap.size #[.slice none 0 0, .slice none 0 0, .bool false] 64 := by rw [← hw9]; exact Blk.new _ _ _
          have k89 := k8.keep b9
          have m0 := k89.cell (o := 0) rfl
          have m0f := k89.free 0
          have kk := k89.set (o := 0) (.pointer (some ⟨w8.heap.size, 0, none⟩))
          simp only [List.setIfInBounds_toArray, List.set_cons_zero, List.set_cons_succ] at kk
          have hlt8 := k8.lt
          have kn := k9.setOther (a := ⟨w7.heap.size, 0, none⟩) (by show w8.heap.size ≠ w7.heap.size; omega) (.pointer (some ⟨w8.heap.size, 0, none⟩))
          have hTl := hT3.lt
          have kT9 := ((hT3.keep b8).keep b9).setOther (a := ⟨w7.heap.size, 0, none⟩) (by show T ≠ w7.heap.size; omega) (.pointer (some ⟨w8.heap.size, 0, none⟩))
          have bb := ((hb.trans (b8.mono hb.size)).trans (b9.mono (Nat.le_trans hb.size b8.size))).setCell (p := ⟨w7.heap.size, 0, none⟩) hb.size (.pointer (some ⟨w8.heap.size, 0, none⟩))
          have HF := hid (And.intro (show NoLk (w9.setCell ⟨w7.heap.size, 0, none⟩ (.pointer (some ⟨w8.heap.size, 0, none⟩))) (.pointer (some ⟨w7.heap.size, 0, none⟩)) from .inr ⟨_, _, rfl, kk, .inr ⟨_, _, _, rfl, kn⟩⟩) (And.intro bb kT9))
          clear hb hT3 b8 k8 b9 k9 k89 kk hlt8 kn hTl kT9 bb h1 HN3
          go_wp2_with fail
          go_roundw
          case rel => exact ⟨k + 1, by omega, by go_num, HF.out⟩
          case measure => simp [intOf]; omega
        · have hq : ((k : Int) == 1) = false := beq_eq_false_iff_ne.2 (by omega)
          have HF := hid (And.intro (show NoLk w8 (.pointer (some ⟨w7.heap.size, 0, none⟩)) from .inr ⟨_, _, rfl, k8, .inl rfl⟩) (And.intro (hb.trans (b8.mono hb.size)) (hT3.keep b8)))
          clear hb hT3 b8 k8 h1 HN3
          go_wp2_with fail
          go_roundw
          case rel => exact ⟨k + 1, by omega, by go_num, HF.out⟩
          case measure => simp [intOf]; omega
      · have hd1 : decide ((k : Int) < 3) = false := decide_eq_false (by omega)
        have HN := hid hb
        clear hn hb hT3
        go_wp2_with fail
        refine (net_New (W := wr)).mono ?_
        rintro e w1 ⟨rfl, kN, b1⟩
        obtain ⟨w2, hw2⟩ : ∃ w2, w1.alloc (.cells #[.pointer none, .pointer none, .pointer none] 42) = w2 := ⟨_, rfl⟩
        have s2 : w2.heap.size = w1.heap.size + 1 := by rw [← hw2]; simp
        have b2 : Below w1.heap.size w1 w2 := by rw [← hw2]; exact (Below.refl _ _).alloc (Nat.le_refl _) _
        have ka : Blk w2 w1.heap.size #[.pointer none, .pointer none, .pointer none] 42 := by rw [← hw2]; exact Blk.new _ _ _
        obtain ⟨w3, hw3⟩ : ∃ w3, w2.alloc (.cells #[.pointer (some ⟨wr.heap.size, 0, none⟩), .slice (some ⟨w1.heap.size, 0, none⟩) 3 3] 41) = w3 := ⟨_, rfl⟩
        have b3 : Below w2.heap.size w2 w3 := by rw [← hw3]; exact (Below.refl _ _).alloc (Nat.le_refl _) _
        have kl : Blk w3 w2.heap.size #[.pointer (some ⟨wr.heap.size, 0, none⟩), .slice (some ⟨w1.heap.size, 0, none⟩) 3 3] 41 := by rw [← hw3]; exact Blk.new _ _ _
        have b23 := b2.trans (b3.mono b2.size)
        have bw3 := HN.out.trans ((b1.trans (b23.mono b1.size)).mono HN.out.size)
        have hNl := kN.lt
        have R0 : RL W w3 w2.heap.size SN := ⟨⟨wr.heap.size, .slice none 0 0, .slice none 0 0, w1.heap.size, 3, [.pointer none, .pointer none, .pointer none], fun _ _ => False⟩,
          ⟨kl, kN.keep b23, World.ownsRow_nil _ _ _ 1, ⟨_, ka.keep b3, fun i u hu => by
            match i, hu with
            | 0, hu => exact hu
            | 1, hu => exact hu
            | 2, hu => exact hu⟩, rfl, by decide, fun i d hd => by
            match i, hd with
            | 0, hd => cases hd; exact ⟨_, rfl, .inl rfl⟩
            | 1, hd => cases hd; exact ⟨_, rfl, .inl rfl⟩
            | 2, hd => cases hd; exact ⟨_, rfl, .inl rfl⟩, fun _ _ _ h => h.elim, ⟨(by show w2.heap.size ≠ wr.heap.size; omega), (by show w2.heap.size ≠ w1.heap.size; omega), (by show wr.heap.size ≠ w1.heap.size; omega)⟩, (fun g hg => by cases hg), fun _ _ h => h.elim, fun _ _ h => h.elim⟩, bw3, fun b hb => by
            have hs := HN.out.size
            rcases hb with e | e | e | e | ⟨_, e⟩
            · omega
            · have e2 : b = wr.heap.size := e
              omega
            · have e2 : b = w1.heap.size := e
              omega
            · cases e
            · exact e.elim⟩
        have HR := hid R0
        clear kN b1 s2 b2 ka b3 kl b23 bw3 hNl R0 hd1 hlt
        go_wp2_with fail
        refine (law7_three _).mono ?_
        rintro e w4 ⟨nv4, rfl, hn4, hnv4, bt4⟩
        have HC := hid (rl_seal HR.out sn_prompt bt4 1 nv4 [0, 1, 2] hn4 hnv4 (by decide) sn_may)
        clear hn4 hnv4 bt4 HR
        go_wp2_with fail
        refine HC.out.mono ?_
        rw [sn_seal.1, sn_seal.2]
        rintro e w5 ⟨rfl, R5⟩
        have HR := hid R5
        clear R5 HC hw2 hw3
        go_wp2_with fail
        refine (law7_num 33 _).mono ?_
        rintro e wd ⟨rfl, hwd⟩
        rw [hwd]
        clear hwd wd
        go_wp2_with fail
        refine (law7_three _).mono ?_
        rintro e w6 ⟨nv6, rfl, hn6, hnv6, bt6⟩
        have HC := hid (rl_append HR.out sn2_prompt bt6 1 nv6 [0, 1, 2] hn6 hnv6 (by decide) 0 (.slice none 0 0) [] sn2_may (by decide) (Bs.nil _) (fun g hg => by cases hg))
        clear hn6 hnv6 bt6 HR
        go_wp2_with fail
        refine HC.out.mono ?_
        rw [sn2_append]
        rintro e w7 ⟨rfl, R7⟩
        have HB7 := hid R7.below
        clear R7 HC
        go_wp2_with fail
        refine (law7_num 33 _).mono ?_
        rintro e wd ⟨rfl, hwd⟩
        rw [hwd]
        clear hwd wd
        go_wp2_with fail
        refine (law7_knows (W := w7)).mono ?_
        rintro e w8 ⟨rfl, b8⟩
        have HB8 := hid (HB7.out.trans (b8.mono HB7.out.size))
        clear b8 HB7
        go_wp2_with fail
        go_ret
        exact ⟨rfl, HB8.out⟩
end Go.Proofs.YtbahjinlcbjikaaGreat
