import Derived.Test.YtnbeagcmfcdklaaGreatMAccY
import Derived.Test.YtnbeagcmfcdklaaGreatGen
import Derived.Test.YtnbeagcmfcdklaaGreatMBsw
import Derived.Test.YtnbeagcmfcdklaaGreatWrite
import Derived.Test.YtnbeagcmfcdklaaGreatStage
/-! gazettelaw08: num, Own, asked. -/
namespace Go.Proofs.YtnbeagcmfcdklaaGreat
open Go.RowKit

theorem law8_num (e : Int) (w : World) : Calls Tryz.prog 19 #[.int .i64 e] w fun r w' => r = .returned (.int .i64 e) ∧ w' = w := by
  go_enter Tryz.func19, Tryz.ntmps19
  go_wp2_with fail
  go_ret
  exact ⟨rfl, rfl⟩

set_option maxRecDepth 100000 in
set_option maxHeartbeats 1600000 in
theorem law8_Own (k key ver bal : Int) (v : Value) (m : List UInt8) (W : World) (hv : BsW W v m) (hm : m.length ≤ 140737488355328) :
    Calls Tryz.prog 10 #[.agg #[.int .i64 k, .int .i64 key, .int .i64 ver, .int .i64 bal, v]] W fun e w' => ∃ v', e = .returned (.agg #[.int .i64 k, .int .i64 key, .int .i64 ver, .int .i64 bal, v']) ∧ Own8 w' W.heap.size 5 v' m ∧ Below W.heap.size W w' := by
  obtain ⟨av, cv, rfl⟩ := hv.form
  obtain ⟨W1, hW1⟩ : ∃ W1, W.alloc (.cells #[.int .i64 k, .int .i64 key, .int .i64 ver, .int .i64 bal, .slice av m.length cv] 24) = W1 := ⟨_, rfl⟩
  have b1 : Below W.heap.size W W1 := by rw [← hW1]; exact (Below.refl _ W).alloc (Nat.le_refl _) _
  have k1 : Blk W1 W.heap.size #[.int .i64 k, .int .i64 key, .int .i64 ver, .int .i64 bal, .slice av m.length cv] 24 := by rw [← hW1]; exact Blk.new W _ _
  have hs1 : W1.heap.size = W.heap.size + 1 := by rw [← hW1]; simp
  have b2 : Below W1.heap.size W1 (W1.alloc (.cells #[.int .i64 0, .int .i64 0, .int .i64 0, .int .i64 0, .slice none 0 0] 30)) := (Below.refl _ W1).alloc (Nat.le_refl _) _
  have k2 := Blk.new' W1 (W.heap.size + 1) hs1.symm #[.int .i64 0, .int .i64 0, .int .i64 0, .int .i64 0, .slice none 0 0] 30
  have hv2 := hv.keep (b1.trans (b2.mono b1.size))
  have k12 := k1.keep b2
  have b12 := b1.trans (b2.mono b1.size)
  go_enter Tryz.func10, Tryz.ntmps10
  go_wp2_with fail
  have hs2 : (W1.alloc (.cells #[.int .i64 0, .int .i64 0, .int .i64 0, .int .i64 0, .slice none 0 0] 30)).heap.size = W.heap.size + 2 := by simp [hs1]
  generalize W1.alloc (.cells #[.int .i64 0, .int .i64 0, .int .i64 0, .int .i64 0, .slice none 0 0] 30) = W2 at *
  have bd : Below W2.heap.size W2 W2.drew := (Below.refl _ W2).drew
  have K1 := hid k12
  have K2 := hid k2
  have HV := hid hv2
  have HB := hid (And.intro b12 hs2)
  clear hW1 b1 k1 hs1 b2 k2 hv2 k12 b12 hv bd
  refine wp_region_tail 13 rfl Grows (fun i v x => match i with
      | 0 => v = .pointer (some ⟨W.heap.size, 0, none⟩)
      | 1 => v = .int .i64 k
      | 2 => v = .pointer (some ⟨W.heap.size, 1, none⟩)
      | 3 => v = .int .i64 key
      | 4 => v = .pointer (some ⟨W.heap.size, 2, none⟩)
      | 5 => v = .int .i64 ver
      | 6 => v = .pointer (some ⟨W.heap.size, 3, none⟩)
      | 7 => v = .int .i64 bal
      | 8 => ∃ g, v = .slice (some ⟨g, 0, none⟩) 0 0 ∧ Own8 x W.heap.size 5 (.slice (some ⟨g, 0, none⟩) 0 0) []
      | 9 => v = .pointer (some ⟨W.heap.size, 4, none⟩)
      | 10 => v = .slice av m.length cv
      | 11 => Own8 x W.heap.size 5 v m
      | 12 => ∃ v9, v = .agg #[.int .i64 k, .int .i64 key, .int .i64 ver, .int .i64 bal, v9] ∧ Own8 x W.heap.size 5 v9 m
      | _ => True) (by kernel_rfl) (Grows.refl _) Grows.trans ?rstab ?rsteps ?rfin
  case rstab =>
    intro i v x y hg h
    match i with
    | 0 | 1 | 2 | 3 | 4 | 5 | 6 | 7 | 9 | 10 => exact h
    | 8 => exact (by obtain ⟨g9, e9, h9⟩ := h; exact ⟨g9, e9, h9.keep hg⟩)
    | 11 => exact Own8.keep h hg
    | 12 => exact (by obtain ⟨v9, e9, h9⟩ := h; exact ⟨v9, e9, h9.keep hg⟩)
    | n + 13 => trivial
  case rsteps =>
    simp only [List.take_succ_cons, List.take_zero]
    refine ⟨?_, ?_, ?_, ?_, ?_, ?_, ?_, ?_, ?_, ?_, ?_, ?_, ?_, trivial⟩
    · intro a x hA
      have t1 := hA.at_ 1 (by first | rfl | kernel_rfl) rfl
      refine step_value (w' := x) (v := .pointer (some ⟨W.heap.size, 0, none⟩)) ?_ (Grows.refl _) ?_
      · go_simp
      · rfl
    · intro a x hA
      have t3 : a.tmps[3]?.getD undef = .pointer (some ⟨W.heap.size, 0, none⟩) := hA.dep_ ⟨0, .data⟩ (by simp) _ 3 rfl rfl
      have hBx := K1.out.keep hA.grown
      have hc0 := hBx.cell (o := 0) rfl
      have hc1 := hBx.cell (o := 1) rfl
      have hc2 := hBx.cell (o := 2) rfl
      have hc3 := hBx.cell (o := 3) rfl
      have hc4 := hBx.cell (o := 4) rfl
      clear hBx
      refine step_value (w' := x) (v := .int .i64 k) ?_ (Grows.refl _) ?_
      · go_simp
      · rfl
    · intro a x hA
      have t1 := hA.at_ 1 (by first | rfl | kernel_rfl) rfl
      refine step_value (w' := x) (v := .pointer (some ⟨W.heap.size, 1, none⟩)) ?_ (Grows.refl _) ?_
      · go_simp
      · rfl
    · intro a x hA
      have t5 : a.tmps[5]?.getD undef = .pointer (some ⟨W.heap.size, 1, none⟩) := hA.dep_ ⟨2, .data⟩ (by simp) _ 5 rfl rfl
      have hBx := K1.out.keep hA.grown
      have hc0 := hBx.cell (o := 0) rfl
      have hc1 := hBx.cell (o := 1) rfl
      have hc2 := hBx.cell (o := 2) rfl
      have hc3 := hBx.cell (o := 3) rfl
      have hc4 := hBx.cell (o := 4) rfl
      clear hBx
      refine step_value (w' := x) (v := .int .i64 key) ?_ (Grows.refl _) ?_
      · go_simp
      · rfl
    · intro a x hA
      have t1 := hA.at_ 1 (by first | rfl | kernel_rfl) rfl
      refine step_value (w' := x) (v := .pointer (some ⟨W.heap.size, 2, none⟩)) ?_ (Grows.refl _) ?_
      · go_simp
      · rfl
    · intro a x hA
      have t7 : a.tmps[7]?.getD undef = .pointer (some ⟨W.heap.size, 2, none⟩) := hA.dep_ ⟨4, .data⟩ (by simp) _ 7 rfl rfl
      have hBx := K1.out.keep hA.grown
      have hc0 := hBx.cell (o := 0) rfl
      have hc1 := hBx.cell (o := 1) rfl
      have hc2 := hBx.cell (o := 2) rfl
      have hc3 := hBx.cell (o := 3) rfl
      have hc4 := hBx.cell (o := 4) rfl
      clear hBx
      refine step_value (w' := x) (v := .int .i64 ver) ?_ (Grows.refl _) ?_
      · go_simp
      · rfl
    · intro a x hA
      have t1 := hA.at_ 1 (by first | rfl | kernel_rfl) rfl
      refine step_value (w' := x) (v := .pointer (some ⟨W.heap.size, 3, none⟩)) ?_ (Grows.refl _) ?_
      · go_simp
      · rfl
    · intro a x hA
      have t9 : a.tmps[9]?.getD undef = .pointer (some ⟨W.heap.size, 3, none⟩) := hA.dep_ ⟨6, .data⟩ (by simp) _ 9 rfl rfl
      have hBx := K1.out.keep hA.grown
      have hc0 := hBx.cell (o := 0) rfl
      have hc1 := hBx.cell (o := 1) rfl
      have hc2 := hBx.cell (o := 2) rfl
      have hc3 := hBx.cell (o := 3) rfl
      have hc4 := hBx.cell (o := 4) rfl
      clear hBx
      refine step_value (w' := x) (v := .int .i64 bal) ?_ (Grows.refl _) ?_
      · go_simp
      · rfl
    · intro a x hA
      have hsx : W.heap.size ≤ x.heap.size := Nat.le_trans HB.out.1.size hA.grow.size
      refine step_value (w' := x.alloc (.cells #[] 5)) (v := .slice (some ⟨x.heap.size, 0, none⟩) 0 0) (by go_simp) (Grows.alloc _ _) ?_
      exact ⟨_, rfl, own8_mk hsx (Blk.new x _ _) rfl (Nat.le_refl _) (by simp [maxLen]) rfl (by simp)⟩
    · intro a x hA
      have t1 := hA.at_ 1 (by first | rfl | kernel_rfl) rfl
      refine step_value (w' := x) (v := .pointer (some ⟨W.heap.size, 4, none⟩)) ?_ (Grows.refl _) ?_
      · go_simp
      · rfl
    · intro a x hA
      have t12 : a.tmps[12]?.getD undef = .pointer (some ⟨W.heap.size, 4, none⟩) := hA.dep_ ⟨9, .data⟩ (by simp) _ 12 rfl rfl
      have hBx := K1.out.keep hA.grown
      have hc0 := hBx.cell (o := 0) rfl
      have hc1 := hBx.cell (o := 1) rfl
      have hc2 := hBx.cell (o := 2) rfl
      have hc3 := hBx.cell (o := 3) rfl
      have hc4 := hBx.cell (o := 4) rfl
      clear hBx
      refine step_value (w' := x) (v := .slice av m.length cv) ?_ (Grows.refl _) ?_
      · go_simp
      · rfl
    · intro a x hA
      have t11 : ∃ g, (a.tmps[11]?.getD undef) = .slice (some ⟨g, 0, none⟩) 0 0 ∧ Own8 x W.heap.size 5 (.slice (some ⟨g, 0, none⟩) 0 0) [] := hA.dep_ ⟨8, .data⟩ (by simp) _ 11 rfl rfl
      have t13 : a.tmps[13]?.getD undef = .slice av m.length cv := hA.dep_ ⟨10, .data⟩ (by simp) _ 13 rfl rfl
      obtain ⟨g, e9, ho9⟩ := t11
      obtain ⟨i0, hi, hz0, hz1, hz2⟩ := info_parts info_u8
      have hsx : W.heap.size ≤ x.heap.size := Nat.le_trans HB.out.1.size hA.grow.size
      have hvx := HV.out.keep hA.grown
      obtain ⟨v', w', hr, q1, q2⟩ := run_append_empty (P := Tryz.prog) Tryz.underlying22 hi hz0 hz1 hz2 22 ho9 hvx hm hsx
      refine step_value (w' := w') (v := v') (exec_append rfl (by
        have e1 : a.eval (.tmp 11) = .slice (some ⟨g, 0, none⟩) 0 0 := by simp [go_sem, e9]
        have e2 : a.eval (.tmp 13) = .slice av m.length cv := by simp [go_sem, t13]
        rw [e1, e2]; exact hr)) q2 ?_
      exact q1
    · intro a x hA
      have t4 : a.tmps[4]?.getD undef = .int .i64 k := hA.dep_ ⟨1, .data⟩ (by simp) _ 4 rfl rfl
      have t6 : a.tmps[6]?.getD undef = .int .i64 key := hA.dep_ ⟨3, .data⟩ (by simp) _ 6 rfl rfl
      have t8 : a.tmps[8]?.getD undef = .int .i64 ver := hA.dep_ ⟨5, .data⟩ (by simp) _ 8 rfl rfl
      have t10 : a.tmps[10]?.getD undef = .int .i64 bal := hA.dep_ ⟨7, .data⟩ (by simp) _ 10 rfl rfl
      have t14 : Own8 x W.heap.size 5 (a.tmps[14]?.getD undef) m := hA.dep_ ⟨11, .data⟩ (by simp) _ 14 rfl rfl
      generalize hq : a.tmps[14]?.getD undef = q9 at t14
      obtain ⟨a9, c9, rfl⟩ := t14.form
      refine step_value (w' := x) (v := .agg #[.int .i64 k, .int .i64 key, .int .i64 ver, .int .i64 bal, .slice a9 m.length c9]) ?_ (Grows.refl _) ?_
      · go_simp
      · exact ⟨_, rfl, t14⟩
  case rfin =>
    intro y W' hg hV
    simp only [List.take_succ_cons, List.take_zero, AllVals] at hV
    obtain ⟨_, _, _, _, _, _, _, _, _, _, _, _, u12, _⟩ := hV
    simp only [List.take_succ_cons, List.take_zero, List.drop_succ_cons, List.drop_zero, putAll, Act.put, List.setIfInBounds_toArray, List.set_cons_zero, List.set_cons_succ]
    obtain ⟨v9, e9, o9⟩ := u12
    rw [e9]
    clear e9
    obtain ⟨a9, c9, rfl⟩ := o9.form
    have bdW : Below W2.heap.size W2 W' := (below_of_drewN _ W2 1).trans hg
    have kR6 := K2.out.keep bdW
    have b6W : Below W.heap.size W W' := HB.out.1.trans (bdW.mono HB.out.1.size)
    have r0 := kR6.cell (o := 0) rfl
    have f0 := kR6.free 0
    have r1 := kR6.cell (o := 1) rfl
    have f1 := kR6.free 1
    have r2 := kR6.cell (o := 2) rfl
    have f2 := kR6.free 2
    have r3 := kR6.cell (o := 3) rfl
    have f3 := kR6.free 3
    have r4 := kR6.cell (o := 4) rfl
    have f4 := kR6.free 4
    obtain ⟨W7, hW7⟩ : ∃ W7, (((((W'.setCell ⟨W.heap.size + 1, 0, none⟩ (.int .i64 k)).setCell ⟨W.heap.size + 1, 1, none⟩ (.int .i64 key)).setCell ⟨W.heap.size + 1, 2, none⟩ (.int .i64 ver)).setCell ⟨W.heap.size + 1, 3, none⟩ (.int .i64 bal)).setCell ⟨W.heap.size + 1, 4, none⟩ (.slice a9 m.length c9)) = W7 := ⟨_, rfl⟩
    have k7 := (((((kR6.set (o := 0) (.int .i64 k)).set (o := 1) (.int .i64 key)).set (o := 2) (.int .i64 ver)).set (o := 3) (.int .i64 bal)).set (o := 4) (.slice a9 m.length c9))
    rw [hW7] at k7
    simp only [List.setIfInBounds_toArray, List.set_cons_zero, List.set_cons_succ] at k7
    have x7 : Ext (fun b => b = W.heap.size + 1) W' W7 := by rw [← hW7]; exact ((((((Ext.refl (fun b => b = W.heap.size + 1) W').setCell (.inl rfl) _).setCell (.inl rfl) _).setCell (.inl rfl) _).setCell (.inl rfl) _).setCell (.inl rfl) _)
    have o7 := own_set W' W7 (W.heap.size + 1) _ o9 kR6 x7 (by decide)
    have b7 : Below W.heap.size W W7 := b6W.trans (x7.belowOf b6W.size (fun b hb e => by omega))
    have HH := hid (And.intro k7 (And.intro o7 b7))
    have HW7 := hid hW7
    clear k7 o7 b7 x7 o9 kR6 b6W hW7 bdW hg
    go_wp2_with fail
    rw [HW7.out]
    have hld := run_loadVar_row (P := Tryz.prog) W7 (W.heap.size + 1) 30 30 _ (0, 0) _ HH.out.1 Tryz.underlying30 rfl size_ask
    refine bodyPost_ret (v := .agg #[.int .i64 k, .int .i64 key, .int .i64 ver, .int .i64 bal, .slice a9 m.length c9]) ?_ rfl ?_
    · simp [results, Tryz.results10, hld, asAddr]
    · exact ⟨_, rfl, HH.out.2.1, HH.out.2.2⟩

section
variable {W : World} {n mf : Nat} {pv : Value} {q : StP} {F : Fs} {S : St} {D : Dk}
/-- What asked tells of an answer's bytes. -/
def ToldPost (w' : World) (B : Nat) (l : List UInt8) (e : Ending) : Prop :=
  match getAns l with
  | none => e = .returned (.tuple #[.agg #[.int .i64 0, .int .i64 0, .int .i64 0, .int .i64 0, .bool false, .slice none 0 0], .bool false])
  | some (er, ver, pr, ba, le, d) => ∃ v, e = .returned (.tuple #[.agg #[.int .i64 (er : Int), .int .i64 (ver : Int), .int .i64 (pr : Int), .int .i64 (ba : Int), .bool le, v], .bool true]) ∧ Bs w' v d ∧ ∀ g, v.ownBlock = some g → B ≤ g
def AskedPost (W : World) (n mf : Nat) (pv : Value) (q : StP) (A : List UInt8 × Fs × St × Dk) (e : Ending) (w' : World) : Prop :=
  ToldPost w' W.heap.size A.1 e ∧ (∃ q', AccAt w' n mf pv q' A.2.1 A.2.2.1 A.2.2.2 ∧ Went q q' W.heap.size) ∧ Ext (fun b => b = mf ∨ q.own b) W w'
set_option maxRecDepth 100000 in
set_option maxHeartbeats 6400000 in
theorem law8_asked (h : AccAt W n mf pv q F S D) (k key ver bal : Int) (v : Value) (m : List UInt8) (hv : BsW W v m) (hok : askOk k key ver bal m.length = true) (hlen : (askA F S D (frameB 3 (askB k key ver bal m))).1.length ≤ 1073741824) :
    Calls Tryz.prog 26 #[.pointer (some ⟨n, 0, none⟩), .agg #[.int .i64 k, .int .i64 key, .int .i64 ver, .int .i64 bal, v]] W (AskedPost W n mf pv q (askA F S D (frameB 3 (askB k key ver bal m)))) := by
  obtain ⟨av, cv, rfl⟩ := hv.form
  have hpb : putAskB k key ver bal m = frameB 3 (askB k key ver bal m) := by unfold putAskB; rw [hok]; rfl
  generalize frameB 3 (askB k key ver bal m) = pb at hlen hpb ⊢
  generalize hAE : askA F S D pb = A at hlen ⊢
  obtain ⟨al, F5, S5, D5⟩ := A
  have HAE := hid hAE
  have HPB := hid hpb
  clear hAE hpb
  simp only at hlen
  have hoo := of_decide_eq_true hok
  have hml : m.length ≤ 4000 := by omega
  clear hoo
  obtain ⟨W1, hW1⟩ : ∃ W1, W.alloc (.cells #[.int .i64 k, .int .i64 key, .int .i64 ver, .int .i64 bal, .slice av m.length cv] 24) = W1 := ⟨_, rfl⟩
  have b1 : Below W.heap.size W W1 := by rw [← hW1]; exact (Below.refl _ W).alloc (Nat.le_refl _) _
  have k1 : Blk W1 W.heap.size #[.int .i64 k, .int .i64 key, .int .i64 ver, .int .i64 bal, .slice av m.length cv] 24 := by rw [← hW1]; exact Blk.new W _ _
  have s1 := k1.lt
  obtain ⟨W2, hW2⟩ : ∃ W2, W1.alloc (.cells #[.int .i64 0, .int .i64 0, .int .i64 0, .int .i64 0, .bool false, .slice none 0 0] 36) = W2 := ⟨_, rfl⟩
  have b2 : Below W1.heap.size W1 W2 := by rw [← hW2]; exact (Below.refl _ W1).alloc (Nat.le_refl _) _
  have k2 : Blk W2 W1.heap.size #[.int .i64 0, .int .i64 0, .int .i64 0, .int .i64 0, .bool false, .slice none 0 0] 36 := by rw [← hW2]; exact Blk.new W1 _ _
  have s2 := k2.lt
  have k12 := k1.keep b2
  have x0 := k12.cell (o := 0) rfl
  have x1 := k12.cell (o := 1) rfl
  have x2 := k12.cell (o := 2) rfl
  have x3 := k12.cell (o := 3) rfl
  have x4 := k12.cell (o := 4) rfl
  have b12 := b1.trans (b2.mono b1.size)
  have HO := hid (law8_Own k key ver bal (.slice av m.length cv) m W2 (hv.keep b12) (by omega))
  have HA := hid (h.keep b12)
  have HK := hid k2
  have HB := hid b12
  have HS := hid (show (∀ b, q.all b → b < W.heap.size) ∧ n < W.heap.size ∧ mf < W.heap.size ∧ W.heap.size < W1.heap.size ∧ W1.heap.size < W2.heap.size from ⟨fun b hb => h.st.size hb, h.cell.lt, h.mlt, s1, s2⟩)
  clear k1 k2 k12 b1 b2 b12 h hv s1 s2
  go_enter Tryz.func26, Tryz.ntmps26
  go_wp2_with fail
  refine HO.out.mono ?_
  rintro e W3 ⟨v3, rfl, o3, b3⟩
  have HP := hid (acc_PutAsk k key ver bal v3 m W3 o3.bs)
  obtain ⟨a3, c3, rfl⟩ := o3.form
  have hA3 := hid (HA.out.keep b3)
  have hK3 := hid (HK.out.keep b3)
  have hB3 := hid (HB.out.trans (b3.mono HB.out.size))
  have s3 := hid b3.size
  clear HO o3 b3 HA HK HB x0 x1 x2 x3 x4 hW1 hW2
  go_wp2_with fail
  refine HP.out.mono ?_
  rw [hok]
  simp only [if_true]
  rw [HPB.out]
  rintro e W4 ⟨v4, rfl, o4, b4⟩
  obtain ⟨a4, c4, rfl⟩ := o4.form
  have hpl : pb.length ≤ 1073741824 := by
    rw [← HPB.out]
    have := putAskB_length k key ver bal m
    omega
  have hA4 := hid (hA3.out.keep b4)
  have hK4 := hid (hK3.out.keep b4)
  have hB4 := hid (hB3.out.trans (b4.mono hB3.out.size))
  have s4 := hid (show W2.heap.size ≤ W4.heap.size from Nat.le_trans s3.out b4.size)
  have HQ := hid (acc_Ask hA4.out (.slice a4 pb.length c4) pb o4.bs hpl)
  clear HP o4 b4 hA3 hK3 hB3 s3 hpl hok
  go_wp2_with fail
  refine (law8_num _ _).mono ?_
  rintro e Wx ⟨rfl, hw⟩
  subst hw
  go_wp2_with fail
  refine HQ.out.mono ?_
  intro e W5 hpost
  unfold AcPost at hpost
  obtain ⟨v5, rfl, o5, ⟨q5, h5, w5⟩, x5⟩ := hpost
  rw [HAE.out] at h5 o5
  simp only at h5 o5
  obtain ⟨a5, c5, rfl⟩ := o5.form
  have hs := HS.out
  have hqo : ∀ b, q.own b → b < W.heap.size := fun b hb => hs.1 b (.inl hb)
  have hK5 := hid (hK4.out.ext x5 (fun hc => by
    rcases hc with hc | hc
    · omega
    · have := hqo _ hc; omega))
  have hX5 := hid ((Ext.ofBelow hB4.out : Ext (fun b => b = mf ∨ q.own b) W Wx).trans' x5)
  have hW5 := hid (w5.le hB4.out.size)
  have hN5 := hid (show ¬ q5.all W1.heap.size ∧ W.heap.size ≤ W5.heap.size ∧ W2.heap.size ≤ W5.heap.size by
    have h4 := s4.out
    have hx := x5.size
    refine ⟨fun hc => ?_, by omega, by omega⟩
    rcases w5.2.2.2.2 _ hc with h9 | h9
    · have := hs.1 _ h9; omega
    · omega)
  have HG := hid (acc_GetAnswer (.slice a5 al.length c5) al W5 o5.bs hlen)
  have hA5 := hid h5
  clear h5 o5 w5 x5 hqo hs HQ hA4 hK4 hB4 s4
  go_wp2_with fail
  refine HG.out.mono ?_
  intro e W6 hpost
  unfold AnsPost at hpost
  clear HG
  clear HAE HPB
  rcases hga : getAns al with _ | ⟨er, vr, pr, ba, le, dd⟩
  · rw [hga] at hpost
    obtain ⟨rfl, b6⟩ := hpost
    have HGA := hid hga
    clear hga
    go_wp2_with fail
    generalize hW7 : W6.alloc (.cells #[.int .i64 0, .int .i64 0, .int .i64 0, .int .i64 0, .bool false, .slice none 0 0] 36) = W7
    have b7 : Below W6.heap.size W6 W7 := by rw [← hW7]; exact (Below.refl _ W6).alloc (Nat.le_refl _) _
    have k8 : Blk W7 W6.heap.size #[.int .i64 0, .int .i64 0, .int .i64 0, .int .i64 0, .bool false, .slice none 0 0] 36 := by rw [← hW7]; exact Blk.new W6 _ _
    have b57 := b6.trans (b7.mono b6.size)
    have hA7 := hid (hA5.out.keep b57)
    have hK7 := hid (hK5.out.keep b57)
    have hX7 := hid (hX5.out.then b57)
    have hK8 := hid k8
    have s7 := hid (show W2.heap.size ≤ W7.heap.size from Nat.le_trans hN5.out.2.2 b57.size)
    clear b6 b7 k8 b57 hA5 hK5 hX5
    obtain ⟨WD, hWD⟩ : ∃ WD, WD = W7.drewN 1 := ⟨_, rfl⟩
    have kr := hK7.out.keep (below_of_drewN _ W7 1)
    rw [← hWD] at kr
    have a9 := hA7.out.keep (below_of_drewN _ W7 1)
    rw [← hWD] at a9
    have xw := hX7.out.then (below_of_drewN _ W7 1)
    rw [← hWD] at xw
    have k8D := hK8.out.keep (below_of_drewN _ W7 1)
    rw [← hWD] at k8D
    have HK8D := hid k8D
    obtain ⟨W9, hW9⟩ : ∃ W9, ((((((WD.setCell ⟨W1.heap.size, 0, none⟩ (.int .i64 0)).setCell ⟨W1.heap.size, 1, none⟩ (.int .i64 0)).setCell ⟨W1.heap.size, 2, none⟩ (.int .i64 0)).setCell ⟨W1.heap.size, 3, none⟩ (.int .i64 0)).setCell ⟨W1.heap.size, 4, none⟩ (.bool false)).setCell ⟨W1.heap.size, 5, none⟩ (.slice none 0 0)) = W9 := ⟨_, rfl⟩
    have k9 := ((((((kr.set (o := 0) (.int .i64 0)).set (o := 1) (.int .i64 0)).set (o := 2) (.int .i64 0)).set (o := 3) (.int .i64 0)).set (o := 4) (.bool false)).set (o := 5) (.slice none 0 0))
    rw [hW9] at k9
    simp only [List.setIfInBounds_toArray, List.set_cons_zero, List.set_cons_succ] at k9
    have x9 : Ext (fun b => b = W1.heap.size) WD W9 := by rw [← hW9]; exact (((((((Ext.refl (fun b => b = W1.heap.size) WD).setCell (.inl rfl) _).setCell (.inl rfl) _).setCell (.inl rfl) _).setCell (.inl rfl) _).setCell (.inl rfl) _).setCell (.inl rfl) _)
    have a10 := a9.ext2 x9 (fun b hb hc => by
      have e2 : b = W1.heap.size := hb
      subst e2
      exact hN5.out.1 hc) (by have := HS.out; omega) (by have := HS.out; omega)
    have x10 := xw.trans x9 (fun b hb => by
      have e2 : b = W1.heap.size := hb
      have := HS.out
      exact .inr (by omega))
    have HH9 := hid (And.intro k9 (And.intro a10 x10))
    have HW9 := hid hW9
    have HR7 := hid kr
    have HWD := hid hWD
    clear hWD k8D k9 hW9 x9 a9 a10 x10 xw kr
    refine wp_region_stage [4] rfl (fun i => match i with | _ => []) (fun i => match i with | _ => []) (fun sk ts w => match sk with
        | 0 => w = WD
        | 1 => w = W9
        | _ => False) (fun i ts v => match i with
        | 0 => v = .agg #[.int .i64 0, .int .i64 0, .int .i64 0, .int .i64 0, .bool false, .slice none 0 0]
        | 1 => v = .int .i64 22
        | 2 => v = .int .i64 22
        | 3 => v = .bool false
        | 4 => True
        | 5 => v = .bool false
        | _ => True) (by kernel_rfl) (by kernel_rfl) (by kernel_rfl) (HWD.out.symm) ?rsteps ?rfin
    case rsteps =>
      refine ⟨?_, ?_, ?_, ?_, ?_, ?_, trivial⟩
      · intro sk a x hat hJ hA
        have t8 := hA.at_ 8 (by first | rfl | kernel_rfl) rfl
        match sk, hat, hJ with
        | 0, hat, hJ =>
          obtain rfl := hJ
          have h9 := HK8D.out
          have z0 : x.cell? ⟨W6.heap.size, 0, none⟩ = some (.int .i64 0) := h9.cell (o := 0) rfl
          have z1 : x.cell? ⟨W6.heap.size, 1, none⟩ = some (.int .i64 0) := h9.cell (o := 1) rfl
          have z2 : x.cell? ⟨W6.heap.size, 2, none⟩ = some (.int .i64 0) := h9.cell (o := 2) rfl
          have z3 : x.cell? ⟨W6.heap.size, 3, none⟩ = some (.int .i64 0) := h9.cell (o := 3) rfl
          have z4 : x.cell? ⟨W6.heap.size, 4, none⟩ = some (.bool false) := h9.cell (o := 4) rfl
          have z5 : x.cell? ⟨W6.heap.size, 5, none⟩ = some (.slice none 0 0) := h9.cell (o := 5) rfl
          clear h9
          refine .inl ⟨rfl, stage_value (w' := _) (v := .agg #[.int .i64 0, .int .i64 0, .int .i64 0, .int .i64 0, .bool false, .slice none 0 0]) ?_ ⟨_, rfl, rfl, rfl⟩⟩
          clear hA
          go_simp
        | 1, hat, _ => exact absurd (hat.symm.trans (by kernel_rfl : atStage _ _ _ _ = false)) (by decide)
        | sk + 2, _, hJ => exact hJ.elim
      · intro sk a x hat hJ hA
        have t9 := hA.at_ 9 (by first | rfl | kernel_rfl) rfl
        clear hat hJ
        refine .inl ⟨rfl, stage_value (w' := x) (v := .int .i64 22) ?_ ⟨_, rfl, rfl, rfl⟩⟩
        clear hA
        go_simp
      · intro sk a x hat hJ hA
        have t28 : a.tmps[28]?.getD undef = .int .i64 22 := hA.dep_ ⟨1, .data⟩ (by simp) rfl _ 28 rfl rfl
        clear hat hJ
        refine .inl ⟨rfl, stage_call (f := 19) (args := #[.int .i64 22]) (by clear hA; go_simp) ((law8_num _ x).mono ?_)⟩
        rintro e w' ⟨rfl, hw⟩
        exact ⟨_, rfl, _, rfl, hw, rfl⟩
      · intro sk a x hat hJ hA
        have t29 : a.tmps[29]?.getD undef = .int .i64 22 := hA.dep_ ⟨2, .data⟩ (by simp) rfl _ 29 rfl rfl
        clear hat hJ
        refine .inl ⟨rfl, stage_value (w' := x) (v := .bool false) ?_ ⟨_, rfl, rfl, rfl⟩⟩
        clear hA
        go_simp
      · intro a x hJ hA
        have t4 := hA.at_ 4 (by first | rfl | kernel_rfl) rfl
        have t27 : a.tmps[27]?.getD undef = .agg #[.int .i64 0, .int .i64 0, .int .i64 0, .int .i64 0, .bool false, .slice none 0 0] := hA.dep_ ⟨0, .data⟩ (by simp) rfl _ 27 rfl rfl
        refine ⟨rfl, ?_⟩
        obtain rfl := hJ
        have kr := HR7.out
        have r0 : x.cell? ⟨W1.heap.size, 0, none⟩ = some (.int .i64 0) := kr.cell (o := 0) rfl
        have f0 : x.frozen? ⟨W1.heap.size, 0, none⟩ = false := kr.free 0
        have r1 : x.cell? ⟨W1.heap.size, 1, none⟩ = some (.int .i64 0) := kr.cell (o := 1) rfl
        have f1 : x.frozen? ⟨W1.heap.size, 1, none⟩ = false := kr.free 1
        have r2 : x.cell? ⟨W1.heap.size, 2, none⟩ = some (.int .i64 0) := kr.cell (o := 2) rfl
        have f2 : x.frozen? ⟨W1.heap.size, 2, none⟩ = false := kr.free 2
        have r3 : x.cell? ⟨W1.heap.size, 3, none⟩ = some (.int .i64 0) := kr.cell (o := 3) rfl
        have f3 : x.frozen? ⟨W1.heap.size, 3, none⟩ = false := kr.free 3
        have r4 : x.cell? ⟨W1.heap.size, 4, none⟩ = some (.bool false) := kr.cell (o := 4) rfl
        have f4 : x.frozen? ⟨W1.heap.size, 4, none⟩ = false := kr.free 4
        have r5 : x.cell? ⟨W1.heap.size, 5, none⟩ = some (.slice none 0 0) := kr.cell (o := 5) rfl
        have f5 : x.frozen? ⟨W1.heap.size, 5, none⟩ = false := kr.free 5
        clear kr
        refine stage_skip (w' := W9) ?_ ⟨undef, rfl, rfl, trivial⟩
        rw [← HW9.out]
        clear hA
        go_simp
      · intro sk a x hat hJ hA
        have t30 : a.tmps[30]?.getD undef = .bool false := hA.dep_ ⟨3, .data⟩ (by simp) rfl _ 30 rfl rfl
        clear hat hJ
        refine .inl ⟨rfl, stage_value (w' := x) (v := .bool false) ?_ ⟨_, rfl, rfl, rfl⟩⟩
        clear hA
        go_simp
    case rfin =>
      intro y W' hJ hV
      simp only [AllVals] at hV
      obtain ⟨_, _, _, _, _, u5, _⟩ := hV
      simp only [putAll, Act.put, List.setIfInBounds_toArray, List.set_cons_zero, List.set_cons_succ]
      obtain rfl := hJ
      rw [u5]
      clear u5
      go_wp2_with fail
      have hld := run_loadVar_row (P := Tryz.prog) W' W1.heap.size 36 36 _ (0, 0) _ HH9.out.1 Tryz.underlying36 rfl size_ans
      refine bodyPost_ret (v := .tuple #[.agg #[.int .i64 0, .int .i64 0, .int .i64 0, .int .i64 0, .bool false, .slice none 0 0], .bool false]) ?_ rfl ?_
      · simp [results, Tryz.results26, hld, asAddr]
      · unfold AskedPost ToldPost
        refine ⟨?_, ⟨q5, HH9.out.2.1, hW5.out⟩, HH9.out.2.2⟩
        dsimp only
        rw [HGA.out]
  · rw [hga] at hpost
    obtain ⟨v6, rfl, o6, b6⟩ := hpost
    have HGA := hid hga
    clear hga
    obtain ⟨a6, c6, rfl⟩ := o6.form
    obtain ⟨W7, hW7⟩ : ∃ W7, W6.alloc (.cells #[.int .i64 (er : Int), .int .i64 (vr : Int), .int .i64 (pr : Int), .int .i64 (ba : Int), .bool le, .slice a6 dd.length c6] 36) = W7 := ⟨_, rfl⟩
    have b7 : Below W6.heap.size W6 W7 := by rw [← hW7]; exact (Below.refl _ W6).alloc (Nat.le_refl _) _
    have k8 : Blk W7 W6.heap.size #[.int .i64 (er : Int), .int .i64 (vr : Int), .int .i64 (pr : Int), .int .i64 (ba : Int), .bool le, .slice a6 dd.length c6] 36 := by rw [← hW7]; exact Blk.new W6 _ _
    have b57 := b6.trans (b7.mono b6.size)
    have hA7 := hid (hA5.out.keep b57)
    have hK7 := hid (hK5.out.keep b57)
    have hX7 := hid (hX5.out.then b57)
    have hK8 := hid k8
    have s7 := hid (show W2.heap.size ≤ W7.heap.size from Nat.le_trans hN5.out.2.2 b57.size)
    have hS7 := hid (And.intro (o6.keep b7).bs (fun g hg => Nat.le_trans hN5.out.2.1 (o6.blk g hg).1))
    have hO6 := hid (fun g hg => (o6.blk g hg).1)
    clear o6
    clear b6 b7 k8 b57 hA5 hK5 hX5
    go_wp2_with fail
    obtain ⟨WD, hWD⟩ : ∃ WD, WD = W7.drewN 1 := ⟨_, rfl⟩
    have kr := hK7.out.keep (below_of_drewN _ W7 1)
    rw [← hWD] at kr
    have a9 := hA7.out.keep (below_of_drewN _ W7 1)
    rw [← hWD] at a9
    have xw := hX7.out.then (below_of_drewN _ W7 1)
    rw [← hWD] at xw
    have k8D := hK8.out.keep (below_of_drewN _ W7 1)
    rw [← hWD] at k8D
    have HK8D := hid k8D
    have hS8 := hid (show Bs WD _ _ by rw [hWD]; exact hS7.out.1.keep (below_of_drewN _ W7 1))
    obtain ⟨W9, hW9⟩ : ∃ W9, ((((((WD.setCell ⟨W1.heap.size, 0, none⟩ (.int .i64 (er : Int))).setCell ⟨W1.heap.size, 1, none⟩ (.int .i64 (vr : Int))).setCell ⟨W1.heap.size, 2, none⟩ (.int .i64 (pr : Int))).setCell ⟨W1.heap.size, 3, none⟩ (.int .i64 (ba : Int))).setCell ⟨W1.heap.size, 4, none⟩ (.bool le)).setCell ⟨W1.heap.size, 5, none⟩ (.slice a6 dd.length c6)) = W9 := ⟨_, rfl⟩
    have k9 := ((((((kr.set (o := 0) (.int .i64 (er : Int))).set (o := 1) (.int .i64 (vr : Int))).set (o := 2) (.int .i64 (pr : Int))).set (o := 3) (.int .i64 (ba : Int))).set (o := 4) (.bool le)).set (o := 5) (.slice a6 dd.length c6))
    rw [hW9] at k9
    simp only [List.setIfInBounds_toArray, List.set_cons_zero, List.set_cons_succ] at k9
    have x9 : Ext (fun b => b = W1.heap.size) WD W9 := by rw [← hW9]; exact (((((((Ext.refl (fun b => b = W1.heap.size) WD).setCell (.inl rfl) _).setCell (.inl rfl) _).setCell (.inl rfl) _).setCell (.inl rfl) _).setCell (.inl rfl) _).setCell (.inl rfl) _)
    have a10 := a9.ext2 x9 (fun b hb hc => by
      have e2 : b = W1.heap.size := hb
      subst e2
      exact hN5.out.1 hc) (by have := HS.out; omega) (by have := HS.out; omega)
    have x10 := xw.trans x9 (fun b hb => by
      have e2 : b = W1.heap.size := hb
      have := HS.out
      exact .inr (by omega))
    have s9 : Bs W9 (.slice a6 dd.length c6) dd := hS8.out.ext x9 (fun g hg _ e => by
      have e2 : g = W1.heap.size := e
      have h1 := (hO6.out g hg)
      have := HS.out
      have := hN5.out
      omega)
    have HH9 := hid (And.intro k9 (And.intro s9 (And.intro a10 x10)))
    clear s9
    have HW9 := hid hW9
    have HR7 := hid kr
    have HWD := hid hWD
    clear hWD k8D k9 hW9 x9 a9 a10 x10 xw kr
    refine wp_region_stage [4] rfl (fun i => match i with | _ => []) (fun i => match i with | _ => []) (fun sk ts w => match sk with
        | 0 => w = WD
        | 1 => w = W9
        | _ => False) (fun i ts v => match i with
        | 0 => v = .agg #[.int .i64 (er : Int), .int .i64 (vr : Int), .int .i64 (pr : Int), .int .i64 (ba : Int), .bool le, .slice a6 dd.length c6]
        | 1 => v = .int .i64 0
        | 2 => v = .int .i64 0
        | 3 => v = .bool true
        | 4 => True
        | 5 => v = .bool true
        | _ => True) (by kernel_rfl) (by kernel_rfl) (by kernel_rfl) (HWD.out.symm) ?rsteps ?rfin
    case rsteps =>
      refine ⟨?_, ?_, ?_, ?_, ?_, ?_, trivial⟩
      · intro sk a x hat hJ hA
        have t8 := hA.at_ 8 (by first | rfl | kernel_rfl) rfl
        match sk, hat, hJ with
        | 0, hat, hJ =>
          obtain rfl := hJ
          have h9 := HK8D.out
          have z0 : x.cell? ⟨W6.heap.size, 0, none⟩ = some (.int .i64 (er : Int)) := h9.cell (o := 0) rfl
          have z1 : x.cell? ⟨W6.heap.size, 1, none⟩ = some (.int .i64 (vr : Int)) := h9.cell (o := 1) rfl
          have z2 : x.cell? ⟨W6.heap.size, 2, none⟩ = some (.int .i64 (pr : Int)) := h9.cell (o := 2) rfl
          have z3 : x.cell? ⟨W6.heap.size, 3, none⟩ = some (.int .i64 (ba : Int)) := h9.cell (o := 3) rfl
          have z4 : x.cell? ⟨W6.heap.size, 4, none⟩ = some (.bool le) := h9.cell (o := 4) rfl
          have z5 : x.cell? ⟨W6.heap.size, 5, none⟩ = some (.slice a6 dd.length c6) := h9.cell (o := 5) rfl
          clear h9
          refine .inl ⟨rfl, stage_value (w' := _) (v := .agg #[.int .i64 (er : Int), .int .i64 (vr : Int), .int .i64 (pr : Int), .int .i64 (ba : Int), .bool le, .slice a6 dd.length c6]) ?_ ⟨_, rfl, rfl, rfl⟩⟩
          clear hA
          go_simp
        | 1, hat, _ => exact absurd (hat.symm.trans (by kernel_rfl : atStage _ _ _ _ = false)) (by decide)
        | sk + 2, _, hJ => exact hJ.elim
      · intro sk a x hat hJ hA
        have t9 := hA.at_ 9 (by first | rfl | kernel_rfl) rfl
        clear hat hJ
        refine .inl ⟨rfl, stage_value (w' := x) (v := .int .i64 0) ?_ ⟨_, rfl, rfl, rfl⟩⟩
        clear hA
        go_simp
      · intro sk a x hat hJ hA
        have t28 : a.tmps[28]?.getD undef = .int .i64 0 := hA.dep_ ⟨1, .data⟩ (by simp) rfl _ 28 rfl rfl
        clear hat hJ
        refine .inl ⟨rfl, stage_call (f := 19) (args := #[.int .i64 0]) (by clear hA; go_simp) ((law8_num _ x).mono ?_)⟩
        rintro e w' ⟨rfl, hw⟩
        exact ⟨_, rfl, _, rfl, hw, rfl⟩
      · intro sk a x hat hJ hA
        have t29 : a.tmps[29]?.getD undef = .int .i64 0 := hA.dep_ ⟨2, .data⟩ (by simp) rfl _ 29 rfl rfl
        clear hat hJ
        refine .inl ⟨rfl, stage_value (w' := x) (v := .bool true) ?_ ⟨_, rfl, rfl, rfl⟩⟩
        clear hA
        go_simp
      · intro a x hJ hA
        have t4 := hA.at_ 4 (by first | rfl | kernel_rfl) rfl
        have t27 : a.tmps[27]?.getD undef = .agg #[.int .i64 (er : Int), .int .i64 (vr : Int), .int .i64 (pr : Int), .int .i64 (ba : Int), .bool le, .slice a6 dd.length c6] := hA.dep_ ⟨0, .data⟩ (by simp) rfl _ 27 rfl rfl
        refine ⟨rfl, ?_⟩
        obtain rfl := hJ
        have kr := HR7.out
        have r0 : x.cell? ⟨W1.heap.size, 0, none⟩ = some (.int .i64 0) := kr.cell (o := 0) rfl
        have f0 : x.frozen? ⟨W1.heap.size, 0, none⟩ = false := kr.free 0
        have r1 : x.cell? ⟨W1.heap.size, 1, none⟩ = some (.int .i64 0) := kr.cell (o := 1) rfl
        have f1 : x.frozen? ⟨W1.heap.size, 1, none⟩ = false := kr.free 1
        have r2 : x.cell? ⟨W1.heap.size, 2, none⟩ = some (.int .i64 0) := kr.cell (o := 2) rfl
        have f2 : x.frozen? ⟨W1.heap.size, 2, none⟩ = false := kr.free 2
        have r3 : x.cell? ⟨W1.heap.size, 3, none⟩ = some (.int .i64 0) := kr.cell (o := 3) rfl
        have f3 : x.frozen? ⟨W1.heap.size, 3, none⟩ = false := kr.free 3
        have r4 : x.cell? ⟨W1.heap.size, 4, none⟩ = some (.bool false) := kr.cell (o := 4) rfl
        have f4 : x.frozen? ⟨W1.heap.size, 4, none⟩ = false := kr.free 4
        have r5 : x.cell? ⟨W1.heap.size, 5, none⟩ = some (.slice none 0 0) := kr.cell (o := 5) rfl
        have f5 : x.frozen? ⟨W1.heap.size, 5, none⟩ = false := kr.free 5
        clear kr
        refine stage_skip (w' := W9) ?_ ⟨undef, rfl, rfl, trivial⟩
        rw [← HW9.out]
        clear hA
        go_simp
      · intro sk a x hat hJ hA
        have t30 : a.tmps[30]?.getD undef = .bool true := hA.dep_ ⟨3, .data⟩ (by simp) rfl _ 30 rfl rfl
        clear hat hJ
        refine .inl ⟨rfl, stage_value (w' := x) (v := .bool true) ?_ ⟨_, rfl, rfl, rfl⟩⟩
        clear hA
        go_simp
    case rfin =>
      intro y W' hJ hV
      simp only [AllVals] at hV
      obtain ⟨_, _, _, _, _, u5, _⟩ := hV
      simp only [putAll, Act.put, List.setIfInBounds_toArray, List.set_cons_zero, List.set_cons_succ]
      obtain rfl := hJ
      rw [u5]
      clear u5
      go_wp2_with fail
      have hld := run_loadVar_row (P := Tryz.prog) W' W1.heap.size 36 36 _ (0, 0) _ HH9.out.1 Tryz.underlying36 rfl size_ans
      refine bodyPost_ret (v := .tuple #[.agg #[.int .i64 (er : Int), .int .i64 (vr : Int), .int .i64 (pr : Int), .int .i64 (ba : Int), .bool le, .slice a6 dd.length c6], .bool true]) ?_ rfl ?_
      · simp [results, Tryz.results26, hld, asAddr]
      · unfold AskedPost ToldPost
        refine ⟨?_, ⟨q5, HH9.out.2.2.1, hW5.out⟩, HH9.out.2.2.2⟩
        dsimp only
        rw [HGA.out]
        exact ⟨_, rfl, HH9.out.2.1, hS7.out.2⟩
end
end Go.Proofs.YtnbeagcmfcdklaaGreat
