import Derived.Test.YtcdcjoofcbdilaaGreatAccW
/-! Package acceptor: answer, Up, Ask. -/
namespace Go.Proofs.YtcdcjoofcbdilaaGreat
open Go.RowKit

section
variable {W : World} {n mf : Nat} {pv : Value} {q : StP} {F : Fs} {S : St} {D : Dk}
set_option maxRecDepth 100000 in
set_option maxHeartbeats 3200000 in
theorem acc_answer_query (h : AccAt W n mf pv q F S D) (key ver bal : Int) (v : Value) (l : List UInt8) (hv : Bs W v l) :
    Calls Tryz.prog 65 #[.pointer (some ⟨n, 0, none⟩), .agg #[.int .i64 4, .int .i64 key, .int .i64 ver, .int .i64 bal, v]] W (AnswerPost W n mf pv q (answerA F S D 4 key ver bal l)) := by
  obtain ⟨a0, c0, rfl⟩ := hv.form
  obtain ⟨W1, hW1⟩ : ∃ W1, W.alloc (.cells #[.int .i64 4, .int .i64 key, .int .i64 ver, .int .i64 bal, .slice a0 l.length c0] 48) = W1 := ⟨_, rfl⟩
  have b1 : Below W.heap.size W W1 := by rw [← hW1]; exact (Below.refl _ W).alloc (Nat.le_refl _) _
  have kq : Blk W1 W.heap.size #[.int .i64 4, .int .i64 key, .int .i64 ver, .int .i64 bal, .slice a0 l.length c0] 48 := by rw [← hW1]; exact Blk.new W _ _
  have s1 := kq.lt
  obtain ⟨W2, hW2⟩ : ∃ W2, W1.alloc (.cells #[.int .i64 0, .int .i64 0, .int .i64 0, .int .i64 0, .bool false, .slice none 0 0] 44) = W2 := ⟨_, rfl⟩
  have b2 : Below W1.heap.size W1 W2 := by rw [← hW2]; exact (Below.refl _ W1).alloc (Nat.le_refl _) _
  have kr : Blk W2 W1.heap.size #[.int .i64 0, .int .i64 0, .int .i64 0, .int .i64 0, .bool false, .slice none 0 0] 44 := by rw [← hW2]; exact Blk.new W1 _ _
  have s2 := kr.lt
  have kq2 := kq.keep b2
  have q0 := kq2.cell (o := 0) rfl
  have q1 := kq2.cell (o := 1) rfl
  have b02 := b1.trans (b2.mono b1.size)
  have HA := hid (h.keep b02)
  have HQ := hid (acc_query (h.keep b02) key)
  have HS := hid (show (∀ b, q.all b → b < W.heap.size) ∧ n < W.heap.size ∧ mf < W.heap.size from ⟨fun b hb => h.st.size hb, h.cell.lt, h.mlt⟩)
  have HE := hid (show answerA F S D 4 key ver bal l = (⟨0, bestA key F, F.get (key, bestA key F)⟩, F, S, D) by unfold answerA; rw [if_pos rfl])
  clear kq kq2 b1 b2 h hv
  go_enter Tryz.func65, Tryz.ntmps65
  go_wp2_with fail
  refine HQ.out.mono ?_
  rintro e W3 ⟨v9, rfl, hbs, ho9, b3⟩
  have kr := kr.keep b3
  have b03 := b02.trans (b3.mono b02.size)
  have a3 := HA.out.keep b3
  obtain ⟨av, cv, eF⟩ := hbs.form
  subst eF
  have HV := hid (And.intro hbs ho9)
  clear hbs ho9 HQ b3
  have r0 := kr.cell (o := 0) rfl
  have f0 := kr.free 0
  have r1 := kr.cell (o := 1) rfl
  have f1 := kr.free 1
  have r2 := kr.cell (o := 2) rfl
  have f2 := kr.free 2
  have r3 := kr.cell (o := 3) rfl
  have f3 := kr.free 3
  have r4 := kr.cell (o := 4) rfl
  have f4 := kr.free 4
  have r5 := kr.cell (o := 5) rfl
  have f5 := kr.free 5
  obtain ⟨W9, hW9⟩ : ∃ W9, ((((((W3.setCell ⟨W1.heap.size, 0, none⟩ (.int .i64 0)).setCell ⟨W1.heap.size, 1, none⟩ (.int .i64 (bestA key F))).setCell ⟨W1.heap.size, 2, none⟩ (.int .i64 (F.get (key, bestA key F)).pr)).setCell ⟨W1.heap.size, 3, none⟩ (.int .i64 (F.get (key, bestA key F)).ba)).setCell ⟨W1.heap.size, 4, none⟩ (.bool (F.get (key, bestA key F)).le)).setCell ⟨W1.heap.size, 5, none⟩ (.slice av (F.get (key, bestA key F)).va.length cv)) = W9 := ⟨_, rfl⟩
  have k9 := ((((((kr.set (o := 0) (.int .i64 0)).set (o := 1) (.int .i64 (bestA key F))).set (o := 2) (.int .i64 (F.get (key, bestA key F)).pr)).set (o := 3) (.int .i64 (F.get (key, bestA key F)).ba)).set (o := 4) (.bool (F.get (key, bestA key F)).le)).set (o := 5) (.slice av (F.get (key, bestA key F)).va.length cv))
  rw [hW9] at k9
  simp only [List.setIfInBounds_toArray, List.set_cons_zero, List.set_cons_succ] at k9
  have x9 : Ext (fun b => b = W1.heap.size) W3 W9 := by rw [← hW9]; exact (((((((Ext.refl (fun b => b = W1.heap.size) W3).setCell (.inl rfl) _).setCell (.inl rfl) _).setCell (.inl rfl) _).setCell (.inl rfl) _).setCell (.inl rfl) _).setCell (.inl rfl) _)
  have s9 : Bs W9 (.slice av (F.get (key, bestA key F)).va.length cv) (F.get (key, bestA key F)).va := HV.out.1.ext x9 (fun k hk _ e => by
    have e2 : k = W1.heap.size := e
    have := HV.out.2 k hk
    omega)
  have a9 := a3.ext2 x9 (fun b hb hc => by
    have e2 : b = W1.heap.size := hb
    have := HS.out.1 b hc
    omega) (by have := HS.out.2; omega) (by have := HS.out.2; omega)
  have b09 : Below W.heap.size W W9 := b03.trans (x9.belowOf b03.size (fun b hb e => by have e2 : b = W1.heap.size := e; omega))
  have HH9 := hid (And.intro k9 (And.intro s9 (And.intro a9 b09)))
  have HW9 := hid hW9
  clear k9 hW9 x9 s9 a9 b09 a3 kr
  go_wp2_with fail
  rw [HW9.out]
  have hld := run_loadVar_row (P := Tryz.prog) W9 W1.heap.size 44 44 _ (0, 0) _ HH9.out.1 Tryz.underlying44 rfl size_ans
  refine bodyPost_ret (v := .tuple #[.agg #[.int .i64 0, .int .i64 (bestA key F), .int .i64 (F.get (key, bestA key F)).pr, .int .i64 (F.get (key, bestA key F)).ba, .bool (F.get (key, bestA key F)).le, .slice av (F.get (key, bestA key F)).va.length cv], .bool true]) ?_ rfl ?_
  · simp [results, Tryz.results65, hld, asAddr]
  · unfold AnswerPost
    rw [HE.out]
    exact ⟨_, rfl, HH9.out.2.1, fun g hg => Nat.le_trans b02.size (HV.out.2 g hg), ⟨q, HH9.out.2.2.1, Went.refl _ _⟩, Ext.ofBelow HH9.out.2.2.2⟩

theorem acc_answer (h : AccAt W n mf pv q F S D) (k : Nat) (key ver bal : Int) (v : Value) (l : List UInt8) (hv : Bs W v l) (hok : askOk (k : Int) key ver bal l.length = true) :
    Calls Tryz.prog 65 #[.pointer (some ⟨n, 0, none⟩), .agg #[.int .i64 (k : Int), .int .i64 key, .int .i64 ver, .int .i64 bal, v]] W (AnswerPost W n mf pv q (answerA F S D k key ver bal l)) := by
  have hk : k = 1 ∨ k = 2 ∨ k = 3 ∨ k = 4 := by
    have := of_decide_eq_true hok
    omega
  rcases hk with rfl | rfl | rfl | rfl
  · exact acc_answer_do h 1 key ver bal v l hv hok 103 (fun args w => by go_simp) rfl (by decide) (fun f v b w hb => acc_prepare f _ key ver bal v b w hb)
  · exact acc_answer_do h 2 key ver bal v l hv hok 104 (fun args w => by go_simp) rfl (by decide) (fun f v b w hb => acc_accept f _ key ver bal v b w hb)
  · exact acc_answer_do h 3 key ver bal v l hv hok 105 (fun args w => by go_simp) rfl (by decide) (fun f v b w hb => acc_learn f _ key ver bal v b w hb)
  · exact acc_answer_query h key ver bal v l hv

set_option maxHeartbeats 800000 in
theorem acc_Up (h : AccAt W n mf pv q F S D) : Calls Tryz.prog 63 #[.pointer (some ⟨n, 0, none⟩)] W fun e w' => e = .returned (.bool true) ∧ w' = W := by
  have c1 := h.cell.cell (o := 1) rfl
  go_enter Tryz.func63, Tryz.ntmps63
  go_wp2_with fail
  go_ret
  exact ⟨rfl, rfl⟩

theorem getAsk_right {b d : List UInt8} {k key ver bal : Nat} (h : getAsk b = some (k, key, ver, bal, d)) : askOk (k : Int) (key : Int) (ver : Int) (bal : Int) d.length = true := by
  unfold getAsk at h
  split at h
  · cases h
  · split at h
    · rename_i hr
      simp only [Option.some.injEq, Prod.mk.injEq] at h
      obtain ⟨rfl, rfl, rfl, rfl, rfl⟩ := h
      exact hr
    · cases h
def AcPost (W : World) (n mf : Nat) (pv : Value) (q : StP) (R : List UInt8 × Fs × St × Dk) (e : Ending) (w' : World) : Prop :=
  ∃ v', e = .returned v' ∧ Own8 w' W.heap.size 5 v' R.1 ∧ (∃ q', AccAt w' n mf pv q' R.2.1 R.2.2.1 R.2.2.2 ∧ Went q q' W.heap.size) ∧ Ext (fun b => b = mf ∨ q.own b) W w'
set_option maxRecDepth 100000 in
set_option maxHeartbeats 3200000 in
theorem acc_Ask_none (h : AccAt W n mf pv q F S D) (v : Value) (b : List UInt8) (hv : Bs W v b) (hl : b.length ≤ 1073741824) (hreq : getAsk b = none) :
    Calls Tryz.prog 34 #[.pointer (some ⟨n, 0, none⟩), v] W (AcPost W n mf pv q (askA F S D b)) := by
  have HE := hid (show askA F S D b = (putAnsB 22 0 0 0 false [], F, S, D) by unfold askA; rw [hreq])
  obtain ⟨a0, c0, rfl⟩ := hv.form
  have b1 : Below W.heap.size W (W.alloc (.cells #[.int .i64 22, .int .i64 0, .int .i64 0, .int .i64 0, .bool false, .slice none 0 0] 44)) := (Below.refl _ W).alloc (Nat.le_refl _) _
  have k5 := Blk.new W #[.int .i64 22, .int .i64 0, .int .i64 0, .int .i64 0, .bool false, .slice none 0 0] 44
  have HG := hid (acc_GetAsk _ b (W.alloc (.cells #[.int .i64 22, .int .i64 0, .int .i64 0, .int .i64 0, .bool false, .slice none 0 0] 44)) (hv.keep b1) hl)
  clear hv
  go_enter Tryz.func34, Tryz.ntmps34
  go_wp2_with fail
  refine (acc_Up h).mono ?_
  rintro e W9 ⟨rfl, hw⟩
  rw [hw]
  clear hw W9
  go_wp2_with fail
  refine HG.out.mono ?_
  intro e W2 hpost
  unfold AskPost at hpost
  rw [hreq] at hpost
  obtain ⟨rfl, b2⟩ := hpost
  have b12 : Below W.heap.size W W2 := b1.trans (b2.mono b1.size)
  have b3 : Below W2.heap.size W2 (W2.alloc (.cells #[.int .i64 0, .int .i64 0, .int .i64 0, .int .i64 0, .slice none 0 0] 48)) := (Below.refl _ W2).alloc (Nat.le_refl _) _
  have b13 : Below W.heap.size W _ := b12.trans (b3.mono b12.size)
  have k9 := (k5.keep b2).keep b3
  have g0 := k9.cell (o := 0) rfl
  have g1 := k9.cell (o := 1) rfl
  have g2 := k9.cell (o := 2) rfl
  have g3 := k9.cell (o := 3) rfl
  have g4 := k9.cell (o := 4) rfl
  have g5 := k9.cell (o := 5) rfl
  have HPR := hid (acc_PutAnswer 22 0 0 0 false (.slice none 0 0) [] (W2.alloc (.cells #[.int .i64 0, .int .i64 0, .int .i64 0, .int .i64 0, .slice none 0 0] 48)) (Bs.nil _))
  have HB := hid (And.intro b13 h)
  clear HG b1 b2 b3 b12 b13 h k5 k9
  go_wp2_with fail
  refine HPR.out.mono ?_
  rintro e w' ⟨v', rfl, ho, hb⟩
  have HO := hid (And.intro ho hb)
  clear HPR g0 g1 g2 g3 g4 g5 ho hb
  go_wp2_with fail
  go_ret
  unfold AcPost
  rw [HE.out]
  have hb9 := HB.out.1.trans (HO.out.2.mono HB.out.1.size)
  exact ⟨_, rfl, HO.out.1.mono HB.out.1.size, ⟨q, HB.out.2.keep hb9, Went.refl _ _⟩, Ext.ofBelow hb9⟩

set_option maxRecDepth 100000 in
set_option maxHeartbeats 6400000 in
theorem acc_Ask_some (h : AccAt W n mf pv q F S D) (v : Value) (b : List UInt8) (hv : Bs W v b) (hl : b.length ≤ 1073741824) (k key ver bal : Nat) (d : List UInt8) (hreq : getAsk b = some (k, key, ver, bal, d)) :
    Calls Tryz.prog 34 #[.pointer (some ⟨n, 0, none⟩), v] W (AcPost W n mf pv q (askA F S D b)) := by
  have hok := getAsk_right hreq
  have hask : askA F S D b = (putAnsB (answerA F S D k key ver bal d).1.e (answerA F S D k key ver bal d).1.ver (answerA F S D k key ver bal d).1.f.pr (answerA F S D k key ver bal d).1.f.ba (answerA F S D k key ver bal d).1.f.le (answerA F S D k key ver bal d).1.f.va, (answerA F S D k key ver bal d).2) := by unfold askA; rw [hreq]
  have HE := hid hask
  clear hask
  obtain ⟨a0, c0, rfl⟩ := hv.form
  have b1 : Below W.heap.size W (W.alloc (.cells #[.int .i64 22, .int .i64 0, .int .i64 0, .int .i64 0, .bool false, .slice none 0 0] 44)) := (Below.refl _ W).alloc (Nat.le_refl _) _
  have k5 := Blk.new W #[.int .i64 22, .int .i64 0, .int .i64 0, .int .i64 0, .bool false, .slice none 0 0] 44
  have HG := hid (acc_GetAsk _ b (W.alloc (.cells #[.int .i64 22, .int .i64 0, .int .i64 0, .int .i64 0, .bool false, .slice none 0 0] 44)) (hv.keep b1) hl)
  clear hv
  go_enter Tryz.func34, Tryz.ntmps34
  go_wp2_with fail
  refine (acc_Up h).mono ?_
  rintro e W9 ⟨rfl, hw⟩
  rw [hw]
  clear hw W9
  go_wp2_with fail
  refine HG.out.mono ?_
  intro e W2 hpost
  unfold AskPost at hpost
  rw [hreq] at hpost
  obtain ⟨v2, rfl, o2, b2⟩ := hpost
  obtain ⟨av, cv, rfl⟩ := o2.form
  have b12 : Below W.heap.size W W2 := b1.trans (b2.mono b1.size)
  have hlt2 : W.heap.size < W2.heap.size := by have := b2.size; simp at this; omega
  obtain ⟨W3, hW3⟩ : ∃ W3, W2.alloc (.cells #[.int .i64 (k : Int), .int .i64 (key : Int), .int .i64 (ver : Int), .int .i64 (bal : Int), .slice av d.length cv] 48) = W3 := ⟨_, rfl⟩
  have b3 : Below W2.heap.size W2 W3 := by rw [← hW3]; exact (Below.refl _ W2).alloc (Nat.le_refl _) _
  have k6 : Blk W3 W2.heap.size #[.int .i64 (k : Int), .int .i64 (key : Int), .int .i64 (ver : Int), .int .i64 (bal : Int), .slice av d.length cv] 48 := by rw [← hW3]; exact Blk.new W2 _ _
  have b13 : Below W.heap.size W W3 := b12.trans (b3.mono b12.size)
  have HK5 := hid ((k5.keep b2).keep b3)
  have HA3 := hid (acc_answer (h.keep b13) k key ver bal (.slice av d.length cv) d (o2.keep b3).bs hok)
  have HB := hid b13
  have HS := hid (show (∀ b, q.all b → b < W.heap.size) ∧ n < W.heap.size ∧ mf < W.heap.size ∧ W.heap.size < W2.heap.size ∧ W2.heap.size < W3.heap.size from ⟨fun b hb => h.st.size hb, h.cell.lt, h.mlt, hlt2, k6.lt⟩)
  have g0 := k6.cell (o := 0) rfl
  have g1 := k6.cell (o := 1) rfl
  have g2 := k6.cell (o := 2) rfl
  have g3 := k6.cell (o := 3) rfl
  have g4 := k6.cell (o := 4) rfl
  clear HG b1 k5 b2 o2 b12 b3 b13 k6 h hlt2 hok
  go_wp2_with fail
  refine HA3.out.mono ?_
  intro e W4 hpost
  unfold AnswerPost at hpost
  obtain ⟨v9, rfl, s9, o9, ⟨q4, a4, w4⟩, x4⟩ := hpost
  clear HA3 g0 g1 g2 g3 g4 hW3
  generalize answerA F S D (k : Int) (key : Int) (ver : Int) (bal : Int) d = R at *
  obtain ⟨⟨er, vr, fr⟩, F8, S8, D8⟩ := R
  simp only at s9 a4 HE ⊢
  obtain ⟨a9, c9, rfl⟩ := s9.form
  have hs := HS.out
  have hsb := HB.out.size
  have hx4 := x4.size
  have hqo : ∀ b, q.own b → b < W.heap.size := fun b hb => hs.1 b (.inl hb)
  have hne5 : ¬ (W.heap.size = mf ∨ q.own W.heap.size) := fun hc => by
    rcases hc with hc | hc
    · omega
    · have := hqo _ hc; omega
  have k5 := HK5.out.ext x4 hne5
  obtain ⟨W5, hW5⟩ : ∃ W5, W4.alloc (.cells #[.int .i64 er, .int .i64 vr, .int .i64 fr.pr, .int .i64 fr.ba, .bool fr.le, .slice a9 fr.va.length c9] 44) = W5 := ⟨_, rfl⟩
  have b5 : Below W4.heap.size W4 W5 := by rw [← hW5]; exact (Below.refl _ W4).alloc (Nat.le_refl _) _
  have k8 : Blk W5 W4.heap.size #[.int .i64 er, .int .i64 vr, .int .i64 fr.pr, .int .i64 fr.ba, .bool fr.le, .slice a9 fr.va.length c9] 44 := by rw [← hW5]; exact Blk.new W4 _ _
  have k55 := k5.keep b5
  have s5 := s9.keep b5
  have s5n : ∀ g, (Value.slice a9 fr.va.length c9).ownBlock = some g → W3.heap.size ≤ g := o9
  have y0 := k8.cell (o := 0) rfl
  have y1 := k8.cell (o := 1) rfl
  have y2 := k8.cell (o := 2) rfl
  have y3 := k8.cell (o := 3) rfl
  have y4 := k8.cell (o := 4) rfl
  have y5 := k8.cell (o := 5) rfl
  have r0 := k55.cell (o := 0) rfl
  have f0 := k55.free 0
  have r1 := k55.cell (o := 1) rfl
  have f1 := k55.free 1
  have r2 := k55.cell (o := 2) rfl
  have f2 := k55.free 2
  have r3 := k55.cell (o := 3) rfl
  have f3 := k55.free 3
  have r4 := k55.cell (o := 4) rfl
  have f4 := k55.free 4
  have r5 := k55.cell (o := 5) rfl
  have f5 := k55.free 5
  obtain ⟨W6, hW6⟩ : ∃ W6, ((((((W5.setCell ⟨W.heap.size, 0, none⟩ (.int .i64 er)).setCell ⟨W.heap.size, 1, none⟩ (.int .i64 vr)).setCell ⟨W.heap.size, 2, none⟩ (.int .i64 fr.pr)).setCell ⟨W.heap.size, 3, none⟩ (.int .i64 fr.ba)).setCell ⟨W.heap.size, 4, none⟩ (.bool fr.le)).setCell ⟨W.heap.size, 5, none⟩ (.slice a9 fr.va.length c9)) = W6 := ⟨_, rfl⟩
  have k56 := ((((((k55.set (o := 0) (.int .i64 er)).set (o := 1) (.int .i64 vr)).set (o := 2) (.int .i64 fr.pr)).set (o := 3) (.int .i64 fr.ba)).set (o := 4) (.bool fr.le)).set (o := 5) (.slice a9 fr.va.length c9))
  rw [hW6] at k56
  simp only [List.setIfInBounds_toArray, List.set_cons_zero, List.set_cons_succ] at k56
  have x6 : Ext (fun b => b = W.heap.size) W5 W6 := by rw [← hW6]; exact (((((((Ext.refl (fun b => b = W.heap.size) W5).setCell (.inl rfl) _).setCell (.inl rfl) _).setCell (.inl rfl) _).setCell (.inl rfl) _).setCell (.inl rfl) _).setCell (.inl rfl) _)
  have s6 := s5.ext x6 (fun g hg _ e => by
    have e2 : g = W.heap.size := e
    have := s5n g hg
    omega)
  have a6 := (a4.keep b5).ext2 x6 (fun b hb hc => by
    have e2 : b = W.heap.size := hb
    subst e2
    rcases w4.2.2.2.2 _ hc with h9 | h9
    · have := hs.1 _ h9; omega
    · omega) (by omega) (by omega)
  have xx : Ext (fun b => b = mf ∨ q.own b) W W6 := (((Ext.ofBelow HB.out : Ext (fun b => b = mf ∨ q.own b) W W3).trans' x4).then b5).trans x6 (fun b hb => .inr (by have e2 : b = W.heap.size := hb; omega))
  have z0 := k56.cell (o := 0) rfl
  have z1 := k56.cell (o := 1) rfl
  have z2 := k56.cell (o := 2) rfl
  have z3 := k56.cell (o := 3) rfl
  have z4 := k56.cell (o := 4) rfl
  have z5 := k56.cell (o := 5) rfl
  have HP := hid (acc_PutAnswer er vr fr.pr fr.ba fr.le (.slice a9 fr.va.length c9) fr.va W6 s6)
  have HF := hid (And.intro a6 (And.intro xx (And.intro (w4.le hsb) (show W.heap.size ≤ W6.heap.size from xx.size))))
  clear k5 k55 k56 k8 b5 x6 x4 s9 s5 s5n s6 a4 a6 xx w4 o9 hs hsb hx4 hqo hne5 HK5 HB HS
  go_wp2_with fail
  refine HP.out.mono ?_
  rintro e w' ⟨v', rfl, ho, hb⟩
  have HO := hid (And.intro ho hb)
  clear HP ho hb
  go_wp2_with fail
  all_goals (
    go_ret
    unfold AcPost
    rw [HE.out]
    exact ⟨_, rfl, HO.out.1.mono HF.out.2.2.2, ⟨q4, HF.out.1.keep HO.out.2, HF.out.2.2.1⟩, HF.out.2.1.then HO.out.2⟩)

theorem acc_Ask (h : AccAt W n mf pv q F S D) (v : Value) (b : List UInt8) (hv : Bs W v b) (hl : b.length ≤ 1073741824) :
    Calls Tryz.prog 34 #[.pointer (some ⟨n, 0, none⟩), v] W (AcPost W n mf pv q (askA F S D b)) := by
  cases hreq : getAsk b with
  | none => exact acc_Ask_none h v b hv hl hreq
  | some x =>
    obtain ⟨k, key, ver, bal, d⟩ := x
    exact acc_Ask_some h v b hv hl k key ver bal d hreq
end
end Go.Proofs.YtcdcjoofcbdilaaGreat
