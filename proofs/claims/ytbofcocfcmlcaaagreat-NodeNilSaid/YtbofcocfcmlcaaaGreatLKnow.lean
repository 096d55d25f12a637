import Derived.Test.YtbofcocfcmlcaaaGreatMLKnowP
/-! gazettelaw05.knows. -/
namespace Go.Proofs.YtbofcocfcmlcaaaGreat
open Go.RowKit

/-- A node that nobody else holds. -/
structure NRun (B : Nat) (W : World) (n : Nat) (pv : Value) (q : StP) (S : St) (D : Dk) : Prop where
  at_ : NodeAt W n pv q S D
  new : ∀ b, q.all b → B ≤ b
section
variable {B n : Nat} {W W' : World} {pv : Value} {q : StP} {S : St} {D : Dk}
theorem NRun.keep (r : NRun B W n pv q S D) (h : Below W.heap.size W W') : NRun B W' n pv q S D := ⟨r.at_.keep h, r.new⟩
theorem run_Ask (r : NRun B W n pv q S D) (hB : B ≤ W.heap.size) (v : Value) (b : List UInt8) (hv : Bs W v b) (hl : b.length ≤ 1073741824) :
    Calls Tryz.prog 17 #[.pointer (some ⟨n, 0, none⟩), v] W fun e w' => ∃ v', e = .returned v' ∧ Own8 w' W.heap.size 5 v' (askF S D b).1 ∧ (∃ q', NRun B w' n pv q' (askF S D b).2.1 (askF S D b).2.2 ∧ ∀ T c t, Blk W T c t → ¬ q.all T → Blk w' T c t ∧ ¬ q'.all T) ∧ Below B W w' := by
  refine (node_Ask r.at_ v b hv hl).mono ?_
  rintro e w' ⟨v', rfl, ho, ⟨q', h1, h2⟩, hx⟩
  exact ⟨v', rfl, ho, ⟨q', ⟨h1, fun c hc => (h2.2.2.2.2 c hc).elim (r.new c) (fun h => by omega)⟩, fun T c t hb hq => ⟨hb.ext hx (fun h => hq (.inl h)), fun h => (h2.2.2.2.2 T h).elim hq (fun h => by have := hb.lt; omega)⟩⟩, hx.belowOf hB (fun c hc ho => by have := r.new c (.inl ho); omega)⟩
end

set_option maxRecDepth 100000 in
set_option maxHeartbeats 3200000 in
theorem law5_knows (W : World) : Calls Tryz.prog 13 #[] W fun e w' => e = .returned (.bool true) ∧ Below W.heap.size W w' := by
  go_enter Tryz.func13, Tryz.ntmps13
  go_wp2_with fail
  refine (node_New 8 W (by omega) (by omega)).mono ?_
  rintro e W0 ⟨n, pv, q, rfl, h0, b0, hn, hnew⟩
  have r0 : NRun W.heap.size W0 n pv q St.fresh (Dk.fresh 8) := ⟨h0, hnew⟩
  clear h0 hnew hn
  go_wp2_with fail
  refine (law5_num _ _).mono ?_
  rintro e Wx ⟨rfl, hw⟩
  subst hw
  go_wp2_with fail
  refine (law_asks 1 1 0 [97] Wx (by rfl) _ rfl).mono ?_
  rintro e Wa0 ⟨va0, rfl, oa0, ba0⟩
  have ra0 := r0.keep ba0
  have bA0 := b0.trans (ba0.mono b0.size)
  have HK0 := hid (And.intro ra0 (And.intro bA0 oa0))
  clear ra0 bA0 oa0 ba0 r0 b0
  go_wp2_with fail
  refine (run_Ask HK0.out.1 HK0.out.2.1.size va0 _ HK0.out.2.2.bs (by decide)).mono ?_
  rintro e Wb0 ⟨vb0, rfl, ob0, ⟨q1, rb0, kp0⟩, bb0⟩
  have HB0 := hid (And.intro rb0 (And.intro ob0 (HK0.out.2.1.trans bb0)))
  clear rb0 ob0 bb0 HK0
  go_wp2_with fail
  refine (get_reply vb0 A1.1 Wb0 HB0.out.2.1.bs al.1).mono ?_
  intro e Wc0 hpost
  unfold RepPost at hpost
  rw [a1] at hpost
  obtain ⟨vd0, rfl, od0, bd0⟩ := (show ∃ v, e = .returned (.tuple #[.agg #[.int .i64 0, .int .i64 1, .bool false, v], .int .i64 0]) ∧ Own8 Wc0 Wb0.heap.size 5 v [] ∧ Below Wb0.heap.size Wb0 Wc0 from hpost)
  clear hpost
  obtain ⟨ad0, cd0, rfl⟩ := (show ∃ a c, vd0 = .slice a 0 c from od0.form)
  have be0 : Below Wc0.heap.size Wc0 (Wc0.alloc (.cells #[.int .i64 0, .int .i64 1, .bool false, .slice ad0 0 cd0] 88)) := (Below.refl _ Wc0).alloc (Nat.le_refl _) _
  have rc0 := (HB0.out.1.keep bd0).keep be0
  have bC0 := (HB0.out.2.2.trans (bd0.mono HB0.out.2.2.size))
  have n0 : W.heap.size ≤ Wc0.heap.size := bC0.size
  have bD0 := bC0.trans (be0.mono bC0.size)
  have k0 := Blk.new Wc0 #[.int .i64 0, .int .i64 1, .bool false, .slice ad0 0 cd0] 88
  have hq0 : ¬ q1.all Wc0.heap.size := fun hq => by have := (HB0.out.1.keep bd0).at_.st.size hq; omega
  clear HB0 bd0 be0 bC0 od0 kp0
  go_wp2_with fail
  refine (law_asks 3 1 0 [] (Wc0.alloc (.cells #[.int .i64 0, .int .i64 1, .bool false, .slice ad0 0 cd0] 88)) (by rfl) _ rfl).mono ?_
  rintro e Wa1 ⟨va1, rfl, oa1, ba1⟩
  have ra1 := rc0.keep ba1
  have bA1 := bD0.trans (ba1.mono bD0.size)
  have HK1 := hid (And.intro ra1 (And.intro bA1 oa1))
  have k0 := k0.keep ba1
  clear ra1 bA1 oa1 ba1 rc0 bD0
  go_wp2_with fail
  refine (run_Ask HK1.out.1 HK1.out.2.1.size va1 _ HK1.out.2.2.bs (by decide)).mono ?_
  rintro e Wb1 ⟨vb1, rfl, ob1, ⟨q2, rb1, kp1⟩, bb1⟩
  obtain ⟨kk0, hq0⟩ := kp1 _ _ _ k0 hq0
  clear k0
  have HB1 := hid (And.intro rb1 (And.intro ob1 (HK1.out.2.1.trans bb1)))
  clear rb1 ob1 bb1 HK1
  go_wp2_with fail
  refine (get_reply vb1 A2.1 Wb1 HB1.out.2.1.bs al.2.1).mono ?_
  intro e Wc1 hpost
  unfold RepPost at hpost
  rw [a2] at hpost
  obtain ⟨vd1, rfl, od1, bd1⟩ := (show ∃ v, e = .returned (.tuple #[.agg #[.int .i64 0, .int .i64 1, .bool true, v], .int .i64 0]) ∧ Own8 Wc1 Wb1.heap.size 5 v [] ∧ Below Wb1.heap.size Wb1 Wc1 from hpost)
  clear hpost
  obtain ⟨ad1, cd1, rfl⟩ := (show ∃ a c, vd1 = .slice a 0 c from od1.form)
  have be1 : Below Wc1.heap.size Wc1 (Wc1.alloc (.cells #[.int .i64 0, .int .i64 1, .bool true, .slice ad1 0 cd1] 88)) := (Below.refl _ Wc1).alloc (Nat.le_refl _) _
  have rc1 := (HB1.out.1.keep bd1).keep be1
  have bC1 := (HB1.out.2.2.trans (bd1.mono HB1.out.2.2.size))
  have n1 : W.heap.size ≤ Wc1.heap.size := bC1.size
  have bD1 := bC1.trans (be1.mono bC1.size)
  have k1 := Blk.new Wc1 #[.int .i64 0, .int .i64 1, .bool true, .slice ad1 0 cd1] 88
  have k0 := (kk0.keep bd1).keep be1
  clear kk0
  have hq1 : ¬ q2.all Wc1.heap.size := fun hq => by have := (HB1.out.1.keep bd1).at_.st.size hq; omega
  clear HB1 bd1 be1 bC1 od1 kp1
  go_wp2_with fail
  refine (law_asks 1 1 1 [98] (Wc1.alloc (.cells #[.int .i64 0, .int .i64 1, .bool true, .slice ad1 0 cd1] 88)) (by rfl) _ rfl).mono ?_
  rintro e Wa2 ⟨va2, rfl, oa2, ba2⟩
  have ra2 := rc1.keep ba2
  have bA2 := bD1.trans (ba2.mono bD1.size)
  have HK2 := hid (And.intro ra2 (And.intro bA2 oa2))
  have k0 := k0.keep ba2
  have k1 := k1.keep ba2
  clear ra2 bA2 oa2 ba2 rc1 bD1
  go_wp2_with fail
  refine (run_Ask HK2.out.1 HK2.out.2.1.size va2 _ HK2.out.2.2.bs (by decide)).mono ?_
  rintro e Wb2 ⟨vb2, rfl, ob2, ⟨q3, rb2, kp2⟩, bb2⟩
  obtain ⟨kk0, hq0⟩ := kp2 _ _ _ k0 hq0
  obtain ⟨kk1, hq1⟩ := kp2 _ _ _ k1 hq1
  clear k0 k1
  have HB2 := hid (And.intro rb2 (And.intro ob2 (HK2.out.2.1.trans bb2)))
  clear rb2 ob2 bb2 HK2
  go_wp2_with fail
  refine (get_reply vb2 A3.1 Wb2 HB2.out.2.1.bs al.2.2.1).mono ?_
  intro e Wc2 hpost
  unfold RepPost at hpost
  rw [a3] at hpost
  obtain ⟨vd2, rfl, od2, bd2⟩ := (show ∃ v, e = .returned (.tuple #[.agg #[.int .i64 30, .int .i64 1, .bool true, v], .int .i64 0]) ∧ Own8 Wc2 Wb2.heap.size 5 v [] ∧ Below Wb2.heap.size Wb2 Wc2 from hpost)
  clear hpost
  obtain ⟨ad2, cd2, rfl⟩ := (show ∃ a c, vd2 = .slice a 0 c from od2.form)
  have be2 : Below Wc2.heap.size Wc2 (Wc2.alloc (.cells #[.int .i64 30, .int .i64 1, .bool true, .slice ad2 0 cd2] 88)) := (Below.refl _ Wc2).alloc (Nat.le_refl _) _
  have rc2 := (HB2.out.1.keep bd2).keep be2
  have bC2 := (HB2.out.2.2.trans (bd2.mono HB2.out.2.2.size))
  have n2 : W.heap.size ≤ Wc2.heap.size := bC2.size
  have bD2 := bC2.trans (be2.mono bC2.size)
  have k2 := Blk.new Wc2 #[.int .i64 30, .int .i64 1, .bool true, .slice ad2 0 cd2] 88
  have k0 := (kk0.keep bd2).keep be2
  have k1 := (kk1.keep bd2).keep be2
  clear kk0 kk1
  have hq2 : ¬ q3.all Wc2.heap.size := fun hq => by have := (HB2.out.1.keep bd2).at_.st.size hq; omega
  clear HB2 bd2 be2 bC2 od2 kp2
  go_wp2_with fail
  refine (law_asks 4 1 0 [] (Wc2.alloc (.cells #[.int .i64 30, .int .i64 1, .bool true, .slice ad2 0 cd2] 88)) (by rfl) _ rfl).mono ?_
  rintro e Wa3 ⟨va3, rfl, oa3, ba3⟩
  have ra3 := rc2.keep ba3
  have bA3 := bD2.trans (ba3.mono bD2.size)
  have HK3 := hid (And.intro ra3 (And.intro bA3 oa3))
  have k0 := k0.keep ba3
  have k1 := k1.keep ba3
  have k2 := k2.keep ba3
  clear ra3 bA3 oa3 ba3 rc2 bD2
  go_wp2_with fail
  refine (run_Ask HK3.out.1 HK3.out.2.1.size va3 _ HK3.out.2.2.bs (by decide)).mono ?_
  rintro e Wb3 ⟨vb3, rfl, ob3, ⟨q4, rb3, kp3⟩, bb3⟩
  obtain ⟨kk0, hq0⟩ := kp3 _ _ _ k0 hq0
  obtain ⟨kk1, hq1⟩ := kp3 _ _ _ k1 hq1
  obtain ⟨kk2, hq2⟩ := kp3 _ _ _ k2 hq2
  clear k0 k1 k2
  have HB3 := hid (And.intro rb3 (And.intro ob3 (HK3.out.2.1.trans bb3)))
  clear rb3 ob3 bb3 HK3
  go_wp2_with fail
  refine (get_reply vb3 A4.1 Wb3 HB3.out.2.1.bs al.2.2.2).mono ?_
  intro e Wc3 hpost
  unfold RepPost at hpost
  rw [a4] at hpost
  obtain ⟨vd3, rfl, od3, bd3⟩ := (show ∃ v, e = .returned (.tuple #[.agg #[.int .i64 0, .int .i64 1, .bool true, v], .int .i64 0]) ∧ Own8 Wc3 Wb3.heap.size 5 v [97] ∧ Below Wb3.heap.size Wb3 Wc3 from hpost)
  clear hpost
  obtain ⟨ad3, cd3, rfl⟩ := (show ∃ a c, vd3 = .slice a 1 c from od3.form)
  have be3 : Below Wc3.heap.size Wc3 (Wc3.alloc (.cells #[.int .i64 0, .int .i64 1, .bool true, .slice ad3 1 cd3] 88)) := (Below.refl _ Wc3).alloc (Nat.le_refl _) _
  have rc3 := (HB3.out.1.keep bd3).keep be3
  have bC3 := (HB3.out.2.2.trans (bd3.mono HB3.out.2.2.size))
  have n3 : W.heap.size ≤ Wc3.heap.size := bC3.size
  have bD3 := bC3.trans (be3.mono bC3.size)
  have k3 := Blk.new Wc3 #[.int .i64 0, .int .i64 1, .bool true, .slice ad3 1 cd3] 88
  have k0 := (kk0.keep bd3).keep be3
  have k1 := (kk1.keep bd3).keep be3
  have k2 := (kk2.keep bd3).keep be3
  clear kk0 kk1 kk2
  have o3 := od3.bs.keep be3
  have hq3 : ¬ q4.all Wc3.heap.size := fun hq => by have := (HB3.out.1.keep bd3).at_.st.size hq; omega
  clear HB3 bd3 be3 bC3 od3 kp3
  go_wp2_with fail
  have c00 := k0.cell (o := 0) rfl
  have c01 := k0.cell (o := 1) rfl
  have c12 := k1.cell (o := 2) rfl
  have c20 := k2.cell (o := 0) rfl
  have c33 := k3.cell (o := 3) rfl
  have hcv := run_bytes_string (P := Tryz.prog) Tryz.underlying28 Tryz.underlying5 Tryz.underlying9 o3
  clear k0 k1 k2 k3 o3 rc3
  refine (law5_num _ _).mono ?_
  rintro e Wx ⟨rfl, hw⟩
  subst hw
  go_wp2_with fail
  refine (law5_num _ _).mono ?_
  rintro e Wx ⟨rfl, hw⟩
  subst hw
  go_wp2_with fail
  refine (law5_num _ _).mono ?_
  rintro e Wx ⟨rfl, hw⟩
  subst hw
  go_wp2_with fail
  refine (law5_num _ _).mono ?_
  rintro e Wx ⟨rfl, hw⟩
  subst hw
  go_wp2_with fail
  refine (law5_num _ _).mono ?_
  rintro e Wx ⟨rfl, hw⟩
  subst hw
  go_wp2_with fail
  refine (law5_num _ _).mono ?_
  rintro e Wx ⟨rfl, hw⟩
  subst hw
  go_wp2_with fail
  go_ret
  exact ⟨rfl, bD3⟩
end Go.Proofs.YtbofcocfcmlcaaaGreat
