import Derived.Test.YtbahjinlcbjikaaGreatMBsw
import Derived.Test.YtbahjinlcbjikaaGreatNodeG
import Derived.StillTailTactics
/-! Package node: a node in memory; what it does with a request. -/
namespace Go.Proofs.YtbahjinlcbjikaaGreat
open Go.RowKit

structure NodeAt (W : World) (n : Nat) (pv : Value) (q : StP) (S : St) (D : Dk) : Prop where
  cell : Blk W n #[pv, .pointer (some ⟨q.s, 0, none⟩)] 99
  st : StAt W q S D
  on : On S D
  out : ¬ q.all n
section
variable {W W' : World} {n : Nat} {pv : Value} {q q' : StP} {S S' : St} {D D' : Dk}
theorem NodeAt.keep (h : NodeAt W n pv q S D) (hb : Below W.heap.size W W') : NodeAt W' n pv q S D := ⟨h.cell.keep hb, h.st.keep hb, h.on, h.out⟩
theorem NodeAt.went (h : NodeAt W n pv q S D) (h1 : StAt W' q' S' D') (ho : On S' D') (hw : Went q q' W.heap.size) (hx : Ext q.own W W') : NodeAt W' n pv q' S' D' :=
  ⟨by rw [hw.1]; exact h.cell.ext hx (fun hc => h.out (.inl hc)), h1, ho, fun hc => (hw.2.2.2.2 _ hc).elim h.out (fun hl => by have := h.cell.lt; omega)⟩
end

/-- What a request does: the code, the data, the store, the disk. -/
def doF (S : St) (D : Dk) (k lo po : Int) (l : List UInt8) : Int × List UInt8 × St × Dk :=
  if k = 1 then (if po ≤ 4095 then ((putF S D lo po l false).1, [], (putF S D lo po l false).2.1, (putF S D lo po l false).2.2) else (1, [], S, D))
  else if k = 2 then (if po ≤ 4095 then ((putF S D lo po l true).1, [], (putF S D lo po l true).2.1, (putF S D lo po l true).2.2) else (1, [], S, D))
  else if k = 3 then ((sealF S D lo).1, [], (sealF S D lo).2.1, (sealF S D lo).2.2)
  else if k = 4 then (if po ≤ 4095 then ((getF S lo po).1, (getF S lo po).2, S, D) else (1, [], S, D))
  else if k = 6 then ((trimF S D lo po).1, [], (trimF S D lo po).2.1, (trimF S D lo po).2.2)
  else (0, [], S, D)
theorem doF_on {S : St} {D : Dk} (h : On S D) (k lo po : Int) (l : List UInt8) : On (doF S D k lo po l).2.2.1 (doF S D k lo po l).2.2.2 := by
  unfold doF
  split
  · split
    · exact putF_on h _ _ _ _
    · exact h
  split
  · split
    · exact putF_on h _ _ _ _
    · exact h
  split
  · exact sealF_on h _
  split
  · split <;> exact h
  split
  · exact trimF_on h _ _
  · exact h

def DonePost (W : World) (q : StP) (R : Int × List UInt8 × St × Dk) (e : Ending) (w' : World) : Prop :=
  ∃ dv, e = .returned (.tuple #[dv, .int .i64 R.1]) ∧ Own8 w' W.heap.size 5 dv R.2.1 ∧ (∃ q', StAt w' q' R.2.2.1 R.2.2.2 ∧ Went q q' W.heap.size) ∧ Ext q.own W w' ∧ W.heap.size < w'.heap.size

section
variable {W : World} {n : Nat} {pv : Value} {q : StP} {S : St} {D : Dk}
set_option maxRecDepth 100000 in
set_option maxHeartbeats 1600000 in
theorem store_Get_arg (h : StAt W q S D) (lo po : Int) (hp : 4095 < po) :
    Calls Tryz.prog 124 #[.pointer (some ⟨q.s, 0, none⟩), .int .i64 lo, .int .i64 po] W fun e w' => e = .returned (.tuple #[.slice none 0 0, .int .i64 1]) ∧ Below W.heap.size W w' := by
  have hmay := store_may h lo po 4095
  rw [if_neg (by omega)] at hmay
  go_enter Tryz.func124, Tryz.ntmps124
  go_wp2_with fail
  refine hmay.mono ?_
  rintro e W1 ⟨rfl, b1⟩
  clear hmay
  go_wp2_with fail
  go_ret2
  exact ⟨rfl, b1⟩

set_option maxRecDepth 100000 in
set_option maxHeartbeats 1600000 in
theorem h_write (h : NodeAt W n pv q S D) (lo po : Int) (v : Value) (l : List UInt8) (hv : Bs W v l) (hvo : ∀ g, v.ownBlock = some g → ¬ q.all g) (hl : l.length ≤ 65504) (l0 : 0 ≤ lo) (l1 : lo < 281474976710656) (p0 : 0 ≤ po) (p1 : po ≤ 4096) :
    Calls Tryz.prog 78 #[.pointer (some ⟨n, 0, none⟩), .agg #[.int .i64 1, .int .i64 lo, .int .i64 po, v]] W (DonePost W q (doF S D 1 lo po l)) := by
  obtain ⟨av, cv, rfl⟩ := hv.form
  have b1 : Below W.heap.size W (W.alloc (.cells #[.int .i64 1, .int .i64 lo, .int .i64 po, .slice av l.length cv] 55)) := (Below.refl _ W).alloc (Nat.le_refl _) _
  have bE := Blk.new W #[.int .i64 1, .int .i64 lo, .int .i64 po, .slice av l.length cv] 55
  have h1 := h.keep b1
  have hv1 := hv.keep b1
  have hlt : W.heap.size < (W.alloc (.cells #[.int .i64 1, .int .i64 lo, .int .i64 po, .slice av l.length cv] 55)).heap.size := by simp
  go_enter Tryz.func78, Tryz.ntmps78
  go_wp2_with fail
  generalize W.alloc (.cells #[.int .i64 1, .int .i64 lo, .int .i64 po, .slice av l.length cv] 55) = W1 at *
  have bd : Below W1.heap.size W1 W1.drew := (Below.refl _ W1).drew
  have h2 := h1.keep bd
  have hv2 := hv1.keep bd
  have b2 : Below W.heap.size W W1.drew := b1.drew
  have bE2 := bE.keep bd
  have hlt2 : W.heap.size < W1.drew.heap.size := hlt
  have e0 := bE2.cell (o := 0) rfl
  have e1 := bE2.cell (o := 1) rfl
  have e2 := bE2.cell (o := 2) rfl
  have e3 := bE2.cell (o := 3) rfl
  have n1 := h2.cell.cell (o := 1) rfl
  have H2 := hid (And.intro h2 (And.intro hv2 (And.intro b2 hlt2)))
  clear h1 hv1 b1 bE bd h hv hlt h2 hv2 b2 bE2 hlt2
  refine wp_region_still_tail 10 (by kernel_rfl) (by kernel_rfl) ?_
  simp only [List.take_succ_cons, List.take_zero, List.drop_succ_cons, List.drop_zero]
  repeat still_step
  refine wpStill_nil ?_
  change wpList _ _ _ _ _ W1.drew
  generalize W1.drew = W2 at *
  clear e0 e1 e2 e3 n1
  by_cases hp : po ≤ 4095
  · have hF := hid (show doF S D 1 lo po l = ((putF S D lo po l false).1, [], (putF S D lo po l false).2.1, (putF S D lo po l false).2.2) by unfold doF; rw [if_pos rfl, if_pos hp])
    have hP := hid (store_Put H2.out.1.st H2.out.1.on lo po _ l false H2.out.2.1 hvo (by omega) l0 l1 p0 hp)
    go_wp2_with fail
    refine hP.out.mono ?_
    rintro e w' hpost
    have HQ := hid hpost.2
    obtain ⟨rfl, _⟩ := hpost
    go_wp2_with fail
    go_ret2
    obtain ⟨⟨q', a1, a2⟩, a3⟩ := HQ.out
    rw [hF.out]
    exact ⟨_, rfl, Own8.nil _ _ _, ⟨q', a1, a2.le H2.out.2.2.1.size⟩, (Ext.ofBelow H2.out.2.2.1 : Ext q.own W _).trans' a3, Nat.lt_of_lt_of_le H2.out.2.2.2 a3.size⟩
  · have hF := hid (show doF S D 1 lo po l = (1, [], S, D) by unfold doF; rw [if_pos rfl, if_neg hp])
    have hP := hid (store_Put_arg H2.out.1.st lo po (.slice av l.length cv) false (by omega))
    go_wp2_with fail
    refine hP.out.mono ?_
    rintro e w' ⟨rfl, b3⟩
    go_wp2_with fail
    go_ret2
    rw [hF.out]
    exact ⟨_, rfl, Own8.nil _ _ _, ⟨q, H2.out.1.st.keep b3, Went.refl _ _⟩, Ext.ofBelow (H2.out.2.2.1.trans (b3.mono H2.out.2.2.1.size)), Nat.lt_of_lt_of_le H2.out.2.2.2 b3.size⟩

set_option maxRecDepth 100000 in
set_option maxHeartbeats 1600000 in
theorem h_repair (h : NodeAt W n pv q S D) (lo po : Int) (v : Value) (l : List UInt8) (hv : Bs W v l) (hvo : ∀ g, v.ownBlock = some g → ¬ q.all g) (hl : l.length ≤ 65504) (l0 : 0 ≤ lo) (l1 : lo < 281474976710656) (p0 : 0 ≤ po) (p1 : po ≤ 4096) :
    Calls Tryz.prog 79 #[.pointer (some ⟨n, 0, none⟩), .agg #[.int .i64 2, .int .i64 lo, .int .i64 po, v]] W (DonePost W q (doF S D 2 lo po l)) := by
  obtain ⟨av, cv, rfl⟩ := hv.form
  have b1 : Below W.heap.size W (W.alloc (.cells #[.int .i64 2, .int .i64 lo, .int .i64 po, .slice av l.length cv] 55)) := (Below.refl _ W).alloc (Nat.le_refl _) _
  have bE := Blk.new W #[.int .i64 2, .int .i64 lo, .int .i64 po, .slice av l.length cv] 55
  have h1 := h.keep b1
  have hv1 := hv.keep b1
  have hlt : W.heap.size < (W.alloc (.cells #[.int .i64 2, .int .i64 lo, .int .i64 po, .slice av l.length cv] 55)).heap.size := by simp
  go_enter Tryz.func79, Tryz.ntmps79
  go_wp2_with fail
  generalize W.alloc (.cells #[.int .i64 2, .int .i64 lo, .int .i64 po, .slice av l.length cv] 55) = W1 at *
  have bd : Below W1.heap.size W1 W1.drew := (Below.refl _ W1).drew
  have h2 := h1.keep bd
  have hv2 := hv1.keep bd
  have b2 : Below W.heap.size W W1.drew := b1.drew
  have bE2 := bE.keep bd
  have hlt2 : W.heap.size < W1.drew.heap.size := hlt
  have e0 := bE2.cell (o := 0) rfl
  have e1 := bE2.cell (o := 1) rfl
  have e2 := bE2.cell (o := 2) rfl
  have e3 := bE2.cell (o := 3) rfl
  have n1 := h2.cell.cell (o := 1) rfl
  have H2 := hid (And.intro h2 (And.intro hv2 (And.intro b2 hlt2)))
  clear h1 hv1 b1 bE bd h hv hlt h2 hv2 b2 bE2 hlt2
  refine wp_region_still_tail 10 (by kernel_rfl) (by kernel_rfl) ?_
  simp only [List.take_succ_cons, List.take_zero, List.drop_succ_cons, List.drop_zero]
  repeat still_step
  refine wpStill_nil ?_
  change wpList _ _ _ _ _ W1.drew
  generalize W1.drew = W2 at *
  clear e0 e1 e2 e3 n1
  by_cases hp : po ≤ 4095
  · have hF := hid (show doF S D 2 lo po l = ((putF S D lo po l true).1, [], (putF S D lo po l true).2.1, (putF S D lo po l true).2.2) by unfold doF; rw [if_neg (by decide), if_pos rfl, if_pos hp])
    have hP := hid (store_Put H2.out.1.st H2.out.1.on lo po _ l true H2.out.2.1 hvo (by omega) l0 l1 p0 hp)
    go_wp2_with fail
    refine hP.out.mono ?_
    rintro e w' hpost
    have HQ := hid hpost.2
    obtain ⟨rfl, _⟩ := hpost
    go_wp2_with fail
    go_ret2
    obtain ⟨⟨q', a1, a2⟩, a3⟩ := HQ.out
    rw [hF.out]
    exact ⟨_, rfl, Own8.nil _ _ _, ⟨q', a1, a2.le H2.out.2.2.1.size⟩, (Ext.ofBelow H2.out.2.2.1 : Ext q.own W _).trans' a3, Nat.lt_of_lt_of_le H2.out.2.2.2 a3.size⟩
  · have hF := hid (show doF S D 2 lo po l = (1, [], S, D) by unfold doF; rw [if_neg (by decide), if_pos rfl, if_neg hp])
    have hP := hid (store_Put_arg H2.out.1.st lo po (.slice av l.length cv) true (by omega))
    go_wp2_with fail
    refine hP.out.mono ?_
    rintro e w' ⟨rfl, b3⟩
    go_wp2_with fail
    go_ret2
    rw [hF.out]
    exact ⟨_, rfl, Own8.nil _ _ _, ⟨q, H2.out.1.st.keep b3, Went.refl _ _⟩, Ext.ofBelow (H2.out.2.2.1.trans (b3.mono H2.out.2.2.1.size)), Nat.lt_of_lt_of_le H2.out.2.2.2 b3.size⟩

set_option maxRecDepth 100000 in
set_option maxHeartbeats 1600000 in
theorem h_seal (h : NodeAt W n pv q S D) (lo po : Int) (v : Value) (l : List UInt8) (hv : Bs W v l) (hvo : ∀ g, v.ownBlock = some g → ¬ q.all g) (hl : l.length ≤ 65504) (l0 : 0 ≤ lo) (l1 : lo < 281474976710656) (p0 : 0 ≤ po) (p1 : po ≤ 4096) :
    Calls Tryz.prog 80 #[.pointer (some ⟨n, 0, none⟩), .agg #[.int .i64 3, .int .i64 lo, .int .i64 po, v]] W (DonePost W q (doF S D 3 lo po l)) := by
  obtain ⟨av, cv, rfl⟩ := hv.form
  have b1 : Below W.heap.size W (W.alloc (.cells #[.int .i64 3, .int .i64 lo, .int .i64 po, .slice av l.length cv] 55)) := (Below.refl _ W).alloc (Nat.le_refl _) _
  have bE := Blk.new W #[.int .i64 3, .int .i64 lo, .int .i64 po, .slice av l.length cv] 55
  have h1 := h.keep b1
  have hv1 := hv.keep b1
  have hlt : W.heap.size < (W.alloc (.cells #[.int .i64 3, .int .i64 lo, .int .i64 po, .slice av l.length cv] 55)).heap.size := by simp
  go_enter Tryz.func80, Tryz.ntmps80
  go_wp2_with fail
  generalize W.alloc (.cells #[.int .i64 3, .int .i64 lo, .int .i64 po, .slice av l.length cv] 55) = W1 at *
  have bd : Below W1.heap.size W1 W1.drew := (Below.refl _ W1).drew
  have h2 := h1.keep bd
  have hv2 := hv1.keep bd
  have b2 : Below W.heap.size W W1.drew := b1.drew
  have bE2 := bE.keep bd
  have hlt2 : W.heap.size < W1.drew.heap.size := hlt
  have e0 := bE2.cell (o := 0) rfl
  have e1 := bE2.cell (o := 1) rfl
  have e2 := bE2.cell (o := 2) rfl
  have e3 := bE2.cell (o := 3) rfl
  have n1 := h2.cell.cell (o := 1) rfl
  have H2 := hid (And.intro h2 (And.intro hv2 (And.intro b2 hlt2)))
  clear h1 hv1 b1 bE bd h hv hlt h2 hv2 b2 bE2 hlt2
  refine wp_region_still_tail 6 (by kernel_rfl) (by kernel_rfl) ?_
  simp only [List.take_succ_cons, List.take_zero, List.drop_succ_cons, List.drop_zero]
  repeat still_step
  refine wpStill_nil ?_
  change wpList _ _ _ _ _ W1.drew
  generalize W1.drew = W2 at *
  clear e0 e1 e2 e3 n1
  have hF := hid (show doF S D 3 lo po l = ((sealF S D lo).1, [], (sealF S D lo).2.1, (sealF S D lo).2.2) by unfold doF; rw [if_neg (by decide), if_neg (by decide), if_pos rfl])
  have hP := hid (store_Seal H2.out.1.st H2.out.1.on lo l0 l1)
  go_wp2_with fail
  refine hP.out.mono ?_
  rintro e w' hpost
  have HQ := hid hpost.2
  obtain ⟨rfl, _⟩ := hpost
  go_wp2_with fail
  go_ret2
  obtain ⟨⟨q', a1, a2⟩, a3⟩ := HQ.out
  rw [hF.out]
  exact ⟨_, rfl, Own8.nil _ _ _, ⟨q', a1, a2.le H2.out.2.2.1.size⟩, (Ext.ofBelow H2.out.2.2.1 : Ext q.own W _).trans' a3, Nat.lt_of_lt_of_le H2.out.2.2.2 a3.size⟩

set_option maxRecDepth 100000 in
set_option maxHeartbeats 1600000 in
theorem h_trim (h : NodeAt W n pv q S D) (lo po : Int) (v : Value) (l : List UInt8) (hv : Bs W v l) (hvo : ∀ g, v.ownBlock = some g → ¬ q.all g) (hl : l.length ≤ 65504) (l0 : 0 ≤ lo) (l1 : lo < 281474976710656) (p0 : 0 ≤ po) (p1 : po ≤ 4096) :
    Calls Tryz.prog 83 #[.pointer (some ⟨n, 0, none⟩), .agg #[.int .i64 6, .int .i64 lo, .int .i64 po, v]] W (DonePost W q (doF S D 6 lo po l)) := by
  obtain ⟨av, cv, rfl⟩ := hv.form
  have b1 : Below W.heap.size W (W.alloc (.cells #[.int .i64 6, .int .i64 lo, .int .i64 po, .slice av l.length cv] 55)) := (Below.refl _ W).alloc (Nat.le_refl _) _
  have bE := Blk.new W #[.int .i64 6, .int .i64 lo, .int .i64 po, .slice av l.length cv] 55
  have h1 := h.keep b1
  have hv1 := hv.keep b1
  have hlt : W.heap.size < (W.alloc (.cells #[.int .i64 6, .int .i64 lo, .int .i64 po, .slice av l.length cv] 55)).heap.size := by simp
  go_enter Tryz.func83, Tryz.ntmps83
  go_wp2_with fail
  generalize W.alloc (.cells #[.int .i64 6, .int .i64 lo, .int .i64 po, .slice av l.length cv] 55) = W1 at *
  have bd : Below W1.heap.size W1 W1.drew := (Below.refl _ W1).drew
  have h2 := h1.keep bd
  have hv2 := hv1.keep bd
  have b2 : Below W.heap.size W W1.drew := b1.drew
  have bE2 := bE.keep bd
  have hlt2 : W.heap.size < W1.drew.heap.size := hlt
  have e0 := bE2.cell (o := 0) rfl
  have e1 := bE2.cell (o := 1) rfl
  have e2 := bE2.cell (o := 2) rfl
  have e3 := bE2.cell (o := 3) rfl
  have n1 := h2.cell.cell (o := 1) rfl
  have H2 := hid (And.intro h2 (And.intro hv2 (And.intro b2 hlt2)))
  clear h1 hv1 b1 bE bd h hv hlt h2 hv2 b2 bE2 hlt2
  refine wp_region_still_tail 8 (by kernel_rfl) (by kernel_rfl) ?_
  simp only [List.take_succ_cons, List.take_zero, List.drop_succ_cons, List.drop_zero]
  repeat still_step
  refine wpStill_nil ?_
  change wpList _ _ _ _ _ W1.drew
  generalize W1.drew = W2 at *
  clear e0 e1 e2 e3 n1
  have hF := hid (show doF S D 6 lo po l = ((trimF S D lo po).1, [], (trimF S D lo po).2.1, (trimF S D lo po).2.2) by unfold doF; rw [if_neg (by decide), if_neg (by decide), if_neg (by decide), if_neg (by decide), if_pos rfl])
  have hP := hid (store_Trim H2.out.1.st H2.out.1.on lo po l0 l1 p0 p1)
  go_wp2_with fail
  refine hP.out.mono ?_
  rintro e w' hpost
  have HQ := hid hpost.2
  obtain ⟨rfl, _⟩ := hpost
  go_wp2_with fail
  go_ret2
  obtain ⟨⟨q', a1, a2⟩, a3⟩ := HQ.out
  rw [hF.out]
  exact ⟨_, rfl, Own8.nil _ _ _, ⟨q', a1, a2.le H2.out.2.2.1.size⟩, (Ext.ofBelow H2.out.2.2.1 : Ext q.own W _).trans' a3, Nat.lt_of_lt_of_le H2.out.2.2.2 a3.size⟩

set_option maxRecDepth 100000 in
set_option maxHeartbeats 1600000 in
theorem h_read (h : NodeAt W n pv q S D) (lo po : Int) (a : Option Addr) (l : List UInt8) (c : Nat) (l0 : 0 ≤ lo) (l1 : lo < 281474976710656) (p0 : 0 ≤ po) (p1 : po ≤ 4096) :
    Calls Tryz.prog 81 #[.pointer (some ⟨n, 0, none⟩), .agg #[.int .i64 4, .int .i64 lo, .int .i64 po, .slice a l.length c]] W (DonePost W q (doF S D 4 lo po l)) := by
  have b1 : Below W.heap.size W (W.alloc (.cells #[.int .i64 4, .int .i64 lo, .int .i64 po, .slice a l.length c] 55)) := (Below.refl _ W).alloc (Nat.le_refl _) _
  have HE := hid (Blk.new W #[.int .i64 4, .int .i64 lo, .int .i64 po, .slice a l.length c] 55)
  have H1 := hid (And.intro (h.keep b1) (And.intro b1 (show W.heap.size < (W.alloc (.cells #[.int .i64 4, .int .i64 lo, .int .i64 po, .slice a l.length c] 55)).heap.size by simp)))
  clear h b1
  go_enter Tryz.func81, Tryz.ntmps81
  go_wp2_with fail
  generalize W.alloc (.cells #[.int .i64 4, .int .i64 lo, .int .i64 po, .slice a l.length c] 55) = W1 at *
  by_cases hp : po ≤ 4095
  · have hF := hid (show doF S D 4 lo po l = ((getF S lo po).1, (getF S lo po).2, S, D) by unfold doF; rw [if_neg (by decide), if_neg (by decide), if_neg (by decide), if_pos rfl, if_pos hp])
    refine wp_region_inv rfl Grows (fun i v x => match i with
        | 0 => v = .pointer (some ⟨n, 0, none⟩)
        | 1 => v = .pointer (some ⟨n, 0, none⟩)
        | 2 => v = .pointer (some ⟨n, 1, none⟩)
        | 3 => v = .pointer (some ⟨q.s, 0, none⟩)
        | 4 => v = .pointer (some ⟨W.heap.size, 1, none⟩)
        | 5 => v = .int .i64 lo
        | 6 => v = .pointer (some ⟨W.heap.size, 2, none⟩)
        | 7 => v = .int .i64 po
        | 8 => ∃ v9, v = .tuple #[v9, .int .i64 (getF S lo po).1] ∧ Own8 x W.heap.size 5 v9 (getF S lo po).2
        | 9 => Own8 x W.heap.size 5 v (getF S lo po).2
        | 10 => v = .int .i64 (getF S lo po).1
        | 11 => Own8 x W.heap.size 5 v (getF S lo po).2
        | 12 => v = .int .i64 (getF S lo po).1
        | _ => True) (by kernel_rfl) (Grows.refl _) Grows.trans ?rstab ?rsteps ?rfin
    case rstab =>
      intro i v x y hg h
      match i with
      | 0 | 1 | 2 | 3 | 4 | 5 | 6 | 7 | 10 | 12 => exact h
      | 8 => exact (by obtain ⟨v9, e9, h9⟩ := h; exact ⟨v9, e9, h9.keep hg⟩)
      | 9 => exact Own8.keep h hg
      | 11 => exact Own8.keep h hg
      | n + 13 => trivial
    case rsteps =>
      refine ⟨?_, ?_, ?_, ?_, ?_, ?_, ?_, ?_, ?_, ?_, ?_, ?_, ?_, trivial⟩
      · intro a x hA
        have t0 := hA.at_ 0 (by rfl) rfl
        refine step_value (w' := x) (v := .pointer (some ⟨n, 0, none⟩)) ?_ (Grows.refl _) ?_
        · go_simp
        · rfl
      · intro a x hA
        have t6 : a.tmps[6]?.getD undef = .pointer (some ⟨n, 0, none⟩) := hA.dep_ ⟨0, .data⟩ (by simp) _ 6 rfl rfl
        refine step_value (w' := x) (v := .pointer (some ⟨n, 0, none⟩)) ?_ (Grows.refl _) ?_
        · go_simp
        · rfl
      · intro a x hA
        have t7 : a.tmps[7]?.getD undef = .pointer (some ⟨n, 0, none⟩) := hA.dep_ ⟨1, .data⟩ (by simp) _ 7 rfl rfl
        refine step_value (w' := x) (v := .pointer (some ⟨n, 1, none⟩)) ?_ (Grows.refl _) ?_
        · go_simp
        · rfl
      · intro a x hA
        have t8 : a.tmps[8]?.getD undef = .pointer (some ⟨n, 1, none⟩) := hA.dep_ ⟨2, .data⟩ (by simp) _ 8 rfl rfl
        have hn := H1.out.1.keep hA.grown
        have n1 := hn.cell.cell (o := 1) rfl
        clear hn
        refine step_value (w' := x) (v := .pointer (some ⟨q.s, 0, none⟩)) ?_ (Grows.refl _) rfl
        go_simp
      · intro a x hA
        have t3 := hA.at_ 3 (by rfl) rfl
        refine step_value (w' := x) (v := .pointer (some ⟨W.heap.size, 1, none⟩)) ?_ (Grows.refl _) ?_
        · go_simp
        · rfl
      · intro a x hA
        have t10 : a.tmps[10]?.getD undef = .pointer (some ⟨W.heap.size, 1, none⟩) := hA.dep_ ⟨4, .data⟩ (by simp) _ 10 rfl rfl
        have hb := HE.out.keep hA.grown
        have e1 := hb.cell (o := 1) rfl
        clear hb
        refine step_value (w' := x) (v := .int .i64 lo) ?_ (Grows.refl _) rfl
        go_simp
      · intro a x hA
        have t3 := hA.at_ 3 (by rfl) rfl
        refine step_value (w' := x) (v := .pointer (some ⟨W.heap.size, 2, none⟩)) ?_ (Grows.refl _) ?_
        · go_simp
        · rfl
      · intro a x hA
        have t12 : a.tmps[12]?.getD undef = .pointer (some ⟨W.heap.size, 2, none⟩) := hA.dep_ ⟨6, .data⟩ (by simp) _ 12 rfl rfl
        have hb := HE.out.keep hA.grown
        have e2 := hb.cell (o := 2) rfl
        clear hb
        refine step_value (w' := x) (v := .int .i64 po) ?_ (Grows.refl _) rfl
        go_simp
      · intro a x hA
        have t9 : a.tmps[9]?.getD undef = .pointer (some ⟨q.s, 0, none⟩) := hA.dep_ ⟨3, .data⟩ (by simp) _ 9 rfl rfl
        have t11 : a.tmps[11]?.getD undef = .int .i64 lo := hA.dep_ ⟨5, .data⟩ (by simp) _ 11 rfl rfl
        have t13 : a.tmps[13]?.getD undef = .int .i64 po := hA.dep_ ⟨7, .data⟩ (by simp) _ 13 rfl rfl
        have hn := H1.out.1.keep hA.grown
        have hs := Nat.le_trans H1.out.2.1.size hA.grow.size
        refine step_call (f := 124) (args := #[.pointer (some ⟨q.s, 0, none⟩), .int .i64 lo, .int .i64 po]) (by clear hn; go_simp) ((store_Get hn.st lo po l0 l1 p0 hp).mono (by
          rintro e w' ⟨v9, rfl, o9, b9⟩
          exact ⟨_, rfl, b9, v9, rfl, o9.mono hs⟩))
      · intro a x hA
        have t14 : ∃ v9, (a.tmps[14]?.getD undef) = .tuple #[v9, .int .i64 (getF S lo po).1] ∧ Own8 x W.heap.size 5 v9 (getF S lo po).2 := hA.dep_ ⟨8, .data⟩ (by simp) _ 14 rfl rfl
        obtain ⟨v9, e9, h9⟩ := t14
        exact step_value (w' := x) (v := v9) (by clear h9; go_simp) (Grows.refl _) h9
      · intro a x hA
        have t14 : ∃ v9, (a.tmps[14]?.getD undef) = .tuple #[v9, .int .i64 (getF S lo po).1] ∧ Own8 x W.heap.size 5 v9 (getF S lo po).2 := hA.dep_ ⟨8, .data⟩ (by simp) _ 14 rfl rfl
        obtain ⟨v9, e9, h9⟩ := t14
        refine step_value (w' := x) (v := .int .i64 (getF S lo po).1) ?_ (Grows.refl _) rfl
        clear h9
        go_simp
      · intro a x hA
        have t15 : Own8 x W.heap.size 5 (a.tmps[15]?.getD undef) (getF S lo po).2 := hA.dep_ ⟨9, .data⟩ (by simp) _ 15 rfl rfl
        exact step_value (w' := x) (v := a.tmps[15]?.getD undef) (by go_simp) (Grows.refl _) t15
      · intro a x hA
        have t16 : a.tmps[16]?.getD undef = .int .i64 (getF S lo po).1 := hA.dep_ ⟨10, .data⟩ (by simp) _ 16 rfl rfl
        refine step_value (w' := x) (v := .int .i64 (getF S lo po).1) ?_ (Grows.refl _) ?_
        · go_simp
        · rfl
    case rfin =>
      intro y W' hg hV
      simp only [AllVals] at hV
      obtain ⟨_, _, _, _, _, _, _, _, _, _, _, hA9, hB9, _⟩ := hV
      have bw := Below.trans (below_of_drewN _ W1 1) hg
      have hn := H1.out.1.keep bw
      have hbW := H1.out.2.1.trans (bw.mono H1.out.2.1.size)
      have hlt := Nat.lt_of_lt_of_le H1.out.2.2 bw.size
      clear hg bw
      simp only [putAll, Act.put, List.setIfInBounds_toArray, List.set_cons_zero, List.set_cons_succ]
      rw [hB9]
      clear hB9
      have HZ := hid (And.intro hn (And.intro hbW (And.intro hlt hA9)))
      clear hn hbW hlt hA9
      go_wp2_with fail
      go_ret2
      rw [hF.out]
      exact ⟨_, rfl, HZ.out.2.2.2, ⟨q, HZ.out.1.st, Went.refl _ _⟩, Ext.ofBelow HZ.out.2.1, HZ.out.2.2.1⟩
  · have hF := hid (show doF S D 4 lo po l = (1, [], S, D) by unfold doF; rw [if_neg (by decide), if_neg (by decide), if_neg (by decide), if_pos rfl, if_neg hp])
    refine wp_region_inv rfl Grows (fun i v x => match i with
        | 0 => v = .pointer (some ⟨n, 0, none⟩)
        | 1 => v = .pointer (some ⟨n, 0, none⟩)
        | 2 => v = .pointer (some ⟨n, 1, none⟩)
        | 3 => v = .pointer (some ⟨q.s, 0, none⟩)
        | 4 => v = .pointer (some ⟨W.heap.size, 1, none⟩)
        | 5 => v = .int .i64 lo
        | 6 => v = .pointer (some ⟨W.heap.size, 2, none⟩)
        | 7 => v = .int .i64 po
        | 8 => ∃ v9, v = .tuple #[v9, .int .i64 1] ∧ Own8 x W.heap.size 5 v9 []
        | 9 => Own8 x W.heap.size 5 v []
        | 10 => v = .int .i64 1
        | 11 => Own8 x W.heap.size 5 v []
        | 12 => v = .int .i64 1
        | _ => True) (by kernel_rfl) (Grows.refl _) Grows.trans ?rstab ?rsteps ?rfin
    case rstab =>
      intro i v x y hg h
      match i with
      | 0 | 1 | 2 | 3 | 4 | 5 | 6 | 7 | 10 | 12 => exact h
      | 8 => exact (by obtain ⟨v9, e9, h9⟩ := h; exact ⟨v9, e9, h9.keep hg⟩)
      | 9 => exact Own8.keep h hg
      | 11 => exact Own8.keep h hg
      | n + 13 => trivial
    case rsteps =>
      refine ⟨?_, ?_, ?_, ?_, ?_, ?_, ?_, ?_, ?_, ?_, ?_, ?_, ?_, trivial⟩
      · intro a x hA
        have t0 := hA.at_ 0 (by rfl) rfl
        refine step_value (w' := x) (v := .pointer (some ⟨n, 0, none⟩)) ?_ (Grows.refl _) ?_
        · go_simp
        · rfl
      · intro a x hA
        have t6 : a.tmps[6]?.getD undef = .pointer (some ⟨n, 0, none⟩) := hA.dep_ ⟨0, .data⟩ (by simp) _ 6 rfl rfl
        refine step_value (w' := x) (v := .pointer (some ⟨n, 0, none⟩)) ?_ (Grows.refl _) ?_
        · go_simp
        · rfl
      · intro a x hA
        have t7 : a.tmps[7]?.getD undef = .pointer (some ⟨n, 0, none⟩) := hA.dep_ ⟨1, .data⟩ (by simp) _ 7 rfl rfl
        refine step_value (w' := x) (v := .pointer (some ⟨n, 1, none⟩)) ?_ (Grows.refl _) ?_
        · go_simp
        · rfl
      · intro a x hA
        have t8 : a.tmps[8]?.getD undef = .pointer (some ⟨n, 1, none⟩) := hA.dep_ ⟨2, .data⟩ (by simp) _ 8 rfl rfl
        have hn := H1.out.1.keep hA.grown
        have n1 := hn.cell.cell (o := 1) rfl
        clear hn
        refine step_value (w' := x) (v := .pointer (some ⟨q.s, 0, none⟩)) ?_ (Grows.refl _) rfl
        go_simp
      · intro a x hA
        have t3 := hA.at_ 3 (by rfl) rfl
        refine step_value (w' := x) (v := .pointer (some ⟨W.heap.size, 1, none⟩)) ?_ (Grows.refl _) ?_
        · go_simp
        · rfl
      · intro a x hA
        have t10 : a.tmps[10]?.getD undef = .pointer (some ⟨W.heap.size, 1, none⟩) := hA.dep_ ⟨4, .data⟩ (by simp) _ 10 rfl rfl
        have hb := HE.out.keep hA.grown
        have e1 := hb.cell (o := 1) rfl
        clear hb
        refine step_value (w' := x) (v := .int .i64 lo) ?_ (Grows.refl _) rfl
        go_simp
      · intro a x hA
        have t3 := hA.at_ 3 (by rfl) rfl
        refine step_value (w' := x) (v := .pointer (some ⟨W.heap.size, 2, none⟩)) ?_ (Grows.refl _) ?_
        · go_simp
        · rfl
      · intro a x hA
        have t12 : a.tmps[12]?.getD undef = .pointer (some ⟨W.heap.size, 2, none⟩) := hA.dep_ ⟨6, .data⟩ (by simp) _ 12 rfl rfl
        have hb := HE.out.keep hA.grown
        have e2 := hb.cell (o := 2) rfl
        clear hb
        refine step_value (w' := x) (v := .int .i64 po) ?_ (Grows.refl _) rfl
        go_simp
      · intro a x hA
        have t9 : a.tmps[9]?.getD undef = .pointer (some ⟨q.s, 0, none⟩) := hA.dep_ ⟨3, .data⟩ (by simp) _ 9 rfl rfl
        have t11 : a.tmps[11]?.getD undef = .int .i64 lo := hA.dep_ ⟨5, .data⟩ (by simp) _ 11 rfl rfl
        have t13 : a.tmps[13]?.getD undef = .int .i64 po := hA.dep_ ⟨7, .data⟩ (by simp) _ 13 rfl rfl
        have hn := H1.out.1.keep hA.grown
        have hs := Nat.le_trans H1.out.2.1.size hA.grow.size
        refine step_call (f := 124) (args := #[.pointer (some ⟨q.s, 0, none⟩), .int .i64 lo, .int .i64 po]) (by clear hn; go_simp) ((store_Get_arg hn.st lo po (by omega)).mono (by
          rintro e w' ⟨rfl, b9⟩
          exact ⟨_, rfl, b9, _, rfl, Own8.nil _ _ _⟩))
      · intro a x hA
        have t14 : ∃ v9, (a.tmps[14]?.getD undef) = .tuple #[v9, .int .i64 1] ∧ Own8 x W.heap.size 5 v9 [] := hA.dep_ ⟨8, .data⟩ (by simp) _ 14 rfl rfl
        obtain ⟨v9, e9, h9⟩ := t14
        exact step_value (w' := x) (v := v9) (by clear h9; go_simp) (Grows.refl _) h9
      · intro a x hA
        have t14 : ∃ v9, (a.tmps[14]?.getD undef) = .tuple #[v9, .int .i64 1] ∧ Own8 x W.heap.size 5 v9 [] := hA.dep_ ⟨8, .data⟩ (by simp) _ 14 rfl rfl
        obtain ⟨v9, e9, h9⟩ := t14
        refine step_value (w' := x) (v := .int .i64 1) ?_ (Grows.refl _) rfl
        clear h9
        go_simp
      · intro a x hA
        have t15 : Own8 x W.heap.size 5 (a.tmps[15]?.getD undef) [] := hA.dep_ ⟨9, .data⟩ (by simp) _ 15 rfl rfl
        exact step_value (w' := x) (v := a.tmps[15]?.getD undef) (by go_simp) (Grows.refl _) t15
      · intro a x hA
        have t16 : a.tmps[16]?.getD undef = .int .i64 1 := hA.dep_ ⟨10, .data⟩ (by simp) _ 16 rfl rfl
        refine step_value (w' := x) (v := .int .i64 1) ?_ (Grows.refl _) ?_
        · go_simp
        · rfl
    case rfin =>
      intro y W' hg hV
      simp only [AllVals] at hV
      obtain ⟨_, _, _, _, _, _, _, _, _, _, _, hA9, hB9, _⟩ := hV
      have bw := Below.trans (below_of_drewN _ W1 1) hg
      have hn := H1.out.1.keep bw
      have hbW := H1.out.2.1.trans (bw.mono H1.out.2.1.size)
      have hlt := Nat.lt_of_lt_of_le H1.out.2.2 bw.size
      clear hg bw
      simp only [putAll, Act.put, List.setIfInBounds_toArray, List.set_cons_zero, List.set_cons_succ]
      rw [hB9]
      clear hB9
      have HZ := hid (And.intro hn (And.intro hbW (And.intro hlt hA9)))
      clear hn hbW hlt hA9
      go_wp2_with fail
      go_ret2
      rw [hF.out]
      exact ⟨_, rfl, HZ.out.2.2.2, ⟨q, HZ.out.1.st, Went.refl _ _⟩, Ext.ofBelow HZ.out.2.1, HZ.out.2.2.1⟩

set_option maxRecDepth 100000 in
set_option maxHeartbeats 1600000 in
theorem h_look (h : NodeAt W n pv q S D) (lo po : Int) (a : Option Addr) (l : List UInt8) (c : Nat) :
    Calls Tryz.prog 82 #[.pointer (some ⟨n, 0, none⟩), .agg #[.int .i64 5, .int .i64 lo, .int .i64 po, .slice a l.length c]] W (DonePost W q (doF S D 5 lo po l)) := by
  have hF := hid (show doF S D 5 lo po l = (0, [], S, D) by unfold doF; rw [if_neg (by decide), if_neg (by decide), if_neg (by decide), if_neg (by decide), if_neg (by decide)])
  have b1 : Below W.heap.size W (W.alloc (.cells #[.int .i64 5, .int .i64 lo, .int .i64 po, .slice a l.length c] 55)) := (Below.refl _ W).alloc (Nat.le_refl _) _
  have h1 := hid (h.keep b1)
  go_enter Tryz.func82, Tryz.ntmps82
  go_wp2_with fail
  go_ret2
  rw [hF.out]
  exact ⟨_, rfl, Own8.nil _ _ _, ⟨q, h1.out.st, Went.refl _ _⟩, Ext.ofBelow b1, by simp⟩
end

end Go.Proofs.YtbahjinlcbjikaaGreat
