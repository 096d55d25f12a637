import Derived.Test.YtnbeagcmfcdklaaGreatSWrite
/-! Package store, on: write, where no blocks are left. -/
namespace Go.Proofs.YtnbeagcmfcdklaaGreat
open Go.RowKit
attribute [local go_sem] Oper.semAt_some

section
variable {W : World} {q : StP} {S S1 : St} {D : Dk}

set_option maxRecDepth 100000 in
set_option maxHeartbeats 1600000 in
theorem store_write_full (h : StAt W q S D) (kd lo po : Int) (v : Value) (l : List UInt8) (hv : Bs W v l) (hl : l.length ≤ 65536)
    (hk0 : 0 ≤ kd) (hk1 : kd ≤ 255) (l0 : 0 ≤ lo) (l1 : lo < 281474976710656) (p0 : 0 ≤ po) (p1 : po < 281474976710656)
    (hfit : ¬ S.fin + chunks (entryB kd lo po l) ≤ D.texts.length) :
    Calls Tryz.prog 142 #[.pointer (some ⟨q.s, 0, none⟩), .agg #[.int .i64 kd, .int .i64 lo, .int .i64 po, v]] W fun e w' => e = .returned (.int .i64 7) ∧ Below W.heap.size W w' := by
  obtain ⟨av, cv, rfl⟩ := hv.form
  obtain ⟨EB, hEB⟩ : ∃ EB, EB = entryB kd lo po l := ⟨_, rfl⟩
  rw [← hEB] at hfit
  obtain ⟨W1, hW1⟩ : ∃ W1, W.alloc (.cells #[.pointer (some ⟨q.s, 0, none⟩)] 72) = W1 := ⟨_, rfl⟩
  obtain ⟨W2, hW2⟩ : ∃ W2, W1.alloc (.cells #[.int .i64 kd, .int .i64 lo, .int .i64 po, .slice av l.length cv] 176) = W2 := ⟨_, rfl⟩
  have s1 : W1.heap.size = W.heap.size + 1 := by rw [← hW1]; simp
  have s2 : W2.heap.size = W.heap.size + 2 := by rw [← hW2]; simp [s1]
  have b2 : Below W.heap.size W W2 := by rw [← hW2, ← hW1]; exact ((Below.refl _ W).alloc (Nat.le_refl _) _).alloc (by simp) _
  have r0 : Blk W2 W.heap.size #[.pointer (some ⟨q.s, 0, none⟩)] 72 := by rw [← hW2, ← hW1]; exact (Blk.new W _ _).alloc _
  have r1 : Blk W2 (W.heap.size + 1) #[.int .i64 kd, .int .i64 lo, .int .i64 po, .slice av l.length cv] 176 := by rw [← hW2]; exact Blk.new' W1 _ s1.symm _ _
  obtain ⟨W3, hW3⟩ : ∃ W3, W2.alloc (.cells #[.int .i64 0] 27) = W3 := ⟨_, rfl⟩
  have s3 : W3.heap.size = W.heap.size + 3 := by rw [← hW3]; simp [s2]
  have r2 : Blk W3 (W.heap.size + 2) #[.int .i64 0] 27 := by rw [← hW3]; exact Blk.new' W2 _ s2.symm _ _
  have b3 : Below W2.heap.size W2 W3 := by rw [← hW3]; exact (Below.refl _ W2).alloc (Nat.le_refl _) _
  have r0 := r0.keep b3
  have r1 := r1.keep b3
  have b4 : Below W.heap.size W W3 := b2.trans (b3.mono b2.size)
  have e0 := r1.cell (o := 0) rfl
  have e1 := r1.cell (o := 1) rfl
  have e2 := r1.cell (o := 2) rfl
  have e3 := r1.cell (o := 3) rfl
  refine callsIn_wide.1 (callsIn_of_wp_marks (n := 0) Tryz.func142 rfl trivial ?_)
  simp only [Tryz.ntmps142, List.size_toArray, List.length_cons, List.length_nil, Nat.reduceAdd, Nat.reduceSub, Array.replicate_succ, Array.replicate_zero, List.push_toArray, List.append_toArray, List.nil_append, List.cons_append]
  gi_wp2
  refine ⟨trivial, rfl, callsIn_wide.2 ((entry_bytes kd lo po _ l W3 hk0 hk1 l0 l1 p0 p1 (hv.keep b4) (by omega)).mono ?_)⟩
  rintro e W4 ⟨v5, rfl, o5, b5⟩
  rw [← hEB] at o5
  have hEl : EB.length ≤ l.length + 13 := by rw [hEB]; simp [entryB, lowB_length]; omega
  obtain ⟨a5, c5, rfl⟩ := o5.form
  have q0 := r0.keep b5
  have q1 := r1.keep b5
  have q2 := r2.keep b5
  have h4 := (h.keep b4).keep b5
  have b6 : Below W.heap.size W W4 := b4.trans (b5.mono b4.size)
  have hs4 := b5.size
  have hdv : ((EB.length : Int) + 240 - 1) / 240 = (chunks EB : Int) := by unfold chunks; omega
  have hd2 : Int.tdiv ((EB.length : Int) + 240 - 1) 240 = (chunks EB : Int) := by rw [Int.tdiv_eq_ediv_of_nonneg (by omega)]; exact hdv
  have z0 := q0.cell (o := 0) rfl
  have hmost := h.disk.most
  have hch : chunks EB ≤ 274 := by unfold chunks; omega
  have hEBh := hid hEB
  clear hEB hW1 hW2 hW3 s1 s2 r0 r1 r2 e0 e1 e2 e3 b2 b3 b4
  gi_wp2
  refine ⟨trivial, rfl, callsIn_wide.2 ((store_Free h4).mono ?_)⟩
  rintro e W5 ⟨rfl, b7⟩
  have q2 := q2.keep b7
  have b8 : Below W.heap.size W W5 := b6.trans (b7.mono b6.size)
  have hbd := h.bound.1
  have hd3 : decide ((chunks EB : Int) > ((D.texts.length - S.fin : Nat) : Int)) = true := decide_eq_true (by omega)
  have z4 := q2.cell (o := 0) rfl
  have f4 := q2.free 0
  clear h4 o5 b6 b7 hdv hd2
  gi_wp2
  have hr := (q2.set (o := 0) (.int .i64 7)).cell (o := 0) rfl
  have bz := b8.setCell (p := ⟨W.heap.size + 2, 0, none⟩) (by simp) (.int .i64 7)
  generalize W5.setCell ⟨W.heap.size + 2, 0, none⟩ (.int .i64 7) = WA at *
  exact ⟨.int .i64 7, by simp [results, Tryz.results142, go_sem, hr], rfl, bz⟩

end

end Go.Proofs.YtnbeagcmfcdklaaGreat
