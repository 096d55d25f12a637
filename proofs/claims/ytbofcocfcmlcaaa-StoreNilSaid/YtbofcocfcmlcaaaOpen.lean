import Derived.Test.YtbofcocfcmlcaaaStore
/-! Package store, on: Open of a disk that nobody wrote. -/
namespace Go.Proofs.Ytbofcocfcmlcaaa
open Go.RowKit

theorem size_entry : (Try.prog.info? 107).map (·.size) = some 4 := by kernel_rfl

section
variable {W : World} {q : StP} {S : St} {D : Dk}

set_option maxRecDepth 100000 in
set_option maxHeartbeats 1600000 in
theorem store_part_no (h : StAt W q S D) (hoff : D.off = false) (kk : Nat) (t : List UInt8) (hv : D.vers (kk : Int) = none) (hbad : D.bad (kk : Int) = false) (ht : D.texts[kk]? = some t) (u : UInt8) (h0 : t[0]? = some u) (hu : u ≠ 165) :
    Calls Try.prog 89 #[.pointer (some ⟨q.s, 0, none⟩), .int .i64 (kk : Int)] W fun e w' => e = .returned (.tuple #[.int .i64 0, .int .i64 0, .slice none 0 0, .bool false]) ∧ Below W.heap.size W w' := by
  have c0 := h.cell.cell (o := 0) rfl
  go_enter Try.func89, Try.ntmps89
  go_wp2_with fail
  refine (disk_Read_text h.disk hoff kk t hv hbad ht).mono ?_
  rintro e W1 ⟨g, rfl, hg, hb, hbl⟩
  have hc : W1.cell? ⟨g, 0, none⟩ = some (bv u) := by
    rcases hb.cases with ⟨e, _⟩ | ⟨g', o', c', e, _, _, hc⟩
    · cases e
    · injection e with e1 e2 e3
      injection e1 with e1
      injection e1 with e1 e4
      subst e1 e4
      exact hc 0 u h0
  clear hb
  have hne : ¬ ((u.toNat : Int) = 165) := fun hh => hu (UInt8.toNat_inj.1 (by show u.toNat = 165; omega))
  have hd : decide ((u.toNat : Int) = 165) = false := decide_eq_false hne
  have hd2 : ((u.toNat : Int) == 165) = false := beq_eq_false_iff_ne.2 hne
  have hd3 : decide ((u.toNat : Int) ≠ 165) = true := decide_eq_true hne
  have hw0 : IntKind.i64.wrap 0 = 0 := by rw [IntKind.wrap_i64]; rfl
  go_wp2_with fail
  go_quiet (fail)
  go_wp2_with fail
  refine bodyPost_ret (v := .tuple #[.int .i64 0, .int .i64 0, .slice none 0 0, .bool false]) (by simp [results, Try.results89, go_sem]) rfl ?_
  exact ⟨rfl, below_drewN (B := W.heap.size) hbl _⟩

set_option maxRecDepth 100000 in
set_option maxHeartbeats 1600000 in
theorem store_next_no (h : StAt W q S D) (hoff : D.off = false) (t : List UInt8) (hv : D.vers (S.fin : Int) = none) (hbad : D.bad (S.fin : Int) = false) (ht : D.texts[S.fin]? = some t) (u : UInt8) (h0 : t[0]? = some u) (hu : u ≠ 165) :
    Calls Try.prog 52 #[.pointer (some ⟨q.s, 0, none⟩)] W fun e w' => e = .returned (.tuple #[.agg #[.int .i64 0, .int .i64 0, .int .i64 0, .slice none 0 0], .int .i64 0, .bool false]) ∧ Below W.heap.size W w' := by
  obtain ⟨W1, hW1⟩ : ∃ W1, W.alloc (.cells #[.int .i64 0, .int .i64 0, .int .i64 0, .slice none 0 0] 107) = W1 := ⟨_, rfl⟩
  have b1 : Below W.heap.size W W1 := by rw [← hW1]; exact (Below.refl _ W).alloc (Nat.le_refl _) _
  have q0 : Blk W1 W.heap.size #[.int .i64 0, .int .i64 0, .int .i64 0, .slice none 0 0] 107 := by rw [← hW1]; exact Blk.new W _ _
  have h1 := h.keep b1
  have c3 := h1.cell.cell (o := 3) rfl
  go_enter Try.func52, Try.ntmps52
  go_wp2_with fail
  refine (store_part_no h1 hoff S.fin t hv hbad ht u h0 hu).mono ?_
  rintro e W2 ⟨rfl, b2⟩
  have q2 := q0.keep b2
  have b2' := b1.trans (b2.mono b1.size)
  clear b1 b2 q0 h1 c3
  go_wp2_with fail
  go_quiet (fail)
  have k0 := q2.cell (o := 0) rfl
  have k1 := q2.cell (o := 1) rfl
  have k2 := q2.cell (o := 2) rfl
  have k3 := q2.cell (o := 3) rfl
  have l0 := q2.free 0
  have l1 := q2.free 1
  have l2 := q2.free 2
  have l3 := q2.free 3
  have bN : Below W.heap.size W (W2.drewN nq) := below_drewN (B := W.heap.size) b2' nq
  have bS : Below W.heap.size W (((((W2.drewN nq).setCell ⟨W.heap.size, 0, none⟩ (.int .i64 0)).setCell ⟨W.heap.size, 1, none⟩ (.int .i64 0)).setCell ⟨W.heap.size, 2, none⟩ (.int .i64 0)).setCell ⟨W.heap.size, 3, none⟩ (.slice none 0 0)) :=
    (((bN.setCell (p := ⟨W.heap.size, 0, none⟩) (by simp) _).setCell (p := ⟨W.heap.size, 1, none⟩) (by simp) _).setCell (p := ⟨W.heap.size, 2, none⟩) (by simp) _).setCell (p := ⟨W.heap.size, 3, none⟩) (by simp) _
  have qF : Blk (((((W2.drewN nq).setCell ⟨W.heap.size, 0, none⟩ (.int .i64 0)).setCell ⟨W.heap.size, 1, none⟩ (.int .i64 0)).setCell ⟨W.heap.size, 2, none⟩ (.int .i64 0)).setCell ⟨W.heap.size, 3, none⟩ (.slice none 0 0)) W.heap.size #[.int .i64 0, .int .i64 0, .int .i64 0, .slice none 0 0] 107 := by
    have h2 : Blk (W2.drewN nq) W.heap.size #[.int .i64 0, .int .i64 0, .int .i64 0, .slice none 0 0] 107 := q2
    have := (((h2.set (o := 0) (.int .i64 0)).set (o := 1) (.int .i64 0)).set (o := 2) (.int .i64 0)).set (o := 3) (.slice none 0 0)
    simpa using this
  have HS := hid bS
  have HF := hid qF
  clear bS qF bN
  go_wp2_with fail
  have bS := HS.out
  have qF := HF.out
  clear HS HF
  generalize ((((W2.drewN nq).setCell ⟨W.heap.size, 0, none⟩ (.int .i64 0)).setCell ⟨W.heap.size, 1, none⟩ (.int .i64 0)).setCell ⟨W.heap.size, 2, none⟩ (.int .i64 0)).setCell ⟨W.heap.size, 3, none⟩ (.slice none 0 0) = WS at *
  have hld := run_loadVar_row (P := Try.prog) WS W.heap.size 107 107 _ (0, 0) _ qF Try.underlying107 rfl size_entry
  refine bodyPost_ret (v := .tuple #[.agg #[.int .i64 0, .int .i64 0, .int .i64 0, .slice none 0 0], .int .i64 0, .bool false]) ?_ rfl ?_
  · simp [results, Try.results52, hld, asAddr]
  · exact ⟨rfl, bS⟩
end

end Go.Proofs.Ytbofcocfcmlcaaa
