import Derived.Test.YtnbeagcmfcdklaaGreatWrite
import Derived.BigQuiet
/-! Package disk, on: Write. -/
namespace Go.Proofs.YtnbeagcmfcdklaaGreat
open Go.RowKit

section
variable {W : World} {p : DkP} {D : Dk}

set_option maxRecDepth 100000 in
set_option maxHeartbeats 1600000 in
theorem disk_Write (h : DkAt W p D) (hg : D.goes = true) (ix : Int) (v : Value) (l : List UInt8) (hv : Bs W v l) (hvd : v.ownBlock ≠ some p.d) (hl : l.length = 256) (hi : 0 ≤ ix) (hi2 : ix < D.texts.length) (hno : D.vers ix = none) :
    Calls Tryz.prog 105 #[.pointer (some ⟨p.d, 0, none⟩), .int .i64 ix, v] W fun e w' => e = .returned (.int .i64 0) ∧ (∃ V', DkAt w' { p with V := V' } (D.spent.write ix l) ∧ ∀ b, V' b → p.V b ∨ W.heap.size ≤ b) ∧ Ext (fun b => b = p.d ∨ b = p.mv) W w' := by
  obtain ⟨av, cv, rfl⟩ := hv.form
  rw [hl] at hv hvd ⊢
  obtain ⟨W1, hW1⟩ : ∃ W1, ((W.alloc (.cells #[.pointer (some ⟨p.d, 0, none⟩)] 71)).alloc (.cells #[.int .i64 ix] 3)).alloc (.cells #[.slice av 256 cv] 22) = W1 := ⟨_, rfl⟩
  have b1 : Below W.heap.size W W1 := by rw [← hW1]; exact (((Below.refl _ W).alloc (Nat.le_refl _) _).alloc (by simp) _).alloc (by simp; omega) _
  have q0 : Blk W1 W.heap.size #[.pointer (some ⟨p.d, 0, none⟩)] 71 := by rw [← hW1]; exact ((Blk.new W _ _).alloc _).alloc _
  have q1 : Blk W1 (W.heap.size + 1) #[.int .i64 ix] 3 := by rw [← hW1]; exact (Blk.new' _ _ (by simp) _ _).alloc _
  have q2 : Blk W1 (W.heap.size + 2) #[.slice av 256 cv] 22 := by rw [← hW1]; exact Blk.new' _ _ (by simp) _ _
  have c0 := q0.cell (o := 0) rfl
  have c1 := q1.cell (o := 0) rfl
  have c2 := q2.cell (o := 0) rfl
  have cd := (h.keep b1).cell.cell (o := 0) rfl
  have hd1 : decide (ix < 0) = false := by simp; omega
  have hd2 : decide (ix ≥ (D.texts.length : Int)) = false := by simp; omega
  go_enter Tryz.func105, Tryz.ntmps105
  go_wp2_with fail
  go_quiet ((go_at_call 86; exact Calls.quiet_of_same (disk_none ((h.keep b1).keep (below_of_drewN _ _ _)))))
  have e1 := (Ext.ofBelow (fp := fun b => b = p.d ∨ b = p.mv) b1).drewN nq
  have cd0 : (W1.drewN nq).cell? ⟨W.heap.size, 0, none⟩ = some (.pointer (some ⟨p.d, 0, none⟩)) := c0
  have hN : DkAt (W1.drewN nq) p D := (h.keep b1).keep (below_of_drewN _ _ _)
  have q0' : Blk (W1.drewN nq) W.heap.size #[.pointer (some ⟨p.d, 0, none⟩)] 71 := q0
  have q1' : Blk (W1.drewN nq) (W.heap.size + 1) #[.int .i64 ix] 3 := q1
  have q2' : Blk (W1.drewN nq) (W.heap.size + 2) #[.slice av 256 cv] 22 := q2
  have hop := disk_operation hN hg 133 #[.pointer (some ⟨W.heap.size, 0, none⟩), .pointer (some ⟨W.heap.size + 1, 0, none⟩), .pointer (some ⟨W.heap.size + 1 + 1, 0, none⟩)] (fun args w => rfl)
    (fun w' => (∃ V', DkAt w' { p with V := V' } (D.spent.write ix l) ∧ ∀ b, V' b → p.V b ∨ W.heap.size ≤ b) ∧ Ext (fun b => b = p.d ∨ b = p.mv) W w') (fun W2 h2 x2 => by
      have hlt := h.base
      have hlow := h.low
      have e2 : Ext (fun b => b = p.d ∨ b = p.mv) W W2 := e1.trans x2 (fun b hb => .inl (.inl hb))
      refine (disk_Write1 h2 ix (.slice av 256 cv) l W.heap.size (W.heap.size + 1) (W.heap.size + 2) (q0'.ext x2 (by omega)) (q1'.ext x2 (by omega)) (q2'.ext x2 (by omega)) ?_ hl hi hi2 hno).mono ?_
      · have hv1 : Bs (W1.drewN nq) (.slice av 256 cv) l := hv.keep (below_drewN b1 nq)
        refine hv1.ext x2 (fun k hk hkl he => ?_)
        rw [he] at hk
        exact hvd hk
      · rintro e w' ⟨⟨v, rfl⟩, ⟨V', hd, hV'⟩, hx⟩
        exact ⟨⟨v, rfl⟩, ⟨V', hd, fun b hb => (hV' b hb).imp id (fun h => Nat.le_trans e2.size h)⟩, e2.trans hx (fun b hb => .inl (.inr hb))⟩)
  go_wp2_with fail
  refine hop.mono ?_
  rintro e w' ⟨rfl, hd, hx⟩
  go_wp2_with fail
  go_ret
  exact ⟨rfl, hd, hx⟩
set_option maxRecDepth 100000 in
set_option maxHeartbeats 1600000 in
theorem disk_Write_fails (h : DkAt W p D) (hg : D.goes = false) (ix : Int) (v : Value) (l : List UInt8) (hv : Bs W v l) (hl : l.length = 256) (hi : 0 ≤ ix) (hi2 : ix < D.texts.length) :
    Calls Tryz.prog 105 #[.pointer (some ⟨p.d, 0, none⟩), .int .i64 ix, v] W fun e w' => e = .returned (.int .i64 8) ∧ DkAt w' p D.fail ∧ Ext (fun b => b = p.d) W w' := by
  obtain ⟨av, cv, rfl⟩ := hv.form
  rw [hl] at hv ⊢
  obtain ⟨W1, hW1⟩ : ∃ W1, ((W.alloc (.cells #[.pointer (some ⟨p.d, 0, none⟩)] 71)).alloc (.cells #[.int .i64 ix] 3)).alloc (.cells #[.slice av 256 cv] 22) = W1 := ⟨_, rfl⟩
  have b1 : Below W.heap.size W W1 := by rw [← hW1]; exact (((Below.refl _ W).alloc (Nat.le_refl _) _).alloc (by simp) _).alloc (by simp; omega) _
  have q0 : Blk W1 W.heap.size #[.pointer (some ⟨p.d, 0, none⟩)] 71 := by rw [← hW1]; exact ((Blk.new W _ _).alloc _).alloc _
  have q1 : Blk W1 (W.heap.size + 1) #[.int .i64 ix] 3 := by rw [← hW1]; exact (Blk.new' _ _ (by simp) _ _).alloc _
  have q2 : Blk W1 (W.heap.size + 2) #[.slice av 256 cv] 22 := by rw [← hW1]; exact Blk.new' _ _ (by simp) _ _
  have c0 := q0.cell (o := 0) rfl
  have c1 := q1.cell (o := 0) rfl
  have c2 := q2.cell (o := 0) rfl
  have cd := (h.keep b1).cell.cell (o := 0) rfl
  have hd1 : decide (ix < 0) = false := by simp; omega
  have hd2 : decide (ix ≥ (D.texts.length : Int)) = false := by simp; omega
  go_enter Tryz.func105, Tryz.ntmps105
  go_wp2_with fail
  go_quiet ((go_at_call 86; exact Calls.quiet_of_same (disk_none ((h.keep b1).keep (below_of_drewN _ _ _)))))
  have e1 := (Ext.ofBelow (fp := fun b => b = p.d) b1).drewN nq
  have cd0 : (W1.drewN nq).cell? ⟨W.heap.size, 0, none⟩ = some (.pointer (some ⟨p.d, 0, none⟩)) := c0
  have hN : DkAt (W1.drewN nq) p D := (h.keep b1).keep (below_of_drewN _ _ _)
  have hop := disk_operation_fails hN hg 133 #[.pointer (some ⟨W.heap.size, 0, none⟩), .pointer (some ⟨W.heap.size + 1, 0, none⟩), .pointer (some ⟨W.heap.size + 1 + 1, 0, none⟩)]
  go_wp2_with fail
  refine hop.mono ?_
  rintro e w' ⟨rfl, hd, hx⟩
  go_wp2_with fail
  go_ret
  exact ⟨rfl, hd, e1.trans' hx⟩
end

end Go.Proofs.YtnbeagcmfcdklaaGreat
