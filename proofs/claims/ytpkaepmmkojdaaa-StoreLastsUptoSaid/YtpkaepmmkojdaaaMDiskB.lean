import Derived.Test.YtpkaepmmkojdaaaRegion
import Derived.Test.YtpkaepmmkojdaaaMDisk
/-! Helpers for the steps of a region that draws its order. -/
namespace Go.Proofs.Ytpkaepmmkojdaaa
open Go.RowKit

/-- New memory alone. -/
def Grows (x y : World) : Prop := Below x.heap.size x y
theorem Grows.refl (w : World) : Grows w w := Below.refl _ w
theorem Grows.trans {x y z : World} (h : Grows x y) (k : Grows y z) : Grows x z := Below.trans h (Below.mono k h.size)
theorem Grows.alloc (w : World) (o : Obj) : Grows w (w.alloc o) := (Below.refl _ w).alloc (Nat.le_refl _) o

section
variable {P : Program} {l : List Oper} {Q : Exit → Act → World → Prop} {Grow : World → World → Prop} {V : Nat → Value → World → Prop} {a0 : Act} {w0 : World}

def outOk (l : List Oper) (i t : Nat) : Bool := l.all fun o => (match o.dst with | some d => d != t | none => true) || o.after.any (fun e => e.on == i)
theorem Avail.at_ {i : Nat} {o : Oper} {a : Act} {w : World} (h : Avail l.toArray Grow V a0 w0 i o a w) (t : Nat) (hok : outOk l i t = true) {v : Value} (hv : a0.tmps.getD t undef = v) : a.tmps[t]?.getD undef = v := by
  rw [← hv, ← Array.getD_eq_getD_getElem?]
  refine h.out t (fun k o' hk hd => ?_)
  have hm : o' ∈ l := List.mem_of_getElem? (by simpa using hk)
  have := List.all_eq_true.1 hok o' hm
  rw [hd] at this
  simp only [bne_self_eq_false, Bool.false_or, Array.any_eq_true] at this
  obtain ⟨j, hj, he⟩ := this
  exact ⟨_, Array.getElem_mem hj, by simpa using he⟩
theorem Avail.grown {i : Nat} {o : Oper} {a : Act} {w : World} {w1 : World} (h : Avail l.toArray Grows V a0 w1.drew i o a w) : Below w1.heap.size w1 w := ⟨h.grow.os, h.grow.tape, h.grow.output, h.grow.size, h.grow.block⟩
theorem Avail.dep_ {i : Nat} {o : Oper} {a : Act} {w : World} (h : Avail l.toArray Grow V a0 w0 i o a w) (e : Edge) (he : e ∈ o.after) (o' : Oper) (d : Nat) (hk : l[e.on]? = some o') (hd : o'.dst = some d) : V e.on (a.tmps[d]?.getD undef) w := by
  rw [← Array.getD_eq_getD_getElem?]
  exact h.dep e he o' d (by simpa using hk) hd

theorem step_value {i : Nat} {o : Oper} {a : Act} {w : World} {v : Value} {w' : World} (hr : (execOp a.eval o).run P w = .ok (.value v) w') (hg : Grow w w') (hv : V i v w') :
    o.wp P a w (Done Grow V i o a w) Q := by
  unfold Oper.wp
  rw [hr]
  exact ⟨v, rfl, hg, hv⟩
theorem step_skip_ {i : Nat} {o : Oper} {a : Act} {w : World} {w' : World} (hr : (execOp a.eval o).run P w = .ok .skip w') (hg : Grow w w') (hv : V i undef w') :
    o.wp P a w (Done Grow V i o a w) Q := by
  unfold Oper.wp
  rw [hr]
  exact ⟨_, rfl, hg, hv⟩
theorem step_call {i : Nat} {o : Oper} {a : Act} {w : World} {f : FuncId} {args : Array Value} (hr : (execOp a.eval o).run P w = .ok (.enter f args) w)
    (hc : Calls P f args w fun e w' => ∃ v, e = .returned v ∧ Grow w w' ∧ V i v w') :
    o.wp P a w (Done Grow V i o a w) Q := by
  unfold Oper.wp
  rw [hr]
  refine hc.mono ?_
  rintro e w' ⟨v, rfl, hg, hv⟩
  exact ⟨v, rfl, hg, hv⟩
end
end Go.Proofs.Ytpkaepmmkojdaaa

/-! Package disk, on: operation, Cut. -/
namespace Go.Proofs.Ytpkaepmmkojdaaa
open Go.RowKit

theorem DkAt.recell {W W' : World} {p : DkP} {D : Dk} (h : DkAt W p D) (he : Ext (fun b => b = p.d) W W') (off : Bool) (fuse : Int) (hf : -1 ≤ fuse ∧ fuse ≤ 9223372036854775807)
    (hc : Blk W' p.d #[.slice (some ⟨p.gt, 0, none⟩) D.texts.length D.texts.length, .map (some p.mb), .map (some p.mv), .bool off, .int .i64 fuse] 55) : DkAt W' p { D with off := off, fuse := fuse } where
  cell := hc
  rows := fun i t ht => rangeAt_ext (h.rows i t ht) he (Ne.symm h.ne.1)
  free := fun o => by rw [frozen_ext he h.base.2.1 (Ne.symm h.ne.1)]; exact h.free o
  lens := h.lens
  pos := h.pos
  most := h.most
  bads := by obtain ⟨es, c, hm, hr⟩ := h.bads; exact ⟨es, c, hm.ext he (Ne.symm h.ne.2.1), hr⟩
  vers := by
    obtain ⟨es, c, hm, hr, hv⟩ := h.vers
    refine ⟨es, c, hm.ext he (Ne.symm h.ne.2.2.1), hr, fun e hm => ?_⟩
    obtain ⟨t, q1, q2, q3⟩ := hv e hm
    exact ⟨t, q1, q2.ext he (fun b hb => by rw [hb]; exact h.low.1), q3⟩
  ne := h.ne
  low := h.low
  base := DkAt.base' h.base he.size
  fuse := hf

/-- The fuse behind an operation that is done. -/
def Dk.spent (D : Dk) : Dk := { D with fuse := if 0 < D.fuse then D.fuse - 1 else D.fuse }
/-- The disk behind one that is not. -/
def Dk.fail (D : Dk) : Dk := if D.off then D else { D with off := true, fuse := -1 }
def Dk.goes (D : Dk) : Bool := !D.off && !(D.fuse == 0)

section
variable {W : World} {p : DkP} {D : Dk}

set_option maxHeartbeats 800000 in
theorem disk_operation (h : DkAt W p D) (hg : D.goes = true) (f : Nat) (caps : Array Value) (eg : ∀ args w, (callFunc f args).run Try.prog w = .ok (.enter f args) w) (R : World → Prop)
    (hdo : ∀ W1, DkAt W1 p D.spent → Ext (fun b => b = p.d) W W1 → Calls Try.prog f caps W1 (fun e w' => (∃ v, e = .returned v) ∧ R w')) :
    Calls Try.prog 39 #[.pointer (some ⟨p.d, 0, none⟩), .func (.func f) #[] caps] W fun e w' => e = .returned (.int .i64 0) ∧ R w' := by
  have hoff : D.off = false := by simp [Dk.goes] at hg; exact hg.1
  have hf0 : ¬ D.fuse = 0 := by simp [Dk.goes] at hg; exact hg.2
  have c3 := h.cell.cell (o := 3) rfl
  have c4 := h.cell.cell (o := 4) rfl
  have f4 := h.cell.free 4
  rw [hoff] at c3
  have hd : decide (D.fuse = 0) = false := decide_eq_false hf0
  have hfu := h.fuse
  by_cases hpos : 0 < D.fuse
  · have hx : Ext (fun b => b = p.d) W (W.setCell ⟨p.d, 4, none⟩ (.int .i64 (D.fuse - 1))) := (Ext.refl (fun b => b = p.d) W).setCell (a := ⟨p.d, 4, none⟩) (.inl rfl) _
    have hD : DkAt (W.setCell ⟨p.d, 4, none⟩ (.int .i64 (D.fuse - 1))) p D.spent := by
      unfold Dk.spent
      rw [if_pos hpos]
      have := h.recell hx D.off (D.fuse - 1) (by omega) (by have := h.cell.set (o := 4) (.int .i64 (D.fuse - 1)); simpa using this)
      exact this
    have hC := hdo _ hD hx
    go_enter Try.func39, Try.ntmps39
    go_wp2_with fail
    refine hC.mono ?_
    rintro e W2 ⟨⟨v, rfl⟩, hr⟩
    go_wp2_with fail
    go_ret
    exact ⟨rfl, hr⟩
  · have hD : DkAt W p D.spent := by
      unfold Dk.spent
      rw [if_neg hpos]
      exact h
    have hC := hdo W hD (Ext.refl _ _)
    go_enter Try.func39, Try.ntmps39
    go_wp2_with fail
    refine hC.mono ?_
    rintro e W2 ⟨⟨v, rfl⟩, hr⟩
    go_wp2_with fail
    go_ret
    exact ⟨rfl, hr⟩

theorem DkAt.same {D' : Dk} (h : DkAt W p D) (e : D = D') : DkAt W p D' := e ▸ h

set_option maxHeartbeats 800000 in
theorem disk_operation_fails (h : DkAt W p D) (hg : D.goes = false) (f : Nat) (caps : Array Value) :
    Calls Try.prog 39 #[.pointer (some ⟨p.d, 0, none⟩), .func (.func f) #[] caps] W fun e w' => e = .returned (.int .i64 8) ∧ DkAt w' p D.fail ∧ Ext (fun b => b = p.d) W w' := by
  have c3 := h.cell.cell (o := 3) rfl
  have c4 := h.cell.cell (o := 4) rfl
  have f4 := h.cell.free 4
  have f3 := h.cell.free 3
  cases hoff : D.off
  · have hf0 : D.fuse = 0 := by simpa [Dk.goes, hoff] using hg
    rw [hoff] at c3
    rw [hf0] at c4
    have hx : Ext (fun b => b = p.d) W ((W.setCell ⟨p.d, 3, none⟩ (.bool true)).setCell ⟨p.d, 4, none⟩ (.int .i64 (-1))) := ((Ext.refl (fun b => b = p.d) W).setCell (a := ⟨p.d, 3, none⟩) (.inl rfl) _).setCell (a := ⟨p.d, 4, none⟩) (.inl rfl) _
    have hD : DkAt ((W.setCell ⟨p.d, 3, none⟩ (.bool true)).setCell ⟨p.d, 4, none⟩ (.int .i64 (-1))) p D.fail := by
      unfold Dk.fail
      rw [hoff]
      have := h.recell hx true (-1) (by omega) (by have := (h.cell.set (o := 3) (.bool true)).set (o := 4) (.int .i64 (-1)); simpa using this)
      exact this
    have c3' : (W.setCell ⟨p.d, 3, none⟩ (.bool true)).cell? ⟨p.d, 4, none⟩ = some (.int .i64 0) := by rw [World.cell?_setCell_other _ _ _ _ (by simp)]; exact c4
    have f3' : (W.setCell ⟨p.d, 3, none⟩ (.bool true)).frozen? ⟨p.d, 4, none⟩ = false := (h.cell.set (o := 3) (.bool true)).free 4
    have c5 := hD.cell.cell (o := 3) rfl
    rw [show D.fail.off = true by simp [Dk.fail, hoff]] at c5
    generalize hW2 : (W.setCell ⟨p.d, 3, none⟩ (.bool true)).setCell ⟨p.d, 4, none⟩ (.int .i64 (-1)) = W2 at *
    go_enter Try.func39, Try.ntmps39
    go_wp2_with fail
    go_ret
    exact ⟨rfl, hD, hx⟩
  · rw [hoff] at c3
    have hD : DkAt W p D.fail := by
      unfold Dk.fail
      rw [hoff]
      exact h
    go_enter Try.func39, Try.ntmps39
    go_wp2_with fail
    go_ret
    exact ⟨rfl, hD, Ext.refl _ _⟩
end

end Go.Proofs.Ytpkaepmmkojdaaa
