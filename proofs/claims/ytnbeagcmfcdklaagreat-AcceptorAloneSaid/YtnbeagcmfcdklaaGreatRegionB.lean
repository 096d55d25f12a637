import Derived.Test.YtnbeagcmfcdklaaGreatRegion
/-! Helpers for the steps of a region that draws its order. -/
namespace Go.Proofs.YtnbeagcmfcdklaaGreat
open Go.RowKit

/-- New memory alone. -/
def Grows (x y : World) : Prop := Below x.heap.size x y
theorem Grows.refl (w : World) : Grows w w := Below.refl _ w
theorem Grows.trans {x y z : World} (h : Grows x y) (k : Grows y z) : Grows x z := Below.trans h (Below.mono k h.size)
theorem Grows.alloc (w : World) (o : Obj) : Grows w (w.alloc o) := (Below.refl _ w).alloc (Nat.le_refl _) o

section
variable {P : Program} {l : List Oper} {Q : Exit → Act → World → Prop} {Grow : World → World → Prop} {V : Nat → Value → World → Prop} {a0 : Act} {w0 : World}

def outOk (l : List Oper) (i t : Nat) : Bool := l.all fun o => (match o.dst with | some d => d != t | none => true) || o.after.any (fun e => e.on == i)
theorem Avail.at_ {i : Nat} {o : Oper} {a : Act} {w : World} (h : Avail l.toArray Grow V a0 w0 i o a w) (t : Nat) (hok : outOk l i t = true) {v : Value} (hv : a0.tmps.getD t undef = v) : a.tmps[t]?.getD undef = v := by
  rw [← hv, ← Array.getD_eq_getD_getElem?]
  refine h.out t (fun k o' hk hd => ?_)
  have hm : o' ∈ l := List.mem_of_getElem? (by simpa using hk)
  have := List.all_eq_true.1 hok o' hm
  rw [hd] at this
  simp only [bne_self_eq_false, Bool.false_or, Array.any_eq_true] at this
  obtain ⟨j, hj, he⟩ := this
  exact ⟨_, Array.getElem_mem hj, by simpa using he⟩
theorem Avail.grown {i : Nat} {o : Oper} {a : Act} {w : World} {w1 : World} (h : Avail l.toArray Grows V a0 w1.drew i o a w) : Below w1.heap.size w1 w := ⟨h.grow.os, h.grow.tape, h.grow.output, h.grow.size, h.grow.block⟩
theorem Avail.dep_ {i : Nat} {o : Oper} {a : Act} {w : World} (h : Avail l.toArray Grow V a0 w0 i o a w) (e : Edge) (he : e ∈ o.after) (o' : Oper) (d : Nat) (hk : l[e.on]? = some o') (hd : o'.dst = some d) : V e.on (a.tmps[d]?.getD undef) w := by
  rw [← Array.getD_eq_getD_getElem?]
  exact h.dep e he o' d (by simpa using hk) hd

theorem step_value {i : Nat} {o : Oper} {a : Act} {w : World} {v : Value} {w' : World} (hr : (execOp a.eval o).run P w = .ok (.value v) w') (hg : Grow w w') (hv : V i v w') :
    o.wp P a w (Done Grow V i o a w) Q := by
  unfold Oper.wp
  rw [hr]
  exact ⟨v, rfl, hg, hv⟩
theorem step_skip_ {i : Nat} {o : Oper} {a : Act} {w : World} {w' : World} (hr : (execOp a.eval o).run P w = .ok .skip w') (hg : Grow w w') (hv : V i undef w') :
    o.wp P a w (Done Grow V i o a w) Q := by
  unfold Oper.wp
  rw [hr]
  exact ⟨_, rfl, hg, hv⟩
theorem step_call {i : Nat} {o : Oper} {a : Act} {w : World} {f : FuncId} {args : Array Value} (hr : (execOp a.eval o).run P w = .ok (.enter f args) w)
    (hc : Calls P f args w fun e w' => ∃ v, e = .returned v ∧ Grow w w' ∧ V i v w') :
    o.wp P a w (Done Grow V i o a w) Q := by
  unfold Oper.wp
  rw [hr]
  refine hc.mono ?_
  rintro e w' ⟨v, rfl, hg, hv⟩
  exact ⟨v, rfl, hg, hv⟩
end
end Go.Proofs.YtnbeagcmfcdklaaGreat
