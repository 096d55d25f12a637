import Derived.Test.YtbofcocfcmlcaaaRegionIn
import Derived.RangeFuncNested
/-! Helpers for the steps of a region that draws its order, inside a fence. -/
namespace Go.Proofs.Ytbofcocfcmlcaaa
open Go.RowKit

section
variable {F : Fence} {n : Nat} {P : Program} {l : List Oper} {Q : Exit → Act → World → Prop} {Grow : World → World → Prop} {V : Nat → Value → World → Prop} {a0 : Act} {w0 : World}
theorem stepIn_value {i : Nat} {o : Oper} {a : Act} {w : World} {v : Value} {w' : World} (hF : ∀ f, F.fn f) (hs : o.semAt F.round a.eval = execOp a.eval o) (hr : (execOp a.eval o).run P w = .ok (.value v) w') (hg : Grow w w') (hv : V i v w') :
    o.wpIn F n P a w (Done Grow V i o a w) Q := by
  refine ⟨fun f _ => hF f, ?_⟩
  rw [hs, hr]
  exact ⟨v, rfl, hg, hv⟩
theorem stepIn_skip {i : Nat} {o : Oper} {a : Act} {w : World} {w' : World} (hF : ∀ f, F.fn f) (hs : o.semAt F.round a.eval = execOp a.eval o) (hr : (execOp a.eval o).run P w = .ok .skip w') (hg : Grow w w') (hv : V i undef w') :
    o.wpIn F n P a w (Done Grow V i o a w) Q := by
  refine ⟨fun f _ => hF f, ?_⟩
  rw [hs, hr]
  exact ⟨_, rfl, hg, hv⟩
theorem stepIn_call {i : Nat} {o : Oper} {a : Act} {w : World} {f : FuncId} {args : Array Value} {l₀ : Nat} (hs : o.semAt (Fence.wide.inRound l₀).round a.eval = execOp a.eval o) (hr : (execOp a.eval o).run P w = .ok (.enter f args) w)
    (hc : Calls P f args w fun e w' => ∃ v, e = .returned v ∧ Grow w w' ∧ V i v w') :
    o.wpIn (Fence.wide.inRound l₀) n P a w (Done Grow V i o a w) Q := by
  refine ⟨fun f _ => trivial, ?_⟩
  rw [hs, hr]
  refine ⟨fun h => by simp [Fence.wide, Fence.inRound] at h, CallsIn.inRound l₀ ((callsIn_wide.2 hc).mono ?_)⟩
  rintro e w' ⟨v, rfl, hg, hv⟩
  exact ⟨v, rfl, hg, hv⟩
theorem stepIn_yield {i : Nat} {o : Oper} {a : Act} {w : World} {l l₀ : Nat} {args : Array Value} (hs : o.semAt (Fence.wide.inRound l₀).round a.eval = execOp a.eval o) (hr : (execOp a.eval o).run P w = (Instr.yield l args).run P w)
    (hy : YieldAt Fence.wide (n - 1) P l args w fun e w' => ∃ v, e = .returned v ∧ Grow w w' ∧ V i v w') :
    o.wpIn (Fence.wide.inRound l₀) n P a w (Done Grow V i o a w) Q := by
  obtain ⟨fn, tmps, assign, body, h1, h2⟩ := hy
  refine ⟨fun f _ => trivial, ?_⟩
  rw [hs, hr, h1]
  refine ⟨fun h => by simp [Fence.wide, Fence.inRound] at h, ?_⟩
  refine RoundIn.mono (F := Fence.wide.inRound l₀) (show RoundIn (Fence.wide.inRound l₀) (n - 1) P l fn tmps assign body w _ from h2) ?_
  rintro e w' ⟨v, rfl, hg, hv⟩
  exact ⟨v, rfl, hg, hv⟩
end
end Go.Proofs.Ytbofcocfcmlcaaa
