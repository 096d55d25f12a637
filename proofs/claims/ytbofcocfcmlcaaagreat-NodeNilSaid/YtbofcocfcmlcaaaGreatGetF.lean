import Derived.Test.YtbofcocfcmlcaaaGreatSGet
/-! What Get tells, as a number. -/
namespace Go.Proofs.YtbofcocfcmlcaaaGreat
open Go.RowKit

theorem getF_code (S : St) (lo po : Int) : ((getF S lo po).1 = 32 ∧ po < (S.get lo).2.1) ∨ (getF S lo po).1 = 3 ∨ (getF S lo po).1 = 0 := by
  unfold getF
  by_cases h : po < (S.get lo).2.1
  · rw [if_pos h]; exact .inl ⟨rfl, h⟩
  · rw [if_neg h]
    cases S.slots (lo, po) with
    | none => exact .inr (.inl rfl)
    | some l => exact .inr (.inr rfl)
end Go.Proofs.YtbofcocfcmlcaaaGreat
