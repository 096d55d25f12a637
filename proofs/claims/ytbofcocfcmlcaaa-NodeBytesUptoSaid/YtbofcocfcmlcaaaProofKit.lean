import Derived.Test.YtbofcocfcmlcaaaMLArgsB
/-! Words that the rows of gazettelaw05 share. -/
namespace Go.Proofs.Ytbofcocfcmlcaaa
open Go.ChangeShapes Go.WideShapes Go.ChangeAt Go.RowKit

theorem okWide_spot_k {P : Program} {w : World} {r : Reach} {base : Nat} {t e : TypeId} {ad : Addr} {l c : Nat} (ht : P.underlying t = some (.slice e)) (h : Value.okWide P w r base t (.slice (some ad) l c)) : ad.spot = none := by
  simp only [Value.okWide, ht, Cell.okWide, Cell.ok] at h
  exact h.2.2.2.1
theorem bs_of_k {P : Program} {w w' : World} {r : Reach} {base : Nat} {t e : TypeId} {v : Value} {l : List UInt8} (ht : P.underlying t = some (.slice e)) (h : Value.okWide P w r base t v) (hb : BsW w' v l) : Bs w' v l := by
  rcases hb with hb | ⟨rfl, ad, rfl⟩
  · exact hb
  · have := okWide_spot_k ht h
    obtain ⟨g, o, s⟩ := ad
    simp only at this
    subst this
    exact Bs.mk rfl (Nat.le_refl _) (by simp [maxLen]) (fun i u hi => by simp at hi)

end Go.Proofs.Ytbofcocfcmlcaaa
