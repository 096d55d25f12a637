/- gazettelaw05.NodeTwice returns true for every input, and each argument reads afterwards as it read before. Condition: the arguments hold together at most 1048576 values and letters (the second form, '..UptoSaid'). -/
import Derived.Test.YtbofcocfcmlcaaaLTwice
/-! gazettelaw05.NodeTwice: the row. -/
namespace Go.Proofs.Ytbofcocfcmlcaaa
open Go.ChangeShapes Go.WideShapes Go.ChangeAt Go.RowKit

theorem okWide_spot {P : Program} {w : World} {r : Reach} {base : Nat} {t e : TypeId} {ad : Addr} {l c : Nat} (ht : P.underlying t = some (.slice e)) (h : Value.okWide P w r base t (.slice (some ad) l c)) : ad.spot = none := by
  simp only [Value.okWide, ht, Cell.okWide, Cell.ok] at h
  exact h.2.2.2.1
theorem bs_of {P : Program} {w w' : World} {r : Reach} {base : Nat} {t e : TypeId} {v : Value} {l : List UInt8} (ht : P.underlying t = some (.slice e)) (h : Value.okWide P w r base t v) (hb : BsW w' v l) : Bs w' v l := by
  rcases hb with hb | ⟨rfl, ad, rfl⟩
  · exact hb
  · have := okWide_spot ht h
    obtain ⟨g, o, s⟩ := ad
    simp only at this
    subst this
    exact Bs.mk rfl (Nat.le_refl _) (by simp [maxLen]) (fun i u hi => by simp at hi)

set_option maxRecDepth 100000 in
theorem twice_lifted (os : Os) (started : os.Started) (H : Type) (enc : TypeId × Value → H) (F : Stop.Interp) :
    ReturnsInHanded {} Try.checked os 8 .any ((Rows.OpenSpec.upto Rows.nodeTwiceSpec).pre6 enc Try.prog Try.f8 Rows.nodeTwiceUptoRow.domain false) (((Rows.OpenSpec.upto Rows.nodeTwiceSpec).at F).post enc Try.prog Try.f8 false true false false) := by
  refine returnsInHanded_of_cond (C := Try.checked) (s := Rows.OpenSpec.upto Rows.nodeTwiceSpec) (k := Rows.uptoSmall) rfl law_own started (by kernel_rfl) Try.func8
    (OpenSpec.witness (enc := enc) (C := Try.checked) (s := Rows.OpenSpec.upto Rows.nodeTwiceSpec) (k := Rows.uptoSmall) rfl false ⟨#[], #[.slice none 0 0, .agg #[.int .i64 0, .int .i64 0, .int .i64 0, .slice none 0 0], .slice none 0 0], []⟩ 8 (by kernel_rfl) (by kernel_rfl) (by kernel_rfl)
      (x := ([.nil, .agg [.lit (.int .i64 0), .lit (.int .i64 0), .lit (.int .i64 0), .nil], .nil], [], [])) (by kernel_rfl) rfl (by kernel_rfl)) ?_
  intro W base args ds gs before hval0 hW _ hk _
  have hval : ∀ (j : Nat) t v, Try.f8.params[j]? = some t → args[j]? = some v → Value.okWide Try.prog W .any base t v := hval0
  have hW' := hW
  obtain ⟨p, q, hA0, hV, rfl, hfz, hnd⟩ := hW
  have hA : DataW.TrodAll enc Try.prog W 0 (fun _ => true) true Try.f8.params.toList args.toList ds p := hA0
  rw [Try.params8] at hA hval
  obtain ⟨v0, v1, v2, d0, d1, d2, p0, p1, p2, rfl, rfl, rfl, h0, h1, h2⟩ := trodAll_three hA
  obtain ⟨rfl, rfl⟩ := trodVars_none hV
  have hbulk := bulk_bound hk
  simp only [List.append_nil, Rows.uptoBulkAll] at hbulk
  obtain ⟨l, hl, hlen, hx⟩ := open_Rqs (hval 0 80 v0 rfl rfl) h0 (by omega)
  obtain ⟨cs, rfl, _⟩ := okWide_struct under_rq (hval 1 54 v1 rfl rfl)
  obtain ⟨f1, hf1⟩ := h1
  obtain ⟨r, rv, hrc, hrv, hr⟩ := trod_rq hf1 (by show Rows.uptoBulk d1 ≤ 1048576; omega)
  obtain ⟨f2, hf2⟩ := h2
  have hk2 := hval 2 34 v2 rfl rfl
  obtain ⟨a9, n9, c9, rfl⟩ := okWide_slice Try.underlying34 hk2
  obtain ⟨b, hbw, hbl⟩ := trod_Bs Try.underlying34 hf2
  have hcs : cs = r.cells rv := by rw [← hrc]; simp [Value.cells]
  subst hcs
  have hbl' : b.length ≤ Rows.uptoBulk d2 := hbl
  refine (law_twice v0 l r rv _ b W hl hlen hx hr hrv (bs_of Try.underlying34 hk2 hbw) (by omega)).mono fun e W' ⟨he, hb⟩ => ?_
  subst he
  exact ⟨_, rfl, law_post (s := Rows.nodeTwiceSpec) rfl (by kernel_rfl) (by rw [Try.params8]; intro t ht; simp at ht; rcases ht with rfl | rfl | rfl <;> exact ⟨by kernel_rfl, of_decide_eq_true (by kernel_rfl)⟩) hW' rfl hb⟩

theorem nodeTwice_proved : Rows.NodeTwiceUptoSaid :=
  OpenClaim.holds_of_cond 8 Try.f8 rfl rfl rfl rfl rfl rfl rfl ⟨rfl, rfl, rfl, rfl, rfl⟩ rfl rfl rfl rfl rfl (by kernel_rfl) Try.func8 (by kernel_rfl)
    (of_decide_eq_true (by kernel_rfl)) (by unfold Func.isWrapper; first | (rw [if_pos (by decide +kernel)]; kernel_rfl) | (rw [if_neg (by decide +kernel)]; exact ⟨rfl, rfl⟩))
    (fun os started H enc _ F => twice_lifted os started H enc F)
#print axioms nodeTwice_proved
end Go.Proofs.Ytbofcocfcmlcaaa
