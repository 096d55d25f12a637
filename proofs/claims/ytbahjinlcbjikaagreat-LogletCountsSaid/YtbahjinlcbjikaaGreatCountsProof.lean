/- gazettelaw07.LogletCounts returns true for every input, and each argument reads afterwards as it read before. No conditions beyond those of the row itself. -/
import Derived.Test.YtbahjinlcbjikaaGreatCountsB
import Derived.Test.YtbahjinlcbjikaaGreatMArgsC
/-! gazettelaw07.LogletCounts: the row. -/
namespace Go.Proofs.YtbahjinlcbjikaaGreat
open Go.ChangeShapes Go.WideShapes Go.ChangeAt Go.RowKit

set_option maxRecDepth 100000 in
theorem logletCounts_lifted (os : Os) (started : os.Started) (H : Type) (enc : TypeId × Value → H) :
    ReturnsInHanded {} Tryz.checked os 4 .any (Rows.logletCountsSpec.pre6 enc Tryz.prog Tryz.f4 Rows.logletCountsRow.domain false) (Rows.logletCountsSpec.post enc Tryz.prog Tryz.f4 false true false false) := by
  refine returnsInHanded_of_change (C := Tryz.checked) law_own started (by kernel_rfl) Tryz.func4
    (ChangeSpec.witness6 (enc := enc) (C := Tryz.checked) false ⟨#[], #[.slice none 0 0, .int .i64 0, .slice none 0 0], []⟩ 8 (by kernel_rfl) (by kernel_rfl) (by kernel_rfl) (by kernel_rfl)) ?_
  intro W base args ds gs before hval0 hW hcnd _
  have hval : ∀ (j : Nat) t v, Tryz.f4.params[j]? = some t → args[j]? = some v → Value.okWide Tryz.prog W .any base t v := hval0
  have hW' := hW
  obtain ⟨p, q, hA0, hV, rfl, hfz, hnd⟩ := hW
  have hA : DataW.TrodAll enc Tryz.prog W 0 (fun _ => true) true Tryz.f4.params.toList args.toList ds p := hA0
  rw [Tryz.params4] at hA hval
  obtain ⟨v0, v1, v2, d0, d1, d2, p0, p1, p2, rfl, rfl, rfl, h0, h1, h2⟩ := trodAll_three hA
  obtain ⟨rfl, rfl⟩ := trodVars_none hV
  obtain ⟨f0, hf0⟩ := h0
  have hk0 := hval 0 34 v0 rfl rfl
  obtain ⟨a0, n0, c0, rfl⟩ := okWide_slice Tryz.underlying34 hk0
  obtain ⟨l0, hIs0, hll0⟩ := trod_BoS Tryz.underlying34 hf0
  obtain ⟨z1, rfl, rfl, rfl, wz1⟩ := open_int Tryz.underlying3 (hval 1 3 v1 rfl rfl) h1
  obtain ⟨f2, hf2⟩ := h2
  have hk2 := hval 2 35 v2 rfl rfl
  obtain ⟨a2, n2, c2, rfl⟩ := okWide_slice Tryz.underlying35 hk2
  obtain ⟨b2, hbw2, hbl2⟩ := trod_Bs Tryz.underlying35 hf2
  have hbl2' : b2.length ≤ Rows.uptoBulk d2 := hbl2
  refine (law7_counts _ _ l0 z1 b2 hIs0 hll0 (bs_of_g Tryz.underlying35 hk2 hbw2) (fun g hg => by cases a2 with | none => cases hg | some ad => have := okWide_own (a := ad) Tryz.underlying35 hk2; simp [Value.ownBlock] at hg; omega)).mono fun e W' ⟨he, hb⟩ => ?_
  subst he
  exact ⟨_, rfl, law_post (s := Rows.logletCountsSpec) rfl (by kernel_rfl) (by rw [Tryz.params4]; intro t ht; simp at ht; rcases ht with rfl | rfl | rfl <;> exact ⟨by kernel_rfl, of_decide_eq_true (by kernel_rfl)⟩) hW' rfl hb⟩

theorem logletCounts_proved : Rows.LogletCountsSaid :=
  OpenClaim.holds_of_wide 4 Tryz.f4 rfl rfl rfl rfl rfl rfl rfl ⟨rfl, rfl, rfl, rfl, rfl⟩ rfl rfl rfl rfl rfl (by kernel_rfl) Tryz.func4 (by kernel_rfl)
    (of_decide_eq_true (by kernel_rfl)) (by unfold Func.isWrapper; first | (rw [if_pos (by decide +kernel)]; kernel_rfl) | (rw [if_neg (by decide +kernel)]; exact ⟨rfl, rfl⟩))
    (fun os started H enc _ => logletCounts_lifted os started H enc)
#print axioms logletCounts_proved
end Go.Proofs.YtbahjinlcbjikaaGreat
