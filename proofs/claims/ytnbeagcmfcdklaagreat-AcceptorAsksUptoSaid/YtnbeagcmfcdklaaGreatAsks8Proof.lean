/- gazettelaw08.AcceptorAsks returns true for every input, and each argument reads afterwards as it read before. Condition: the arguments hold together at most 1048576 values and letters (the second form, '..UptoSaid'). -/
import Derived.Test.YtnbeagcmfcdklaaGreatAsks8
import Derived.Test.YtnbeagcmfcdklaaGreatMArgs8
/-! gazettelaw08.AcceptorAsks: the row. -/
namespace Go.Proofs.YtnbeagcmfcdklaaGreat
open Go.ChangeShapes Go.WideShapes Go.ChangeAt Go.RowKit

set_option maxRecDepth 100000 in
theorem acceptorAsks_lifted (os : Os) (started : os.Started) (H : Type) (enc : TypeId × Value → H) (F : Stop.Interp) :
    ReturnsInHanded {} Tryz.checked os 4 .any ((Rows.OpenSpec.upto Rows.acceptorAsksSpec).pre6 enc Tryz.prog Tryz.f4 Rows.acceptorAsksUptoRow.domain false) (((Rows.OpenSpec.upto Rows.acceptorAsksSpec).at F).post enc Tryz.prog Tryz.f4 false true false false) := by
  refine returnsInHanded_of_cond (C := Tryz.checked) (s := Rows.OpenSpec.upto Rows.acceptorAsksSpec) (k := Rows.uptoSmall) rfl law_own started (by kernel_rfl) Tryz.func4
    (OpenSpec.witness (enc := enc) (C := Tryz.checked) (s := Rows.OpenSpec.upto Rows.acceptorAsksSpec) (k := Rows.uptoSmall) rfl false ⟨#[], #[.agg #[.int .i64 0, .int .i64 0, .int .i64 0, .int .i64 0, .slice none 0 0], .slice none 0 0], []⟩ 8 (by kernel_rfl) (by kernel_rfl) (by kernel_rfl)
      (x := ([.agg [.lit (.int .i64 0), .lit (.int .i64 0), .lit (.int .i64 0), .lit (.int .i64 0), .nil], .nil], [], [])) (by kernel_rfl) rfl (by kernel_rfl)) ?_
  intro W base args ds gs before hval0 hW _ hk _
  have hval : ∀ (j : Nat) t v, Tryz.f4.params[j]? = some t → args[j]? = some v → Value.okWide Tryz.prog W .any base t v := hval0
  have hW' := hW
  obtain ⟨p, q, hA0, hV, rfl, hfz, hnd⟩ := hW
  have hA : DataW.TrodAll enc Tryz.prog W 0 (fun _ => true) true Tryz.f4.params.toList args.toList ds p := hA0
  rw [Tryz.params4] at hA hval
  obtain ⟨v0, v1, d0, d1, p0, p1, rfl, rfl, rfl, h0, h1⟩ := trodAll_two hA
  obtain ⟨rfl, rfl⟩ := trodVars_none hV
  have hbulk := bulk_bound hk
  simp only [List.append_nil, Rows.uptoBulkAll] at hbulk
  obtain ⟨cs0, rfl, _⟩ := okWide_struct under_Aq (hval 0 24 v0 rfl rfl)
  obtain ⟨f0, hf0⟩ := h0
  obtain ⟨r0, rv0, hrc0, hz0_0, hz0_1, hz0_2, hz0_3, hrv0, hrl0⟩ := trod_Aq hf0
  have hrl0' : r0.b.length ≤ Rows.uptoBulk d0 := hrl0
  have hcs0 : cs0 = r0.cells rv0 := by rw [← hrc0]; simp [Value.cells]
  subst hcs0
  obtain ⟨f1, hf1⟩ := h1
  have hk1 := hval 1 22 v1 rfl rfl
  obtain ⟨a1, n1, c1, rfl⟩ := okWide_slice Tryz.underlying22 hk1
  obtain ⟨b1, hbw1, hbl1⟩ := trod_Bs Tryz.underlying22 hf1
  have hbl1' : b1.length ≤ Rows.uptoBulk d1 := hbl1
  refine (law_accAsks r0.k r0.key r0.ver r0.bal rv0 _ r0.b b1 W hrv0 (by omega) (bs_of_g Tryz.underlying22 hk1 hbw1) (by omega)).mono fun e W' ⟨he, hb⟩ => ?_
  subst he
  exact ⟨_, rfl, law_post (s := Rows.acceptorAsksSpec) rfl (by kernel_rfl) (by rw [Tryz.params4]; intro t ht; simp at ht; rcases ht with rfl | rfl <;> exact ⟨by kernel_rfl, of_decide_eq_true (by kernel_rfl)⟩) hW' rfl hb⟩

theorem acceptorAsks_proved : Rows.AcceptorAsksUptoSaid :=
  OpenClaim.holds_of_cond 4 Tryz.f4 rfl rfl rfl rfl rfl rfl rfl ⟨rfl, rfl, rfl, rfl, rfl⟩ rfl rfl rfl rfl rfl (by kernel_rfl) Tryz.func4 (by kernel_rfl)
    (of_decide_eq_true (by kernel_rfl)) (by unfold Func.isWrapper; first | (rw [if_pos (by decide +kernel)]; kernel_rfl) | (rw [if_neg (by decide +kernel)]; exact ⟨rfl, rfl⟩))
    (fun os started H enc _ F => acceptorAsks_lifted os started H enc F)
#print axioms acceptorAsks_proved
end Go.Proofs.YtnbeagcmfcdklaaGreat
