/- gazettelaw08.AcceptorBytes returns true for every input, and each argument reads afterwards as it read before. Condition: the arguments hold together at most 1048576 values and letters (the second form, '..UptoSaid'). -/
import Derived.Test.YtnbeagcmfcdklaaGreatBytes8
import Derived.Test.YtnbeagcmfcdklaaGreatMArgs8
/-! gazettelaw08.AcceptorBytes: the row. -/
namespace Go.Proofs.YtnbeagcmfcdklaaGreat
open Go.ChangeShapes Go.WideShapes Go.ChangeAt Go.RowKit

set_option maxRecDepth 100000 in
theorem acceptorBytes_lifted (os : Os) (started : os.Started) (H : Type) (enc : TypeId × Value → H) (F : Stop.Interp) :
    ReturnsInHanded {} Tryz.checked os 3 .any ((Rows.OpenSpec.upto Rows.acceptorBytesSpec).pre6 enc Tryz.prog Tryz.f3 Rows.acceptorBytesUptoRow.domain false) (((Rows.OpenSpec.upto Rows.acceptorBytesSpec).at F).post enc Tryz.prog Tryz.f3 false true false false) := by
  refine returnsInHanded_of_cond (C := Tryz.checked) (s := Rows.OpenSpec.upto Rows.acceptorBytesSpec) (k := Rows.uptoSmall) rfl law_own started (by kernel_rfl) Tryz.func3
    (OpenSpec.witness (enc := enc) (C := Tryz.checked) (s := Rows.OpenSpec.upto Rows.acceptorBytesSpec) (k := Rows.uptoSmall) rfl false ⟨#[], #[.agg #[.int .i64 0, .int .i64 0, .int .i64 0, .int .i64 0, .slice none 0 0], .agg #[.int .i64 0, .int .i64 0, .int .i64 0, .int .i64 0, .bool false, .slice none 0 0], .slice none 0 0], []⟩ 8 (by kernel_rfl) (by kernel_rfl) (by kernel_rfl)
      (x := ([.agg [.lit (.int .i64 0), .lit (.int .i64 0), .lit (.int .i64 0), .lit (.int .i64 0), .nil], .agg [.lit (.int .i64 0), .lit (.int .i64 0), .lit (.int .i64 0), .lit (.int .i64 0), .lit (.bool false), .nil], .nil], [], [])) (by kernel_rfl) rfl (by kernel_rfl)) ?_
  intro W base args ds gs before hval0 hW _ hk _
  have hval : ∀ (j : Nat) t v, Tryz.f3.params[j]? = some t → args[j]? = some v → Value.okWide Tryz.prog W .any base t v := hval0
  have hW' := hW
  obtain ⟨p, q, hA0, hV, rfl, hfz, hnd⟩ := hW
  have hA : DataW.TrodAll enc Tryz.prog W 0 (fun _ => true) true Tryz.f3.params.toList args.toList ds p := hA0
  rw [Tryz.params3] at hA hval
  obtain ⟨v0, v1, v2, d0, d1, d2, p0, p1, p2, rfl, rfl, rfl, h0, h1, h2⟩ := trodAll_three hA
  obtain ⟨rfl, rfl⟩ := trodVars_none hV
  have hbulk := bulk_bound hk
  simp only [List.append_nil, Rows.uptoBulkAll] at hbulk
  obtain ⟨cs0, rfl, _⟩ := okWide_struct under_Aq (hval 0 24 v0 rfl rfl)
  obtain ⟨f0, hf0⟩ := h0
  obtain ⟨r0, rv0, hrc0, hz0_0, hz0_1, hz0_2, hz0_3, hrv0, hrl0⟩ := trod_Aq hf0
  have hrl0' : r0.b.length ≤ Rows.uptoBulk d0 := hrl0
  have hcs0 : cs0 = r0.cells rv0 := by rw [← hrc0]; simp [Value.cells]
  subst hcs0
  obtain ⟨cs1, rfl, _⟩ := okWide_struct under_Ar (hval 1 26 v1 rfl rfl)
  obtain ⟨f1, hf1⟩ := h1
  obtain ⟨r1, rv1, hrc1, hz1_0, hz1_1, hz1_2, hz1_3, hrv1, hrl1⟩ := trod_Ar hf1
  have hrl1' : r1.b.length ≤ Rows.uptoBulk d1 := hrl1
  have hcs1 : cs1 = r1.cells rv1 := by rw [← hrc1]; simp [Value.cells]
  subst hcs1
  obtain ⟨f2, hf2⟩ := h2
  have hk2 := hval 2 22 v2 rfl rfl
  obtain ⟨a2, n2, c2, rfl⟩ := okWide_slice Tryz.underlying22 hk2
  obtain ⟨b2, hbw2, hbl2⟩ := trod_Bs Tryz.underlying22 hf2
  have hbl2' : b2.length ≤ Rows.uptoBulk d2 := hbl2
  refine (law_accBytes r0.k r0.key r0.ver r0.bal r1.e r1.ver r1.pr r1.ba r1.le rv0 rv1 _ r0.b r1.b b2 W hrv0 (by omega) hrv1 (by omega) (bs_of_g Tryz.underlying22 hk2 hbw2) (by omega)).mono fun e W' ⟨he, hb⟩ => ?_
  subst he
  exact ⟨_, rfl, law_post (s := Rows.acceptorBytesSpec) rfl (by kernel_rfl) (by rw [Tryz.params3]; intro t ht; simp at ht; rcases ht with rfl | rfl | rfl <;> exact ⟨by kernel_rfl, of_decide_eq_true (by kernel_rfl)⟩) hW' rfl hb⟩

theorem acceptorBytes_proved : Rows.AcceptorBytesUptoSaid :=
  OpenClaim.holds_of_cond 3 Tryz.f3 rfl rfl rfl rfl rfl rfl rfl ⟨rfl, rfl, rfl, rfl, rfl⟩ rfl rfl rfl rfl rfl (by kernel_rfl) Tryz.func3 (by kernel_rfl)
    (of_decide_eq_true (by kernel_rfl)) (by unfold Func.isWrapper; first | (rw [if_pos (by decide +kernel)]; kernel_rfl) | (rw [if_neg (by decide +kernel)]; exact ⟨rfl, rfl⟩))
    (fun os started H enc _ F => acceptorBytes_lifted os started H enc F)
#print axioms acceptorBytes_proved
end Go.Proofs.YtnbeagcmfcdklaaGreat
