/- gazettelaw05.NodeReplies returns true for every input, and each argument reads afterwards as it read before. Condition: the arguments hold together at most 1048576 values and letters (the second form, '..UptoSaid'). -/
import Derived.Test.YtbofcocfcmlcaaaMProofKit
/-! gazettelaw05.NodeReplies: the row. -/
namespace Go.Proofs.Ytbofcocfcmlcaaa
open Go.ChangeShapes Go.WideShapes Go.ChangeAt Go.RowKit

set_option maxRecDepth 100000 in
theorem nodeReplies_lifted (os : Os) (started : os.Started) (H : Type) (enc : TypeId × Value → H) (F : Stop.Interp) :
    ReturnsInHanded {} Try.checked os 10 .any ((Rows.OpenSpec.upto Rows.nodeRepliesSpec).pre6 enc Try.prog Try.f10 Rows.nodeRepliesUptoRow.domain false) (((Rows.OpenSpec.upto Rows.nodeRepliesSpec).at F).post enc Try.prog Try.f10 false true false false) := by
  refine returnsInHanded_of_cond (C := Try.checked) (s := Rows.OpenSpec.upto Rows.nodeRepliesSpec) (k := Rows.uptoSmall) rfl law_own started (by kernel_rfl) Try.func10
    (OpenSpec.witness (enc := enc) (C := Try.checked) (s := Rows.OpenSpec.upto Rows.nodeRepliesSpec) (k := Rows.uptoSmall) rfl false ⟨#[], #[.agg #[.int .i64 0, .int .i64 0, .bool false, .slice none 0 0], .slice none 0 0], []⟩ 8 (by kernel_rfl) (by kernel_rfl) (by kernel_rfl)
      (x := ([.agg [.lit (.int .i64 0), .lit (.int .i64 0), .lit (.bool false), .nil], .nil], [], [])) (by kernel_rfl) rfl (by kernel_rfl)) ?_
  intro W base args ds gs before hval0 hW _ hk _
  have hval : ∀ (j : Nat) t v, Try.f10.params[j]? = some t → args[j]? = some v → Value.okWide Try.prog W .any base t v := hval0
  have hW' := hW
  obtain ⟨p, q, hA0, hV, rfl, hfz, hnd⟩ := hW
  have hA : DataW.TrodAll enc Try.prog W 0 (fun _ => true) true Try.f10.params.toList args.toList ds p := hA0
  rw [Try.params10] at hA hval
  obtain ⟨v0, v1, d0, d1, p0, p1, rfl, rfl, rfl, h0, h1⟩ := trodAll_two hA
  obtain ⟨rfl, rfl⟩ := trodVars_none hV
  have hbulk := bulk_bound hk
  simp only [List.append_nil, Rows.uptoBulkAll] at hbulk
  obtain ⟨cs0, rfl, _⟩ := okWide_struct under_rp (hval 0 56 v0 rfl rfl)
  obtain ⟨f0, hf0⟩ := h0
  obtain ⟨r0, rv0, hrc0, hrv0, hr0⟩ := trod_rp hf0 (by show Rows.uptoBulk d0 ≤ 1048576; omega)
  have hcs0 : cs0 = r0.cells rv0 := by rw [← hrc0]; simp [Value.cells]
  subst hcs0
  obtain ⟨f1, hf1⟩ := h1
  have hk1 := hval 1 34 v1 rfl rfl
  obtain ⟨a1, n1, c1, rfl⟩ := okWide_slice Try.underlying34 hk1
  obtain ⟨b1, hbw1, hbl1⟩ := trod_Bs Try.underlying34 hf1
  have hbl1' : b1.length ≤ Rows.uptoBulk d1 := hbl1
  refine (law_replies r0 rv0 _ b1 W hr0 hrv0 (bs_of_k Try.underlying34 hk1 hbw1) (by omega)).mono fun e W' ⟨he, hb⟩ => ?_
  subst he
  exact ⟨_, rfl, law_post (s := Rows.nodeRepliesSpec) rfl (by kernel_rfl) (by rw [Try.params10]; intro t ht; simp at ht; rcases ht with rfl | rfl <;> exact ⟨by kernel_rfl, of_decide_eq_true (by kernel_rfl)⟩) hW' rfl hb⟩

theorem nodeReplies_proved : Rows.NodeRepliesUptoSaid :=
  OpenClaim.holds_of_cond 10 Try.f10 rfl rfl rfl rfl rfl rfl rfl ⟨rfl, rfl, rfl, rfl, rfl⟩ rfl rfl rfl rfl rfl (by kernel_rfl) Try.func10 (by kernel_rfl)
    (of_decide_eq_true (by kernel_rfl)) (by unfold Func.isWrapper; first | (rw [if_pos (by decide +kernel)]; kernel_rfl) | (rw [if_neg (by decide +kernel)]; exact ⟨rfl, rfl⟩))
    (fun os started H enc _ F => nodeReplies_lifted os started H enc F)
#print axioms nodeReplies_proved
end Go.Proofs.Ytbofcocfcmlcaaa
