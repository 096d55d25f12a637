/- gazettelaw05.NodeBytes returns true for every input, and each argument reads afterwards as it read before. Condition: the arguments hold together at most 1048576 values and letters (the second form, '..UptoSaid'). -/
import Derived.Test.YtbofcocfcmlcaaaBytes
import Derived.Test.YtbofcocfcmlcaaaProofKit
/-! gazettelaw05.NodeBytes: the row. -/
namespace Go.Proofs.Ytbofcocfcmlcaaa
open Go.ChangeShapes Go.WideShapes Go.ChangeAt Go.RowKit

set_option maxRecDepth 100000 in
theorem nodeBytes_lifted (os : Os) (started : os.Started) (H : Type) (enc : TypeId × Value → H) (F : Stop.Interp) :
    ReturnsInHanded {} Try.checked os 6 .any ((Rows.OpenSpec.upto Rows.nodeBytesSpec).pre6 enc Try.prog Try.f6 Rows.nodeBytesUptoRow.domain false) (((Rows.OpenSpec.upto Rows.nodeBytesSpec).at F).post enc Try.prog Try.f6 false true false false) := by
  refine returnsInHanded_of_cond (C := Try.checked) (s := Rows.OpenSpec.upto Rows.nodeBytesSpec) (k := Rows.uptoSmall) rfl law_own started (by kernel_rfl) Try.func6
    (OpenSpec.witness (enc := enc) (C := Try.checked) (s := Rows.OpenSpec.upto Rows.nodeBytesSpec) (k := Rows.uptoSmall) rfl false ⟨#[], #[.agg #[.int .i64 0, .int .i64 0, .int .i64 0, .slice none 0 0], .agg #[.int .i64 0, .int .i64 0, .bool false, .slice none 0 0], .slice none 0 0], []⟩ 8 (by kernel_rfl) (by kernel_rfl) (by kernel_rfl)
      (x := ([.agg [.lit (.int .i64 0), .lit (.int .i64 0), .lit (.int .i64 0), .nil], .agg [.lit (.int .i64 0), .lit (.int .i64 0), .lit (.bool false), .nil], .nil], [], [])) (by kernel_rfl) rfl (by kernel_rfl)) ?_
  intro W base args ds gs before hval0 hW _ hk _
  have hval : ∀ (j : Nat) t v, Try.f6.params[j]? = some t → args[j]? = some v → Value.okWide Try.prog W .any base t v := hval0
  have hW' := hW
  obtain ⟨p, q, hA0, hV, rfl, hfz, hnd⟩ := hW
  have hA : DataW.TrodAll enc Try.prog W 0 (fun _ => true) true Try.f6.params.toList args.toList ds p := hA0
  rw [Try.params6] at hA hval
  obtain ⟨v0, v1, v2, d0, d1, d2, p0, p1, p2, rfl, rfl, rfl, h0, h1, h2⟩ := trodAll_three hA
  obtain ⟨rfl, rfl⟩ := trodVars_none hV
  have hbulk := bulk_bound hk
  simp only [List.append_nil, Rows.uptoBulkAll] at hbulk
  obtain ⟨cs0, rfl, _⟩ := okWide_struct under_rq (hval 0 54 v0 rfl rfl)
  obtain ⟨f0, hf0⟩ := h0
  obtain ⟨r0, rv0, hrc0, hrv0, hr0⟩ := trod_rq hf0 (by show Rows.uptoBulk d0 ≤ 1048576; omega)
  have hcs0 : cs0 = r0.cells rv0 := by rw [← hrc0]; simp [Value.cells]
  subst hcs0
  obtain ⟨cs1, rfl, _⟩ := okWide_struct under_rp (hval 1 56 v1 rfl rfl)
  obtain ⟨f1, hf1⟩ := h1
  obtain ⟨r1, rv1, hrc1, hrv1, hr1⟩ := trod_rp hf1 (by show Rows.uptoBulk d1 ≤ 1048576; omega)
  have hcs1 : cs1 = r1.cells rv1 := by rw [← hrc1]; simp [Value.cells]
  subst hcs1
  obtain ⟨f2, hf2⟩ := h2
  have hk2 := hval 2 34 v2 rfl rfl
  obtain ⟨a2, n2, c2, rfl⟩ := okWide_slice Try.underlying34 hk2
  obtain ⟨b2, hbw2, hbl2⟩ := trod_Bs Try.underlying34 hf2
  have hbl2' : b2.length ≤ Rows.uptoBulk d2 := hbl2
  refine (law_bytes r0 r1 rv0 rv1 _ b2 W hr0 hr1 hrv0 hrv1 (bs_of_k Try.underlying34 hk2 hbw2) (by omega)).mono fun e W' ⟨he, hb⟩ => ?_
  subst he
  exact ⟨_, rfl, law_post (s := Rows.nodeBytesSpec) rfl (by kernel_rfl) (by rw [Try.params6]; intro t ht; simp at ht; rcases ht with rfl | rfl | rfl <;> exact ⟨by kernel_rfl, of_decide_eq_true (by kernel_rfl)⟩) hW' rfl hb⟩

theorem nodeBytes_proved : Rows.NodeBytesUptoSaid :=
  OpenClaim.holds_of_cond 6 Try.f6 rfl rfl rfl rfl rfl rfl rfl ⟨rfl, rfl, rfl, rfl, rfl⟩ rfl rfl rfl rfl rfl (by kernel_rfl) Try.func6 (by kernel_rfl)
    (of_decide_eq_true (by kernel_rfl)) (by unfold Func.isWrapper; first | (rw [if_pos (by decide +kernel)]; kernel_rfl) | (rw [if_neg (by decide +kernel)]; exact ⟨rfl, rfl⟩))
    (fun os started H enc _ F => nodeBytes_lifted os started H enc F)
#print axioms nodeBytes_proved
end Go.Proofs.Ytbofcocfcmlcaaa
