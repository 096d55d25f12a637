import Derived.Test.YtbofcocfcmlcaaaState
/-! Package store, on: Seal, Trim, state, Tail. -/
namespace Go.Proofs.Ytbofcocfcmlcaaa
open Go.RowKit

def sealF (S : St) (D : Dk) (lo : Int) : Int × St × Dk := if (S.get lo).2.2 then (0, S, D) else writeF S (applySeal S lo) D 2 lo 0 []
def trimF (S : St) (D : Dk) (lo po : Int) : Int × St × Dk := if po ≤ (S.get lo).2.1 then (0, S, D) else writeF S (applyTrim S lo po) D 3 lo po []
theorem sealF_on {S : St} {D : Dk} (h : On S D) (lo : Int) : On (sealF S D lo).2.1 (sealF S D lo).2.2 := by
  unfold sealF
  split
  · exact h
  · exact writeF_on (S1 := applySeal S lo) h rfl 2 lo 0 []
theorem trimF_on {S : St} {D : Dk} (h : On S D) (lo po : Int) : On (trimF S D lo po).2.1 (trimF S D lo po).2.2 := by
  unfold trimF
  split
  · exact h
  · exact writeF_on (S1 := applyTrim S lo po) h rfl 3 lo po []

section
variable {W : World} {q : StP} {S S1 : St} {D : Dk}

theorem store_write_seal (h : StAt W q S D) (hon : On S D) (lo : Int) (l0 : 0 ≤ lo) (l1 : lo < 281474976710656) :
    Calls Try.prog 61 #[.pointer (some ⟨q.s, 0, none⟩), .agg #[.int .i64 2, .int .i64 lo, .int .i64 0, .slice none 0 0]] W fun e w' => e = .returned (.int .i64 (writeF S (applySeal S lo) D 2 lo 0 []).1) ∧ (∃ q', StAt w' q' (writeF S (applySeal S lo) D 2 lo 0 []).2.1 (writeF S (applySeal S lo) D 2 lo 0 []).2.2 ∧ Went q q' W.heap.size) ∧ Ext q.own W w' := by
  unfold writeF
  by_cases hfit : S.fin + chunks (entryB 2 lo 0 []) ≤ D.texts.length
  · rw [if_pos hfit]
    refine (store_write_ok (S1 := applySeal S lo) h hon.off hon.fuse hon.vers 2 lo 0 _ [] (Bs.nil W) (fun g hg => by simp [Value.ownBlock] at hg) (by simp) (by omega) (by omega) l0 l1 (by omega) (by omega) hfit rfl rfl ?_).mono ?_
    · intro D' W1 q1 hS1 _ hlen v1 hv1
      refine store_do_seal hS1 lo 0 v1 [] hv1 _ (chunks_entry 2 lo 0 []) (by rw [hlen]; exact hfit) rfl rfl ?_
      intro W2 hS2 hv2
      refine (store_seal hS2 2 lo 0 v1 [] hv2).mono ?_
      rintro e w' ⟨⟨v9, rfl⟩, h1, hx⟩
      exact ⟨⟨v9, rfl⟩, ⟨q1, h1, Moves.refl _ _⟩, hx.mono (fun b _ hb => .inr hb)⟩
    · rintro e w' ⟨rfl, ⟨q', h1, h2, h3, h4, h5, h6⟩, hx⟩
      exact ⟨rfl, ⟨q', h1, h2, h3, h4, h5, h6⟩, hx⟩
  · rw [if_neg hfit]
    refine (store_write_full h 2 lo 0 _ [] (Bs.nil W) (by simp) (by omega) (by omega) l0 l1 (by omega) (by omega) hfit).mono ?_
    rintro e w' ⟨rfl, hb⟩
    exact ⟨rfl, ⟨q, h.keep hb, Went.refl _ _⟩, Ext.ofBelow hb⟩

theorem store_write_trim (h : StAt W q S D) (hon : On S D) (lo po : Int) (l0 : 0 ≤ lo) (l1 : lo < 281474976710656) (p0 : 0 ≤ po) (p1 : po < 281474976710656) :
    Calls Try.prog 61 #[.pointer (some ⟨q.s, 0, none⟩), .agg #[.int .i64 3, .int .i64 lo, .int .i64 po, .slice none 0 0]] W fun e w' => e = .returned (.int .i64 (writeF S (applyTrim S lo po) D 3 lo po []).1) ∧ (∃ q', StAt w' q' (writeF S (applyTrim S lo po) D 3 lo po []).2.1 (writeF S (applyTrim S lo po) D 3 lo po []).2.2 ∧ Went q q' W.heap.size) ∧ Ext q.own W w' := by
  unfold writeF
  by_cases hfit : S.fin + chunks (entryB 3 lo po []) ≤ D.texts.length
  · rw [if_pos hfit]
    refine (store_write_ok (S1 := applyTrim S lo po) h hon.off hon.fuse hon.vers 3 lo po _ [] (Bs.nil W) (fun g hg => by simp [Value.ownBlock] at hg) (by simp) (by omega) (by omega) l0 l1 p0 p1 hfit rfl rfl ?_).mono ?_
    · intro D' W1 q1 hS1 _ hlen v1 hv1
      refine store_do_trim hS1 lo po v1 [] hv1 _ (chunks_entry 3 lo po []) (by rw [hlen]; exact hfit) rfl rfl ?_
      intro W2 hS2 hv2
      refine (store_trim hS2 3 lo po v1 [] hv2 p0 (by omega)).mono ?_
      rintro e w' ⟨⟨v9, rfl⟩, h1, hx⟩
      exact ⟨⟨v9, rfl⟩, ⟨q1, h1, Moves.refl _ _⟩, hx.mono (fun b _ hb => .inr hb)⟩
    · rintro e w' ⟨rfl, ⟨q', h1, h2, h3, h4, h5, h6⟩, hx⟩
      exact ⟨rfl, ⟨q', h1, h2, h3, h4, h5, h6⟩, hx⟩
  · rw [if_neg hfit]
    refine (store_write_full h 3 lo po _ [] (Bs.nil W) (by simp) (by omega) (by omega) l0 l1 p0 p1 hfit).mono ?_
    rintro e w' ⟨rfl, hb⟩
    exact ⟨rfl, ⟨q, h.keep hb, Went.refl _ _⟩, Ext.ofBelow hb⟩

set_option maxRecDepth 100000 in
set_option maxHeartbeats 1600000 in
theorem store_Seal (h : StAt W q S D) (hon : On S D) (lo : Int) (l0 : 0 ≤ lo) (l1 : lo < 281474976710656) :
    Calls Try.prog 42 #[.pointer (some ⟨q.s, 0, none⟩), .int .i64 lo] W fun e w' => e = .returned (.int .i64 (sealF S D lo).1) ∧ (∃ q', StAt w' q' (sealF S D lo).2.1 (sealF S D lo).2.2 ∧ Went q q' W.heap.size) ∧ Ext q.own W w' := by
  have hmay := store_may h lo 0 0
  rw [if_pos ⟨l0, l1, by omega, by omega⟩] at hmay
  go_enter Try.func42, Try.ntmps42
  go_wp2_with fail
  refine hmay.mono ?_
  rintro e W1 ⟨rfl, b1⟩
  have h1 := h.keep b1
  clear hmay
  go_wp2_with fail
  refine (store_down h1).mono ?_
  rintro e W2 ⟨rfl, b2⟩
  rw [hon.fallen, hon.off]
  have h2 := h1.keep b2
  have hb2 := b1.trans (b2.mono b1.size)
  have c2 := h2.cell.cell (o := 2) rfl
  have hlk := store_lookup h2 lo
  clear h1 b1 b2
  obtain ⟨tl, tr, sl, hget, k1, k2, k3, k4⟩ := S.get_form h lo
  rw [hget] at hlk
  simp only [stV] at hlk
  have Hget := hid hget
  clear hget
  simp only [Bool.or_self]
  have hfld : (Instr.field 116 (.agg #[.int .i64 tl, .int .i64 tr, .bool sl]) 2).run Try.prog W2 = .ok (.bool sl) W2 := by kernel_rfl
  have hwr := hid (store_write_seal h2 hon lo l0 l1)
  have Hb := hid (And.intro h2 hb2)
  clear h2 hb2
  cases sl
  · have HF := hid (show sealF S D lo = writeF S (applySeal S lo) D 2 lo 0 [] by unfold sealF; rw [Hget.out]; rfl)
    go_wp2_with fail
    refine hwr.out.mono ?_
    rintro e w' hpost
    obtain ⟨rfl, ⟨q', a1, a2⟩, a3⟩ := hpost
    go_wp2_with fail
    go_ret
    rw [HF.out]
    exact ⟨rfl, ⟨q', a1, a2.le Hb.out.2.size⟩, (Ext.ofBelow Hb.out.2 : Ext q.own W _).trans' a3⟩
  · have HF := hid (show sealF S D lo = (0, S, D) by unfold sealF; rw [Hget.out]; rfl)
    go_wp2_with fail
    go_ret
    rw [HF.out]
    exact ⟨rfl, ⟨q, Hb.out.1, Went.refl _ _⟩, Ext.ofBelow Hb.out.2⟩

end
end Go.Proofs.Ytbofcocfcmlcaaa
