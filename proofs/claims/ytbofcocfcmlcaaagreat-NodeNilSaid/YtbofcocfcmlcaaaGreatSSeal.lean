import Derived.Test.YtbofcocfcmlcaaaGreatSPut
/-! Package store, on: Seal, Trim, state, Tail. -/
namespace Go.Proofs.YtbofcocfcmlcaaaGreat
open Go.RowKit

def sealF (S : St) (D : Dk) (lo : Int) : Int × St × Dk := if (S.get lo).2.2 then (0, S, D) else writeF S (applySeal S lo) D 2 lo 0 []
def trimF (S : St) (D : Dk) (lo po : Int) : Int × St × Dk := if po ≤ (S.get lo).2.1 then (0, S, D) else writeF S (applyTrim S lo po) D 3 lo po []
theorem sealF_on {S : St} {D : Dk} (h : On S D) (lo : Int) : On (sealF S D lo).2.1 (sealF S D lo).2.2 := by
  unfold sealF
  split
  · exact h
  · exact writeF_on (S1 := applySeal S lo) h rfl 2 lo 0 []
theorem trimF_on {S : St} {D : Dk} (h : On S D) (lo po : Int) : On (trimF S D lo po).2.1 (trimF S D lo po).2.2 := by
  unfold trimF
  split
  · exact h
  · exact writeF_on (S1 := applyTrim S lo po) h rfl 3 lo po []

theorem size_state : (Tryz.prog.info? 123).map (·.size) = some 3 := by kernel_rfl

section
variable {W : World} {q : StP} {S S1 : St} {D : Dk}

theorem store_write_seal (h : StAt W q S D) (hon : On S D) (lo : Int) (l0 : 0 ≤ lo) (l1 : lo < 281474976710656) :
    Calls Tryz.prog 70 #[.pointer (some ⟨q.s, 0, none⟩), .agg #[.int .i64 2, .int .i64 lo, .int .i64 0, .slice none 0 0]] W fun e w' => e = .returned (.int .i64 (writeF S (applySeal S lo) D 2 lo 0 []).1) ∧ (∃ q', StAt w' q' (writeF S (applySeal S lo) D 2 lo 0 []).2.1 (writeF S (applySeal S lo) D 2 lo 0 []).2.2 ∧ Went q q' W.heap.size) ∧ Ext q.own W w' := by
  unfold writeF
  by_cases hfit : S.fin + chunks (entryB 2 lo 0 []) ≤ D.texts.length
  · rw [if_pos hfit]
    refine (store_write_ok (S1 := applySeal S lo) h hon.off hon.fuse hon.vers 2 lo 0 _ [] (Bs.nil W) (fun g hg => by simp [Value.ownBlock] at hg) (by simp) (by omega) (by omega) l0 l1 (by omega) (by omega) hfit rfl rfl ?_).mono ?_
    · intro D' W1 q1 hS1 _ hlen v1 hv1
      refine store_do_seal hS1 lo 0 v1 [] hv1 _ (chunks_entry 2 lo 0 []) (by rw [hlen]; exact hfit) rfl rfl ?_
      intro W2 hS2 hv2
      refine (store_seal hS2 2 lo 0 v1 [] hv2).mono ?_
      rintro e w' ⟨⟨v9, rfl⟩, h1, hx⟩
      exact ⟨⟨v9, rfl⟩, ⟨q1, h1, Moves.refl _ _⟩, hx.mono (fun b _ hb => .inr hb)⟩
    · rintro e w' ⟨rfl, ⟨q', h1, h2, h3, h4, h5, h6⟩, hx⟩
      exact ⟨rfl, ⟨q', h1, h2, h3, h4, h5, h6⟩, hx⟩
  · rw [if_neg hfit]
    refine (store_write_full h 2 lo 0 _ [] (Bs.nil W) (by simp) (by omega) (by omega) l0 l1 (by omega) (by omega) hfit).mono ?_
    rintro e w' ⟨rfl, hb⟩
    exact ⟨rfl, ⟨q, h.keep hb, Went.refl _ _⟩, Ext.ofBelow hb⟩

theorem store_write_trim (h : StAt W q S D) (hon : On S D) (lo po : Int) (l0 : 0 ≤ lo) (l1 : lo < 281474976710656) (p0 : 0 ≤ po) (p1 : po < 281474976710656) :
    Calls Tryz.prog 70 #[.pointer (some ⟨q.s, 0, none⟩), .agg #[.int .i64 3, .int .i64 lo, .int .i64 po, .slice none 0 0]] W fun e w' => e = .returned (.int .i64 (writeF S (applyTrim S lo po) D 3 lo po []).1) ∧ (∃ q', StAt w' q' (writeF S (applyTrim S lo po) D 3 lo po []).2.1 (writeF S (applyTrim S lo po) D 3 lo po []).2.2 ∧ Went q q' W.heap.size) ∧ Ext q.own W w' := by
  unfold writeF
  by_cases hfit : S.fin + chunks (entryB 3 lo po []) ≤ D.texts.length
  · rw [if_pos hfit]
    refine (store_write_ok (S1 := applyTrim S lo po) h hon.off hon.fuse hon.vers 3 lo po _ [] (Bs.nil W) (fun g hg => by simp [Value.ownBlock] at hg) (by simp) (by omega) (by omega) l0 l1 p0 p1 hfit rfl rfl ?_).mono ?_
    · intro D' W1 q1 hS1 _ hlen v1 hv1
      refine store_do_trim hS1 lo po v1 [] hv1 _ (chunks_entry 3 lo po []) (by rw [hlen]; exact hfit) rfl rfl ?_
      intro W2 hS2 hv2
      refine (store_trim hS2 3 lo po v1 [] hv2 p0 (by omega)).mono ?_
      rintro e w' ⟨⟨v9, rfl⟩, h1, hx⟩
      exact ⟨⟨v9, rfl⟩, ⟨q1, h1, Moves.refl _ _⟩, hx.mono (fun b _ hb => .inr hb)⟩
    · rintro e w' ⟨rfl, ⟨q', h1, h2, h3, h4, h5, h6⟩, hx⟩
      exact ⟨rfl, ⟨q', h1, h2, h3, h4, h5, h6⟩, hx⟩
  · rw [if_neg hfit]
    refine (store_write_full h 3 lo po _ [] (Bs.nil W) (by simp) (by omega) (by omega) l0 l1 p0 p1 hfit).mono ?_
    rintro e w' ⟨rfl, hb⟩
    exact ⟨rfl, ⟨q, h.keep hb, Went.refl _ _⟩, Ext.ofBelow hb⟩

set_option maxRecDepth 100000 in
set_option maxHeartbeats 1600000 in
theorem store_Seal (h : StAt W q S D) (hon : On S D) (lo : Int) (l0 : 0 ≤ lo) (l1 : lo < 281474976710656) :
    Calls Tryz.prog 27 #[.pointer (some ⟨q.s, 0, none⟩), .int .i64 lo] W fun e w' => e = .returned (.int .i64 (sealF S D lo).1) ∧ (∃ q', StAt w' q' (sealF S D lo).2.1 (sealF S D lo).2.2 ∧ Went q q' W.heap.size) ∧ Ext q.own W w' := by
  have hmay := store_may h lo 0 0
  rw [if_pos ⟨l0, l1, by omega, by omega⟩] at hmay
  go_enter Tryz.func27, Tryz.ntmps27
  go_wp2_with fail
  refine hmay.mono ?_
  rintro e W1 ⟨rfl, b1⟩
  have h1 := h.keep b1
  clear hmay
  go_wp2_with fail
  refine (store_down h1).mono ?_
  rintro e W2 ⟨rfl, b2⟩
  rw [hon.fallen, hon.off]
  have h2 := h1.keep b2
  have hb2 := b1.trans (b2.mono b1.size)
  have c2 := h2.cell.cell (o := 2) rfl
  have hlk := store_lookup h2 lo
  clear h1 b1 b2
  obtain ⟨tl, tr, sl, hget, k1, k2, k3, k4⟩ := S.get_form h lo
  rw [hget] at hlk
  simp only [stV] at hlk
  have Hget := hid hget
  clear hget
  simp only [Bool.or_self]
  have hfld : (Instr.field 123 (.agg #[.int .i64 tl, .int .i64 tr, .bool sl]) 2).run Tryz.prog W2 = .ok (.bool sl) W2 := by kernel_rfl
  have hwr := hid (store_write_seal h2 hon lo l0 l1)
  have Hb := hid (And.intro h2 hb2)
  clear h2 hb2
  cases sl
  · have HF := hid (show sealF S D lo = writeF S (applySeal S lo) D 2 lo 0 [] by unfold sealF; rw [Hget.out]; rfl)
    go_wp2_with fail
    refine hwr.out.mono ?_
    rintro e w' hpost
    obtain ⟨rfl, ⟨q', a1, a2⟩, a3⟩ := hpost
    go_wp2_with fail
    go_ret
    rw [HF.out]
    exact ⟨rfl, ⟨q', a1, a2.le Hb.out.2.size⟩, (Ext.ofBelow Hb.out.2 : Ext q.own W _).trans' a3⟩
  · have HF := hid (show sealF S D lo = (0, S, D) by unfold sealF; rw [Hget.out]; rfl)
    go_wp2_with fail
    go_ret
    rw [HF.out]
    exact ⟨rfl, ⟨q, Hb.out.1, Went.refl _ _⟩, Ext.ofBelow Hb.out.2⟩

set_option maxRecDepth 100000 in
set_option maxHeartbeats 1600000 in
theorem store_state (h : StAt W q S D) (lo : Int) :
    Calls Tryz.prog 72 #[.pointer (some ⟨q.s, 0, none⟩), .int .i64 lo] W fun e w' => e = .returned (stV (S.get lo)) ∧ Below W.heap.size W w' := by
  obtain ⟨tl, tr, sl, hget, k1, k2, k3, k4⟩ := S.get_form h lo
  have h1 := h.keep ((Below.refl _ W).alloc (Nat.le_refl _) (.cells #[.int .i64 0, .int .i64 0, .bool false] 123))
  have bX := Blk.new W #[.int .i64 0, .int .i64 0, .bool false] 123
  have b1 : Below W.heap.size W (W.alloc (.cells #[.int .i64 0, .int .i64 0, .bool false] 123)) := (Below.refl _ W).alloc (Nat.le_refl _) _
  have hno := store_none h1
  have hlk := store_lookup h1 lo
  rw [hget] at hlk
  simp only [stV] at hlk
  have c2 := h1.cell.cell (o := 2) rfl
  have Hget := hid hget
  clear hget h1
  obtain ⟨W1, hW1⟩ : ∃ W1, W.alloc (.cells #[.int .i64 0, .int .i64 0, .bool false] 123) = W1 := ⟨_, rfl⟩
  rw [hW1] at hno hlk c2 bX b1
  have x0 := bX.cell (o := 0) rfl
  have x1 := bX.cell (o := 1) rfl
  have x2 := bX.cell (o := 2) rfl
  have f0 := bX.free 0
  have f1 := bX.free 1
  have f2 := bX.free 2
  have bF := ((bX.set (o := 0) (.int .i64 tl)).set (o := 1) (.int .i64 tr)).set (o := 2) (.bool sl)
  simp only [List.setIfInBounds_toArray, List.set_cons_zero, List.set_cons_succ] at bF
  have bS : Below W.heap.size W (((W1.setCell ⟨W.heap.size, 0, none⟩ (.int .i64 tl)).setCell ⟨W.heap.size, 1, none⟩ (.int .i64 tr)).setCell ⟨W.heap.size, 2, none⟩ (.bool sl)) :=
    ((b1.setCell (p := ⟨W.heap.size, 0, none⟩) (by simp) _).setCell (p := ⟨W.heap.size, 1, none⟩) (by simp) _).setCell (p := ⟨W.heap.size, 2, none⟩) (by simp) _
  have HF := hid (And.intro bF bS)
  clear bF bS bX
  go_enter Tryz.func72, Tryz.ntmps72
  go_wp2_with fail
  refine hno.mono ?_
  rintro e W2 ⟨rfl, h2⟩
  subst h2
  go_wp2_with fail
  refine bodyPost_ret (results_cell_row rfl _ _ W.heap.size 123 _ (0, 0) _ rfl HF.out.1 Tryz.underlying123 rfl size_state) rfl ?_
  exact ⟨by rw [Hget.out]; rfl, HF.out.2⟩

set_option maxRecDepth 100000 in
set_option maxHeartbeats 1600000 in
theorem store_Tail (h : StAt W q S D) (lo : Int) :
    Calls Tryz.prog 29 #[.pointer (some ⟨q.s, 0, none⟩), .int .i64 lo] W fun e w' => e = .returned (.int .i64 (max (S.get lo).1 (S.get lo).2.1)) ∧ Below W.heap.size W w' := by
  go_enter Tryz.func29, Tryz.ntmps29
  go_wp2_with fail
  refine (store_state h lo).mono ?_
  rintro e W1 ⟨rfl, b1⟩
  obtain ⟨tl, tr, sl, hget, k1, k2, k3, k4⟩ := S.get_form h lo
  rw [hget]
  simp only [stV]
  have Hget := hid hget
  clear hget
  have bz : Below W.heap.size W (W1.alloc (.cells #[.int .i64 tl, .int .i64 tr, .bool sl] 123)) := b1.alloc b1.size _
  have HB := hid bz
  clear bz
  by_cases hm : tl < tr
  · have hd : decide (tl < tr) = true := decide_eq_true hm
    go_wp2_with fail
    all_goals go_ret
    all_goals (rw [Hget.out]; exact ⟨by simp only []; rw [show max tl tr = tr from by omega]; rfl, HB.out⟩)
  · have hd : decide (tl < tr) = false := decide_eq_false hm
    go_wp2_with fail
    all_goals go_ret
    all_goals (rw [Hget.out]; exact ⟨by simp only []; rw [show max tl tr = tl from by omega]; rfl, HB.out⟩)
end

end Go.Proofs.YtbofcocfcmlcaaaGreat
