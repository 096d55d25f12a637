import Derived.Test.YtbofcocfcmlcaaaSPut
/-! Package store, on: state, Tail. -/
namespace Go.Proofs.Ytbofcocfcmlcaaa
open Go.RowKit

section
variable {W : World} {q : StP} {S : St} {D : Dk}
theorem size_state : (Try.prog.info? 116).map (·.size) = some 3 := by kernel_rfl

set_option maxRecDepth 100000 in
set_option maxHeartbeats 1600000 in
theorem store_state (h : StAt W q S D) (lo : Int) :
    Calls Try.prog 63 #[.pointer (some ⟨q.s, 0, none⟩), .int .i64 lo] W fun e w' => e = .returned (stV (S.get lo)) ∧ Below W.heap.size W w' := by
  obtain ⟨tl, tr, sl, hget, k1, k2, k3, k4⟩ := S.get_form h lo
  have h1 := h.keep ((Below.refl _ W).alloc (Nat.le_refl _) (.cells #[.int .i64 0, .int .i64 0, .bool false] 116))
  have bX := Blk.new W #[.int .i64 0, .int .i64 0, .bool false] 116
  have b1 : Below W.heap.size W (W.alloc (.cells #[.int .i64 0, .int .i64 0, .bool false] 116)) := (Below.refl _ W).alloc (Nat.le_refl _) _
  have hno := store_none h1
  have hlk := store_lookup h1 lo
  rw [hget] at hlk
  simp only [stV] at hlk
  have c2 := h1.cell.cell (o := 2) rfl
  have Hget := hid hget
  clear hget h1
  obtain ⟨W1, hW1⟩ : ∃ W1, W.alloc (.cells #[.int .i64 0, .int .i64 0, .bool false] 116) = W1 := ⟨_, rfl⟩
  rw [hW1] at hno hlk c2 bX b1
  have x0 := bX.cell (o := 0) rfl
  have x1 := bX.cell (o := 1) rfl
  have x2 := bX.cell (o := 2) rfl
  have f0 := bX.free 0
  have f1 := bX.free 1
  have f2 := bX.free 2
  have bF := ((bX.set (o := 0) (.int .i64 tl)).set (o := 1) (.int .i64 tr)).set (o := 2) (.bool sl)
  simp only [List.setIfInBounds_toArray, List.set_cons_zero, List.set_cons_succ] at bF
  have bS : Below W.heap.size W (((W1.setCell ⟨W.heap.size, 0, none⟩ (.int .i64 tl)).setCell ⟨W.heap.size, 1, none⟩ (.int .i64 tr)).setCell ⟨W.heap.size, 2, none⟩ (.bool sl)) :=
    ((b1.setCell (p := ⟨W.heap.size, 0, none⟩) (by simp) _).setCell (p := ⟨W.heap.size, 1, none⟩) (by simp) _).setCell (p := ⟨W.heap.size, 2, none⟩) (by simp) _
  have HF := hid (And.intro bF bS)
  clear bF bS bX
  go_enter Try.func63, Try.ntmps63
  go_wp2_with fail
  refine hno.mono ?_
  rintro e W2 ⟨rfl, h2⟩
  subst h2
  go_wp2_with fail
  refine bodyPost_ret (results_cell_row rfl _ _ W.heap.size 116 _ (0, 0) _ rfl HF.out.1 Try.underlying116 rfl size_state) rfl ?_
  exact ⟨by rw [Hget.out]; rfl, HF.out.2⟩

set_option maxRecDepth 100000 in
set_option maxHeartbeats 1600000 in
theorem store_Tail (h : StAt W q S D) (lo : Int) :
    Calls Try.prog 21 #[.pointer (some ⟨q.s, 0, none⟩), .int .i64 lo] W fun e w' => e = .returned (.int .i64 (max (S.get lo).1 (S.get lo).2.1)) ∧ Below W.heap.size W w' := by
  go_enter Try.func21, Try.ntmps21
  go_wp2_with fail
  refine (store_state h lo).mono ?_
  rintro e W1 ⟨rfl, b1⟩
  obtain ⟨tl, tr, sl, hget, k1, k2, k3, k4⟩ := S.get_form h lo
  rw [hget]
  simp only [stV]
  have Hget := hid hget
  clear hget
  have bz : Below W.heap.size W (W1.alloc (.cells #[.int .i64 tl, .int .i64 tr, .bool sl] 116)) := b1.alloc b1.size _
  have HB := hid bz
  clear bz
  by_cases hm : tl < tr
  · have hd : decide (tl < tr) = true := decide_eq_true hm
    go_wp2_with fail
    all_goals go_ret
    all_goals (rw [Hget.out]; exact ⟨by simp only []; rw [show max tl tr = tr from by omega]; rfl, HB.out⟩)
  · have hd : decide (tl < tr) = false := decide_eq_false hm
    go_wp2_with fail
    all_goals go_ret
    all_goals (rw [Hget.out]; exact ⟨by simp only []; rw [show max tl tr = tl from by omega]; rfl, HB.out⟩)
end
end Go.Proofs.Ytbofcocfcmlcaaa
