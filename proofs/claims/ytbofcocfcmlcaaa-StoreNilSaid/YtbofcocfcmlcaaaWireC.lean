import Derived.Test.YtbofcocfcmlcaaaWireB
/-! The walks of package wire, on: Get; frames. -/
namespace Go.Proofs.Ytbofcocfcmlcaaa
open Go.RowKit

set_option maxRecDepth 100000 in
set_option maxHeartbeats 800000 in
theorem wire_Get (v : Value) (l : List UInt8) (at_ n : Int) (w : World) (hv : Bs w v l) (hat : 0 ≤ at_) (hn : 1 ≤ n) (hn6 : n ≤ 6) (hle : at_ + n ≤ l.length) :
    Calls Try.prog 106 #[v, .int .i64 at_, .int .i64 n] w fun e w' => e = .returned (.tuple #[.int .i64 ((numOf ((l.drop at_.toNat).take n.toNat) : Nat) : Int), .int .i64 (at_ + n), .int .i64 0]) ∧ Below w.heap.size w w' := by
  obtain ⟨a, c, rfl, hc, hm, ha, hsp, hr⟩ := id hv
  have hmx := hm
  unfold maxLen at hmx
  have hB := Blk.new w #[.slice a l.length c, .int .i64 at_] 173
  have hv1 := hv.keep ((Below.refl _ w).alloc (Nat.le_refl _) (.cells #[.slice a l.length c, .int .i64 at_] 173))
  have hown : ∀ k, (Value.slice a l.length c).ownBlock = some k → k ≠ w.heap.size := by
    intro k hk
    have hne : l ≠ [] := by rintro rfl; simp at hle; omega
    cases a with
    | none => simp [Value.ownBlock] at hk
    | some ad =>
      simp [Value.ownBlock] at hk
      subst hk
      obtain ⟨x, y, rfl⟩ := List.exists_cons_of_ne_nil hne
      obtain ⟨_, e, h⟩ := hr 0 x rfl
      cases e
      have := World.block_lt_of_cell? w _ h
      simp only at this
      omega
  have hbW : Below w.heap.size w (w.alloc (.cells #[.slice a l.length c, .int .i64 at_] 173)) := (Below.refl _ w).alloc (Nat.le_refl _) _
  clear hr
  go_enter Try.func106, Try.ntmps106
  go_wp2_with fail
  generalize w.alloc (.cells #[.slice a l.length c, .int .i64 at_] 173) = W at *
  have c0 := hB.cell (o := 0) rfl
  have c1 := hB.cell (o := 1) rfl
  have cf := hB.free 1
  refine (place_has_true _ _ _ _ _ _ _ c0 c1 hat (by omega) (by omega) (by omega)).mono ?_
  rintro e w' ⟨rfl, k1, rfl⟩
  go_wp2_with fail
  refine (reader_number _ _ _ _ _ _ (W.drewN k1) c0 c1 cf hat (by omega) hn6 (by omega) hle hv1 hown).mono ?_
  rintro e w' ⟨rfl, k2, rfl⟩
  go_wp2_with fail
  have hB2 : Blk (((W.drewN k1).setCell ⟨w.heap.size, 1, none⟩ (.int .i64 (at_ + n))).drewN k2) w.heap.size #[.slice a l.length c, .int .i64 (at_ + n)] 173 := hB.set (o := 1) _
  have hbW2 : Below w.heap.size w (((W.drewN k1).setCell ⟨w.heap.size, 1, none⟩ (.int .i64 (at_ + n))).drewN k2) := below_drewN (Below.setCell (p := ⟨w.heap.size, 1, none⟩) (below_drewN hbW k1) (Nat.le_refl _) _) k2
  generalize ((W.drewN k1).setCell ⟨w.heap.size, 1, none⟩ (.int .i64 (at_ + n))).drewN k2 = W2 at *
  have c2 := hB2.cell (o := 1) rfl
  clear hB hv1 c0 c1 cf hbW hv
  go_quiet (fail)
  go_wp2_with fail
  go_ret3
  exact ⟨rfl, below_drewN hbW2 _⟩

set_option maxHeartbeats 400000 in
theorem store_number (v : Value) (l : List UInt8) (at_ n : Int) (w : World) (hv : Bs w v l) (hat : 0 ≤ at_) (hn : 1 ≤ n) (hn6 : n ≤ 6) (hle : at_ + n ≤ l.length) :
    Calls Try.prog 90 #[v, .int .i64 at_, .int .i64 n] w fun e w' => e = .returned (.int .i64 ((numOf ((l.drop at_.toNat).take n.toNat) : Nat) : Int)) ∧ Below w.heap.size w w' := by
  go_enter Try.func90, Try.ntmps90
  go_wp2_with fail
  refine (wire_Get _ _ _ _ _ hv hat hn hn6 hle).mono ?_
  rintro e w' ⟨rfl, hb⟩
  go_wp2_with fail
  go_ret
  exact ⟨rfl, hb⟩

end Go.Proofs.Ytbofcocfcmlcaaa
