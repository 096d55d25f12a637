import Derived.Test.YtbofcocfcmlcaaaGreatLKnow
/-! gazettelaw05.NodeNil. -/
namespace Go.Proofs.YtbofcocfcmlcaaaGreat
open Go.RowKit

/-- No node, or one that nobody made. -/
def NoNode (W : World) (v : Value) : Prop := v = .pointer none ∨ ∃ g, v = .pointer (some ⟨g, 0, none⟩) ∧ W.cell? ⟨g, 0, none⟩ = some (.pointer none) ∧ W.cell? ⟨g, 1, none⟩ = some (.pointer none)

section
variable {W : World} {v : Value}
set_option maxHeartbeats 800000 in
theorem non_none (h : NoNode W v) : Calls Tryz.prog 52 #[v] W fun e w' => e = .returned (.bool true) ∧ w' = W := by
  rcases h with rfl | ⟨g, rfl, hc, hd⟩
  · go_enter Tryz.func52, Tryz.ntmps52
    go_wp2_with fail
    go_ret
    exact ⟨rfl, rfl⟩
  · go_enter Tryz.func52, Tryz.ntmps52
    go_wp2_with fail
    go_ret
    exact ⟨rfl, rfl⟩
set_option maxHeartbeats 800000 in
theorem non_Store (h : NoNode W v) : Calls Tryz.prog 20 #[v] W fun e w' => e = .returned (.pointer none) ∧ w' = W := by
  rcases h with rfl | ⟨g, rfl, hc, hd⟩
  · go_enter Tryz.func20, Tryz.ntmps20
    go_wp2_with fail
    go_ret
    exact ⟨rfl, rfl⟩
  · go_enter Tryz.func20, Tryz.ntmps20
    go_wp2_with fail
    go_ret
    exact ⟨rfl, rfl⟩
set_option maxHeartbeats 800000 in
theorem non_Up (h : NoNode W v) : Calls Tryz.prog 19 #[v] W fun e w' => e = .returned (.bool false) ∧ w' = W := by
  go_enter Tryz.func19, Tryz.ntmps19
  go_wp2_with fail
  refine (non_Store h).mono ?_
  rintro e W1 ⟨rfl, hw⟩
  rw [hw]
  clear hw W1
  go_wp2_with fail
  go_ret
  exact ⟨rfl, rfl⟩
set_option maxHeartbeats 800000 in
theorem non_Cut (h : NoNode W v) (k : Int) : Calls Tryz.prog 15 #[v, .int .i64 k] W fun e w' => (∃ x, e = .returned x) ∧ w' = W := by
  go_enter Tryz.func15, Tryz.ntmps15
  go_wp2_with fail
  refine (non_none h).mono ?_
  rintro e W1 ⟨rfl, hw⟩
  rw [hw]
  clear hw W1
  go_wp2_with fail
  go_end0
  exact ⟨⟨_, rfl⟩, rfl⟩
set_option maxHeartbeats 800000 in
theorem non_Stop (h : NoNode W v) : Calls Tryz.prog 16 #[v] W fun e w' => (∃ x, e = .returned x) ∧ w' = W := by
  go_enter Tryz.func16, Tryz.ntmps16
  go_wp2_with fail
  refine (non_none h).mono ?_
  rintro e W1 ⟨rfl, hw⟩
  rw [hw]
  clear hw W1
  go_wp2_with fail
  go_end0
  exact ⟨⟨_, rfl⟩, rfl⟩
set_option maxHeartbeats 800000 in
theorem non_Ask (h : NoNode W v) (a : Option Addr) (n c : Nat) : Calls Tryz.prog 17 #[v, .slice a n c] W fun e w' => e = .returned (.slice none 0 0) ∧ w' = W := by
  go_enter Tryz.func17, Tryz.ntmps17
  go_wp2_with fail
  refine (non_Up h).mono ?_
  rintro e W1 ⟨rfl, hw⟩
  rw [hw]
  clear hw W1
  go_wp2_with fail
  go_ret
  exact ⟨rfl, rfl⟩
set_option maxHeartbeats 800000 in
theorem non_Start (h : NoNode W v) (a : Option Addr) (n c : Nat) : Calls Tryz.prog 18 #[v, .slice a n c] W fun e w' => e = .returned (.int .i64 1) ∧ w' = W := by
  go_enter Tryz.func18, Tryz.ntmps18
  go_wp2_with fail
  refine (non_none h).mono ?_
  rintro e W1 ⟨rfl, hw⟩
  rw [hw]
  clear hw W1
  go_wp2_with fail
  go_ret
  exact ⟨rfl, rfl⟩
end

set_option maxRecDepth 100000 in
set_option maxHeartbeats 12800000 in
theorem law_nodeNil (a0 : Option Addr) (n0 c0 : Nat) (a1 : Option Addr) (n1 c1 : Nat) (W : World) :
    Calls Tryz.prog 5 #[.slice a0 n0 c0, .slice a1 n1 c1] W fun e W' => e = .returned (.bool true) ∧ Below W.heap.size W W' := by
  go_enter Tryz.func5, Tryz.ntmps5
  go_wp2_with fail
  go_loopw [5, 6] (fun s i wr => ∃ j : Nat, j ≤ 2 ∧ i = .int .i64 (j : Int) ∧ NoNode wr s ∧ Below W.heap.size W wr) (fun _ i _ => 2 - (intOf i).toNat)
  case atStart => exact ⟨0, by omega, rfl, .inl rfl, Below.refl _ _⟩
  case round =>
    obtain ⟨j, hj, rfl, hN, hBr⟩ := hrel
    by_cases hlt : j < 2
    · have hd : decide ((j : Int) < 2) = true := decide_eq_true (by omega)
      have HN := hid hN
      have HB := hid hBr
      clear hN hBr
      go_wp2_with fail
      refine (non_Cut HN.out 1).mono ?_
      rintro e Wx ⟨⟨x1, rfl⟩, hw⟩
      rw [hw]
      clear hw Wx
      go_wp2_with fail
      refine (non_Stop HN.out).mono ?_
      rintro e Wx ⟨⟨x2, rfl⟩, hw⟩
      rw [hw]
      clear hw Wx
      go_wp2_with fail
      refine (non_Ask HN.out a0 n0 c0).mono ?_
      rintro e Wx ⟨rfl, hw⟩
      rw [hw]
      clear hw Wx
      go_wp2_with fail
      refine (non_Start HN.out a1 n1 c1).mono ?_
      rintro e Wx ⟨rfl, hw⟩
      rw [hw]
      clear hw Wx
      go_wp2_with fail
      refine (law5_num _ _).mono ?_
      rintro e Wx ⟨rfl, hw⟩
      rw [hw]
      clear hw Wx
      go_wp2_with fail
      refine (non_Up HN.out).mono ?_
      rintro e Wx ⟨rfl, hw⟩
      rw [hw]
      clear hw Wx
      go_wp2_with fail
      refine (non_Store HN.out).mono ?_
      rintro e Wx ⟨rfl, hw⟩
      rw [hw]
      clear hw Wx
      go_wp2_with fail
      go_roundw
      case rel => exact ⟨j + 1, by omega, by go_num, .inr ⟨_, rfl, (Blk.new _ _ _).cell rfl, (Blk.new _ _ _).cell rfl⟩, HB.out.alloc HB.out.size _⟩
      case measure => simp [intOf]; omega
    · obtain rfl : j = 2 := by omega
      go_wp2_with fail
      refine (law5_knows _).mono ?_
      rintro e Wk ⟨rfl, bk⟩
      go_wp2_with fail
      go_ret
      exact ⟨rfl, hBr.trans (bk.mono hBr.size)⟩
end Go.Proofs.YtbofcocfcmlcaaaGreat
