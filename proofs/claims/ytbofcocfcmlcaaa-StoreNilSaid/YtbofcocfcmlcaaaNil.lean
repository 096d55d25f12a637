import Derived.Test.YtbofcocfcmlcaaaKnows
import Derived.Test.YtbofcocfcmlcaaaLaw
/-! Stores that nobody made. -/
namespace Go.Proofs.Ytbofcocfcmlcaaa
open Go.RowKit

theorem size_state3 : (Try.prog.info? 116).map (·.size) = some 3 := by kernel_rfl
/-- No store, or one that nobody made. -/
def NoSt (W : World) (v : Value) : Prop := v = .pointer none ∨ ∃ g, v = .pointer (some ⟨g, 0, none⟩) ∧ W.cell? ⟨g, 0, none⟩ = some (.pointer none)
theorem NoSt.keep {W W' : World} {v : Value} (h : NoSt W v) (hb : Below W.heap.size W W') : NoSt W' v := by
  rcases h with h | ⟨g, h1, h2⟩
  · exact .inl h
  · exact .inr ⟨g, h1, ext_cell h2 (fp := nofp) (Ext.ofBelow hb) (fun h => h)⟩

section
variable {W : World} {v : Value}
set_option maxRecDepth 100000 in
set_option maxHeartbeats 800000 in
theorem nil_none (h : NoSt W v) : Calls Try.prog 58 #[v] W fun e w' => e = .returned (.bool true) ∧ w' = W := by
  rcases h with rfl | ⟨g, rfl, hc⟩
  · go_enter Try.func58, Try.ntmps58
    go_wp2_with fail
    go_ret
    exact ⟨rfl, rfl⟩
  · go_enter Try.func58, Try.ntmps58
    go_wp2_with fail
    go_ret
    exact ⟨rfl, rfl⟩
set_option maxRecDepth 100000 in
set_option maxHeartbeats 800000 in
theorem nil_may (h : NoSt W v) (lo po mo : Int) : Calls Try.prog 59 #[v, .int .i64 lo, .int .i64 po, .int .i64 mo] W fun e w' => e = .returned (.int .i64 1) ∧ w' = W := by
  go_enter Try.func59, Try.ntmps59
  go_wp2_with fail
  refine (nil_none h).mono ?_
  rintro e W1 ⟨rfl, hw⟩
  rw [hw]
  clear hw W1
  go_wp2_with fail
  go_ret
  exact ⟨rfl, rfl⟩
set_option maxRecDepth 100000 in
set_option maxHeartbeats 800000 in
theorem nil_Get (h : NoSt W v) (lo po : Int) : Calls Try.prog 41 #[v, .int .i64 lo, .int .i64 po] W fun e w' => e = .returned (.tuple #[.slice none 0 0, .int .i64 1]) ∧ w' = W := by
  go_enter Try.func41, Try.ntmps41
  go_wp2_with fail
  refine (nil_may h _ _ _).mono ?_
  rintro e W1 ⟨rfl, hw⟩
  rw [hw]
  clear hw W1
  go_wp2_with fail
  go_ret2
  exact ⟨rfl, rfl⟩
set_option maxRecDepth 100000 in
set_option maxHeartbeats 800000 in
theorem nil_Put (h : NoSt W v) (lo po : Int) (a : Option Addr) (n c : Nat) (r : Bool) : Calls Try.prog 18 #[v, .int .i64 lo, .int .i64 po, .slice a n c, .bool r] W fun e w' => e = .returned (.int .i64 1) ∧ w' = W := by
  go_enter Try.func18, Try.ntmps18
  go_wp2_with fail
  refine (nil_may h _ _ _).mono ?_
  rintro e W1 ⟨rfl, hw⟩
  rw [hw]
  clear hw W1
  go_wp2_with fail
  go_ret
  exact ⟨rfl, rfl⟩
set_option maxRecDepth 100000 in
set_option maxHeartbeats 800000 in
theorem nil_Seal (h : NoSt W v) (lo : Int) : Calls Try.prog 42 #[v, .int .i64 lo] W fun e w' => e = .returned (.int .i64 1) ∧ w' = W := by
  go_enter Try.func42, Try.ntmps42
  go_wp2_with fail
  refine (nil_may h _ _ _).mono ?_
  rintro e W1 ⟨rfl, hw⟩
  rw [hw]
  clear hw W1
  go_wp2_with fail
  go_ret
  exact ⟨rfl, rfl⟩
set_option maxRecDepth 100000 in
set_option maxHeartbeats 800000 in
theorem nil_Trim (h : NoSt W v) (lo po : Int) : Calls Try.prog 43 #[v, .int .i64 lo, .int .i64 po] W fun e w' => e = .returned (.int .i64 1) ∧ w' = W := by
  go_enter Try.func43, Try.ntmps43
  go_wp2_with fail
  refine (nil_may h _ _ _).mono ?_
  rintro e W1 ⟨rfl, hw⟩
  rw [hw]
  clear hw W1
  go_wp2_with fail
  go_ret
  exact ⟨rfl, rfl⟩
set_option maxRecDepth 100000 in
set_option maxHeartbeats 800000 in
theorem nil_Free (h : NoSt W v) : Calls Try.prog 17 #[v] W fun e w' => e = .returned (.int .i64 0) ∧ w' = W := by
  go_enter Try.func17, Try.ntmps17
  go_wp2_with fail
  refine (nil_none h).mono ?_
  rintro e W1 ⟨rfl, hw⟩
  rw [hw]
  clear hw W1
  go_wp2_with fail
  go_ret
  exact ⟨rfl, rfl⟩
set_option maxRecDepth 100000 in
set_option maxHeartbeats 800000 in
theorem nil_Loglets (h : NoSt W v) : Calls Try.prog 45 #[v] W fun e w' => e = .returned (.slice none 0 0) ∧ w' = W := by
  go_enter Try.func45, Try.ntmps45
  go_wp2_with fail
  refine (nil_none h).mono ?_
  rintro e W1 ⟨rfl, hw⟩
  rw [hw]
  clear hw W1
  go_wp2_with fail
  go_ret
  exact ⟨rfl, rfl⟩
set_option maxRecDepth 100000 in
set_option maxHeartbeats 800000 in
theorem nil_state (h : NoSt W v) (lo : Int) : Calls Try.prog 63 #[v, .int .i64 lo] W fun e w' => e = .returned (.agg #[.int .i64 0, .int .i64 0, .bool false]) ∧ Below W.heap.size W w' := by
  obtain ⟨W1, hW1⟩ : ∃ W1, W.alloc (.cells #[.int .i64 0, .int .i64 0, .bool false] 116) = W1 := ⟨_, rfl⟩
  have b1 : Below W.heap.size W W1 := by rw [← hW1]; exact (Below.refl _ W).alloc (Nat.le_refl _) _
  have k1 : Blk W1 W.heap.size #[.int .i64 0, .int .i64 0, .bool false] 116 := by rw [← hW1]; exact Blk.new W _ _
  have h1 := h.keep b1
  clear h
  go_enter Try.func63, Try.ntmps63
  go_wp2_with fail
  clear hW1
  refine (nil_none h1).mono ?_
  rintro e W2 ⟨rfl, hw⟩
  rw [hw]
  clear hw W2
  have m0 := k1.cell (o := 0) rfl
  have m1 := k1.cell (o := 1) rfl
  have m2 := k1.cell (o := 2) rfl
  have f0 := k1.free 0
  have f1 := k1.free 1
  have f2 := k1.free 2
  obtain ⟨W5, hW5⟩ : ∃ W5, ((W1.setCell ⟨W.heap.size, 0, none⟩ (.int .i64 0)).setCell ⟨W.heap.size, 1, none⟩ (.int .i64 0)).setCell ⟨W.heap.size, 2, none⟩ (.bool false) = W5 := ⟨_, rfl⟩
  have k5 := ((k1.set (o := 0) (.int .i64 0)).set (o := 1) (.int .i64 0)).set (o := 2) (.bool false)
  rw [hW5] at k5
  simp only [List.setIfInBounds_toArray, List.set_cons_zero, List.set_cons_succ] at k5
  have b5 : Below W.heap.size W W5 := by rw [← hW5]; exact ((b1.setCell (p := ⟨W.heap.size, 0, none⟩) (by simp) _).setCell (p := ⟨W.heap.size, 1, none⟩) (by simp) _).setCell (p := ⟨W.heap.size, 2, none⟩) (by simp) _
  have HH := hid (And.intro k5 b5)
  have HW := hid hW5
  clear k5 b5 k1 b1 hW5 h1
  go_wp2_with fail
  rw [HW.out]
  have hld := run_loadVar_row (P := Try.prog) W5 W.heap.size 116 116 _ (0, 0) _ HH.out.1 Try.underlying116 rfl size_state3
  refine bodyPost_ret (v := .agg #[.int .i64 0, .int .i64 0, .bool false]) ?_ rfl ?_
  · simp [results, Try.results63, hld, asAddr]
  · exact ⟨rfl, HH.out.2⟩
set_option maxRecDepth 100000 in
set_option maxHeartbeats 800000 in
theorem nil_Tail (h : NoSt W v) (lo : Int) : Calls Try.prog 21 #[v, .int .i64 lo] W fun e w' => e = .returned (.int .i64 0) ∧ Below W.heap.size W w' := by
  go_enter Try.func21, Try.ntmps21
  go_wp2_with fail
  refine (nil_state h _).mono ?_
  rintro e W1 ⟨rfl, b1⟩
  go_wp2_with fail
  go_ret
  exact ⟨rfl, b1.alloc b1.size _⟩
set_option maxRecDepth 100000 in
set_option maxHeartbeats 800000 in
theorem nil_Sealed (h : NoSt W v) (lo : Int) : Calls Try.prog 46 #[v, .int .i64 lo] W fun e w' => e = .returned (.bool false) ∧ Below W.heap.size W w' := by
  go_enter Try.func46, Try.ntmps46
  go_wp2_with fail
  refine (nil_state h _).mono ?_
  rintro e W1 ⟨rfl, b1⟩
  have hfld : (Instr.field 116 (.agg #[.int .i64 0, .int .i64 0, .bool false]) 2).run Try.prog W1 = .ok (.bool false) W1 := by kernel_rfl
  go_wp2_with fail
  go_ret
  exact ⟨rfl, b1⟩
set_option maxRecDepth 100000 in
set_option maxHeartbeats 800000 in
theorem nil_Trimmed (h : NoSt W v) (lo : Int) : Calls Try.prog 44 #[v, .int .i64 lo] W fun e w' => e = .returned (.int .i64 0) ∧ Below W.heap.size W w' := by
  go_enter Try.func44, Try.ntmps44
  go_wp2_with fail
  refine (nil_state h _).mono ?_
  rintro e W1 ⟨rfl, b1⟩
  have hfld : (Instr.field 116 (.agg #[.int .i64 0, .int .i64 0, .bool false]) 1).run Try.prog W1 = .ok (.int .i64 0) W1 := by kernel_rfl
  go_wp2_with fail
  go_ret
  exact ⟨rfl, b1⟩
end
section
variable {W : World}
set_option maxRecDepth 100000 in
set_option maxHeartbeats 800000 in
theorem nil_disk (g : Nat) (h : W.cell? ⟨g, 0, none⟩ = some (.slice none 0 0)) : Calls Try.prog 50 #[.pointer (some ⟨g, 0, none⟩)] W fun e w' => e = .returned (.int .i64 0) ∧ w' = W := by
  have hn : Calls Try.prog 87 #[.pointer (some ⟨g, 0, none⟩)] W fun e w' => e = .returned (.bool true) ∧ w' = W := by
    go_enter Try.func87, Try.ntmps87
    go_wp2_with fail
    go_ret
    exact ⟨rfl, rfl⟩
  go_enter Try.func50, Try.ntmps50
  go_wp2_with fail
  refine hn.mono ?_
  rintro e W1 ⟨rfl, hw⟩
  rw [hw]
  clear hw W1
  go_wp2_with fail
  go_ret
  exact ⟨rfl, rfl⟩
set_option maxRecDepth 100000 in
set_option maxHeartbeats 800000 in
theorem nil_Open (W : World) : Calls Try.prog 14 #[.pointer none] W fun e w' => e = .returned (.tuple #[.pointer none, .int .i64 1]) ∧ w' = W := by
  go_enter Try.func14, Try.ntmps14
  go_wp2_with fail
  go_ret2
  exact ⟨rfl, rfl⟩
set_option maxRecDepth 100000 in
set_option maxHeartbeats 800000 in
theorem zero_Open (g : Nat) (h : W.cell? ⟨g, 0, none⟩ = some (.slice none 0 0)) : Calls Try.prog 14 #[.pointer (some ⟨g, 0, none⟩)] W fun e w' => e = .returned (.tuple #[.pointer none, .int .i64 1]) ∧ w' = W := by
  go_enter Try.func14, Try.ntmps14
  go_wp2_with fail
  refine (nil_disk g h).mono ?_
  rintro e W1 ⟨rfl, hw⟩
  rw [hw]
  clear hw W1
  go_wp2_with fail
  go_ret2
  exact ⟨rfl, rfl⟩
end

set_option maxRecDepth 100000 in
set_option maxHeartbeats 12800000 in
theorem law_nil (lo po : Int) (va : Option Addr) (n vc : Nat) (W : World) :
    Calls Try.prog 11 #[.int .i64 lo, .int .i64 po, .slice va n vc] W fun e W' => e = .returned (.bool true) ∧ Below W.heap.size W W' := by
  have hO := zero_Open (W := W.alloc (.cells #[.slice none 0 0, .map none, .map none, .bool false, .int .i64 0] 92)) W.heap.size ((Blk.new W _ _).cell rfl)
  have HO := hid hO
  have HB0 := hid (show Below W.heap.size W (W.alloc (.cells #[.slice none 0 0, .map none, .map none, .bool false, .int .i64 0] 92)) from (Below.refl _ W).alloc (Nat.le_refl _) _)
  clear hO
  go_enter Try.func11, Try.ntmps11
  go_wp2_with fail
  refine (nil_Open W).mono ?_
  rintro e Wx ⟨rfl, hw⟩
  rw [hw]
  clear hw Wx
  go_wp2_with fail
  refine HO.out.mono ?_
  rintro e Wx ⟨rfl, hw⟩
  rw [hw]
  clear hw Wx HO
  obtain ⟨W1, hW1⟩ : ∃ W1, W.alloc (.cells #[.slice none 0 0, .map none, .map none, .bool false, .int .i64 0] 92) = W1 := ⟨_, rfl⟩
  have hb1 : Below W.heap.size W W1 := by rw [← hW1]; exact HB0.out
  have HB := hid hb1
  rw [hW1]
  clear HB0 hb1 hW1
  go_wp2_with fail
  refine (law_num _ _).mono ?_
  rintro e Wx ⟨rfl, hw⟩
  rw [hw]
  clear hw Wx
  go_wp2_with fail
  refine (law_num _ _).mono ?_
  rintro e Wx ⟨rfl, hw⟩
  rw [hw]
  clear hw Wx
  go_wp2_with fail
  go_loopw [11, 12] (fun s i wr => ∃ j : Nat, j ≤ 2 ∧ i = .int .i64 (j : Int) ∧ NoSt wr s ∧ Below W.heap.size W wr) (fun _ i _ => 2 - (intOf i).toNat)
  case atStart => exact ⟨0, by omega, rfl, .inl rfl, HB.out⟩
  case round =>
    obtain ⟨j, hj, rfl, hN, hBr⟩ := hrel
    clear HB
    by_cases hlt : j < 2
    · have hd : decide ((j : Int) < 2) = true := decide_eq_true (by omega)
      have HN := hid hN
      have HB := hid hBr
      clear hN hBr
      go_wp2_with fail
      refine (nil_Get HN.out lo po).mono ?_
      rintro e Wx ⟨rfl, hw⟩
      rw [hw]
      clear hw Wx
      go_wp2_with fail
      refine (nil_Put HN.out lo po va n vc true).mono ?_
      rintro e Wx ⟨rfl, hw⟩
      rw [hw]
      clear hw Wx
      go_wp2_with fail
      refine (law_num _ _).mono ?_
      rintro e Wx ⟨rfl, hw⟩
      rw [hw]
      clear hw Wx
      go_wp2_with fail
      refine (nil_Seal HN.out lo).mono ?_
      rintro e Wx ⟨rfl, hw⟩
      rw [hw]
      clear hw Wx
      go_wp2_with fail
      refine (law_num _ _).mono ?_
      rintro e Wx ⟨rfl, hw⟩
      rw [hw]
      clear hw Wx
      go_wp2_with fail
      refine (nil_Trim HN.out lo po).mono ?_
      rintro e Wx ⟨rfl, hw⟩
      rw [hw]
      clear hw Wx
      go_wp2_with fail
      refine (law_num _ _).mono ?_
      rintro e Wx ⟨rfl, hw⟩
      rw [hw]
      clear hw Wx
      go_wp2_with fail
      refine (law_num _ _).mono ?_
      rintro e Wx ⟨rfl, hw⟩
      rw [hw]
      clear hw Wx
      go_wp2_with fail
      refine (nil_Tail HN.out lo).mono ?_
      rintro e Wa ⟨rfl, b1⟩
      have HN := hid (HN.out.keep b1)
      have HB := hid (HB.out.trans (b1.mono HB.out.size))
      clear b1
      go_wp2_with fail
      refine (nil_Trimmed HN.out lo).mono ?_
      rintro e Wb ⟨rfl, b1⟩
      have HN := hid (HN.out.keep b1)
      have HB := hid (HB.out.trans (b1.mono HB.out.size))
      clear b1
      go_wp2_with fail
      refine (nil_Loglets HN.out).mono ?_
      rintro e Wx ⟨rfl, hw⟩
      rw [hw]
      clear hw Wx
      go_wp2_with fail
      refine (nil_Free HN.out).mono ?_
      rintro e Wx ⟨rfl, hw⟩
      rw [hw]
      clear hw Wx
      go_wp2_with fail
      refine (nil_Sealed HN.out lo).mono ?_
      rintro e Wc ⟨rfl, b1⟩
      have HN := hid (HN.out.keep b1)
      have HB := hid (HB.out.trans (b1.mono HB.out.size))
      clear b1
      go_wp2_with fail
      go_roundw
      case rel => exact ⟨j + 1, by omega, by go_num, .inr ⟨_, rfl, (Blk.new _ _ _).cell rfl⟩, HB.out.alloc HB.out.size _⟩
      case measure => simp [intOf]; omega
    · obtain rfl : j = 2 := by omega
      go_wp2_with fail
      refine (law_knows _).mono ?_
      rintro e Wk ⟨rfl, bk⟩
      go_wp2_with fail
      go_ret
      exact ⟨rfl, hBr.trans (bk.mono hBr.size)⟩
end Go.Proofs.Ytbofcocfcmlcaaa
