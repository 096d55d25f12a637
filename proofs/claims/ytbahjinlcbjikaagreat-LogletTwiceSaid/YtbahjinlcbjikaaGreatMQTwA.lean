import Derived.Test.YtbahjinlcbjikaaGreatMQTwP
import Derived.Test.YtbahjinlcbjikaaGreatMDisk
import Derived.Test.YtbahjinlcbjikaaGreatMQDlv
import Derived.Test.YtbahjinlcbjikaaGreatRegionW
import Derived.Deep.Cut
/-! gazettelaw07.knows answers true. -/
namespace Go.Proofs.YtbahjinlcbjikaaGreat
open Go.RowKit

def S1 : LkS := luckL L0 [0, 0, 1]
def S2 : LkS := luckL L1.2 [0, 1, 1]
set_option maxRecDepth 100000 in
theorem s1_late : S1.net.late.length = 0 := by kernel_rfl
set_option maxRecDepth 100000 in
theorem s2_late : S2.net.late.length = 0 := by kernel_rfl
set_option maxRecDepth 100000 in
theorem l2_late : L2.2.net.late.length = 0 := by kernel_rfl
set_option maxRecDepth 100000 in
theorem l3_late : L3.2.2.net.late.length = 0 := by kernel_rfl
set_option maxRecDepth 100000 in
theorem l4_late : L4.2.net.late.length = 0 := by kernel_rfl
theorem room_of {s : LkS} (h : s.net.late.length = 0) : s.room 2200000000 := by unfold LkS.room; omega
theorem s1_prompt : S1.room 2200000000 := room_of s1_late
theorem s2_prompt : S2.room 2200000000 := room_of s2_late
theorem l2_prompt : L2.2.room 2200000000 := room_of l2_late
theorem l3_prompt : L3.2.2.room 2200000000 := room_of l3_late
theorem l4_prompt : L4.2.room 2200000000 := room_of l4_late
set_option maxRecDepth 100000 in
theorem s1_may : mayB S1 ⟨1, [0, 1, 2]⟩ 0 4095 = true := by kernel_rfl
set_option maxRecDepth 100000 in
theorem s2_may : mayB S2 ⟨1, [0, 1, 2]⟩ 1 4095 = true := by kernel_rfl
set_option maxRecDepth 100000 in
theorem s3_may : mayB L2.2 ⟨1, [0, 1, 2]⟩ 0 0 = true := by kernel_rfl
set_option maxRecDepth 100000 in
theorem s4_may : mayB L3.2.2 ⟨1, [0, 1, 2]⟩ 0 2 = true := by kernel_rfl
set_option maxRecDepth 100000 in
theorem s5_may : mayB L4.2 ⟨1, [0, 1, 2]⟩ 1 4095 = true := by kernel_rfl
set_option maxRecDepth 100000 in
theorem l1_luck : L1.2.net.luck.length = 0 := by kernel_rfl
theorem copies_ne {l : List (List UInt8)} (h : l.isEmpty = false) : l ≠ [] := by rintro rfl; cases h
set_option maxRecDepth 100000 in
theorem s4_ok0 : (copiesL (repliesL L3.2.2 4 1 0 [] [0, 1, 2]).1).isEmpty = false := by kernel_rfl
set_option maxRecDepth 100000 in
theorem s4_ok1 : (copiesL (repliesL (placeL L3.2.2 ⟨1, [0, 1, 2]⟩ 0).2 4 1 (0 + 1) [] [0, 1, 2]).1).isEmpty = false := by kernel_rfl
theorem s4_ok : placesOk ⟨1, [0, 1, 2]⟩ 2 L3.2.2 0 := ⟨.inr (copies_ne s4_ok0), fun _ => ⟨.inr (copies_ne s4_ok1), fun _ => trivial⟩⟩
theorem e1 : appendL S1 ⟨1, [0, 1, 2]⟩ 0 [97] = L1 := rfl
theorem e2 : appendL S2 ⟨1, [0, 1, 2]⟩ 1 [98] = L2 := rfl
theorem e3 : sealL L2.2 ⟨1, [0, 1, 2]⟩ = L3 := rfl
theorem e4 : repairL L3.2.2 ⟨1, [0, 1, 2]⟩ 0 2 = L4 := rfl
theorem e5 : readL L4.2 ⟨1, [0, 1, 2]⟩ 1 = L5 := rfl

section
variable {W : World}
set_option maxRecDepth 100000 in
set_option maxHeartbeats 12800000 in
theorem law7_knows : Calls Tryz.prog 14 #[] W fun e w' => e = .returned (.bool true) ∧ Below W.heap.size W w' := by
  have hz0 : wrap64 0 = 0 := by unfold wrap64; omega
  go_enter Tryz.func14, Tryz.ntmps14
  go_wp2_with fail
  refine (law7_Nodes 3 20 (by decide) (by decide) (by decide) (by decide)).mono ?_
  rintro e A0 ⟨L, p0, rfl, hL0, b0, ha0⟩
  have R0 : RL W A0 L L0 := ⟨p0, hL0, b0, ha0⟩
  obtain ⟨N0, c0⟩ := R0.net
  have HR0 := hid R0
  obtain ⟨A1, hA1⟩ : ∃ V, A0.alloc (.cells #[.int .i64 0, .int .i64 0, .int .i64 1] 3) = V := ⟨_, rfl⟩
  have bA1 : Below A0.heap.size A0 A1 := by rw [← hA1]; exact (Below.refl _ _).alloc (Nat.le_refl _) _
  have kA1 : Blk A1 A0.heap.size #[.int .i64 0, .int .i64 0, .int .i64 1] 3 := by rw [← hA1]; exact Blk.new _ _ _
  have HC := hid (rl_luck R0 N0 c0 bA1 (.slice (some ⟨A0.heap.size, 0, none⟩) 3 3) [0, 0, 1] (is_lit (es := [0, 0, 1]) kA1) (by decide))
  clear R0 hL0 b0 ha0 bA1 kA1
  go_wp2_with fail
  refine HC.out.mono ?_
  rintro e A2 ⟨⟨x2, rfl⟩, R2⟩
  clear hA1 HC HR0 c0
  have R2 : RL W A2 L S1 := R2
  have HR2 := hid R2
  clear R2
  go_wp2_with fail
  refine (law7_three _).mono ?_
  rintro e A3 ⟨nv3, rfl, hn3, hnv3, bt3⟩
  obtain ⟨A4, hA4⟩ : ∃ V, (A3.alloc (.cells #[.int .u8 97] 5)).freeze ⟨A3.heap.size, 1, none⟩ 1 = V := ⟨_, rfl⟩
  have bA4 : Below A3.heap.size A3 A4 := litA_below hA4
  have hcv4 := litA_conv hA4
  have bs4 := litA_bs 97 97 rfl hA4
  have hs4 : A3.heap.size < A4.heap.size := by obtain ⟨_, _, e9, _, _, _, _, hr9⟩ := bs4; obtain ⟨ad, e8, hc8⟩ := hr9 0 97 rfl; have h7 := World.block_lt_of_cell? A4 _ hc8; injection e9 with e9; rw [e8] at e9; injection e9 with e9; rw [← e9] at h7; exact h7
  have HC := hid (rl_append HR2.out s1_prompt (bt3.trans (bA4.mono bt3.size)) 1 nv3 [0, 1, 2] (hn3.keep bA4) (fun g hg => ⟨(hnv3 g hg).1, Nat.lt_of_lt_of_le (hnv3 g hg).2 bA4.size⟩) (by decide) 0 (.slice (some ⟨A3.heap.size, 0, none⟩) 1 1) [97] s1_may (by decide) bs4 (fun g hg => by cases hg; exact ⟨bt3.size, hs4⟩))
  clear hn3 hnv3 bt3 bA4 bs4 hs4 HR2 hA4
  go_wp2_with fail
  refine HC.out.mono ?_
  rw [e1]
  rintro e A5 ⟨rfl, R5⟩
  rw [l1_told]
  clear HC hcv4
  obtain ⟨N5, c5⟩ := R5.net
  obtain ⟨A6, hA6⟩ : ∃ V, A5.alloc (.cells #[.int .i64 0, .int .i64 1, .int .i64 1] 3) = V := ⟨_, rfl⟩
  have bA6 : Below A5.heap.size A5 A6 := by rw [← hA6]; exact (Below.refl _ _).alloc (Nat.le_refl _) _
  have kA6 : Blk A6 A5.heap.size #[.int .i64 0, .int .i64 1, .int .i64 1] 3 := by rw [← hA6]; exact Blk.new _ _ _
  have HC := hid (rl_luck R5 N5 c5 bA6 (.slice (some ⟨A5.heap.size, 0, none⟩) 3 3) [0, 1, 1] (is_lit (es := [0, 1, 1]) kA6) (by rw [l1_luck]; decide))
  clear R5 bA6 kA6
  go_wp2_with fail
  refine HC.out.mono ?_
  rintro e A7 ⟨⟨x7, rfl⟩, R7⟩
  clear hA6 HC c5
  have R7 : RL W A7 L S2 := R7
  have HR7 := hid R7
  clear R7
  go_wp2_with fail
  refine (law7_three _).mono ?_
  rintro e A8 ⟨nv8, rfl, hn8, hnv8, bt8⟩
  obtain ⟨A9, hA9⟩ : ∃ V, (A8.alloc (.cells #[.int .u8 98] 5)).freeze ⟨A8.heap.size, 1, none⟩ 1 = V := ⟨_, rfl⟩
  have bA9 : Below A8.heap.size A8 A9 := litA_below hA9
  have hcv9 := litA_conv hA9
  have bs9 := litA_bs 98 98 rfl hA9
  have hs9 : A8.heap.size < A9.heap.size := by obtain ⟨_, _, e9, _, _, _, _, hr9⟩ := bs9; obtain ⟨ad, e8, hc8⟩ := hr9 0 98 rfl; have h7 := World.block_lt_of_cell? A9 _ hc8; injection e9 with e9; rw [e8] at e9; injection e9 with e9; rw [← e9] at h7; exact h7
  have HC := hid (rl_append HR7.out s2_prompt (bt8.trans (bA9.mono bt8.size)) 1 nv8 [0, 1, 2] (hn8.keep bA9) (fun g hg => ⟨(hnv8 g hg).1, Nat.lt_of_lt_of_le (hnv8 g hg).2 bA9.size⟩) (by decide) 1 (.slice (some ⟨A8.heap.size, 0, none⟩) 1 1) [98] s2_may (by decide) bs9 (fun g hg => by cases hg; exact ⟨bt8.size, hs9⟩))
  clear hn8 hnv8 bt8 bA9 bs9 hs9 HR7 hA9
  go_wp2_with fail
  refine HC.out.mono ?_
  rw [e2]
  rintro e B0 ⟨rfl, R10⟩
  rw [l2_told]
  clear HC hcv9
  have HR10 := hid R10
  clear R10
  go_wp2_with fail
  refine (law7_three _).mono ?_
  rintro e B1 ⟨nv11, rfl, hn11, hnv11, bt11⟩
  have HC := hid (rl_seal HR10.out l2_prompt bt11 1 nv11 [0, 1, 2] hn11 hnv11 (by decide) s3_may)
  clear hn11 hnv11 bt11 HR10
  go_wp2_with fail
  refine HC.out.mono ?_
  rw [e3]
  rintro e B2 ⟨rfl, R12⟩
  rw [l3_told.1, l3_told.2]
  clear HC
  have HR12 := hid R12
  clear R12
  go_wp2_with fail
  refine (law7_three _).mono ?_
  rintro e B3 ⟨nv13, rfl, hn13, hnv13, bt13⟩
  have HC := hid (rl_repair HR12.out l3_prompt bt13 1 nv13 [0, 1, 2] hn13 hnv13 (by decide) 0 2 s4_may (by decide) s4_ok)
  clear hn13 hnv13 bt13 HR12
  go_wp2_with fail
  refine HC.out.mono ?_
  rw [e4]
  rintro e B4 ⟨rfl, R14⟩
  rw [l4_told]
  clear HC
  have HR14 := hid R14
  clear R14
  go_wp2_with fail
  refine (law7_three _).mono ?_
  rintro e B5 ⟨nv15, rfl, hn15, hnv15, bt15⟩
  have HC := hid (rl_read HR14.out l4_prompt bt15 1 nv15 [0, 1, 2] hn15 hnv15 (by decide) 1 s5_may)
  clear hn15 hnv15 bt15 HR14
  go_wp2_with fail
  refine HC.out.mono ?_
  rw [e5]
  rintro e B6 ⟨v6, p6, rfl, hl6, b6, ha6, bs6, ho6⟩
  rw [l5_told.1] at bs6
  rw [l5_told.2]
  clear HC
  obtain ⟨a6, c6, rfl⟩ := bs6.form
  have hcv6 : (convert 35 9 (.slice a6 [98].length c6)).run Tryz.prog B6 = .ok (.string ⟨([98] : List UInt8).toArray⟩) B6 := run_bytes_string (P := Tryz.prog) Tryz.underlying35 Tryz.underlying5 Tryz.underlying9 bs6
  simp only [List.length_cons, List.length_nil, Nat.zero_add] at hcv6
  have HB := hid b6
  clear hl6 b6 ha6 bs6 ho6
  go_wp2_with fail
  refine (law7_num 0 _).mono ?_
  rintro e w9 ⟨rfl, hw9⟩
  rw [hw9]
  clear hw9 w9
  go_wp2_with fail
  refine (law7_num 0 _).mono ?_
  rintro e w9 ⟨rfl, hw9⟩
  rw [hw9]
  clear hw9 w9
  go_wp2_with fail
  refine (law7_num 0 _).mono ?_
  rintro e w9 ⟨rfl, hw9⟩
  rw [hw9]
  clear hw9 w9
  go_wp2_with fail
  refine (law7_num 0 _).mono ?_
  rintro e w9 ⟨rfl, hw9⟩
  rw [hw9]
  clear hw9 w9
  go_wp2_with fail
  refine (law7_num 33 _).mono ?_
  rintro e w9 ⟨rfl, hw9⟩
  rw [hw9]
  clear hw9 w9
  go_wp2_with fail
  go_ret
  exact ⟨rfl, HB.out⟩
end
end Go.Proofs.YtbahjinlcbjikaaGreat

/-! gazettelaw07.data; the walk of LogletTwice, its parts. -/
namespace Go.Proofs.YtbahjinlcbjikaaGreat
open Go.RowKit

theorem data_nums {i : Nat} (hi : i < 20) : (i : Int).tmod 26 = (i : Int) ∧ wrap64 (97 + (i : Int)) = 97 + (i : Int) ∧ IntKind.u8.wrap (97 + (i : Int)) = 97 + (i : Int) ∧ IntKind.u8.wrap (i : Int) = (i : Int) := by
  refine ⟨?_, ?_, ?_, ?_⟩
  · exact Int.tmod_eq_of_lt (by omega) (by omega)
  · unfold wrap64; omega
  · rw [IntKind.wrap_u8]; omega
  · rw [IntKind.wrap_u8]; omega
theorem dataB_cells {i : Nat} (hi : i < 20) : (dataB i).map bv = [.int .u8 (97 + (i : Int)), .int .u8 (i : Int)] := by
  have h1 : (UInt8.ofNat (97 + i % 26)).toNat = 97 + i := by rw [toNat_ofNat_u8 (by omega)]; omega
  have h2 : (UInt8.ofNat i).toNat = i := toNat_ofNat_u8 (by omega)
  show [Value.int .u8 ((UInt8.ofNat (97 + i % 26)).toNat : Int), Value.int .u8 ((UInt8.ofNat i).toNat : Int)] = _
  rw [h1, h2]
  rfl
section
variable {W : World}
set_option maxRecDepth 100000 in
set_option maxHeartbeats 1600000 in
theorem law7_data (i : Nat) (hi : i < 20) : Calls Tryz.prog 28 #[.int .i64 (i : Int)] W fun e w' => ∃ v, e = .returned v ∧ Own8 w' W.heap.size 5 v (dataB i) ∧ Below W.heap.size W w' := by
  obtain ⟨h1, h2, h3, h4⟩ := data_nums hi
  go_enter Tryz.func28, Tryz.ntmps28
  go_wp2_with fail
  go_ret
  refine ⟨_, rfl, ?_, (Below.refl _ _).alloc (Nat.le_refl _) _⟩
  refine own8_mk (l := dataB i) (Nat.le_refl _) (Blk.new _ _ _) rfl (Nat.le_refl _) (by simp [maxLen]) rfl (fun j u hj => ?_)
  have hc : ((dataB i).map bv)[j]? = some (bv u) := by rw [List.getElem?_map, hj]; rfl
  rw [dataB_cells hi] at hc
  simpa using hc
end
end Go.Proofs.YtbahjinlcbjikaaGreat
