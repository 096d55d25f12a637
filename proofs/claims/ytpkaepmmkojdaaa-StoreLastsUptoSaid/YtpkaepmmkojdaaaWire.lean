import Derived.Test.YtpkaepmmkojdaaaProg
import Derived.Test.YtpkaepmmkojdaaaBase
import Derived.BigQuiet
import Derived.Deep.QuietTactic

/-! The walks of package wire: numbers as bytes and back, the sum. -/
namespace Go.Proofs.Ytpkaepmmkojdaaa
open Go.RowKit

theorem info_u8 : (Try.prog.info? 5).map (fun i => (i.zero, i.size, i.bytes)) = some (some (.int .u8 0), 1, 1) := by kernel_rfl

theorem run_make_u8 (k : Nat) (hk : k ≤ 1073741824) (w : World) : (Instr.makeSlice 40 (.int .i64 (k : Int)) (.int .i64 (k : Int))).run Try.prog w = .ok (.slice (some ⟨w.heap.size, 0, none⟩) k k) (w.alloc (.cells (madeCells #[.int .u8 0] k) 5)) := by
  obtain ⟨i0, hi, hz0, hz1, hz2⟩ := info_parts info_u8
  have h := run_make (P := Try.prog) w 40 5 i0 _ Try.underlying40 hi hz0 .i64 .i64 (k : Int) (k : Int) (by omega) (by omega) (by rw [hz2]; omega) (by omega)
  rw [hz1] at h
  simpa [Value.cells] using h

/-- Byte j of a number. -/
def byteOf (n : Int) (j : Nat) : UInt8 := UInt8.ofNat (n / 2 ^ (8 * j) % 256).toNat
theorem byteOf_val (n : Int) (j : Nat) : (((byteOf n j).toNat : Nat) : Int) = n / 2 ^ (8 * j) % 256 := by
  unfold byteOf
  have h1 : 0 ≤ n / 2 ^ (8 * j) % 256 := Int.emod_nonneg _ (by decide)
  have h2 : n / 2 ^ (8 * j) % 256 < 256 := Int.emod_lt_of_pos _ (by decide)
  rw [toNat_ofNat_u8 (by omega)]
  omega
/-- A number as bytes, the lowest first. -/
def lowB (n : Int) (k : Nat) : List UInt8 := (List.range k).map (byteOf n)
theorem lowB_length (n : Int) (k : Nat) : (lowB n k).length = k := by simp [lowB]
theorem lowB_get (n : Int) (k j : Nat) (u : UInt8) (h : (lowB n k)[j]? = some u) : j < k ∧ u = byteOf n j := by
  unfold lowB at h
  rw [List.getElem?_map] at h
  by_cases hj : j < k
  · rw [List.getElem?_range hj] at h
    simp at h
    exact ⟨hj, h.symm⟩
  · rw [List.getElem?_eq_none (by simp; omega)] at h
    cases h

set_option maxHeartbeats 400000 in
theorem wire_low (n k : Int) (w : World) (h0 : 0 ≤ n) (hk0 : 0 ≤ k) (hk : k ≤ 8) :
    Calls Try.prog 85 #[.int .i64 n, .int .i64 k] w fun e w' => ∃ v, e = .returned v ∧ Own8 w' w.heap.size 5 v (lowB n k.toNat) ∧ Below w.heap.size w w' := by
  obtain ⟨k, rfl⟩ := Int.eq_ofNat_of_zero_le hk0
  rw [Int.toNat_natCast]
  have hmk := run_make_u8 k (by omega)
  go_enter Try.func85, Try.ntmps85
  go_wp2_with fail
  go_loopw [6, 11] (fun t i wr => ∃ j : Nat, j ≤ k ∧ i = .int .i64 j ∧ ∃ c : Array Value, Blk wr w.heap.size c 5 ∧ c.size = k ∧ (∀ i, i < j → c[i]? = some (bv (byteOf n i))) ∧ Below w.heap.size w wr) (fun _ i _ => k - (intOf i).toNat)
  case atStart => exact ⟨0, by omega, rfl, _, Blk.new _ _ _, by simp [madeCells], fun i h => absurd h (by omega), (Below.refl _ _).alloc (Nat.le_refl _) _⟩
  case round =>
    obtain ⟨j, hj, rfl, c, hB, hs, hc, hb⟩ := hrel
    by_cases hlt : j < k
    · obtain ⟨v0, _, hcell⟩ := hB.cellAt (o := j) (by omega)
      have hfree := hB.free j
      have HB := hid hB; clear hB
      have HC := hid hc; clear hc
      have Hs := hid hs; clear hs
      go_wp2
      go_roundw
      case rel =>
        refine ⟨j + 1, by omega, by go_num, _, HB.out.set _, by simp [Hs.out], ?_, hb.setCell (Nat.le_refl _) _⟩
        intro i hi
        rw [Array.getElem?_setIfInBounds]
        split
        · subst i
          rw [if_pos (by rw [Hs.out]; omega), bv, byteOf_val]
        · exact HC.out i (by omega)
      case measure => simp [intOf]; omega
    · have : j = k := by omega
      subst this
      go_wp2
      go_ret
      refine ⟨.slice (some ⟨w.heap.size, 0, none⟩) j j, rfl, ?_, hb⟩
      exact own8_mk (l := lowB n j) (cap := j) (Nat.le_refl _) hB (lowB_length n j) (Nat.le_refl _) (by unfold maxLen; omega) hs (fun i u hi => by
        obtain ⟨h1, rfl⟩ := lowB_get n j i u hi
        exact hc i h1)

set_option maxHeartbeats 400000 in
theorem wire_Put (n k : Int) (w : World) (h0 : 0 ≤ n) (h1 : 1 ≤ k) (hk : k ≤ 6) (hn : n < 2 ^ (8 * k.toNat)) :
    Calls Try.prog 77 #[.int .i64 n, .int .i64 k] w fun e w' => ∃ v, e = .returned (.tuple #[v, .int .i64 0]) ∧ Own8 w' w.heap.size 5 v (lowB n k.toNat) ∧ Below w.heap.size w w' := by
  obtain rfl | rfl | rfl | rfl | rfl | rfl : k = 1 ∨ k = 2 ∨ k = 3 ∨ k = 4 ∨ k = 5 ∨ k = 6 := by omega
  all_goals
    simp only [Int.reduceToNat, Nat.reduceMul, Int.reducePow] at hn
    go_enter Try.func77, Try.ntmps77
    go_wp2_with fail
    refine (wire_low _ _ _ h0 (by omega) (by omega)).mono ?_
    rintro e w' ⟨v, rfl, ho, hb⟩
    go_wp2_with fail
    go_ret2
    exact ⟨v, rfl, ho, hb⟩

set_option maxHeartbeats 400000 in
theorem store_low (n k : Int) (w : World) (h0 : 0 ≤ n) (h1 : 1 ≤ k) (hk : k ≤ 6) (hn : n < 2 ^ (8 * k.toNat)) :
    Calls Try.prog 62 #[.int .i64 n, .int .i64 k] w fun e w' => ∃ v, e = .returned v ∧ Own8 w' w.heap.size 5 v (lowB n k.toNat) ∧ Below w.heap.size w w' := by
  go_enter Try.func62, Try.ntmps62
  go_wp2_with fail
  refine (wire_Put _ _ _ h0 h1 hk hn).mono ?_
  rintro e w' ⟨v, rfl, ho, hb⟩
  go_wp2_with fail
  go_ret
  exact ⟨v, rfl, ho, hb⟩

/-! The sum: one bit, eight bits, a table of them, bytes. -/
def crcBit (c : Nat) : Nat := (c / 2) ^^^ (2197175160 * (c % 2))
def crcBits (k : Nat) (c : Nat) : Nat := k.repeat crcBit c
theorem crcBits_succ (k c : Nat) : crcBits (k + 1) c = crcBit (crcBits k c) := rfl
theorem crcBit_lt {c : Nat} (h : c < 4294967296) : crcBit c < 4294967296 := by
  unfold crcBit
  refine Nat.xor_lt_two_pow (n := 32) (by omega) ?_
  have := Nat.mod_two_eq_zero_or_one c
  rcases this with h | h <;> rw [h] <;> decide
theorem crcBits_lt (k : Nat) {c : Nat} (h : c < 4294967296) : crcBits k c < 4294967296 := by
  induction k with
  | zero => exact h
  | succ k ih => rw [crcBits_succ]; exact crcBit_lt ih
def crcTab : Array Value := ((List.range 256).map fun i => Value.int .u32 ((crcBits 8 i : Nat) : Int)).toArray

theorem crcTab_get {i : Nat} (h : i < 256) : crcTab[i]? = some (.int .u32 ((crcBits 8 i : Nat) : Int)) := by
  unfold crcTab
  simp [List.getElem?_map, List.getElem?_range h]
theorem crcTab_size : crcTab.size = 256 := by simp [crcTab]
theorem crcTab_all : crcTab.all (·.oneCell') = true := by
  rw [Array.all_eq_true_iff_forall_mem]
  intro v hv
  simp only [crcTab, List.mem_toArray, List.mem_map] at hv
  obtain ⟨i, _, rfl⟩ := hv
  rfl
theorem crcTab_ext {c : Array Value} (hs : c.size = 256) (hc : ∀ i, i < 256 → c[i]? = some (.int .u32 ((crcBits 8 i : Nat) : Int))) : c = crcTab := by
  apply Array.ext_getElem?
  intro i
  by_cases h : i < 256
  · rw [hc i h, crcTab_get h]
  · rw [Array.getElem?_eq_none (by omega), Array.getElem?_eq_none (by rw [crcTab_size]; omega)]

theorem info_t168 : (Try.prog.info? 113).map (·.size) = some 256 := by kernel_rfl

theorem zc168 : Try.zeroCells113.size = 256 := by kernel_rfl

/-- One bit of the sum, as the walk spells it. -/
theorem crc_step (c : Nat) (h : c < 4294967296) : bits .xor .u32 ((c : Int) / 2) (2197175160 * bits .and .u32 (c : Int) 1 % 4294967296) = ((crcBit c : Nat) : Int) := by
  unfold crcBit
  have h1 : bits .and .u32 (c : Int) 1 = ((c % 2 : Nat) : Int) := by
    rw [show (1 : Int) = ((1 : Nat) : Int) from rfl, u32_and_nat _ _ h (by decide), Nat.and_one_is_mod]
  rw [h1]
  have h2 : 2197175160 * ((c % 2 : Nat) : Int) % 4294967296 = ((2197175160 * (c % 2) : Nat) : Int) := by omega
  rw [h2, show ((c : Int) / 2) = ((c / 2 : Nat) : Int) from by omega, u32_xor_nat _ _ (by omega) (by omega)]

set_option maxRecDepth 100000 in
set_option maxHeartbeats 800000 in
theorem wire_table (w : World) :
    Calls Try.prog 59 #[] w fun e w' => e = .returned (.agg crcTab) ∧ Below w.heap.size w w' := by
  go_enter Try.func59, Try.ntmps59
  go_wp2_with fail
  go_loopw [2, 3, 4, 9] (fun t c i k wr => ∃ j : Nat, j ≤ 256 ∧ i = .int .i64 j ∧ ∃ c : Array Value, Blk wr w.heap.size Try.zeroCells113 113 ∧ Blk wr (w.heap.size + 1) c 113 ∧ c.size = 256 ∧ (∀ i, i < j → c[i]? = some (.int .u32 ((crcBits 8 i : Nat) : Int))) ∧ Below w.heap.size w wr) (fun _ _ i _ _ => 256 - (intOf i).toNat)
  case atStart =>
    exact ⟨0, by omega, rfl, _, (Blk.new _ _ _).alloc _, Blk.new' _ _ (by simp) _ _, zc168, fun i h => absurd h (by omega), ((Below.refl _ _).alloc (Nat.le_refl _) _).alloc (by simp) _⟩
  case round =>
    obtain ⟨j, hj, rfl, c, hB0, hB, hs, hc, hb⟩ := hrel
    obtain ⟨wo, rfl⟩ : ∃ wo : World, wo = wr := ⟨_, rfl⟩
    by_cases hlt : j < 256
    · obtain ⟨v0, _, hcell⟩ := hB.cellAt (o := j) (by omega)
      have hfree := hB.free j
      have HB0 := hid hB0; clear hB0
      have HB := hid hB; clear hB
      have HC := hid hc; clear hc
      have Hs := hid hs; clear hs
      have hd : decide ((j : Int) < 256) = true := by simp; omega
      go_wp2_with fail
      go_loop [3, 9] (fun c k => ∃ m : Nat, m ≤ 8 ∧ k = .int .i64 m ∧ c = .int .u32 ((crcBits m j : Nat) : Int)) (fun _ k => 8 - (intOf k).toNat)
      case atStart => exact ⟨0, by omega, rfl, rfl⟩
      case round =>
        obtain ⟨m, hm, rfl, rfl⟩ := hrel
        have hcl := crcBits_lt m (c := j) (by omega)
        have Hcs := hid (crcBits_succ m j)
        by_cases hml : m < 8
        · generalize crcBits m j = cc at *
          go_wp2
          go_round
          case rel =>
            refine ⟨m + 1, by omega, by go_num, ?_⟩
            rw [Hcs.out, ← crc_step _ hcl]
          case measure => simp [intOf]; omega
        · obtain rfl : m = 8 := by omega
          clear Hcs
          have Hcc := hid (show crcBits 8 j = crcBits 8 j from rfl)
          generalize hcc : crcBits 8 j = cc at *
          clear Hcc
          have Hcc := hid hcc
          clear hcc
          go_wp2
          go_roundw
          case rel =>
            refine ⟨j + 1, by omega, by go_num, _, HB0.out.setOther (by simp) _, HB.out.set _, by simp [Hs.out], ?_, hb.setCell (p := ⟨w.heap.size + 1, j, none⟩) (by simp) _⟩
            intro i hi
            rw [Array.getElem?_setIfInBounds]
            split
            · subst i
              rw [if_pos (by rw [Hs.out]; omega), Hcc.out]
            · exact HC.out i (by omega)
          case measure => simp [intOf]; omega
    · obtain rfl : j = 256 := by omega
      obtain rfl := crcTab_ext hs (fun i hi => hc i hi)
      have hz := zc168
      clear hs hc
      go_wp2_with (first | (refine wpList_load_row rfl 113 _ rfl (w.heap.size + 1) rfl 113 crcTab (0, 0) _ hB rfl rfl (by rw [crcTab_size]; exact info_t168) ?_) | (refine wpList_store_row rfl 113 _ _ rfl w.heap.size crcTab rfl rfl 113 _ hB0 (by rw [crcTab_size]; exact info_t168) (by rw [crcTab_size]; exact hz) crcTab_all ?_))
      refine bodyPost_ret (results_cell_row rfl _ _ w.heap.size 113 crcTab (0, 0) _ rfl (hB0.setRow crcTab) rfl rfl (by rw [crcTab_size]; exact info_t168)) rfl ⟨rfl, hb.grown (setRow_grown _ _ _) hb.size (fun k h => by cases h; exact Nat.le_refl _)⟩

/-- The sum of bytes, from a state on. -/
def crcStep (c : Nat) (x : UInt8) : Nat := crcBits 8 ((c % 256) ^^^ x.toNat) ^^^ (c / 256)
def crcOf (l : List UInt8) : Nat := 4294967295 - l.foldl crcStep 4294967295
theorem xor8_lt (c : Nat) (x : UInt8) : (c % 256) ^^^ x.toNat < 256 := Nat.xor_lt_two_pow (n := 8) (by omega) (by have := x.toNat_lt; omega)
theorem crcStep_lt {c : Nat} (h : c < 4294967296) (x : UInt8) : crcStep c x < 4294967296 := by
  unfold crcStep
  have h8 := xor8_lt c x
  exact Nat.xor_lt_two_pow (n := 32) (crcBits_lt 8 (by omega)) (by omega)
theorem crcFold_lt (l : List UInt8) : ∀ {c : Nat}, c < 4294967296 → l.foldl crcStep c < 4294967296 := by
  induction l with
  | nil => intro c h; exact h
  | cons x l ih => intro c h; exact ih (crcStep_lt h x)
theorem crcOf_lt (l : List UInt8) : crcOf l < 4294967296 := by unfold crcOf; omega

theorem take_snoc8 (l : List UInt8) (k : Nat) (u : UInt8) (h : l[k]? = some u) : l.take (k + 1) = l.take k ++ [u] := by
  rw [List.take_add_one, h]; rfl

theorem u32_not {c : Nat} (h : c < 4294967296) : bits .xor .u32 IntKind.u32.max (c : Int) = ((4294967295 - c : Nat) : Int) := by
  rw [show IntKind.u32.max = ((4294967295 : Nat) : Int) from rfl, u32_xor_nat _ _ (by decide) h]
  congr 1
  apply Nat.eq_of_testBit_eq
  intro i
  rw [Nat.testBit_xor, show 4294967295 - c = 2 ^ 32 - (c + 1) from by omega, Nat.testBit_two_pow_sub_succ (by omega), show (4294967295 : Nat) = 2 ^ 32 - 1 from rfl, Nat.testBit_two_pow_sub_one]
  by_cases hi : i < 32
  · simp [hi]
  · simp only [hi, decide_false, Bool.false_and, Bool.false_xor]
    exact Nat.testBit_lt_two_pow (Nat.lt_of_lt_of_le h (show 2 ^ 32 ≤ 2 ^ i from Nat.pow_le_pow_right (by decide) (by omega)))

/-- A byte's step of the sum, as the walk spells it. -/
theorem crc_index (c : Nat) (x : UInt8) : bits .xor .u8 ((c : Int) % 256) ((x.toNat : Nat) : Int) = (((c % 256) ^^^ x.toNat : Nat) : Int) := by
  rw [show ((c : Int) % 256) = ((c % 256 : Nat) : Int) from by omega, u8_xor_nat _ _ (by omega) (by have := x.toNat_lt; omega)]
theorem crc_mix (a c : Nat) (ha : a < 4294967296) (h : c < 4294967296) : bits .xor .u32 (a : Int) ((c : Int) / 256) = ((a ^^^ (c / 256) : Nat) : Int) := by
  rw [show ((c : Int) / 256) = ((c / 256 : Nat) : Int) from by omega, u32_xor_nat _ _ ha (by omega)]

set_option maxRecDepth 100000 in
set_option maxHeartbeats 800000 in
theorem wire_Crc (v : Value) (l : List UInt8) (w : World) (hv : Bs w v l) (hl : l.length ≤ 1073741824) :
    Calls Try.prog 51 #[v] w fun e w' => e = .returned (.int .u32 ((crcOf l : Nat) : Int)) ∧ Below w.heap.size w w' := by
  obtain ⟨a, c, rfl, hc, hm, ha, hsp, hr⟩ := hv
  have hz := zc168
  go_enter Try.func51, Try.ntmps51
  go_wp2_with fail
  refine (wire_table _).mono ?_
  rintro e w1 ⟨rfl, hb1⟩
  go_wp2_with (refine wpList_store_row rfl 113 _ _ rfl w1.heap.size crcTab rfl rfl 113 _ (Blk.new _ _ _) (by rw [crcTab_size]; exact info_t168) (by rw [crcTab_size]; exact hz) crcTab_all ?_)
  have hB := (Blk.new w1 Try.zeroCells113 113).setRow crcTab
  have hb2 : Below w.heap.size w ((w1.alloc (.cells Try.zeroCells113 113)).setRow w1.heap.size crcTab) := (hb1.alloc hb1.size _).grown (setRow_grown _ _ _) (by have := hb1.size; simp; omega) (fun k h => by cases h; exact hb1.size)
  generalize (w1.alloc (.cells Try.zeroCells113 113)).setRow w1.heap.size crcTab = W at hB hb2
  go_loop [4, 6, 10] (fun c x i => ∃ j : Nat, j ≤ l.length ∧ i = .int .i64 j ∧ c = .int .u32 (((l.take j).foldl crcStep 4294967295 : Nat) : Int)) (fun _ _ i => l.length - (intOf i).toNat)
  case atStart => exact ⟨0, by omega, rfl, rfl⟩
  case round =>
    obtain ⟨j, hj, rfl, rfl⟩ := hrel
    have hlt := crcFold_lt (l.take j) (c := 4294967295) (by omega)
    by_cases hjl : j < l.length
    · obtain ⟨u, hu⟩ : ∃ u, l[j]? = some u := ⟨l[j], by simp⟩
      obtain ⟨ad, rfl, hcell⟩ := hr j u hu
      obtain ⟨g, o, s⟩ := ad
      obtain rfl := hsp _ rfl (by omega)
      have hcell := (Bs.keep (v := .slice (some ⟨g, o, none⟩) l.length c) ⟨some ⟨g, o, none⟩, c, rfl, hc, hm, ha, hsp, hr⟩ hb2)
      obtain ⟨_, _, e0, _, _, _, _, hr2⟩ := hcell
      cases e0
      obtain ⟨_, e0, hcell⟩ := hr2 j u hu
      cases e0
      simp only at hcell
      have Hf := hid (show (l.take (j + 1)).foldl crcStep 4294967295 = crcStep ((l.take j).foldl crcStep 4294967295) u by rw [take_snoc8 _ _ _ hu, List.foldl_append]; rfl)
      generalize (l.take j).foldl crcStep 4294967295 = cc at *
      have hi := xor8_lt cc u
      have hx := crc_index cc u
      have hmx := crc_mix (crcBits 8 ((cc % 256) ^^^ u.toNat)) cc (crcBits_lt 8 (by omega)) hlt
      have hread := hB.cell (o := (cc % 256) ^^^ u.toNat) (crcTab_get hi)
      have hlt' : decide ((j : Int) < (l.length : Int)) = true := by simp; omega
      clear hr hr2 hu
      have Hmx := hid hmx
      clear hmx
      go_wp2
      go_round
      case rel =>
        refine ⟨j + 1, by omega, by go_num, ?_⟩
        rw [Hf.out, crcStep, ← Hmx.out]
      case measure => simp [intOf]; omega
    · obtain rfl : j = l.length := by omega
      have hd : decide ((l.length : Int) < (l.length : Int)) = false := by simp
      have Hf := hid (show crcOf l = 4294967295 - (l.take l.length).foldl crcStep 4294967295 by rw [List.take_length]; rfl)
      generalize (l.take l.length).foldl crcStep 4294967295 = cc at *
      clear hr
      have hne : IntKind.u32.signed = false := rfl
      go_wp2
      go_ret
      refine ⟨?_, hb2⟩
      rw [Hf.out, ← u32_not hlt]
      rfl

end Go.Proofs.Ytpkaepmmkojdaaa
