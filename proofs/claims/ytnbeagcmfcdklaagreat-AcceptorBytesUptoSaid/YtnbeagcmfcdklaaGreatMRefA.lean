import Derived.Test.YtnbeagcmfcdklaaGreatMAccP
import Derived.Test.YtnbeagcmfcdklaaGreatRegionW
import Derived.Test.YtnbeagcmfcdklaaGreatWire
import Derived.Test.YtnbeagcmfcdklaaGreatMEntry
/-! Package acceptor: in, right, truth, low, body. -/
namespace Go.Proofs.YtnbeagcmfcdklaaGreat
open Go.RowKit

theorem ret_boolA {a b : Bool} (h : a = b) : Ending.returned (.bool a) = .returned (.bool b) := by rw [h]
set_option maxRecDepth 100000 in
set_option maxHeartbeats 1600000 in
theorem acc_in (n least : Int) (W : World) :
    Calls Tryz.prog 62 #[.int .i64 n, .int .i64 least] W fun e w' => e = .returned (.bool (decide (least ≤ n ∧ n < 281474976710656))) ∧ w' = W := by
  go_enter Tryz.func62, Tryz.ntmps62
  go_wp2_with fail
  all_goals go_ret
  all_goals (refine ⟨ret_boolA (Bool.eq_iff_iff.2 ?_), rfl⟩)
  all_goals (try simp only [beq_iff_eq, beq_eq_false_iff_ne, ne_eq, bne_iff_ne, bne_eq_false_iff_eq] at *)
  all_goals (simp; omega)

set_option maxRecDepth 100000 in
set_option maxHeartbeats 6400000 in
theorem acc_ask_right (k key ver bal : Int) (av : Option Addr) (n cv : Nat) (W : World) (hn : n ≤ 9223372036854775807) :
    Calls Tryz.prog 34 #[.agg #[.int .i64 k, .int .i64 key, .int .i64 ver, .int .i64 bal, .slice av n cv]] W fun e w' => e = .returned (.bool (askOk k key ver bal n)) ∧ Below W.heap.size W w' := by
  go_enter Tryz.func34, Tryz.ntmps34
  go_wp2_with fail
  iterate 5 (all_goals (try (refine (acc_in _ _ _).mono ?_; rintro e Wx ⟨rfl, hw⟩; rw [hw]; clear hw Wx; go_wp2_with fail)))
  all_goals go_ret
  all_goals (refine ⟨ret_boolA (Bool.eq_iff_iff.2 ?_), (Below.refl _ _).alloc (Nat.le_refl _) _⟩)
  all_goals (try simp only [beq_iff_eq, beq_eq_false_iff_ne, ne_eq, bne_iff_ne, bne_eq_false_iff_eq, decide_eq_true_eq, decide_eq_false_iff_not] at *)
  all_goals (simp [askOk]; omega)

set_option maxRecDepth 100000 in
set_option maxHeartbeats 6400000 in
theorem acc_ans_right (er ver pr ba : Int) (le : Bool) (av : Option Addr) (n cv : Nat) (W : World) (hn : n ≤ 9223372036854775807) :
    Calls Tryz.prog 41 #[.agg #[.int .i64 er, .int .i64 ver, .int .i64 pr, .int .i64 ba, .bool le, .slice av n cv]] W fun e w' => e = .returned (.bool (ansOk er ver pr ba n)) ∧ Below W.heap.size W w' := by
  go_enter Tryz.func41, Tryz.ntmps41
  go_wp2_with fail
  iterate 5 (all_goals (try (refine (acc_in _ _ _).mono ?_; rintro e Wx ⟨rfl, hw⟩; rw [hw]; clear hw Wx; go_wp2_with fail)))
  all_goals go_ret
  all_goals (refine ⟨ret_boolA (Bool.eq_iff_iff.2 ?_), (Below.refl _ _).alloc (Nat.le_refl _) _⟩)
  all_goals (try simp only [beq_iff_eq, beq_eq_false_iff_ne, ne_eq, bne_iff_ne, bne_eq_false_iff_eq, decide_eq_true_eq, decide_eq_false_iff_not] at *)
  all_goals (simp [ansOk]; omega)

set_option maxHeartbeats 800000 in
theorem acc_truth (b : Bool) (W : World) : Calls Tryz.prog 42 #[.bool b] W fun e w' => e = .returned (.int .u8 (bit b)) ∧ w' = W := by
  cases b
  · go_enter Tryz.func42, Tryz.ntmps42
    go_wp2_with fail
    go_ret
    exact ⟨rfl, rfl⟩
  · go_enter Tryz.func42, Tryz.ntmps42
    go_wp2_with fail
    go_ret
    exact ⟨rfl, rfl⟩

def flat6 (ns : List Int) : List UInt8 := ns.flatMap (fun n => lowB n 6)
theorem flat6_take (ns : List Int) (j : Nat) (x : Int) (h : ns[j]? = some x) : flat6 (ns.take (j + 1)) = flat6 (ns.take j) ++ lowB x 6 := by
  unfold flat6
  rw [List.take_add_one, h]
  simp
theorem flat6_len (ns : List Int) : (flat6 ns).length = 6 * ns.length := by
  induction ns with
  | nil => rfl
  | cons x l ih => simp [flat6, lowB_length] at *; omega
set_option maxRecDepth 100000 in
set_option maxHeartbeats 1600000 in
theorem acc_low (g n c : Nat) (ns : List Int) (W : World) (hn : n = ns.length) (hm : ns.length ≤ 8) (hc : ∀ i x, ns[i]? = some x → W.cell? ⟨g, i, none⟩ = some (.int .i64 x)) (hb : ∀ x ∈ ns, 0 ≤ x ∧ x < 281474976710656) :
    Calls Tryz.prog 37 #[.slice (some ⟨g, 0, none⟩) n c] W fun e w' => ∃ v, e = .returned v ∧ Own8 w' W.heap.size 5 v (flat6 ns) ∧ Below W.heap.size W w' := by
  subst hn
  obtain ⟨i0, hi, hz0, hz1, hz2⟩ := info_parts info_u8
  have HC := hid hc
  have HB := hid hb
  clear hc hb
  go_enter Tryz.func37, Tryz.ntmps37
  go_wp2_with fail
  go_loopw [3, 10] (fun v i wr => ∃ j : Nat, j ≤ ns.length ∧ i = .int .i64 j ∧ Own8 wr W.heap.size 5 v (flat6 (ns.take j)) ∧ Below W.heap.size W wr) (fun _ i _ => ns.length - (intOf i).toNat)
  case atStart => exact ⟨0, by omega, rfl, Own8.nil _ _ _, Below.refl _ _⟩
  case round =>
    obtain ⟨j, hj, rfl, ho, hbl⟩ := hrel
    by_cases hlt : j < ns.length
    · obtain ⟨x, hx⟩ : ∃ x, ns[j]? = some x := ⟨ns[j], by simp⟩
      have hcell : wr.cell? ⟨g, j, none⟩ = some (.int .i64 x) := ext_cell (HC.out j x hx) (fp := nofp) (Ext.ofBelow (hbl.mono (Nat.le_refl _))) (fun h => h)
      obtain ⟨hx0, hx1⟩ := HB.out x (List.mem_of_getElem? hx)
      have HE := hid (flat6_take ns j x hx)
      have hlen : (flat6 (ns.take j)).length ≤ 48 := by rw [flat6_len]; simp; omega
      have HO := hid (And.intro ho hbl)
      clear hx ho hbl
      go_wp2_with fail
      refine (wire_Put x 6 wr hx0 (by omega) (by omega) (by simpa using hx1)).mono ?_
      rintro e W2 ⟨v2, rfl, o2, b2⟩
      have o1 := HO.out.1.keep b2
      have hb2 := HO.out.2.trans (b2.mono HO.out.2.size)
      have s2 := o2.bs
      have hl6 := lowB_length x 6
      clear o2 b2 HO hcell
      go_wp2_with (at_builtin; refine wpList_append8 Tryz.underlying22 hi hz0 hz1 hz2 rfl _ _ rfl W.heap.size rfl rfl o1 s2 (by simp; omega) hb2.size ?_; intro v' w1 ho' hg _)
      go_roundw
      case rel => exact ⟨j + 1, by omega, by go_num, by rw [HE.out]; exact ho', hb2.grown hg hb2.size (fun k hk => (o1.blk k hk).1)⟩
      case measure => simp [intOf]; omega
    · obtain rfl : j = ns.length := by omega
      rw [List.take_length] at ho
      have hd : decide ((ns.length : Int) < (ns.length : Int)) = false := by simp
      go_wp2_with fail
      go_ret
      exact ⟨_, rfl, ho, hbl⟩
end Go.Proofs.YtnbeagcmfcdklaaGreat

/-! Plain laws of the sum: bit by bit as byte by byte. -/
namespace Go.Proofs.YtnbeagcmfcdklaaGreat
open Go.RowKit

theorem crcBit_xor (a b : Nat) : crcBit (a ^^^ b) = crcBit a ^^^ crcBit b := by
  have hm : (a ^^^ b) % 2 = (a % 2) ^^^ (b % 2) := Nat.xor_mod_two_pow (n := 1)
  unfold crcBit
  rw [Nat.xor_div_two, hm]
  rcases Nat.mod_two_eq_zero_or_one a with ha | ha <;> rcases Nat.mod_two_eq_zero_or_one b with hb | hb
  · rw [ha, hb]; simp
  · rw [ha, hb]; simp [Nat.xor_assoc]
  · rw [ha, hb]
    simp only [Nat.mul_zero, Nat.xor_zero, Nat.mul_one]
    rw [Nat.xor_assoc, Nat.xor_assoc, Nat.xor_comm (b / 2)]
  · rw [ha, hb]
    simp only [Nat.mul_one, Nat.xor_self, Nat.mul_zero, Nat.xor_zero]
    rw [Nat.xor_assoc, Nat.xor_comm 2197175160 (b / 2 ^^^ 2197175160), Nat.xor_assoc, Nat.xor_self, Nat.xor_zero]
theorem crcBits_xor (k a b : Nat) : crcBits k (a ^^^ b) = crcBits k a ^^^ crcBits k b := by
  induction k with
  | zero => rfl
  | succ k ih => rw [crcBits_succ, crcBits_succ, crcBits_succ, ih, crcBit_xor]
theorem crcBit_two (m : Nat) : crcBit (m * 2) = m := by
  unfold crcBit
  simp
theorem crcBits_shift (k : Nat) : ∀ m, crcBits k (m * 2 ^ k) = m := by
  induction k with
  | zero => intro m; simp [crcBits, Nat.repeat]
  | succ k ih =>
    intro m
    rw [crcBits_succ, show m * 2 ^ (k + 1) = (m * 2) * 2 ^ k from by rw [Nat.pow_succ, Nat.mul_assoc, Nat.mul_comm 2], ih, crcBit_two]
theorem xor_split8 (c : Nat) : (c % 256) ^^^ (c / 256 * 2 ^ 8) = c := by
  apply Nat.eq_of_testBit_eq
  intro i
  rw [Nat.testBit_xor, show (256 : Nat) = 2 ^ 8 from rfl, Nat.testBit_mod_two_pow, Nat.testBit_mul_two_pow, Nat.testBit_div_two_pow]
  by_cases h : i < 8
  · have h8 : ¬ 8 ≤ i := by omega
    simp [h, h8]
  · have h8 : 8 ≤ i := by omega
    simp [h, h8, Nat.sub_add_cancel h8]
/-- The reference's byte: eight bits of the sum and the byte taken together. -/
theorem crcStep_bits (c : Nat) (x : UInt8) : crcBits 8 (c ^^^ x.toNat) = crcStep c x := by
  unfold crcStep
  have e : c ^^^ x.toNat = ((c % 256) ^^^ x.toNat) ^^^ (c / 256 * 2 ^ 8) := by
    conv => lhs; rw [← xor_split8 c]
    rw [Nat.xor_assoc, Nat.xor_comm (c / 256 * 2 ^ 8), ← Nat.xor_assoc]
  rw [e, crcBits_xor, crcBits_shift]
end Go.Proofs.YtnbeagcmfcdklaaGreat

/-! The document's answer for wire: Bytes, Get, Crc. -/
namespace Go.Proofs.YtnbeagcmfcdklaaGreat
open Go.RowKit

theorem w64 {n : Int} (h0 : 0 ≤ n) (h1 : n < 9223372036854775808) : wrap64 n = n := by unfold wrap64; omega
theorem get_add (j : Nat) (hj : j < 6) (u : UInt8) {a : Nat} (ha : a < 2 ^ (8 * j)) : wrap64 ((a : Int) + wrap64 (wrap64 ((u.toNat : Nat) : Int) * 2 ^ (8 * j))) = ((a + u.toNat * 2 ^ (8 * j) : Nat) : Int) := by
  have hu := u.toNat_lt
  have hp : (2 : Nat) ^ (8 * j) ≤ 2 ^ 40 := Nat.pow_le_pow_right (by decide) (by omega)
  have hm : u.toNat * 2 ^ (8 * j) ≤ 255 * 2 ^ 40 := Nat.mul_le_mul (by omega) hp
  have e : wrap64 (wrap64 ((u.toNat : Nat) : Int) * 2 ^ (8 * j)) = ((u.toNat * 2 ^ (8 * j) : Nat) : Int) := by
    have e1 : wrap64 ((u.toNat : Nat) : Int) = ((u.toNat : Nat) : Int) := by unfold wrap64; omega
    rw [e1, show (((u.toNat : Nat) : Int) * 2 ^ (8 * j)) = ((u.toNat * 2 ^ (8 * j) : Nat) : Int) from by push_cast; rfl]
    generalize u.toNat * 2 ^ (8 * j) = q at *
    unfold wrap64
    omega
  rw [e]
  generalize u.toNat * 2 ^ (8 * j) = q at *
  generalize 2 ^ (8 * j) = p at *
  rw [w64 (by omega) (by omega)]
  omega
theorem lowB_snoc (n : Int) (k : Nat) : lowB n (k + 1) = lowB n k ++ [byteOf n k] := by
  unfold lowB
  rw [List.range_succ, List.map_append]
  rfl

set_option maxRecDepth 100000 in
set_option maxHeartbeats 800000 in
theorem ref_Bytes (n : Int) (k : Nat) (w : World) (h0 : 0 ≤ n) (hk : k ≤ 8) :
    Calls Tryz.prog 69 #[.int .i64 n, .int .i64 (k : Int)] w fun e w' => ∃ v, e = .returned v ∧ Own8 w' w.heap.size 5 v (lowB n k) ∧ Below w.heap.size w w' := by
  obtain ⟨i0, hi, hz0, hz1, hz2⟩ := info_parts info_u8
  go_enter Tryz.func69, Tryz.ntmps69
  go_wp2_with fail
  go_loopw [5, 6] (fun v i wr => ∃ j : Nat, j ≤ k ∧ i = .int .i64 j ∧ Own8 wr w.heap.size 5 v (lowB n j) ∧ Below w.heap.size w wr) (fun _ i _ => k - (intOf i).toNat)
  case atStart => exact ⟨0, by omega, rfl, Own8.nil _ _ _, Below.refl _ _⟩
  case round =>
    obtain ⟨j, hj, rfl, ho, hb⟩ := hrel
    by_cases hlt : j < k
    · have HE := hid (lowB_snoc n j)
      have hl := lowB_length n j
      have bd : Below wr.heap.size wr (wr.alloc (.cells #[.int .u8 (n / 2 ^ (8 * j) % 256)] 5)) := (Below.refl _ wr).alloc (Nat.le_refl _) _
      have ho1 := ho.keep bd
      have hb1 := hb.trans (bd.mono hb.size)
      have hs1 : Bs (wr.alloc (.cells #[.int .u8 (n / 2 ^ (8 * j) % 256)] 5)) (.slice (some ⟨wr.heap.size, 0, none⟩) 1 1) [byteOf n j] := (Blk.new wr _ _).bs1 (byteOf_val n j).symm
      clear bd
      go_wp2_with (at_builtin; refine wpList_append8 Tryz.underlying22 hi hz0 hz1 hz2 rfl _ _ rfl w.heap.size rfl rfl ho1 hs1 (by simp; omega) hb1.size ?_; intro v' w1 ho' hg _)
      go_roundw
      case rel => exact ⟨j + 1, by omega, by go_num, by rw [HE.out]; exact ho', hb1.grown hg hb1.size (fun k hk => (ho1.blk k hk).1)⟩
      case measure => simp [intOf]; omega
    · obtain rfl : j = k := by omega
      have hd : decide ((j : Int) < (j : Int)) = false := by simp
      go_wp2_with fail
      go_ret
      exact ⟨_, rfl, ho, hb⟩

set_option maxRecDepth 100000 in
set_option maxHeartbeats 800000 in
theorem ref_Crc (v : Value) (l : List UInt8) (w : World) (hv : Bs w v l) (hl : l.length ≤ 1073741824) :
    Calls Tryz.prog 70 #[v] w fun e w' => e = .returned (.int .u32 ((crcOf l : Nat) : Int)) ∧ w' = w := by
  obtain ⟨a, c, rfl, hc, hm, ha, hsp, hr⟩ := hv
  go_enter Tryz.func70, Tryz.ntmps70
  go_wp2_with fail
  go_loop [3, 4] (fun c i => ∃ j : Nat, j ≤ l.length ∧ i = .int .i64 j ∧ c = .int .u32 (((l.take j).foldl crcStep 4294967295 : Nat) : Int)) (fun _ i => l.length - (intOf i).toNat)
  case atStart => exact ⟨0, by omega, rfl, rfl⟩
  case round =>
    obtain ⟨j, hj, rfl, rfl⟩ := hrel
    have hlt := crcFold_lt (l.take j) (c := 4294967295) (by omega)
    by_cases hjl : j < l.length
    · obtain ⟨u, hu⟩ : ∃ u, l[j]? = some u := ⟨l[j], by simp⟩
      obtain ⟨ad, rfl, hcell⟩ := hr j u hu
      obtain ⟨g, o, s⟩ := ad
      obtain rfl := hsp _ rfl
      simp only at hcell
      have Hf := hid (show (l.take (j + 1)).foldl crcStep 4294967295 = crcStep ((l.take j).foldl crcStep 4294967295) u by rw [take_snoc8 _ _ _ hu, List.foldl_append]; rfl)
      generalize (l.take j).foldl crcStep 4294967295 = cc at *
      have hlt' : decide ((j : Int) < (l.length : Int)) = true := by simp; omega
      have hut := u.toNat_lt
      clear hr hu
      go_wp2_with fail
      go_loop [3, 5, 6] (fun r x k => ∃ m : Nat, m ≤ 8 ∧ k = .int .i64 m ∧ ∃ r' x' : Nat, r = .int .u32 (r' : Int) ∧ x = .int .u32 (x' : Int) ∧ r' < 4294967296 ∧ x' < 256 ∧ x' = u.toNat / 2 ^ m ∧ r' ^^^ x' = crcBits m (cc ^^^ u.toNat)) (fun _ _ k => 8 - (intOf k).toNat)
      case atStart => exact ⟨0, by omega, rfl, cc, u.toNat, rfl, rfl, hlt, hut, by simp, rfl⟩
      case round =>
        obtain ⟨m, hm8, rfl, r', x', rfl, rfl, hr', hx', hxe, hxx⟩ := hrel
        have HX := hid (And.intro hxe hxx)
        clear hxe hxx
        by_cases hml : m < 8
        · have hX : bits .xor .u32 (r' : Int) (x' : Int) = ((r' ^^^ x' : Nat) : Int) := u32_xor_nat _ _ hr' (by omega)
          have hxl : r' ^^^ x' < 4294967296 := Nat.xor_lt_two_pow (n := 32) hr' (by omega)
          have hA : bits .and .u32 ((r' ^^^ x' : Nat) : Int) 1 = (((r' ^^^ x') % 2 : Nat) : Int) := by
            rw [show (1 : Int) = ((1 : Nat) : Int) from rfl, u32_and_nat _ _ hxl (by decide), Nat.and_one_is_mod]
          have hP : bits .xor .u32 ((r' : Int) / 2) 2197175160 = (((r' / 2) ^^^ 2197175160 : Nat) : Int) := by
            rw [show ((r' : Int) / 2) = ((r' / 2 : Nat) : Int) from by omega, show (2197175160 : Int) = ((2197175160 : Nat) : Int) from rfl, u32_xor_nat _ _ (by omega) (by omega)]
          have hPl : (r' / 2) ^^^ 2197175160 < 4294967296 := Nat.xor_lt_two_pow (n := 32) (by omega) (by omega)
          have HN := hid (show crcBits (m + 1) (cc ^^^ u.toNat) = ((r' / 2) ^^^ (x' / 2)) ^^^ (2197175160 * ((r' ^^^ x') % 2)) by
            rw [crcBits_succ, ← HX.out.2]
            unfold crcBit
            rw [Nat.xor_div_two])
          have HD := hid (show x' / 2 = u.toNat / 2 ^ (m + 1) by rw [HX.out.1, Nat.div_div_eq_div_mul, Nat.pow_succ])
          rcases Nat.mod_two_eq_zero_or_one (r' ^^^ x') with h2 | h2
          · rw [h2] at hA
            have HZ := hid h2
            clear h2 hP hPl
            go_wp2_with fail
            go_round
            case rel =>
              refine ⟨m + 1, by omega, by go_num, r' / 2, x' / 2, rfl, rfl, by omega, by omega, HD.out, ?_⟩
              rw [HN.out, HZ.out]
              simp
            case measure => simp [intOf]; omega
          · rw [h2] at hA
            have HZ := hid h2
            have HPl := hid hPl
            clear h2 hPl
            go_wp2_with fail
            go_round
            case rel =>
              refine ⟨m + 1, by omega, by go_num, (r' / 2) ^^^ 2197175160, x' / 2, by first | rfl | (rw [hP]), rfl, HPl.out, by omega, HD.out, ?_⟩
              rw [HN.out, HZ.out, Nat.mul_one, Nat.xor_assoc, Nat.xor_assoc, Nat.xor_comm 2197175160]
            case measure => simp [intOf]; omega
        · obtain rfl : m = 8 := by omega
          go_wp2_with fail
          go_round
          case rel =>
            refine ⟨j + 1, by omega, by go_num, ?_⟩
            have h0 : x' = 0 := by have := HX.out.1; omega
            have h1 := HX.out.2
            rw [h0, Nat.xor_zero, crcStep_bits] at h1
            rw [Hf.out, h1]
          case measure => simp [intOf]; omega
    · obtain rfl : j = l.length := by omega
      have hd : decide ((l.length : Int) < (l.length : Int)) = false := by simp
      have Hf := hid (show crcOf l = 4294967295 - (l.take l.length).foldl crcStep 4294967295 by rw [List.take_length]; rfl)
      generalize (l.take l.length).foldl crcStep 4294967295 = cc at *
      clear hr
      have hne : IntKind.u32.signed = false := rfl
      go_wp2_with fail
      go_ret
      refine ⟨?_, rfl⟩
      rw [Hf.out, ← u32_not hlt]
      rfl

set_option maxRecDepth 100000 in
set_option maxHeartbeats 800000 in
theorem ref_Get (v : Value) (l : List UInt8) (at_ n : Nat) (w : World) (hv : Bs w v l) (hn : 1 ≤ n) (hn6 : n ≤ 6) (hle : at_ + n ≤ l.length) :
    Calls Tryz.prog 74 #[v, .int .i64 (at_ : Int), .int .i64 (n : Int)] w fun e w' => e = .returned (.tuple #[.int .i64 ((numOf ((l.drop at_).take n) : Nat) : Int), .int .i64 ((at_ : Int) + n), .int .i64 0]) ∧ w' = w := by
  obtain ⟨a, c, rfl, hc, hm, ha, hsp, hr⟩ := hv
  have hmx := hm
  unfold maxLen at hmx
  have h1 : (1 : Int) ≤ n := by omega
  have h2 : (n : Int) ≤ 6 := by omega
  have h3 : (at_ : Int) ≤ l.length := by omega
  have h4 : (n : Int) ≤ l.length - at_ := by omega
  have hL : (l.length : Int) ≤ 9223372036854775807 := by omega
  go_enter Tryz.func74, Tryz.ntmps74
  go_wp2_with fail
  go_loop [9, 10] (fun x i => ∃ j : Nat, j ≤ n ∧ i = .int .i64 j ∧ x = .int .i64 ((numOf (((l.drop at_).take j)) : Nat) : Int)) (fun _ i => n - (intOf i).toNat)
  case atStart => exact ⟨0, by omega, rfl, rfl⟩
  case round =>
    obtain ⟨j, hj, rfl, rfl⟩ := hrel
    have hnl := numOf_lt ((l.drop at_).take j)
    have hjl : ((l.drop at_).take j).length = j := by simp; omega
    rw [hjl] at hnl
    by_cases hjn : j < n
    · obtain ⟨u, hu⟩ : ∃ u, l[at_ + j]? = some u := ⟨l[at_ + j], by simp⟩
      obtain ⟨ad, rfl, hcell⟩ := hr (at_ + j) u hu
      obtain ⟨g, o, s⟩ := ad
      obtain rfl := hsp _ rfl
      simp only at hcell
      have Hf := hid (show numOf ((l.drop at_).take (j + 1)) = numOf ((l.drop at_).take j) + u.toNat * 2 ^ (8 * j) by
        rw [take_snoc8 _ j u (by rw [List.getElem?_drop]; exact hu), numOf_snoc, hjl])
      generalize numOf ((l.drop at_).take j) = cc at *
      have HG := hid (get_add j (by omega) u hnl)
      have hlt' : decide ((j : Int) < (n : Int)) = true := by simp; omega
      have hw1 : wrap64 ((at_ : Int) + (j : Int)) = ((at_ + j : Nat) : Int) := by rw [w64 (by omega) (by omega)]; omega
      have hidx : ((at_ + j : Nat) : Int) < (l.length : Int) := by omega
      clear hr hu hnl hjl
      go_wp2_with fail
      go_round
      case rel =>
        refine ⟨j + 1, by omega, by go_num, ?_⟩
        rw [Hf.out, HG.out]
      case measure => simp [intOf]; omega
    · obtain rfl : j = n := by omega
      have hd : decide ((j : Int) < (j : Int)) = false := by simp
      clear hr hnl hjl
      go_wp2_with fail
      go_ret3
      exact ⟨rfl, rfl⟩
end Go.Proofs.YtnbeagcmfcdklaaGreat
