import Derived.Test.YtbofcocfcmlcaaaWire
/-! Plain laws of the sum: bit by bit as byte by byte. -/
namespace Go.Proofs.Ytbofcocfcmlcaaa
open Go.RowKit

theorem crcBit_xor (a b : Nat) : crcBit (a ^^^ b) = crcBit a ^^^ crcBit b := by
  have hm : (a ^^^ b) % 2 = (a % 2) ^^^ (b % 2) := Nat.xor_mod_two_pow (n := 1)
  unfold crcBit
  rw [Nat.xor_div_two, hm]
  rcases Nat.mod_two_eq_zero_or_one a with ha | ha <;> rcases Nat.mod_two_eq_zero_or_one b with hb | hb
  · rw [ha, hb]; simp
  · rw [ha, hb]; simp [Nat.xor_assoc]
  · rw [ha, hb]
    simp only [Nat.mul_zero, Nat.xor_zero, Nat.mul_one]
    rw [Nat.xor_assoc, Nat.xor_assoc, Nat.xor_comm (b / 2)]
  · rw [ha, hb]
    simp only [Nat.mul_one, Nat.xor_self, Nat.mul_zero, Nat.xor_zero]
    rw [Nat.xor_assoc, Nat.xor_comm 2197175160 (b / 2 ^^^ 2197175160), Nat.xor_assoc, Nat.xor_self, Nat.xor_zero]
theorem crcBits_xor (k a b : Nat) : crcBits k (a ^^^ b) = crcBits k a ^^^ crcBits k b := by
  induction k with
  | zero => rfl
  | succ k ih => rw [crcBits_succ, crcBits_succ, crcBits_succ, ih, crcBit_xor]
theorem crcBit_two (m : Nat) : crcBit (m * 2) = m := by
  unfold crcBit
  simp
theorem crcBits_shift (k : Nat) : ∀ m, crcBits k (m * 2 ^ k) = m := by
  induction k with
  | zero => intro m; simp [crcBits, Nat.repeat]
  | succ k ih =>
    intro m
    rw [crcBits_succ, show m * 2 ^ (k + 1) = (m * 2) * 2 ^ k from by rw [Nat.pow_succ, Nat.mul_assoc, Nat.mul_comm 2], ih, crcBit_two]
theorem xor_split8 (c : Nat) : (c % 256) ^^^ (c / 256 * 2 ^ 8) = c := by
  apply Nat.eq_of_testBit_eq
  intro i
  rw [Nat.testBit_xor, show (256 : Nat) = 2 ^ 8 from rfl, Nat.testBit_mod_two_pow, Nat.testBit_mul_two_pow, Nat.testBit_div_two_pow]
  by_cases h : i < 8
  · have h8 : ¬ 8 ≤ i := by omega
    simp [h, h8]
  · have h8 : 8 ≤ i := by omega
    simp [h, h8, Nat.sub_add_cancel h8]
/-- The reference's byte: eight bits of the sum and the byte taken together. -/
theorem crcStep_bits (c : Nat) (x : UInt8) : crcBits 8 (c ^^^ x.toNat) = crcStep c x := by
  unfold crcStep
  have e : c ^^^ x.toNat = ((c % 256) ^^^ x.toNat) ^^^ (c / 256 * 2 ^ 8) := by
    conv => lhs; rw [← xor_split8 c]
    rw [Nat.xor_assoc, Nat.xor_comm (c / 256 * 2 ^ 8), ← Nat.xor_assoc]
  rw [e, crcBits_xor, crcBits_shift]
end Go.Proofs.Ytbofcocfcmlcaaa

/-! The walks of package wire, on: numbers out of bytes. -/
namespace Go.Proofs.Ytbofcocfcmlcaaa
open Go.RowKit

theorem szu8 : (Try.prog.info? 5).map (·.size) = some 1 := by kernel_rfl

set_option maxHeartbeats 800000 in
theorem place_has_true (g : Nat) (a : Option Addr) (len c : Nat) (at_ n : Int) (w : World) (h0 : w.cell? ⟨g, 0, none⟩ = some (.slice a len c)) (h1 : w.cell? ⟨g, 1, none⟩ = some (.int .i64 at_))
    (hat : 0 ≤ at_) (hl : (len : Int) ≤ 9223372036854775807) (hle : at_ ≤ len) (hn : n ≤ len - at_) :
    Calls Try.prog 116 #[.pointer (some ⟨g, 0, none⟩), .int .i64 n] w fun e w' => e = .returned (.bool true) ∧ ∃ k, w' = w.drewN k := by
  have hd : decide (at_ ≤ (len : Int)) = true := by simpa using hle
  have hd2 : decide (n ≤ (len : Int) - at_) = true := by simpa using hn
  go_enter Try.func116, Try.ntmps116
  go_wp2_with fail
  go_quiet (fail)
  go_wp2
  go_ret
  exact ⟨rfl, _, rfl⟩

set_option maxHeartbeats 800000 in
theorem place_has_false (g : Nat) (a : Option Addr) (len c : Nat) (at_ n : Int) (w : World) (h0 : w.cell? ⟨g, 0, none⟩ = some (.slice a len c)) (h1 : w.cell? ⟨g, 1, none⟩ = some (.int .i64 at_))
    (hat : 0 ≤ at_) (hl : (len : Int) ≤ 9223372036854775807) (hle : len < at_ ∨ len - at_ < n) :
    Calls Try.prog 116 #[.pointer (some ⟨g, 0, none⟩), .int .i64 n] w fun e w' => e = .returned (.bool false) ∧ ∃ k, w' = w.drewN k := by
  by_cases hd0 : at_ ≤ (len : Int)
  · have hd : decide (at_ ≤ (len : Int)) = true := by simpa using hd0
    have hd2 : decide (n ≤ (len : Int) - at_) = false := by simp; omega
    go_enter Try.func116, Try.ntmps116
    go_wp2_with fail
    go_quiet (fail)
    go_wp2
    go_ret
    exact ⟨rfl, _, rfl⟩
  · have hd : decide (at_ ≤ (len : Int)) = false := by simpa using hd0
    go_enter Try.func116, Try.ntmps116
    go_wp2_with fail
    go_quiet (fail)
    go_wp2
    go_ret
    exact ⟨rfl, _, rfl⟩

set_option maxHeartbeats 800000 in
theorem place_take (g : Nat) (a : Option Addr) (len c : Nat) (at_ n : Int) (w : World) (h0 : w.cell? ⟨g, 0, none⟩ = some (.slice a len c)) (h1 : w.cell? ⟨g, 1, none⟩ = some (.int .i64 at_))
    (hf : w.frozen? ⟨g, 1, none⟩ = false) (hat : 0 ≤ at_) (hn : 0 ≤ n) (hl : (len : Int) ≤ 9223372036854775807) (hc : (len : Int) ≤ c) (hle : at_ + n ≤ len) :
    Calls Try.prog 118 #[.pointer (some ⟨g, 0, none⟩), .int .i64 n] w fun e w' => e = .returned (.slice (sla a c at_.toNat) ((at_ + n).toNat - at_.toNat) (c - at_.toNat)) ∧ ∃ k, w' = (w.setCell ⟨g, 1, none⟩ (.int .i64 (at_ + n))).drewN k := by
  have hsl := run_slice_b Try.underlying34 szu8 a len c at_ (at_ + n) hat (by omega) (by omega)
  have hs : IntKind.i64.wrap (at_ + n - n) = at_ := by rw [IntKind.wrap_i64]; omega
  go_enter Try.func118, Try.ntmps118
  go_wp2_with fail
  go_quiet (fail)
  go_wp2
  go_ret
  exact ⟨rfl, _, rfl⟩

/-- A number out of bytes, the lowest first. -/
def numOf : List UInt8 → Nat
  | [] => 0
  | x :: l => x.toNat + 256 * numOf l
theorem numOf_snoc (l : List UInt8) (u : UInt8) : numOf (l ++ [u]) = numOf l + u.toNat * 2 ^ (8 * l.length) := by
  induction l with
  | nil => simp [numOf]
  | cons x l ih =>
    simp only [List.cons_append, numOf, ih, List.length_cons]
    rw [show 8 * (l.length + 1) = 8 * l.length + 8 from by omega, Nat.pow_add, show (2 : Nat) ^ 8 = 256 from rfl, ← Nat.mul_assoc]
    omega
theorem numOf_lt (l : List UInt8) : numOf l < 2 ^ (8 * l.length) := by
  induction l with
  | nil => simp [numOf]
  | cons x l ih =>
    simp only [numOf, List.length_cons]
    rw [show 8 * (l.length + 1) = 8 * l.length + 8 from by omega, Nat.pow_add]
    have := x.toNat_lt
    omega

theorem i64_or_nat (a b : Nat) (ha : a < 9223372036854775808) (hb : b < 9223372036854775808) : bits .or .i64 (a : Int) (b : Int) = ((a ||| b : Nat) : Int) := by
  have h : a ||| b < 2 ^ 63 := Nat.or_lt_two_pow (by omega) (by omega)
  have ha' : a < 18446744073709551616 := by omega
  have hb' : b < 18446744073709551616 := by omega
  have e : (BitVec.ofNat 64 a ||| BitVec.ofNat 64 b).toNat = a ||| b := by
    rw [BitVec.toNat_or, BitVec.toNat_ofNat, BitVec.toNat_ofNat, Nat.mod_eq_of_lt ha', Nat.mod_eq_of_lt hb']
  show IntKind.i64.wrap ((BitVec.ofInt 64 (a : Int) ||| BitVec.ofInt 64 (b : Int)).toNat : Int) = _
  rw [BitVec.ofInt_natCast, BitVec.ofInt_natCast, e, IntKind.wrap_i64]
  omega
theorem or_shift (j : Nat) (hj : j < 6) (u : UInt8) {a : Nat} (ha : a < 2 ^ (8 * j)) : bits .or .i64 (a : Int) (wrap64 (wrap64 ((u.toNat : Nat) : Int) * 2 ^ (8 * j))) = ((a + u.toNat * 2 ^ (8 * j) : Nat) : Int) := by
  have hu := u.toNat_lt
  have hp : (2 : Nat) ^ (8 * j) ≤ 2 ^ 40 := Nat.pow_le_pow_right (by decide) (by omega)
  have hm : u.toNat * 2 ^ (8 * j) ≤ 255 * 2 ^ 40 := Nat.mul_le_mul (by omega) hp
  have e : wrap64 (wrap64 ((u.toNat : Nat) : Int) * 2 ^ (8 * j)) = ((u.toNat * 2 ^ (8 * j) : Nat) : Int) := by
    have e1 : wrap64 ((u.toNat : Nat) : Int) = ((u.toNat : Nat) : Int) := by unfold wrap64; omega
    rw [e1, show (((u.toNat : Nat) : Int) * 2 ^ (8 * j)) = ((u.toNat * 2 ^ (8 * j) : Nat) : Int) from by push_cast; rfl]
    generalize u.toNat * 2 ^ (8 * j) = q at *
    unfold wrap64
    omega
  rw [e, i64_or_nat _ _ (by omega) (by omega), Nat.or_comm, ← Nat.shiftLeft_eq, ← Nat.shiftLeft_add_eq_or_of_lt ha]
  congr 1
  omega

set_option maxRecDepth 100000 in
set_option maxHeartbeats 800000 in
theorem reader_number (g : Nat) (a : Option Addr) (l : List UInt8) (c : Nat) (at_ n : Int) (w : World) (h0 : w.cell? ⟨g, 0, none⟩ = some (.slice a l.length c)) (h1 : w.cell? ⟨g, 1, none⟩ = some (.int .i64 at_))
    (hf : w.frozen? ⟨g, 1, none⟩ = false) (hat : 0 ≤ at_) (hn : 0 ≤ n) (hn6 : n ≤ 6) (hl : (l.length : Int) ≤ 9223372036854775807) (hle : at_ + n ≤ l.length) (hv : Bs w (.slice a l.length c) l) (hg : ∀ k, (Value.slice a l.length c).ownBlock = some k → k ≠ g) :
    Calls Try.prog 117 #[.pointer (some ⟨g, 0, none⟩), .int .i64 n] w fun e w' => e = .returned (.int .i64 ((numOf ((l.drop at_.toNat).take n.toNat) : Nat) : Int)) ∧ ∃ k, w' = (w.setCell ⟨g, 1, none⟩ (.int .i64 (at_ + n))).drewN k := by
  obtain ⟨_, _, e0, hc, hm, _⟩ := id hv
  cases e0
  obtain ⟨m, rfl⟩ := Int.eq_ofNat_of_zero_le hn
  rw [Int.toNat_natCast]
  have hx : Ext (fun b => b = g) w (w.setCell ⟨g, 1, none⟩ (.int .i64 (at_ + m))) := Ext.setCell (fp := fun b => b = g) (Ext.refl _ _) (.inl rfl) _
  have hv2 := hv.ext hx (fun k hk _ e => hg k hk e)
  have hv3 := hv2.slice (lo := at_.toNat) (hi := (at_ + m).toNat) (by omega) (by omega)
  have e1 : (at_ + m).toNat - at_.toNat = m := by omega
  rw [e1] at hv3
  have hpt := place_take g a l.length c at_ m w h0 h1 hf hat hn hl (by omega) hle
  rw [e1] at hpt
  have hxl : ((l.drop at_.toNat).take m).length = m := by simp; omega
  generalize (l.drop at_.toNat).take m = x at *
  subst hxl
  clear hx hv2 e1 hv hle h0 h1
  go_enter Try.func117, Try.ntmps117
  go_wp2_with fail
  refine hpt.mono ?_
  rintro e w1 ⟨rfl, nk, rfl⟩
  clear hpt
  obtain ⟨W, hW⟩ : ∃ W, w.setCell ⟨g, 1, none⟩ (.int .i64 (at_ + x.length)) = W := ⟨_, rfl⟩
  have HW := hid hW
  rw [hW] at hv3 ⊢
  clear hW
  go_wp2_with fail
  go_loop [5, 6, 7, 14] (fun m i u k => ∃ j : Nat, j ≤ x.length ∧ k = .int .i64 j ∧ m = .int .i64 ((numOf (x.take j) : Nat) : Int)) (fun _ _ _ k => x.length - (intOf k).toNat)
  case atStart => exact ⟨0, by omega, rfl, rfl⟩
  case round =>
    obtain ⟨j, hj, rfl, rfl⟩ := hrel
    by_cases hjl : j < x.length
    · obtain ⟨u, hu⟩ : ∃ u, x[j]? = some u := ⟨x[j], by simp⟩
      obtain ⟨_, _, e0, _, _, _, hsp, hr⟩ := hv3
      cases e0
      obtain ⟨ad, hsla, hcell⟩ := hr j u hu
      obtain ⟨gd, od, sd⟩ := ad
      obtain rfl := hsp _ hsla
      simp only at hcell
      go_wp2_with fail
      go_round
      case rel =>
        refine ⟨j + 1, by omega, by go_num, ?_⟩
        have h1 := numOf_lt (x.take j)
        rw [List.length_take, show min j x.length = j from by omega] at h1
        rw [take_snoc8 _ _ _ hu, numOf_snoc, List.length_take, show min j x.length = j from by omega, or_shift j (by omega) u h1]
      case measure => simp [intOf]; omega
    · obtain rfl : j = x.length := by omega
      rw [List.take_length]
      go_wp2_with fail
      go_ret
      exact ⟨rfl, nk, by rw [HW.out]⟩

end Go.Proofs.Ytbofcocfcmlcaaa

/-! The walks of package wire, on: Get; frames. -/
namespace Go.Proofs.Ytbofcocfcmlcaaa
open Go.RowKit

set_option maxRecDepth 100000 in
set_option maxHeartbeats 800000 in
theorem wire_Get (v : Value) (l : List UInt8) (at_ n : Int) (w : World) (hv : Bs w v l) (hat : 0 ≤ at_) (hn : 1 ≤ n) (hn6 : n ≤ 6) (hle : at_ + n ≤ l.length) :
    Calls Try.prog 106 #[v, .int .i64 at_, .int .i64 n] w fun e w' => e = .returned (.tuple #[.int .i64 ((numOf ((l.drop at_.toNat).take n.toNat) : Nat) : Int), .int .i64 (at_ + n), .int .i64 0]) ∧ Below w.heap.size w w' := by
  obtain ⟨a, c, rfl, hc, hm, ha, hsp, hr⟩ := id hv
  have hmx := hm
  unfold maxLen at hmx
  have hB := Blk.new w #[.slice a l.length c, .int .i64 at_] 173
  have hv1 := hv.keep ((Below.refl _ w).alloc (Nat.le_refl _) (.cells #[.slice a l.length c, .int .i64 at_] 173))
  have hown : ∀ k, (Value.slice a l.length c).ownBlock = some k → k ≠ w.heap.size := by
    intro k hk
    have hne : l ≠ [] := by rintro rfl; simp at hle; omega
    cases a with
    | none => simp [Value.ownBlock] at hk
    | some ad =>
      simp [Value.ownBlock] at hk
      subst hk
      obtain ⟨x, y, rfl⟩ := List.exists_cons_of_ne_nil hne
      obtain ⟨_, e, h⟩ := hr 0 x rfl
      cases e
      have := World.block_lt_of_cell? w _ h
      simp only at this
      omega
  have hbW : Below w.heap.size w (w.alloc (.cells #[.slice a l.length c, .int .i64 at_] 173)) := (Below.refl _ w).alloc (Nat.le_refl _) _
  clear hr
  go_enter Try.func106, Try.ntmps106
  go_wp2_with fail
  generalize w.alloc (.cells #[.slice a l.length c, .int .i64 at_] 173) = W at *
  have c0 := hB.cell (o := 0) rfl
  have c1 := hB.cell (o := 1) rfl
  have cf := hB.free 1
  refine (place_has_true _ _ _ _ _ _ _ c0 c1 hat (by omega) (by omega) (by omega)).mono ?_
  rintro e w' ⟨rfl, k1, rfl⟩
  go_wp2_with fail
  refine (reader_number _ _ _ _ _ _ (W.drewN k1) c0 c1 cf hat (by omega) hn6 (by omega) hle hv1 hown).mono ?_
  rintro e w' ⟨rfl, k2, rfl⟩
  go_wp2_with fail
  have hB2 : Blk (((W.drewN k1).setCell ⟨w.heap.size, 1, none⟩ (.int .i64 (at_ + n))).drewN k2) w.heap.size #[.slice a l.length c, .int .i64 (at_ + n)] 173 := hB.set (o := 1) _
  have hbW2 : Below w.heap.size w (((W.drewN k1).setCell ⟨w.heap.size, 1, none⟩ (.int .i64 (at_ + n))).drewN k2) := below_drewN (Below.setCell (p := ⟨w.heap.size, 1, none⟩) (below_drewN hbW k1) (Nat.le_refl _) _) k2
  generalize ((W.drewN k1).setCell ⟨w.heap.size, 1, none⟩ (.int .i64 (at_ + n))).drewN k2 = W2 at *
  have c2 := hB2.cell (o := 1) rfl
  clear hB hv1 c0 c1 cf hbW hv
  go_quiet (fail)
  go_wp2_with fail
  go_ret3
  exact ⟨rfl, below_drewN hbW2 _⟩

set_option maxHeartbeats 400000 in
theorem store_number (v : Value) (l : List UInt8) (at_ n : Int) (w : World) (hv : Bs w v l) (hat : 0 ≤ at_) (hn : 1 ≤ n) (hn6 : n ≤ 6) (hle : at_ + n ≤ l.length) :
    Calls Try.prog 90 #[v, .int .i64 at_, .int .i64 n] w fun e w' => e = .returned (.int .i64 ((numOf ((l.drop at_.toNat).take n.toNat) : Nat) : Int)) ∧ Below w.heap.size w w' := by
  go_enter Try.func90, Try.ntmps90
  go_wp2_with fail
  refine (wire_Get _ _ _ _ _ hv hat hn hn6 hle).mono ?_
  rintro e w' ⟨rfl, hb⟩
  go_wp2_with fail
  go_ret
  exact ⟨rfl, hb⟩

set_option maxHeartbeats 400000 in
theorem node_number (v : Value) (l : List UInt8) (at_ n : Int) (w : World) (hv : Bs w v l) (hat : 0 ≤ at_) (hn : 1 ≤ n) (hn6 : n ≤ 6) (hle : at_ + n ≤ l.length) :
    Calls Try.prog 74 #[v, .int .i64 at_, .int .i64 n] w fun e w' => e = .returned (.int .i64 ((numOf ((l.drop at_.toNat).take n.toNat) : Nat) : Int)) ∧ Below w.heap.size w w' := by
  go_enter Try.func74, Try.ntmps74
  go_wp2_with fail
  refine (wire_Get _ _ _ _ _ hv hat hn hn6 hle).mono ?_
  rintro e w' ⟨rfl, hb⟩
  go_wp2_with fail
  go_ret
  exact ⟨rfl, hb⟩

set_option maxHeartbeats 400000 in
theorem node_low (n k : Int) (w : World) (h0 : 0 ≤ n) (h1 : 1 ≤ k) (hk : k ≤ 6) (hn : n < 2 ^ (8 * k.toNat)) :
    Calls Try.prog 67 #[.int .i64 n, .int .i64 k] w fun e w' => ∃ v, e = .returned v ∧ Own8 w' w.heap.size 5 v (lowB n k.toNat) ∧ Below w.heap.size w w' := by
  go_enter Try.func67, Try.ntmps67
  go_wp2_with fail
  refine (wire_Put _ _ _ h0 h1 hk hn).mono ?_
  rintro e w' ⟨v, rfl, ho, hb⟩
  go_wp2_with fail
  go_ret
  exact ⟨v, rfl, ho, hb⟩

end Go.Proofs.Ytbofcocfcmlcaaa

/-! The walks of package wire, on: join and frames; of package slices: Concat, Clone. -/
namespace Go.Proofs.Ytbofcocfcmlcaaa
open Go.RowKit

/-- Slices in a row of a block, each with its bytes. -/
def Parts (w : World) (g : Nat) (vs : List Value) (ls : List (List UInt8)) : Prop :=
  vs.length = ls.length ∧ (∀ (i : Nat) (v : Value), vs[i]? = some v → w.cell? ⟨g, i, none⟩ = some v) ∧ ∀ (i : Nat) (v : Value) (l : List UInt8), vs[i]? = some v → ls[i]? = some l → Bs w v l

theorem Parts.keep {w w' : World} {g : Nat} {vs : List Value} {ls : List (List UInt8)} (h : Parts w g vs ls) (hb : Below w.heap.size w w') : Parts w' g vs ls :=
  ⟨h.1, fun i v hv => by
    have := h.2.1 i v hv
    rw [hb.cell (World.block_lt_of_cell? w _ this)]; exact this, fun i v l hv hl => (h.2.2 i v l hv hl).keep hb⟩

theorem take_flat (ls : List (List UInt8)) (j : Nat) (l : List UInt8) (h : ls[j]? = some l) : (ls.take (j + 1)).flatten = (ls.take j).flatten ++ l := by
  rw [List.take_add_one, h, List.flatten_append]
  simp
theorem take_flat_le (ls : List (List UInt8)) (j : Nat) (l : List UInt8) (h : ls[j]? = some l) : (ls.take j).flatten.length + l.length ≤ ls.flatten.length := by
  rw [← List.length_append, ← take_flat ls j l h]
  conv => rhs; rw [← List.take_append_drop (j + 1) ls, List.flatten_append, List.length_append]
  omega

set_option maxRecDepth 100000 in
set_option maxHeartbeats 800000 in
theorem wire_join (g n c : Nat) (vs : List Value) (ls : List (List UInt8)) (w : World) (hn : n = vs.length) (hp : Parts w g vs ls) (hvs : vs.length ≤ 64) (hls : ls.flatten.length ≤ 1073741824) :
    Calls Try.prog 99 #[.slice (some ⟨g, 0, none⟩) n c] w fun e w' => ∃ v, e = .returned v ∧ Own8 w' w.heap.size 5 v ls.flatten ∧ Below w.heap.size w w' := by
  subst hn
  obtain ⟨i0, hi, hz0, hz1, hz2⟩ := info_parts info_u8
  go_enter Try.func99, Try.ntmps99
  go_wp2_with fail
  go_loopw [3, 5, 8] (fun v t i wr => ∃ j : Nat, j ≤ vs.length ∧ i = .int .i64 j ∧ Own8 wr w.heap.size 5 v (ls.take j).flatten ∧ Below w.heap.size w wr) (fun _ _ i _ => vs.length - (intOf i).toNat)
  case atStart => exact ⟨0, by omega, rfl, Own8.nil _ _ _, Below.refl _ _⟩
  case round =>
    obtain ⟨j, hj, rfl, ho, hb⟩ := hrel
    by_cases hlt : j < vs.length
    · obtain ⟨x, hx⟩ : ∃ x, vs[j]? = some x := ⟨vs[j], by simp⟩
      obtain ⟨l, hl⟩ : ∃ l, ls[j]? = some l := ⟨ls[j]'(by have := hp.1; omega), by simp⟩
      have hp' := hp.keep hb
      have hc := hp'.2.1 j x hx
      have hB := hp'.2.2 j x l hx hl
      have hlen : (ls.take j).flatten.length + l.length ≤ 1073741824 := by
        have h1 := take_flat_le ls j l hl
        omega
      have HE := hid (take_flat ls j l hl)
      go_wp2_with (at_builtin; refine wpList_append8 Try.underlying34 hi hz0 hz1 hz2 rfl _ _ rfl w.heap.size rfl rfl ho hB (by omega) hb.size ?_; intro v' w1 ho' hg _)
      go_roundw
      case rel => exact ⟨j + 1, by omega, by go_num, by rw [HE.out]; exact ho', hb.grown hg hb.size (fun k hk => (ho.blk k hk).1)⟩
      case measure => simp [intOf]; omega
    · obtain rfl : j = vs.length := by omega
      rw [hp.1, List.take_length] at ho
      have hd : decide ((vs.length : Int) < (vs.length : Int)) = false := by simp
      go_wp2_with fail
      go_ret
      exact ⟨_, rfl, ho, hb⟩

end Go.Proofs.Ytbofcocfcmlcaaa

/-! The walks of package wire, on: frames. -/
namespace Go.Proofs.Ytbofcocfcmlcaaa
open Go.RowKit

/-- A frame's bytes ahead of its sum; a frame. -/
def frameH (kind : Int) (body : List UInt8) : List UInt8 := byteOf kind 0 :: (lowB body.length 4 ++ body)
def frameB (kind : Int) (body : List UInt8) : List UInt8 := frameH kind body ++ lowB (crcOf (frameH kind body)) 4

theorem Parts.three {w : World} {g : Nat} {t : TypeId} {a b c : Value} {x y z : List UInt8} (h : Blk w g #[a, b, c] t) (ha : Bs w a x) (hb : Bs w b y) (hc : Bs w c z) : Parts w g [a, b, c] [x, y, z] := by
  refine ⟨rfl, fun i v hv => h.cell (by simpa using hv), fun i v l hv hl => ?_⟩
  match i, hv, hl with
  | 0, hv, hl => simp at hv hl; subst hv hl; exact ha
  | 1, hv, hl => simp at hv hl; subst hv hl; exact hb
  | 2, hv, hl => simp at hv hl; subst hv hl; exact hc
theorem Parts.two {w : World} {g : Nat} {t : TypeId} {a b : Value} {x y : List UInt8} (h : Blk w g #[a, b] t) (ha : Bs w a x) (hb : Bs w b y) : Parts w g [a, b] [x, y] := by
  refine ⟨rfl, fun i v hv => h.cell (by simpa using hv), fun i v l hv hl => ?_⟩
  match i, hv, hl with
  | 0, hv, hl => simp at hv hl; subst hv hl; exact ha
  | 1, hv, hl => simp at hv hl; subst hv hl; exact hb
theorem Parts.one {w : World} {g : Nat} {t : TypeId} {a : Value} {x : List UInt8} (h : Blk w g #[a] t) (ha : Bs w a x) : Parts w g [a] [x] := by
  refine ⟨rfl, fun i v hv => h.cell (by simpa using hv), fun i v l hv hl => ?_⟩
  match i, hv, hl with
  | 0, hv, hl => simp at hv hl; subst hv hl; exact ha

/-- A block of bytes written out. -/
theorem Blk.bs1 {w : World} {g : Nat} {u : UInt8} {t : TypeId} {n : Int} (h : Blk w g #[.int .u8 n] t) (hn : n = (u.toNat : Int)) : Bs w (.slice (some ⟨g, 0, none⟩) 1 1) [u] :=
  Bs.mk rfl (Nat.le_refl _) (by unfold maxLen; omega) (fun i x hx => by
    match i, hx with
    | 0, hx => simp at hx; subst hx; exact h.cell (by simp [hn]))

theorem lowB_val (n : Nat) (k : Nat) : (lowB n k).length = k := lowB_length _ _

set_option maxRecDepth 100000 in
set_option maxHeartbeats 800000 in
theorem wire_Frame (kind : Int) (v : Value) (l : List UInt8) (w : World) (h0 : 0 ≤ kind) (h1 : kind ≤ 255) (hv : Bs w v l) (hl : l.length ≤ 65536) :
    Calls Try.prog 65 #[.int .i64 kind, v] w fun e w' => ∃ v', e = .returned (.tuple #[v', .int .i64 0]) ∧ Own8 w' w.heap.size 5 v' (frameB kind l) ∧ Below w.heap.size w w' := by
  obtain ⟨a, c, rfl, hc, hm, ha, hsp, hr⟩ := id hv
  clear hr
  have hl' : (l.length : Int) ≤ 65536 := by omega
  go_enter Try.func65, Try.ntmps65
  go_wp2_with fail
  have hb1 : Below w.heap.size w (w.alloc (.cells #[.int .u8 kind] 5)) := (Below.refl _ w).alloc (Nat.le_refl _) _
  have B1 := Blk.new w #[.int .u8 kind] 5
  have hv1 := hv.keep hb1
  generalize w.alloc (.cells #[.int .u8 kind] 5) = W1 at *
  refine (wire_low _ _ _ (by omega) (by omega) (by omega)).mono ?_
  rintro e W2 ⟨v2, rfl, o2, b2⟩
  replace o2 : Own8 W2 W1.heap.size 5 v2 (lowB (l.length : Int) 4) := o2
  obtain ⟨a2, c2, rfl⟩ := o2.form
  have B2 := B1.keep b2
  have s1 : Bs W2 _ [byteOf kind 0] := B2.bs1 (by rw [byteOf_val]; simp; omega)
  have hv2 := hv1.keep b2
  have s2 := o2.bs
  have hb2 := hb1.trans (b2.mono hb1.size)
  clear hv hv1 B1 B2 o2 hb1 b2
  go_wp2_with fail
  have B3 := Blk.new W2 #[.slice (some ⟨w.heap.size, 0, none⟩) 1 1, .slice a2 (lowB (l.length : Int) 4).length c2, .slice a l.length c] 34
  have b3 : Below W2.heap.size W2 (W2.alloc (.cells #[.slice (some ⟨w.heap.size, 0, none⟩) 1 1, .slice a2 (lowB (l.length : Int) 4).length c2, .slice a l.length c] 34)) := (Below.refl _ _).alloc (Nat.le_refl _) _
  generalize W2.alloc (.cells #[.slice (some ⟨w.heap.size, 0, none⟩) 1 1, .slice a2 (lowB (l.length : Int) 4).length c2, .slice a l.length c] 34) = W3 at *
  have hb3 := hb2.trans (b3.mono hb2.size)
  have hP := Parts.three B3 (s1.keep b3) (s2.keep b3) (hv2.keep b3)
  have hF : [[byteOf kind 0], lowB (l.length : Int) 4, l].flatten = frameH kind l := by simp [frameH]
  have hFl : (frameH kind l).length ≤ l.length + 5 := by simp [frameH, lowB_length]; omega
  refine (wire_join _ _ _ _ _ W3 rfl hP (by simp) (Nat.le_trans (Nat.le_of_eq (congrArg List.length hF)) (by omega))).mono ?_
  rw [hF]
  rintro e W4 ⟨v4, rfl, o4, b4⟩
  obtain ⟨a4, c4, rfl⟩ := o4.form
  have hb4 := hb3.trans (b4.mono hb3.size)
  clear hP B3 s1 s2 hv2 b3 hb3 b4 hb2
  go_wp2_with fail
  refine (wire_Crc _ _ W4 o4.bs (by omega)).mono ?_
  rintro e W5 ⟨rfl, b5⟩
  have s4 := o4.bs.keep b5
  have hb5 := hb4.trans (b5.mono hb4.size)
  clear o4 b5 hb4
  have hcl := crcOf_lt (frameH kind l)
  generalize hcr : crcOf (frameH kind l) = cr at *
  have Hcr := hid hcr
  clear hcr
  generalize hfh : frameH kind l = fh at *
  have Hfh := hid hfh
  clear hfh
  go_wp2_with fail
  refine (wire_low _ _ W5 (by omega) (by omega) (by omega)).mono ?_
  rintro e W6 ⟨v6, rfl, o6, b6⟩
  replace o6 : Own8 W6 W5.heap.size 5 v6 (lowB (cr : Int) 4) := o6
  obtain ⟨a6, c6, rfl⟩ := o6.form
  have s5 := s4.keep b6
  have hb6 := hb5.trans (b6.mono hb5.size)
  clear s4 b6 hb5
  go_wp2_with fail
  have B7 := Blk.new W6 #[.slice a4 fh.length c4, .slice a6 (lowB (cr : Int) 4).length c6] 34
  have b7 : Below W6.heap.size W6 (W6.alloc (.cells #[.slice a4 fh.length c4, .slice a6 (lowB (cr : Int) 4).length c6] 34)) := (Below.refl _ _).alloc (Nat.le_refl _) _
  generalize W6.alloc (.cells #[.slice a4 fh.length c4, .slice a6 (lowB (cr : Int) 4).length c6] 34) = W7 at *
  have hb7 := hb6.trans (b7.mono hb6.size)
  have hP := Parts.two B7 (s5.keep b7) (o6.bs.keep b7)
  have hG : [fh, lowB (cr : Int) 4].flatten = frameB kind l := by rw [frameB, Hfh.out, Hcr.out]; simp
  refine (wire_join _ _ _ _ _ W7 rfl hP (by simp) (by simp [lowB_length]; omega)).mono ?_
  rw [hG]
  rintro e W8 ⟨v8, rfl, o8, b8⟩
  have hb8 := hb7.trans (b8.mono hb7.size)
  have o8' := o8.mono hb7.size
  clear hG hP o8
  go_wp2_with fail
  go_ret2
  exact ⟨_, rfl, o8', hb8⟩

end Go.Proofs.Ytbofcocfcmlcaaa
