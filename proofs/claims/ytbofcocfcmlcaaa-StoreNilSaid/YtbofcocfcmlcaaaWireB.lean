import Derived.Test.YtbofcocfcmlcaaaWire
/-! The walks of package wire, on: numbers out of bytes. -/
namespace Go.Proofs.Ytbofcocfcmlcaaa
open Go.RowKit

theorem szu8 : (Try.prog.info? 5).map (·.size) = some 1 := by kernel_rfl

set_option maxHeartbeats 800000 in
theorem place_has_true (g : Nat) (a : Option Addr) (len c : Nat) (at_ n : Int) (w : World) (h0 : w.cell? ⟨g, 0, none⟩ = some (.slice a len c)) (h1 : w.cell? ⟨g, 1, none⟩ = some (.int .i64 at_))
    (hat : 0 ≤ at_) (hl : (len : Int) ≤ 9223372036854775807) (hle : at_ ≤ len) (hn : n ≤ len - at_) :
    Calls Try.prog 116 #[.pointer (some ⟨g, 0, none⟩), .int .i64 n] w fun e w' => e = .returned (.bool true) ∧ ∃ k, w' = w.drewN k := by
  have hd : decide (at_ ≤ (len : Int)) = true := by simpa using hle
  have hd2 : decide (n ≤ (len : Int) - at_) = true := by simpa using hn
  go_enter Try.func116, Try.ntmps116
  go_wp2_with fail
  go_quiet (fail)
  go_wp2
  go_ret
  exact ⟨rfl, _, rfl⟩

set_option maxHeartbeats 800000 in
theorem place_has_false (g : Nat) (a : Option Addr) (len c : Nat) (at_ n : Int) (w : World) (h0 : w.cell? ⟨g, 0, none⟩ = some (.slice a len c)) (h1 : w.cell? ⟨g, 1, none⟩ = some (.int .i64 at_))
    (hat : 0 ≤ at_) (hl : (len : Int) ≤ 9223372036854775807) (hle : len < at_ ∨ len - at_ < n) :
    Calls Try.prog 116 #[.pointer (some ⟨g, 0, none⟩), .int .i64 n] w fun e w' => e = .returned (.bool false) ∧ ∃ k, w' = w.drewN k := by
  by_cases hd0 : at_ ≤ (len : Int)
  · have hd : decide (at_ ≤ (len : Int)) = true := by simpa using hd0
    have hd2 : decide (n ≤ (len : Int) - at_) = false := by simp; omega
    go_enter Try.func116, Try.ntmps116
    go_wp2_with fail
    go_quiet (fail)
    go_wp2
    go_ret
    exact ⟨rfl, _, rfl⟩
  · have hd : decide (at_ ≤ (len : Int)) = false := by simpa using hd0
    go_enter Try.func116, Try.ntmps116
    go_wp2_with fail
    go_quiet (fail)
    go_wp2
    go_ret
    exact ⟨rfl, _, rfl⟩

set_option maxHeartbeats 800000 in
theorem place_take (g : Nat) (a : Option Addr) (len c : Nat) (at_ n : Int) (w : World) (h0 : w.cell? ⟨g, 0, none⟩ = some (.slice a len c)) (h1 : w.cell? ⟨g, 1, none⟩ = some (.int .i64 at_))
    (hf : w.frozen? ⟨g, 1, none⟩ = false) (hat : 0 ≤ at_) (hn : 0 ≤ n) (hl : (len : Int) ≤ 9223372036854775807) (hc : (len : Int) ≤ c) (hle : at_ + n ≤ len) :
    Calls Try.prog 118 #[.pointer (some ⟨g, 0, none⟩), .int .i64 n] w fun e w' => e = .returned (.slice (sla a c at_.toNat) ((at_ + n).toNat - at_.toNat) (c - at_.toNat)) ∧ ∃ k, w' = (w.setCell ⟨g, 1, none⟩ (.int .i64 (at_ + n))).drewN k := by
  have hsl := run_slice_b Try.underlying34 szu8 a len c at_ (at_ + n) hat (by omega) (by omega)
  have hs : IntKind.i64.wrap (at_ + n - n) = at_ := by rw [IntKind.wrap_i64]; omega
  go_enter Try.func118, Try.ntmps118
  go_wp2_with fail
  go_quiet (fail)
  go_wp2
  go_ret
  exact ⟨rfl, _, rfl⟩

/-- A number out of bytes, the lowest first. -/
def numOf : List UInt8 → Nat
  | [] => 0
  | x :: l => x.toNat + 256 * numOf l
theorem numOf_snoc (l : List UInt8) (u : UInt8) : numOf (l ++ [u]) = numOf l + u.toNat * 2 ^ (8 * l.length) := by
  induction l with
  | nil => simp [numOf]
  | cons x l ih =>
    simp only [List.cons_append, numOf, ih, List.length_cons]
    rw [show 8 * (l.length + 1) = 8 * l.length + 8 from by omega, Nat.pow_add, show (2 : Nat) ^ 8 = 256 from rfl, ← Nat.mul_assoc]
    omega
theorem numOf_lt (l : List UInt8) : numOf l < 2 ^ (8 * l.length) := by
  induction l with
  | nil => simp [numOf]
  | cons x l ih =>
    simp only [numOf, List.length_cons]
    rw [show 8 * (l.length + 1) = 8 * l.length + 8 from by omega, Nat.pow_add]
    have := x.toNat_lt
    omega

theorem i64_or_nat (a b : Nat) (ha : a < 9223372036854775808) (hb : b < 9223372036854775808) : bits .or .i64 (a : Int) (b : Int) = ((a ||| b : Nat) : Int) := by
  have h : a ||| b < 2 ^ 63 := Nat.or_lt_two_pow (by omega) (by omega)
  have ha' : a < 18446744073709551616 := by omega
  have hb' : b < 18446744073709551616 := by omega
  have e : (BitVec.ofNat 64 a ||| BitVec.ofNat 64 b).toNat = a ||| b := by
    rw [BitVec.toNat_or, BitVec.toNat_ofNat, BitVec.toNat_ofNat, Nat.mod_eq_of_lt ha', Nat.mod_eq_of_lt hb']
  show IntKind.i64.wrap ((BitVec.ofInt 64 (a : Int) ||| BitVec.ofInt 64 (b : Int)).toNat : Int) = _
  rw [BitVec.ofInt_natCast, BitVec.ofInt_natCast, e, IntKind.wrap_i64]
  omega
theorem or_shift (j : Nat) (hj : j < 6) (u : UInt8) {a : Nat} (ha : a < 2 ^ (8 * j)) : bits .or .i64 (a : Int) (wrap64 (wrap64 ((u.toNat : Nat) : Int) * 2 ^ (8 * j))) = ((a + u.toNat * 2 ^ (8 * j) : Nat) : Int) := by
  have hu := u.toNat_lt
  have hp : (2 : Nat) ^ (8 * j) ≤ 2 ^ 40 := Nat.pow_le_pow_right (by decide) (by omega)
  have hm : u.toNat * 2 ^ (8 * j) ≤ 255 * 2 ^ 40 := Nat.mul_le_mul (by omega) hp
  have e : wrap64 (wrap64 ((u.toNat : Nat) : Int) * 2 ^ (8 * j)) = ((u.toNat * 2 ^ (8 * j) : Nat) : Int) := by
    have e1 : wrap64 ((u.toNat : Nat) : Int) = ((u.toNat : Nat) : Int) := by unfold wrap64; omega
    rw [e1, show (((u.toNat : Nat) : Int) * 2 ^ (8 * j)) = ((u.toNat * 2 ^ (8 * j) : Nat) : Int) from by push_cast; rfl]
    generalize u.toNat * 2 ^ (8 * j) = q at *
    unfold wrap64
    omega
  rw [e, i64_or_nat _ _ (by omega) (by omega), Nat.or_comm, ← Nat.shiftLeft_eq, ← Nat.shiftLeft_add_eq_or_of_lt ha]
  congr 1
  omega

set_option maxRecDepth 100000 in
set_option maxHeartbeats 800000 in
theorem reader_number (g : Nat) (a : Option Addr) (l : List UInt8) (c : Nat) (at_ n : Int) (w : World) (h0 : w.cell? ⟨g, 0, none⟩ = some (.slice a l.length c)) (h1 : w.cell? ⟨g, 1, none⟩ = some (.int .i64 at_))
    (hf : w.frozen? ⟨g, 1, none⟩ = false) (hat : 0 ≤ at_) (hn : 0 ≤ n) (hn6 : n ≤ 6) (hl : (l.length : Int) ≤ 9223372036854775807) (hle : at_ + n ≤ l.length) (hv : Bs w (.slice a l.length c) l) (hg : ∀ k, (Value.slice a l.length c).ownBlock = some k → k ≠ g) :
    Calls Try.prog 117 #[.pointer (some ⟨g, 0, none⟩), .int .i64 n] w fun e w' => e = .returned (.int .i64 ((numOf ((l.drop at_.toNat).take n.toNat) : Nat) : Int)) ∧ ∃ k, w' = (w.setCell ⟨g, 1, none⟩ (.int .i64 (at_ + n))).drewN k := by
  obtain ⟨_, _, e0, hc, hm, _⟩ := id hv
  cases e0
  obtain ⟨m, rfl⟩ := Int.eq_ofNat_of_zero_le hn
  rw [Int.toNat_natCast]
  have hx : Ext (fun b => b = g) w (w.setCell ⟨g, 1, none⟩ (.int .i64 (at_ + m))) := Ext.setCell (fp := fun b => b = g) (Ext.refl _ _) (.inl rfl) _
  have hv2 := hv.ext hx (fun k hk _ e => hg k hk e)
  have hv3 := hv2.slice (lo := at_.toNat) (hi := (at_ + m).toNat) (by omega) (by omega)
  have e1 : (at_ + m).toNat - at_.toNat = m := by omega
  rw [e1] at hv3
  have hpt := place_take g a l.length c at_ m w h0 h1 hf hat hn hl (by omega) hle
  rw [e1] at hpt
  have hxl : ((l.drop at_.toNat).take m).length = m := by simp; omega
  generalize (l.drop at_.toNat).take m = x at *
  subst hxl
  clear hx hv2 e1 hv hle h0 h1
  go_enter Try.func117, Try.ntmps117
  go_wp2_with fail
  refine hpt.mono ?_
  rintro e w1 ⟨rfl, nk, rfl⟩
  clear hpt
  obtain ⟨W, hW⟩ : ∃ W, w.setCell ⟨g, 1, none⟩ (.int .i64 (at_ + x.length)) = W := ⟨_, rfl⟩
  have HW := hid hW
  rw [hW] at hv3 ⊢
  clear hW
  go_wp2_with fail
  go_loop [5, 6, 7, 14] (fun m i u k => ∃ j : Nat, j ≤ x.length ∧ k = .int .i64 j ∧ m = .int .i64 ((numOf (x.take j) : Nat) : Int)) (fun _ _ _ k => x.length - (intOf k).toNat)
  case atStart => exact ⟨0, by omega, rfl, rfl⟩
  case round =>
    obtain ⟨j, hj, rfl, rfl⟩ := hrel
    by_cases hjl : j < x.length
    · obtain ⟨u, hu⟩ : ∃ u, x[j]? = some u := ⟨x[j], by simp⟩
      obtain ⟨_, _, e0, _, _, _, hsp, hr⟩ := hv3
      cases e0
      obtain ⟨ad, hsla, hcell⟩ := hr j u hu
      obtain ⟨gd, od, sd⟩ := ad
      obtain rfl := hsp _ hsla
      simp only at hcell
      go_wp2_with fail
      go_round
      case rel =>
        refine ⟨j + 1, by omega, by go_num, ?_⟩
        have h1 := numOf_lt (x.take j)
        rw [List.length_take, show min j x.length = j from by omega] at h1
        rw [take_snoc8 _ _ _ hu, numOf_snoc, List.length_take, show min j x.length = j from by omega, or_shift j (by omega) u h1]
      case measure => simp [intOf]; omega
    · obtain rfl : j = x.length := by omega
      rw [List.take_length]
      go_wp2_with fail
      go_ret
      exact ⟨rfl, nk, by rw [HW.out]⟩

end Go.Proofs.Ytbofcocfcmlcaaa
