import Derived.Test.YtpkaepmmkojdaaaWire
/-! The walks of package wire, on: numbers out of bytes. -/
namespace Go.Proofs.Ytpkaepmmkojdaaa
open Go.RowKit

theorem szu8 : (Try.prog.info? 5).map (·.size) = some 1 := by kernel_rfl

set_option maxHeartbeats 800000 in
theorem place_has_true (g : Nat) (a : Option Addr) (len c : Nat) (at_ n : Int) (w : World) (h0 : w.cell? ⟨g, 0, none⟩ = some (.slice a len c)) (h1 : w.cell? ⟨g, 1, none⟩ = some (.int .i64 at_))
    (hat : 0 ≤ at_) (hl : (len : Int) ≤ 9223372036854775807) (hle : at_ ≤ len) (hn : n ≤ len - at_) :
    Calls Try.prog 60 #[.pointer (some ⟨g, 0, none⟩), .int .i64 n] w fun e w' => e = .returned (.bool true) ∧ ∃ k, w' = w.drewN k := by
  have hd : decide (at_ ≤ (len : Int)) = true := by simpa using hle
  have hd2 : decide (n ≤ (len : Int) - at_) = true := by simpa using hn
  go_enter Try.func60, Try.ntmps60
  go_wp2_with fail
  go_quiet (fail)
  go_wp2
  go_ret
  exact ⟨rfl, _, rfl⟩

set_option maxHeartbeats 800000 in
theorem place_has_false (g : Nat) (a : Option Addr) (len c : Nat) (at_ n : Int) (w : World) (h0 : w.cell? ⟨g, 0, none⟩ = some (.slice a len c)) (h1 : w.cell? ⟨g, 1, none⟩ = some (.int .i64 at_))
    (hat : 0 ≤ at_) (hl : (len : Int) ≤ 9223372036854775807) (hle : len < at_ ∨ len - at_ < n) :
    Calls Try.prog 60 #[.pointer (some ⟨g, 0, none⟩), .int .i64 n] w fun e w' => e = .returned (.bool false) ∧ ∃ k, w' = w.drewN k := by
  by_cases hd0 : at_ ≤ (len : Int)
  · have hd : decide (at_ ≤ (len : Int)) = true := by simpa using hd0
    have hd2 : decide (n ≤ (len : Int) - at_) = false := by simp; omega
    go_enter Try.func60, Try.ntmps60
    go_wp2_with fail
    go_quiet (fail)
    go_wp2
    go_ret
    exact ⟨rfl, _, rfl⟩
  · have hd : decide (at_ ≤ (len : Int)) = false := by simpa using hd0
    go_enter Try.func60, Try.ntmps60
    go_wp2_with fail
    go_quiet (fail)
    go_wp2
    go_ret
    exact ⟨rfl, _, rfl⟩

set_option maxHeartbeats 800000 in
theorem place_take (g : Nat) (a : Option Addr) (len c : Nat) (at_ n : Int) (w : World) (h0 : w.cell? ⟨g, 0, none⟩ = some (.slice a len c)) (h1 : w.cell? ⟨g, 1, none⟩ = some (.int .i64 at_))
    (hf : w.frozen? ⟨g, 1, none⟩ = false) (hat : 0 ≤ at_) (hn : 0 ≤ n) (hl : (len : Int) ≤ 9223372036854775807) (hc : (len : Int) ≤ c) (hle : at_ + n ≤ len) :
    Calls Try.prog 76 #[.pointer (some ⟨g, 0, none⟩), .int .i64 n] w fun e w' => e = .returned (.slice (sla a c at_.toNat) ((at_ + n).toNat - at_.toNat) (c - at_.toNat)) ∧ ∃ k, w' = (w.setCell ⟨g, 1, none⟩ (.int .i64 (at_ + n))).drewN k := by
  have hsl := run_slice_b Try.underlying40 szu8 a len c at_ (at_ + n) hat (by omega) (by omega)
  have hs : IntKind.i64.wrap (at_ + n - n) = at_ := by rw [IntKind.wrap_i64]; omega
  go_enter Try.func76, Try.ntmps76
  go_wp2_with fail
  go_quiet (fail)
  go_wp2
  go_ret
  exact ⟨rfl, _, rfl⟩

/-- A number out of bytes, the lowest first. -/
def numOf : List UInt8 → Nat
  | [] => 0
  | x :: l => x.toNat + 256 * numOf l
theorem numOf_snoc (l : List UInt8) (u : UInt8) : numOf (l ++ [u]) = numOf l + u.toNat * 2 ^ (8 * l.length) := by
  induction l with
  | nil => simp [numOf]
  | cons x l ih =>
    simp only [List.cons_append, numOf, ih, List.length_cons]
    rw [show 8 * (l.length + 1) = 8 * l.length + 8 from by omega, Nat.pow_add, show (2 : Nat) ^ 8 = 256 from rfl, ← Nat.mul_assoc]
    omega
theorem numOf_lt (l : List UInt8) : numOf l < 2 ^ (8 * l.length) := by
  induction l with
  | nil => simp [numOf]
  | cons x l ih =>
    simp only [numOf, List.length_cons]
    rw [show 8 * (l.length + 1) = 8 * l.length + 8 from by omega, Nat.pow_add]
    have := x.toNat_lt
    omega

theorem i64_or_nat (a b : Nat) (ha : a < 9223372036854775808) (hb : b < 9223372036854775808) : bits .or .i64 (a : Int) (b : Int) = ((a ||| b : Nat) : Int) := by
  have h : a ||| b < 2 ^ 63 := Nat.or_lt_two_pow (by omega) (by omega)
  have ha' : a < 18446744073709551616 := by omega
  have hb' : b < 18446744073709551616 := by omega
  have e : (BitVec.ofNat 64 a ||| BitVec.ofNat 64 b).toNat = a ||| b := by
    rw [BitVec.toNat_or, BitVec.toNat_ofNat, BitVec.toNat_ofNat, Nat.mod_eq_of_lt ha', Nat.mod_eq_of_lt hb']
  show IntKind.i64.wrap ((BitVec.ofInt 64 (a : Int) ||| BitVec.ofInt 64 (b : Int)).toNat : Int) = _
  rw [BitVec.ofInt_natCast, BitVec.ofInt_natCast, e, IntKind.wrap_i64]
  omega
theorem or_shift (j : Nat) (hj : j < 6) (u : UInt8) {a : Nat} (ha : a < 2 ^ (8 * j)) : bits .or .i64 (a : Int) (wrap64 (wrap64 ((u.toNat : Nat) : Int) * 2 ^ (8 * j))) = ((a + u.toNat * 2 ^ (8 * j) : Nat) : Int) := by
  have hu := u.toNat_lt
  have hp : (2 : Nat) ^ (8 * j) ≤ 2 ^ 40 := Nat.pow_le_pow_right (by decide) (by omega)
  have hm : u.toNat * 2 ^ (8 * j) ≤ 255 * 2 ^ 40 := Nat.mul_le_mul (by omega) hp
  have e : wrap64 (wrap64 ((u.toNat : Nat) : Int) * 2 ^ (8 * j)) = ((u.toNat * 2 ^ (8 * j) : Nat) : Int) := by
    have e1 : wrap64 ((u.toNat : Nat) : Int) = ((u.toNat : Nat) : Int) := by unfold wrap64; omega
    rw [e1, show (((u.toNat : Nat) : Int) * 2 ^ (8 * j)) = ((u.toNat * 2 ^ (8 * j) : Nat) : Int) from by push_cast; rfl]
    generalize u.toNat * 2 ^ (8 * j) = q at *
    unfold wrap64
    omega
  rw [e, i64_or_nat _ _ (by omega) (by omega), Nat.or_comm, ← Nat.shiftLeft_eq, ← Nat.shiftLeft_add_eq_or_of_lt ha]
  congr 1
  omega

set_option maxRecDepth 100000 in
set_option maxHeartbeats 800000 in
theorem reader_number (g : Nat) (a : Option Addr) (l : List UInt8) (c : Nat) (at_ n : Int) (w : World) (h0 : w.cell? ⟨g, 0, none⟩ = some (.slice a l.length c)) (h1 : w.cell? ⟨g, 1, none⟩ = some (.int .i64 at_))
    (hf : w.frozen? ⟨g, 1, none⟩ = false) (hat : 0 ≤ at_) (hn : 0 ≤ n) (hn6 : n ≤ 6) (hl : (l.length : Int) ≤ 9223372036854775807) (hle : at_ + n ≤ l.length) (hv : Bs w (.slice a l.length c) l) (hg : ∀ k, (Value.slice a l.length c).ownBlock = some k → k ≠ g) :
    Calls Try.prog 61 #[.pointer (some ⟨g, 0, none⟩), .int .i64 n] w fun e w' => e = .returned (.int .i64 ((numOf ((l.drop at_.toNat).take n.toNat) : Nat) : Int)) ∧ ∃ k, w' = (w.setCell ⟨g, 1, none⟩ (.int .i64 (at_ + n))).drewN k := by
  obtain ⟨_, _, e0, hc, hm, _⟩ := id hv
  cases e0
  obtain ⟨m, rfl⟩ := Int.eq_ofNat_of_zero_le hn
  rw [Int.toNat_natCast]
  have hx : Ext (fun b => b = g) w (w.setCell ⟨g, 1, none⟩ (.int .i64 (at_ + m))) := Ext.setCell (fp := fun b => b = g) (Ext.refl _ _) (.inl rfl) _
  have hv2 := hv.ext hx (fun k hk _ e => hg k hk e)
  have hv3 := hv2.slice (lo := at_.toNat) (hi := (at_ + m).toNat) (by omega) (by omega)
  have e1 : (at_ + m).toNat - at_.toNat = m := by omega
  rw [e1] at hv3
  have hpt := place_take g a l.length c at_ m w h0 h1 hf hat hn hl (by omega) hle
  rw [e1] at hpt
  have hxl : ((l.drop at_.toNat).take m).length = m := by simp; omega
  generalize (l.drop at_.toNat).take m = x at *
  subst hxl
  clear hx hv2 e1 hv hle h0 h1
  go_enter Try.func61, Try.ntmps61
  go_wp2_with fail
  refine hpt.mono ?_
  rintro e w1 ⟨rfl, nk, rfl⟩
  clear hpt
  obtain ⟨W, hW⟩ : ∃ W, w.setCell ⟨g, 1, none⟩ (.int .i64 (at_ + x.length)) = W := ⟨_, rfl⟩
  have HW := hid hW
  rw [hW] at hv3 ⊢
  clear hW
  go_wp2_with fail
  go_loop [5, 6, 7, 14] (fun m i u k => ∃ j : Nat, j ≤ x.length ∧ k = .int .i64 j ∧ m = .int .i64 ((numOf (x.take j) : Nat) : Int)) (fun _ _ _ k => x.length - (intOf k).toNat)
  case atStart => exact ⟨0, by omega, rfl, rfl⟩
  case round =>
    obtain ⟨j, hj, rfl, rfl⟩ := hrel
    by_cases hjl : j < x.length
    · obtain ⟨u, hu⟩ : ∃ u, x[j]? = some u := ⟨x[j], by simp⟩
      obtain ⟨_, _, e0, _, _, _, hsp, hr⟩ := hv3
      cases e0
      obtain ⟨ad, hsla, hcell⟩ := hr j u hu
      obtain ⟨gd, od, sd⟩ := ad
      obtain rfl := hsp _ hsla (by omega)
      simp only at hcell
      go_wp2_with fail
      go_round
      case rel =>
        refine ⟨j + 1, by omega, by go_num, ?_⟩
        have h1 := numOf_lt (x.take j)
        rw [List.length_take, show min j x.length = j from by omega] at h1
        rw [take_snoc8 _ _ _ hu, numOf_snoc, List.length_take, show min j x.length = j from by omega, or_shift j (by omega) u h1]
      case measure => simp [intOf]; omega
    · obtain rfl : j = x.length := by omega
      rw [List.take_length]
      go_wp2_with fail
      go_ret
      exact ⟨rfl, nk, by rw [HW.out]⟩

end Go.Proofs.Ytpkaepmmkojdaaa

/-! The walks of package wire, on: Get; frames. -/
namespace Go.Proofs.Ytpkaepmmkojdaaa
open Go.RowKit

set_option maxRecDepth 100000 in
set_option maxHeartbeats 800000 in
theorem wire_Get (v : Value) (l : List UInt8) (at_ n : Int) (w : World) (hv : Bs w v l) (hat : 0 ≤ at_) (hn : 1 ≤ n) (hn6 : n ≤ 6) (hle : at_ + n ≤ l.length) :
    Calls Try.prog 53 #[v, .int .i64 at_, .int .i64 n] w fun e w' => e = .returned (.tuple #[.int .i64 ((numOf ((l.drop at_.toNat).take n.toNat) : Nat) : Int), .int .i64 (at_ + n), .int .i64 0]) ∧ Below w.heap.size w w' := by
  obtain ⟨a, c, rfl, hc, hm, ha, hsp, hr⟩ := id hv
  have hmx := hm
  unfold maxLen at hmx
  have hB := Blk.new w #[.slice a l.length c, .int .i64 at_] 118
  have hv1 := hv.keep ((Below.refl _ w).alloc (Nat.le_refl _) (.cells #[.slice a l.length c, .int .i64 at_] 118))
  have hown : ∀ k, (Value.slice a l.length c).ownBlock = some k → k ≠ w.heap.size := by
    intro k hk
    have hne : l ≠ [] := by rintro rfl; simp at hle; omega
    cases a with
    | none => simp [Value.ownBlock] at hk
    | some ad =>
      simp [Value.ownBlock] at hk
      subst hk
      obtain ⟨x, y, rfl⟩ := List.exists_cons_of_ne_nil hne
      obtain ⟨_, e, h⟩ := hr 0 x rfl
      cases e
      have := World.block_lt_of_cell? w _ h
      simp only at this
      omega
  have hbW : Below w.heap.size w (w.alloc (.cells #[.slice a l.length c, .int .i64 at_] 118)) := (Below.refl _ w).alloc (Nat.le_refl _) _
  clear hr
  go_enter Try.func53, Try.ntmps53
  go_wp2_with fail
  generalize w.alloc (.cells #[.slice a l.length c, .int .i64 at_] 118) = W at *
  have c0 := hB.cell (o := 0) rfl
  have c1 := hB.cell (o := 1) rfl
  have cf := hB.free 1
  refine (place_has_true _ _ _ _ _ _ _ c0 c1 hat (by omega) (by omega) (by omega)).mono ?_
  rintro e w' ⟨rfl, k1, rfl⟩
  go_wp2_with fail
  refine (reader_number _ _ _ _ _ _ (W.drewN k1) c0 c1 cf hat (by omega) hn6 (by omega) hle hv1 hown).mono ?_
  rintro e w' ⟨rfl, k2, rfl⟩
  go_wp2_with fail
  have hB2 : Blk (((W.drewN k1).setCell ⟨w.heap.size, 1, none⟩ (.int .i64 (at_ + n))).drewN k2) w.heap.size #[.slice a l.length c, .int .i64 (at_ + n)] 118 := hB.set (o := 1) _
  have hbW2 : Below w.heap.size w (((W.drewN k1).setCell ⟨w.heap.size, 1, none⟩ (.int .i64 (at_ + n))).drewN k2) := below_drewN (Below.setCell (p := ⟨w.heap.size, 1, none⟩) (below_drewN hbW k1) (Nat.le_refl _) _) k2
  generalize ((W.drewN k1).setCell ⟨w.heap.size, 1, none⟩ (.int .i64 (at_ + n))).drewN k2 = W2 at *
  have c2 := hB2.cell (o := 1) rfl
  clear hB hv1 c0 c1 cf hbW hv
  go_quiet (fail)
  go_wp2_with fail
  go_ret3
  exact ⟨rfl, below_drewN hbW2 _⟩

set_option maxHeartbeats 400000 in
theorem store_number (v : Value) (l : List UInt8) (at_ n : Int) (w : World) (hv : Bs w v l) (hat : 0 ≤ at_) (hn : 1 ≤ n) (hn6 : n ≤ 6) (hle : at_ + n ≤ l.length) :
    Calls Try.prog 35 #[v, .int .i64 at_, .int .i64 n] w fun e w' => e = .returned (.int .i64 ((numOf ((l.drop at_.toNat).take n.toNat) : Nat) : Int)) ∧ Below w.heap.size w w' := by
  go_enter Try.func35, Try.ntmps35
  go_wp2_with fail
  refine (wire_Get _ _ _ _ _ hv hat hn hn6 hle).mono ?_
  rintro e w' ⟨rfl, hb⟩
  go_wp2_with fail
  go_ret
  exact ⟨rfl, hb⟩

end Go.Proofs.Ytpkaepmmkojdaaa

/-! Slices in a row. -/
namespace Go.Proofs.Ytpkaepmmkojdaaa
open Go.RowKit

/-- Slices in a row of a block, each with its bytes. -/
def Parts (w : World) (g : Nat) (vs : List Value) (ls : List (List UInt8)) : Prop :=
  vs.length = ls.length ∧ (∀ (i : Nat) (v : Value), vs[i]? = some v → w.cell? ⟨g, i, none⟩ = some v) ∧ ∀ (i : Nat) (v : Value) (l : List UInt8), vs[i]? = some v → ls[i]? = some l → Bs w v l

theorem Parts.keep {w w' : World} {g : Nat} {vs : List Value} {ls : List (List UInt8)} (h : Parts w g vs ls) (hb : Below w.heap.size w w') : Parts w' g vs ls :=
  ⟨h.1, fun i v hv => by
    have := h.2.1 i v hv
    rw [hb.cell (World.block_lt_of_cell? w _ this)]; exact this, fun i v l hv hl => (h.2.2 i v l hv hl).keep hb⟩

theorem take_flat (ls : List (List UInt8)) (j : Nat) (l : List UInt8) (h : ls[j]? = some l) : (ls.take (j + 1)).flatten = (ls.take j).flatten ++ l := by
  rw [List.take_add_one, h, List.flatten_append]
  simp
theorem take_flat_le (ls : List (List UInt8)) (j : Nat) (l : List UInt8) (h : ls[j]? = some l) : (ls.take j).flatten.length + l.length ≤ ls.flatten.length := by
  rw [← List.length_append, ← take_flat ls j l h]
  conv => rhs; rw [← List.take_append_drop (j + 1) ls, List.flatten_append, List.length_append]
  omega

theorem Parts.three {w : World} {g : Nat} {t : TypeId} {a b c : Value} {x y z : List UInt8} (h : Blk w g #[a, b, c] t) (ha : Bs w a x) (hb : Bs w b y) (hc : Bs w c z) : Parts w g [a, b, c] [x, y, z] := by
  refine ⟨rfl, fun i v hv => h.cell (by simpa using hv), fun i v l hv hl => ?_⟩
  match i, hv, hl with
  | 0, hv, hl => simp at hv hl; subst hv hl; exact ha
  | 1, hv, hl => simp at hv hl; subst hv hl; exact hb
  | 2, hv, hl => simp at hv hl; subst hv hl; exact hc
theorem Parts.two {w : World} {g : Nat} {t : TypeId} {a b : Value} {x y : List UInt8} (h : Blk w g #[a, b] t) (ha : Bs w a x) (hb : Bs w b y) : Parts w g [a, b] [x, y] := by
  refine ⟨rfl, fun i v hv => h.cell (by simpa using hv), fun i v l hv hl => ?_⟩
  match i, hv, hl with
  | 0, hv, hl => simp at hv hl; subst hv hl; exact ha
  | 1, hv, hl => simp at hv hl; subst hv hl; exact hb
theorem Parts.one {w : World} {g : Nat} {t : TypeId} {a : Value} {x : List UInt8} (h : Blk w g #[a] t) (ha : Bs w a x) : Parts w g [a] [x] := by
  refine ⟨rfl, fun i v hv => h.cell (by simpa using hv), fun i v l hv hl => ?_⟩
  match i, hv, hl with
  | 0, hv, hl => simp at hv hl; subst hv hl; exact ha

/-- A block of bytes written out. -/
theorem Blk.bs1 {w : World} {g : Nat} {u : UInt8} {t : TypeId} {n : Int} (h : Blk w g #[.int .u8 n] t) (hn : n = (u.toNat : Int)) : Bs w (.slice (some ⟨g, 0, none⟩) 1 1) [u] :=
  Bs.mk rfl (Nat.le_refl _) (by unfold maxLen; omega) (fun i x hx => by
    match i, hx with
    | 0, hx => simp at hx; subst hx; exact h.cell (by simp [hn]))

theorem lowB_val (n : Nat) (k : Nat) : (lowB n k).length = k := lowB_length _ _

theorem below_of_drewN (B : Nat) (W : World) (k : Nat) : Below B W (W.drewN k) := below_drewN (Below.refl _ _) k
theorem bs_block {w : World} {v : Value} {l : List UInt8} (h : Bs w v l) (hne : l ≠ []) : ∀ k, v.ownBlock = some k → k < w.heap.size := by
  obtain ⟨a, c, rfl, hc, hm, ha, hsp, hr⟩ := h
  intro k hk
  cases a with
  | none => simp [Value.ownBlock] at hk
  | some ad =>
    simp [Value.ownBlock] at hk
    subst hk
    obtain ⟨x, y, rfl⟩ := List.exists_cons_of_ne_nil hne
    obtain ⟨_, e, h⟩ := hr 0 x rfl
    cases e
    exact World.block_lt_of_cell? w ⟨ad.block, ad.off + 0, none⟩ h

theorem bs_from {w : World} {a : Option Addr} {n c : Nat} {l : List UInt8} (h : Bs w (.slice a n c) l) (k : Nat) (hk : k ≤ l.length) : Bs w (.slice (sla a c k) (n - k) (c - k)) (l.drop k) := by
  have hn : n = l.length := by obtain ⟨_, _, e, _⟩ := h; injection e
  have := h.slice (lo := k) (hi := n) (by omega) (Nat.le_refl _)
  rwa [List.take_of_length_le (by simp; omega)] at this

end Go.Proofs.Ytpkaepmmkojdaaa
