import Derived.Test.YtcdcjoofcbdilaaGreatMWire
import Derived.Lib.AppendZeros
/-! The walks of package wire, on: numbers out of bytes. -/
namespace Go.Proofs.YtcdcjoofcbdilaaGreat
open Go.RowKit

theorem szu8 : (Tryz.prog.info? 5).map (·.size) = some 1 := by kernel_rfl

set_option maxHeartbeats 800000 in
theorem place_has_true (g : Nat) (a : Option Addr) (len c : Nat) (at_ n : Int) (w : World) (h0 : w.cell? ⟨g, 0, none⟩ = some (.slice a len c)) (h1 : w.cell? ⟨g, 1, none⟩ = some (.int .i64 at_))
    (hat : 0 ≤ at_) (hl : (len : Int) ≤ 9223372036854775807) (hle : at_ ≤ len) (hn : n ≤ len - at_) :
    Calls Tryz.prog 147 #[.pointer (some ⟨g, 0, none⟩), .int .i64 n] w fun e w' => e = .returned (.bool true) ∧ ∃ k, w' = w.drewN k := by
  have hd : decide (at_ ≤ (len : Int)) = true := by simpa using hle
  have hd2 : decide (n ≤ (len : Int) - at_) = true := by simpa using hn
  go_enter Tryz.func147, Tryz.ntmps147
  go_wp2_with fail
  go_quiet (fail)
  go_wp2
  go_ret
  exact ⟨rfl, _, rfl⟩

set_option maxHeartbeats 800000 in
theorem place_has_false (g : Nat) (a : Option Addr) (len c : Nat) (at_ n : Int) (w : World) (h0 : w.cell? ⟨g, 0, none⟩ = some (.slice a len c)) (h1 : w.cell? ⟨g, 1, none⟩ = some (.int .i64 at_))
    (hat : 0 ≤ at_) (hl : (len : Int) ≤ 9223372036854775807) (hle : len < at_ ∨ len - at_ < n) :
    Calls Tryz.prog 147 #[.pointer (some ⟨g, 0, none⟩), .int .i64 n] w fun e w' => e = .returned (.bool false) ∧ ∃ k, w' = w.drewN k := by
  by_cases hd0 : at_ ≤ (len : Int)
  · have hd : decide (at_ ≤ (len : Int)) = true := by simpa using hd0
    have hd2 : decide (n ≤ (len : Int) - at_) = false := by simp; omega
    go_enter Tryz.func147, Tryz.ntmps147
    go_wp2_with fail
    go_quiet (fail)
    go_wp2
    go_ret
    exact ⟨rfl, _, rfl⟩
  · have hd : decide (at_ ≤ (len : Int)) = false := by simpa using hd0
    go_enter Tryz.func147, Tryz.ntmps147
    go_wp2_with fail
    go_quiet (fail)
    go_wp2
    go_ret
    exact ⟨rfl, _, rfl⟩

set_option maxHeartbeats 800000 in
theorem place_take (g : Nat) (a : Option Addr) (len c : Nat) (at_ n : Int) (w : World) (h0 : w.cell? ⟨g, 0, none⟩ = some (.slice a len c)) (h1 : w.cell? ⟨g, 1, none⟩ = some (.int .i64 at_))
    (hf : w.frozen? ⟨g, 1, none⟩ = false) (hat : 0 ≤ at_) (hn : 0 ≤ n) (hl : (len : Int) ≤ 9223372036854775807) (hc : (len : Int) ≤ c) (hle : at_ + n ≤ len) :
    Calls Tryz.prog 149 #[.pointer (some ⟨g, 0, none⟩), .int .i64 n] w fun e w' => e = .returned (.slice (sla a c at_.toNat) ((at_ + n).toNat - at_.toNat) (c - at_.toNat)) ∧ ∃ k, w' = (w.setCell ⟨g, 1, none⟩ (.int .i64 (at_ + n))).drewN k := by
  have hsl := run_slice_b Tryz.underlying30 szu8 a len c at_ (at_ + n) hat (by omega) (by omega)
  have hs : IntKind.i64.wrap (at_ + n - n) = at_ := by rw [IntKind.wrap_i64]; omega
  go_enter Tryz.func149, Tryz.ntmps149
  go_wp2_with fail
  go_quiet (fail)
  go_wp2
  go_ret
  exact ⟨rfl, _, rfl⟩

/-- A number out of bytes, the lowest first. -/
def numOf : List UInt8 → Nat
  | [] => 0
  | x :: l => x.toNat + 256 * numOf l
theorem numOf_snoc (l : List UInt8) (u : UInt8) : numOf (l ++ [u]) = numOf l + u.toNat * 2 ^ (8 * l.length) := by
  induction l with
  | nil => simp [numOf]
  | cons x l ih =>
    simp only [List.cons_append, numOf, ih, List.length_cons]
    rw [show 8 * (l.length + 1) = 8 * l.length + 8 from by omega, Nat.pow_add, show (2 : Nat) ^ 8 = 256 from rfl, ← Nat.mul_assoc]
    omega
theorem numOf_lt (l : List UInt8) : numOf l < 2 ^ (8 * l.length) := by
  induction l with
  | nil => simp [numOf]
  | cons x l ih =>
    simp only [numOf, List.length_cons]
    rw [show 8 * (l.length + 1) = 8 * l.length + 8 from by omega, Nat.pow_add]
    have := x.toNat_lt
    omega

theorem i64_or_nat (a b : Nat) (ha : a < 9223372036854775808) (hb : b < 9223372036854775808) : bits .or .i64 (a : Int) (b : Int) = ((a ||| b : Nat) : Int) := by
  have h : a ||| b < 2 ^ 63 := Nat.or_lt_two_pow (by omega) (by omega)
  have ha' : a < 18446744073709551616 := by omega
  have hb' : b < 18446744073709551616 := by omega
  have e : (BitVec.ofNat 64 a ||| BitVec.ofNat 64 b).toNat = a ||| b := by
    rw [BitVec.toNat_or, BitVec.toNat_ofNat, BitVec.toNat_ofNat, Nat.mod_eq_of_lt ha', Nat.mod_eq_of_lt hb']
  show IntKind.i64.wrap ((BitVec.ofInt 64 (a : Int) ||| BitVec.ofInt 64 (b : Int)).toNat : Int) = _
  rw [BitVec.ofInt_natCast, BitVec.ofInt_natCast, e, IntKind.wrap_i64]
  omega
theorem or_shift (j : Nat) (hj : j < 6) (u : UInt8) {a : Nat} (ha : a < 2 ^ (8 * j)) : bits .or .i64 (a : Int) (wrap64 (wrap64 ((u.toNat : Nat) : Int) * 2 ^ (8 * j))) = ((a + u.toNat * 2 ^ (8 * j) : Nat) : Int) := by
  have hu := u.toNat_lt
  have hp : (2 : Nat) ^ (8 * j) ≤ 2 ^ 40 := Nat.pow_le_pow_right (by decide) (by omega)
  have hm : u.toNat * 2 ^ (8 * j) ≤ 255 * 2 ^ 40 := Nat.mul_le_mul (by omega) hp
  have e : wrap64 (wrap64 ((u.toNat : Nat) : Int) * 2 ^ (8 * j)) = ((u.toNat * 2 ^ (8 * j) : Nat) : Int) := by
    have e1 : wrap64 ((u.toNat : Nat) : Int) = ((u.toNat : Nat) : Int) := by unfold wrap64; omega
    rw [e1, show (((u.toNat : Nat) : Int) * 2 ^ (8 * j)) = ((u.toNat * 2 ^ (8 * j) : Nat) : Int) from by push_cast; rfl]
    generalize u.toNat * 2 ^ (8 * j) = q at *
    unfold wrap64
    omega
  rw [e, i64_or_nat _ _ (by omega) (by omega), Nat.or_comm, ← Nat.shiftLeft_eq, ← Nat.shiftLeft_add_eq_or_of_lt ha]
  congr 1
  omega

set_option maxRecDepth 100000 in
set_option maxHeartbeats 800000 in
theorem reader_number (g : Nat) (a : Option Addr) (l : List UInt8) (c : Nat) (at_ n : Int) (w : World) (h0 : w.cell? ⟨g, 0, none⟩ = some (.slice a l.length c)) (h1 : w.cell? ⟨g, 1, none⟩ = some (.int .i64 at_))
    (hf : w.frozen? ⟨g, 1, none⟩ = false) (hat : 0 ≤ at_) (hn : 0 ≤ n) (hn6 : n ≤ 6) (hl : (l.length : Int) ≤ 9223372036854775807) (hle : at_ + n ≤ l.length) (hv : Bs w (.slice a l.length c) l) (hg : ∀ k, (Value.slice a l.length c).ownBlock = some k → k ≠ g) :
    Calls Tryz.prog 148 #[.pointer (some ⟨g, 0, none⟩), .int .i64 n] w fun e w' => e = .returned (.int .i64 ((numOf ((l.drop at_.toNat).take n.toNat) : Nat) : Int)) ∧ ∃ k, w' = (w.setCell ⟨g, 1, none⟩ (.int .i64 (at_ + n))).drewN k := by
  obtain ⟨_, _, e0, hc, hm, _⟩ := id hv
  cases e0
  obtain ⟨m, rfl⟩ := Int.eq_ofNat_of_zero_le hn
  rw [Int.toNat_natCast]
  have hx : Ext (fun b => b = g) w (w.setCell ⟨g, 1, none⟩ (.int .i64 (at_ + m))) := Ext.setCell (fp := fun b => b = g) (Ext.refl _ _) (.inl rfl) _
  have hv2 := hv.ext hx (fun k hk _ e => hg k hk e)
  have hv3 := hv2.slice (lo := at_.toNat) (hi := (at_ + m).toNat) (by omega) (by omega)
  have e1 : (at_ + m).toNat - at_.toNat = m := by omega
  rw [e1] at hv3
  have hpt := place_take g a l.length c at_ m w h0 h1 hf hat hn hl (by omega) hle
  rw [e1] at hpt
  have hxl : ((l.drop at_.toNat).take m).length = m := by simp; omega
  generalize (l.drop at_.toNat).take m = x at *
  subst hxl
  clear hx hv2 e1 hv hle h0 h1
  go_enter Tryz.func148, Tryz.ntmps148
  go_wp2_with fail
  refine hpt.mono ?_
  rintro e w1 ⟨rfl, nk, rfl⟩
  clear hpt
  obtain ⟨W, hW⟩ : ∃ W, w.setCell ⟨g, 1, none⟩ (.int .i64 (at_ + x.length)) = W := ⟨_, rfl⟩
  have HW := hid hW
  rw [hW] at hv3 ⊢
  clear hW
  go_wp2_with fail
  go_loop [5, 6, 7, 14] (fun m i u k => ∃ j : Nat, j ≤ x.length ∧ k = .int .i64 j ∧ m = .int .i64 ((numOf (x.take j) : Nat) : Int)) (fun _ _ _ k => x.length - (intOf k).toNat)
  case atStart => exact ⟨0, by omega, rfl, rfl⟩
  case round =>
    obtain ⟨j, hj, rfl, rfl⟩ := hrel
    by_cases hjl : j < x.length
    · obtain ⟨u, hu⟩ : ∃ u, x[j]? = some u := ⟨x[j], by simp⟩
      obtain ⟨_, _, e0, _, _, _, hsp, hr⟩ := hv3
      cases e0
      obtain ⟨ad, hsla, hcell⟩ := hr j u hu
      obtain ⟨gd, od, sd⟩ := ad
      obtain rfl := hsp _ hsla (by omega)
      simp only at hcell
      go_wp2_with fail
      go_round
      case rel =>
        refine ⟨j + 1, by omega, by go_num, ?_⟩
        have h1 := numOf_lt (x.take j)
        rw [List.length_take, show min j x.length = j from by omega] at h1
        rw [take_snoc8 _ _ _ hu, numOf_snoc, List.length_take, show min j x.length = j from by omega, or_shift j (by omega) u h1]
      case measure => simp [intOf]; omega
    · obtain rfl : j = x.length := by omega
      rw [List.take_length]
      go_wp2_with fail
      go_ret
      exact ⟨rfl, nk, by rw [HW.out]⟩

end Go.Proofs.YtcdcjoofcbdilaaGreat

/-! The walks of package wire, on: Get; frames. -/
namespace Go.Proofs.YtcdcjoofcbdilaaGreat
open Go.RowKit

set_option maxRecDepth 100000 in
set_option maxHeartbeats 800000 in
theorem wire_Get (v : Value) (l : List UInt8) (at_ n : Int) (w : World) (hv : Bs w v l) (hat : 0 ≤ at_) (hn : 1 ≤ n) (hn6 : n ≤ 6) (hle : at_ + n ≤ l.length) :
    Calls Tryz.prog 110 #[v, .int .i64 at_, .int .i64 n] w fun e w' => e = .returned (.tuple #[.int .i64 ((numOf ((l.drop at_.toNat).take n.toNat) : Nat) : Int), .int .i64 (at_ + n), .int .i64 0]) ∧ Below w.heap.size w w' := by
  obtain ⟨a, c, rfl, hc, hm, ha, hsp, hr⟩ := id hv
  have hmx := hm
  unfold maxLen at hmx
  have hB := Blk.new w #[.slice a l.length c, .int .i64 at_] 256
  have hv1 := hv.keep ((Below.refl _ w).alloc (Nat.le_refl _) (.cells #[.slice a l.length c, .int .i64 at_] 256))
  have hown : ∀ k, (Value.slice a l.length c).ownBlock = some k → k ≠ w.heap.size := by
    intro k hk
    have hne : l ≠ [] := by rintro rfl; simp at hle; omega
    cases a with
    | none => simp [Value.ownBlock] at hk
    | some ad =>
      simp [Value.ownBlock] at hk
      subst hk
      obtain ⟨x, y, rfl⟩ := List.exists_cons_of_ne_nil hne
      obtain ⟨_, e, h⟩ := hr 0 x rfl
      cases e
      have := World.block_lt_of_cell? w _ h
      simp only at this
      omega
  have hbW : Below w.heap.size w (w.alloc (.cells #[.slice a l.length c, .int .i64 at_] 256)) := (Below.refl _ w).alloc (Nat.le_refl _) _
  clear hr
  go_enter Tryz.func110, Tryz.ntmps110
  go_wp2_with fail
  generalize w.alloc (.cells #[.slice a l.length c, .int .i64 at_] 256) = W at *
  have c0 := hB.cell (o := 0) rfl
  have c1 := hB.cell (o := 1) rfl
  have cf := hB.free 1
  refine (place_has_true _ _ _ _ _ _ _ c0 c1 hat (by omega) (by omega) (by omega)).mono ?_
  rintro e w' ⟨rfl, k1, rfl⟩
  go_wp2_with fail
  refine (reader_number _ _ _ _ _ _ (W.drewN k1) c0 c1 cf hat (by omega) hn6 (by omega) hle hv1 hown).mono ?_
  rintro e w' ⟨rfl, k2, rfl⟩
  go_wp2_with fail
  have hB2 : Blk (((W.drewN k1).setCell ⟨w.heap.size, 1, none⟩ (.int .i64 (at_ + n))).drewN k2) w.heap.size #[.slice a l.length c, .int .i64 (at_ + n)] 256 := hB.set (o := 1) _
  have hbW2 : Below w.heap.size w (((W.drewN k1).setCell ⟨w.heap.size, 1, none⟩ (.int .i64 (at_ + n))).drewN k2) := below_drewN (Below.setCell (p := ⟨w.heap.size, 1, none⟩) (below_drewN hbW k1) (Nat.le_refl _) _) k2
  generalize ((W.drewN k1).setCell ⟨w.heap.size, 1, none⟩ (.int .i64 (at_ + n))).drewN k2 = W2 at *
  have c2 := hB2.cell (o := 1) rfl
  clear hB hv1 c0 c1 cf hbW hv
  go_quiet (fail)
  go_wp2_with fail
  go_ret3
  exact ⟨rfl, below_drewN hbW2 _⟩

set_option maxHeartbeats 400000 in
theorem store_number (v : Value) (l : List UInt8) (at_ n : Int) (w : World) (hv : Bs w v l) (hat : 0 ≤ at_) (hn : 1 ≤ n) (hn6 : n ≤ 6) (hle : at_ + n ≤ l.length) :
    Calls Tryz.prog 170 #[v, .int .i64 at_, .int .i64 n] w fun e w' => e = .returned (.int .i64 ((numOf ((l.drop at_.toNat).take n.toNat) : Nat) : Int)) ∧ Below w.heap.size w w' := by
  go_enter Tryz.func170, Tryz.ntmps170
  go_wp2_with fail
  refine (wire_Get _ _ _ _ _ hv hat hn hn6 hle).mono ?_
  rintro e w' ⟨rfl, hb⟩
  go_wp2_with fail
  go_ret
  exact ⟨rfl, hb⟩

end Go.Proofs.YtcdcjoofcbdilaaGreat

/-! The walks of package wire, on: join and frames; of package slices: Concat, Clone. -/
namespace Go.Proofs.YtcdcjoofcbdilaaGreat
open Go.RowKit

/-- Slices in a row of a block, each with its bytes. -/
def Parts (w : World) (g : Nat) (vs : List Value) (ls : List (List UInt8)) : Prop :=
  vs.length = ls.length ∧ (∀ (i : Nat) (v : Value), vs[i]? = some v → w.cell? ⟨g, i, none⟩ = some v) ∧ ∀ (i : Nat) (v : Value) (l : List UInt8), vs[i]? = some v → ls[i]? = some l → Bs w v l

theorem Parts.keep {w w' : World} {g : Nat} {vs : List Value} {ls : List (List UInt8)} (h : Parts w g vs ls) (hb : Below w.heap.size w w') : Parts w' g vs ls :=
  ⟨h.1, fun i v hv => by
    have := h.2.1 i v hv
    rw [hb.cell (World.block_lt_of_cell? w _ this)]; exact this, fun i v l hv hl => (h.2.2 i v l hv hl).keep hb⟩

theorem take_flat (ls : List (List UInt8)) (j : Nat) (l : List UInt8) (h : ls[j]? = some l) : (ls.take (j + 1)).flatten = (ls.take j).flatten ++ l := by
  rw [List.take_add_one, h, List.flatten_append]
  simp
theorem take_flat_le (ls : List (List UInt8)) (j : Nat) (l : List UInt8) (h : ls[j]? = some l) : (ls.take j).flatten.length + l.length ≤ ls.flatten.length := by
  rw [← List.length_append, ← take_flat ls j l h]
  conv => rhs; rw [← List.take_append_drop (j + 1) ls, List.flatten_append, List.length_append]
  omega

set_option maxRecDepth 100000 in
set_option maxHeartbeats 800000 in
theorem wire_join (g n c : Nat) (vs : List Value) (ls : List (List UInt8)) (w : World) (hn : n = vs.length) (hp : Parts w g vs ls) (hvs : vs.length ≤ 64) (hls : ls.flatten.length ≤ 1073741824) :
    Calls Tryz.prog 96 #[.slice (some ⟨g, 0, none⟩) n c] w fun e w' => ∃ v, e = .returned v ∧ Own8 w' w.heap.size 5 v ls.flatten ∧ Below w.heap.size w w' := by
  subst hn
  obtain ⟨i0, hi, hz0, hz1, hz2⟩ := info_parts info_u8
  go_enter Tryz.func96, Tryz.ntmps96
  go_wp2_with fail
  go_loopw [3, 5, 8] (fun v t i wr => ∃ j : Nat, j ≤ vs.length ∧ i = .int .i64 j ∧ Own8 wr w.heap.size 5 v (ls.take j).flatten ∧ Below w.heap.size w wr) (fun _ _ i _ => vs.length - (intOf i).toNat)
  case atStart => exact ⟨0, by omega, rfl, Own8.nil _ _ _, Below.refl _ _⟩
  case round =>
    obtain ⟨j, hj, rfl, ho, hb⟩ := hrel
    by_cases hlt : j < vs.length
    · obtain ⟨x, hx⟩ : ∃ x, vs[j]? = some x := ⟨vs[j], by simp⟩
      obtain ⟨l, hl⟩ : ∃ l, ls[j]? = some l := ⟨ls[j]'(by have := hp.1; omega), by simp⟩
      have hp' := hp.keep hb
      have hc := hp'.2.1 j x hx
      have hB := hp'.2.2 j x l hx hl
      have hlen : (ls.take j).flatten.length + l.length ≤ 1073741824 := by
        have h1 := take_flat_le ls j l hl
        omega
      have HE := hid (take_flat ls j l hl)
      go_wp2_with (at_builtin; refine wpList_append8 Tryz.underlying30 hi hz0 hz1 hz2 rfl _ _ rfl w.heap.size rfl rfl ho hB (by omega) hb.size ?_; intro v' w1 ho' hg _)
      go_roundw
      case rel => exact ⟨j + 1, by omega, by go_num, by rw [HE.out]; exact ho', hb.grown hg hb.size (fun k hk => (ho.blk k hk).1)⟩
      case measure => simp [intOf]; omega
    · obtain rfl : j = vs.length := by omega
      rw [hp.1, List.take_length] at ho
      have hd : decide ((vs.length : Int) < (vs.length : Int)) = false := by simp
      go_wp2_with fail
      go_ret
      exact ⟨_, rfl, ho, hb⟩

end Go.Proofs.YtcdcjoofcbdilaaGreat

/-! The walks of package slices (Grow, Concat, Clone) and bytes (Equal) at bytes. -/
namespace Go.Proofs.YtcdcjoofcbdilaaGreat
open Go.RowKit

theorem run_slice_to {P : Program} {T E : TypeId} (hT : P.underlying T = some (.slice E)) (hE : (P.info? E).map (·.size) = some 1) (a : Option Addr) (n c : Nat) (hi : Int) (h1 : 0 ≤ hi) (h2 : hi ≤ c) (W : World) :
    (Instr.slice T (.slice a n c) none (some (.int .i64 hi)) none).run P W = .ok (.slice a hi.toNat c) W := by
  have hs : (sizeOf E).run P W = .ok 1 W := by
    cases hq : P.info? E with
    | none => simp [hq] at hE
    | some i =>
      simp [hq] at hE
      simp [sizeOf, typeInfo, hq, hE]
  have e1 : ∀ (code : BoundsCode), (Instr.sliceBound (.int .i64 hi) c code).run P W = .ok hi.toNat W := fun code => run_sliceBound (P := P) (w := W) .i64 hi c code h1 h2
  have e3 : (if c = 0 then a else a.map (·.add (0 * 1))) = a := by
    split
    · rfl
    · cases a <;> simp [Addr.add]
  simp [Instr.slice, Instr.sliceBounds, run_underlying hT, e1, hs, Sem.run_bind]
  intro _
  cases a <;> simp [Addr.add]

theorem own8_grown {w : World} {c : Array Value} {t : TypeId} {cap : Nat} (hs : c.size = cap) (hm : cap ≤ maxLen) : Own8 (w.alloc (.cells c t)) w.heap.size t (.slice (some ⟨w.heap.size, 0, none⟩) 0 cap) [] :=
  own8_mk (Nat.le_refl _) (Blk.new w c t) rfl (Nat.zero_le _) hm hs (fun i u h => by simp at h)

set_option maxRecDepth 100000 in
set_option maxHeartbeats 800000 in
theorem slices_Grow (n : Int) (w : World) (h0 : 0 ≤ n) (h1 : n ≤ 1073741824) :
    Calls Tryz.prog 99 #[.slice none 0 0, .int .i64 n] w fun e w' => ∃ v, e = .returned v ∧ Own8 w' w.heap.size 5 v [] ∧ Below w.heap.size w w' := by
  obtain ⟨i0, hi, hz0, hz1, hz2⟩ := info_parts info_u8
  obtain ⟨m, rfl⟩ := Int.eq_ofNat_of_zero_le h0
  by_cases hm : m = 0
  · subst hm
    go_enter Tryz.func99, Tryz.ntmps99
    go_wp2_with fail
    go_ret
    exact ⟨_, rfl, Own8.nil _ _ _, Below.refl _ _⟩
  · have hpos : 0 < m := by omega
    have hra := Lib.run_append_nil_zeros (P := Tryz.prog) w 30 3 30 5 i0 (.int .u8 0) .i64 .i64 Tryz.underlying30 Tryz.underlying3 hi hz0 m hpos (by omega) (by omega) (by rw [hz2]; omega)
    have hcap : grownCap w m 0 5 ≤ maxLen := grownCap_le_maxLen w m 0 _ (by unfold maxLen; omega)
    have hge := grownCap_ge w m 0 5
    have hsz : (Builtin.zeroCells (Value.int .u8 0).cells m ++ Builtin.zeroCells (Value.int .u8 0).cells (grownCap w m 0 5 - m)).size = grownCap w m 0 5 := by
      rw [Array.size_append, size_zeroCells, size_zeroCells]
      simp [Value.cells]
      omega
    have hsl1 : ∀ W, (Instr.slice 30 (.slice none 0 0) none (some (.int .i64 0)) none).run Tryz.prog W = .ok (.slice none 0 0) W := fun W => by kernel_rfl
    have ho := own8_grown (w := w.drew) (t := 5) hsz hcap
    have hbb : Below w.heap.size w (w.drew.alloc (.cells (Builtin.zeroCells (Value.int .u8 0).cells m ++ Builtin.zeroCells (Value.int .u8 0).cells (grownCap w m 0 5 - m)) 5)) := (Below.refl _ w).drew.alloc (Nat.le_refl _) _
    generalize hW : w.drew.alloc (.cells (Builtin.zeroCells (Value.int .u8 0).cells m ++ Builtin.zeroCells (Value.int .u8 0).cells (grownCap w m 0 5 - m)) 5) = W at *
    generalize grownCap w m 0 5 = cap at *
    clear hW hsz
    have hsl2 : ∀ W, (Instr.slice 30 (.slice (some ⟨w.heap.size, 0, none⟩) m cap) none (some (.int .i64 0)) none).run Tryz.prog W = .ok (.slice (some ⟨w.heap.size, 0, none⟩) 0 cap) W := fun W =>
      run_slice_to Tryz.underlying30 szu8 _ m cap 0 (by omega) (by omega) W
    go_enter Tryz.func99, Tryz.ntmps99
    go_wp2_with (at_builtin; refine Lib.wpList_append_run w rfl _ _ _ _ rfl _ _ rfl rfl _ _ hra ?_)
    go_ret
    exact ⟨_, rfl, ho, hbb⟩

theorem sum_len_le (ls : List (List UInt8)) (j : Nat) : (ls.take j).flatten.length ≤ ls.flatten.length := by
  conv => rhs; rw [← List.take_append_drop j ls, List.flatten_append, List.length_append]
  omega

set_option maxRecDepth 100000 in
set_option maxHeartbeats 1600000 in
theorem slices_Concat (g n c : Nat) (vs : List Value) (ls : List (List UInt8)) (w : World) (hn : n = vs.length) (hp : Parts w g vs ls) (hvs : vs.length ≤ 64) (hls : ls.flatten.length ≤ 1073741824) :
    Calls Tryz.prog 58 #[.slice (some ⟨g, 0, none⟩) n c] w fun e w' => ∃ v, e = .returned v ∧ Own8 w' w.heap.size 5 v ls.flatten ∧ Below w.heap.size w w' := by
  subst hn
  obtain ⟨i0, hi, hz0, hz1, hz2⟩ := info_parts info_u8
  go_enter Tryz.func58, Tryz.ntmps58
  go_wp2_with fail
  go_loop [3, 5, 11] (fun sz t i => ∃ j : Nat, j ≤ vs.length ∧ i = .int .i64 j ∧ sz = .int .i64 (((ls.take j).flatten.length : Nat) : Int)) (fun _ _ i => vs.length - (intOf i).toNat)
  case atStart => exact ⟨0, by omega, rfl, rfl⟩
  case round =>
    obtain ⟨j, hj, rfl, rfl⟩ := hrel
    have hle := sum_len_le ls j
    by_cases hlt : j < vs.length
    · obtain ⟨x, hx⟩ : ∃ x, vs[j]? = some x := ⟨vs[j], by simp⟩
      obtain ⟨l, hl⟩ : ∃ l, ls[j]? = some l := ⟨ls[j]'(by have := hp.1; omega), by simp⟩
      have hc := hp.2.1 j x hx
      have hB := hp.2.2 j x l hx hl
      obtain ⟨ax, cx, rfl⟩ := hB.form
      have hlen := take_flat_le ls j l hl
      have HE := hid (congrArg List.length (take_flat ls j l hl))
      generalize hq : (ls.take j).flatten.length = q at *
      have Hq := hid hq
      clear hB hq
      go_wp2_with fail
      go_round
      case rel => exact ⟨j + 1, by omega, by go_num, by rw [HE.out, List.length_append, Hq.out]; rfl⟩
      case measure => simp [intOf]; omega
    · obtain rfl : j = vs.length := by omega
      rw [hp.1, List.take_length] at *
      have hd : decide ((ls.length : Int) < (ls.length : Int)) = false := by simp
      have hpl := hp.1
      generalize hq : ls.flatten.length = q at *
      have Hq := hid hq
      clear hq
      have Hpl := hid hpl
      clear hpl
      go_wp2_with fail
      refine (slices_Grow _ _ (by omega) (by omega)).mono ?_
      rintro e W1 ⟨v1, rfl, o1, b1⟩
      have hp1 := hp.keep b1
      go_wp2_with fail
      go_loopw [6, 8, 27] (fun v t i wr => ∃ j : Nat, j ≤ ls.length ∧ i = .int .i64 j ∧ Own8 wr w.heap.size 5 v (ls.take j).flatten ∧ Below w.heap.size w wr) (fun _ _ i _ => ls.length - (intOf i).toNat)
      case atStart => exact ⟨0, by omega, rfl, o1, b1⟩
      case round =>
        obtain ⟨j, hj, rfl, ho, hb⟩ := hrel
        by_cases hlt : j < ls.length
        · obtain ⟨x, hx⟩ : ∃ x, vs[j]? = some x := ⟨vs[j]'(by rw [Hpl.out]; exact hlt), by simp⟩
          obtain ⟨l, hl⟩ : ∃ l, ls[j]? = some l := ⟨ls[j], by simp⟩
          have hp' := hp.keep hb
          have hc := hp'.2.1 j x hx
          have hB := hp'.2.2 j x l hx hl
          have hlen : (ls.take j).flatten.length + l.length ≤ 1073741824 := by
            have h1 := take_flat_le ls j l hl
            have h2 := Hq.out
            omega
          have HE := hid (take_flat ls j l hl)
          go_wp2_with (at_builtin; refine wpList_append8 Tryz.underlying30 hi hz0 hz1 hz2 rfl _ _ rfl w.heap.size rfl rfl ho hB (by omega) hb.size ?_; intro v' w1 ho' hg _)
          go_roundw
          case rel => exact ⟨j + 1, by omega, by go_num, by rw [HE.out]; exact ho', hb.grown hg hb.size (fun k hk => (ho.blk k hk).1)⟩
          case measure => simp [intOf]; omega
        · obtain rfl : j = ls.length := by omega
          rw [List.take_length] at ho
          have hd : decide ((ls.length : Int) < (ls.length : Int)) = false := by simp
          go_wp2_with fail
          go_ret
          exact ⟨_, rfl, ho, hb⟩

theorem fold_push (l : List UInt8) : ∀ (s : ByteArray), (l.map (fun b => ((b.toNat : Nat) : Int))).foldl (fun r n => r.push (UInt8.ofNat n.toNat)) s = ⟨s.data ++ l.toArray⟩ := by
  induction l with
  | nil => intro s; simp
  | cons x l ih =>
    intro s
    rw [List.map_cons, List.foldl_cons, ih]
    simp [ByteArray.push]

theorem run_bytes_string {P : Program} {T S E : TypeId} (hT : P.underlying T = some (.slice E)) (hE : P.underlying E = some (.int .u8)) (hS : P.underlying S = some .string) {w : World} {v : Value} {l : List UInt8} (hv : Bs w v l) :
    (convert T S v).run P w = .ok (.string ⟨l.toArray⟩) w := by
  rcases hv.cases with ⟨rfl, rfl⟩ | ⟨g, o, c, rfl, hc, hm, hr⟩ | ⟨rfl, ad, rfl⟩
  · rw [run_convert_bytes_string w T S E _ _ _ hT hE hS]
    simp [Conv.bytesToString]
    rfl
  rotate_left
  · rw [run_convert_bytes_string w T S E _ _ _ hT hE hS]
    simp [Conv.bytesToString, loadCells, loadCellsFrom]
    rfl
  · rw [run_convert_bytes_string w T S E _ _ _ hT hE hS, run_bytesToString w ⟨g, o, none⟩ l.length c (l.map (fun b => ((b.toNat : Nat) : Int))), fold_push]
    · rw [show ByteArray.empty.data ++ l.toArray = l.toArray from by simp [ByteArray.empty, ByteArray.emptyWithCapacity]; rfl]
    · have := run_loadCells_list (P := P) w ⟨g, o, none⟩ (l.map bv) (fun j u hu => by
        simp only [List.getElem?_map, Option.map_eq_some_iff] at hu
        obtain ⟨b, hb, rfl⟩ := hu
        have := hr j b hb
        unfold Addr.add
        split
        · rename_i hz
          subst hz
          simpa using this
        · exact this)
      rw [List.length_map] at this
      rw [this, List.map_map]
      rfl

theorem bytes_beq (l m : List UInt8) : ((⟨l.toArray⟩ : ByteArray).toList == (⟨m.toArray⟩ : ByteArray).toList) = (l == m) := by
  rw [ByteArray.toList_mk, ByteArray.toList_mk]

set_option maxRecDepth 100000 in
set_option maxHeartbeats 800000 in
theorem slices_Clone (v : Value) (l : List UInt8) (w : World) (hv : Bs w v l) (hl : l.length ≤ 1073741824) :
    Calls Tryz.prog 62 #[v] w fun e w' => ∃ v', e = .returned v' ∧ Bs w' v' l ∧ Own8 w' w.heap.size 5 v' l ∧ Below w.heap.size w w' := by
  obtain ⟨i0, hi, hz0, hz1, hz2⟩ := info_parts info_u8
  rcases hv.cases with ⟨rfl, rfl⟩ | ⟨g, o, c, rfl, hc, hm, hr⟩ | ⟨rfl, ad, rfl⟩
  · have hen := fun W => Lib.run_eql_slice_nil (P := Tryz.prog) W 30 5 none 0 0 0 0 Tryz.underlying30
    go_enter Tryz.func62, Tryz.ntmps62
    go_wp2_with fail
    go_ret
    exact ⟨_, rfl, Bs.nil _, Own8.nil _ _ _, Below.refl _ _⟩
  · have hen := fun W => Lib.run_eql_slice_nil (P := Tryz.prog) W 30 5 (some ⟨g, o, none⟩) l.length c 0 0 Tryz.underlying30
    go_enter Tryz.func62, Tryz.ntmps62
    have hpos := hv
    have ho : Own8 (w.alloc (.cells #[] 5)) w.heap.size 5 (.slice (some ⟨w.heap.size, 0, none⟩) 0 0) [] := own8_mk (Nat.le_refl _) (Blk.new _ _ _) rfl (Nat.le_refl _) (Nat.zero_le _) rfl (fun i u h => by simp at h)
    have hb : Below w.heap.size w (w.alloc (.cells #[] 5)) := (Below.refl _ w).alloc (Nat.le_refl _) _
    have hv1 := hv.keep hb
    clear hr hv hpos
    go_wp2_with (at_builtin; refine wpList_append8 Tryz.underlying30 hi hz0 hz1 hz2 rfl _ _ rfl w.heap.size rfl rfl ho hv1 (by simp; omega) (by simp) ?_; intro v' w1 ho' hg _)
    have hb1 := hb.grown hg (by simp) (fun k hk => by cases hk; exact Nat.le_refl _)
    obtain ⟨a', c', rfl⟩ := ho'.form
    go_wp2_with fail
    go_ret
    exact ⟨_, rfl, ho'.bs, ho', hb1⟩
  · have hen := fun W => Lib.run_eql_slice_nil (P := Tryz.prog) W 30 5 (some ad) 0 0 0 0 Tryz.underlying30
    go_enter Tryz.func62, Tryz.ntmps62
    have hpos := hv
    have ho : Own8 (w.alloc (.cells #[] 5)) w.heap.size 5 (.slice (some ⟨w.heap.size, 0, none⟩) 0 0) [] := own8_mk (Nat.le_refl _) (Blk.new _ _ _) rfl (Nat.le_refl _) (Nat.zero_le _) rfl (fun i u h => by simp at h)
    have hb : Below w.heap.size w (w.alloc (.cells #[] 5)) := (Below.refl _ w).alloc (Nat.le_refl _) _
    have hv1 := hv.keep hb
    clear hv hpos
    go_wp2_with (at_builtin; refine wpList_append8 Tryz.underlying30 hi hz0 hz1 hz2 rfl _ _ rfl w.heap.size rfl rfl ho hv1 (by simp) (by simp) ?_; intro v' w1 ho' hg _)
    have hb1 := hb.grown hg (by simp) (fun k hk => by cases hk; exact Nat.le_refl _)
    obtain ⟨a', c', rfl⟩ := ho'.form
    go_wp2_with fail
    go_ret
    exact ⟨_, rfl, ho'.bs, ho', hb1⟩

set_option maxRecDepth 100000 in
set_option maxHeartbeats 800000 in
theorem bytes_Equal (v x : Value) (l m : List UInt8) (w : World) (hv : Bs w v l) (hx : Bs w x m) :
    Calls Tryz.prog 138 #[v, x] w fun e w' => e = .returned (.bool (l == m)) ∧ w = w' := by
  have h1 := run_bytes_string (P := Tryz.prog) Tryz.underlying30 Tryz.underlying5 Tryz.underlying9 hv
  have h2 := run_bytes_string (P := Tryz.prog) Tryz.underlying30 Tryz.underlying5 Tryz.underlying9 hx
  have hbq := bytes_beq l m
  obtain ⟨a, c, rfl⟩ := hv.form
  obtain ⟨a', c', rfl⟩ := hx.form
  clear hv hx
  generalize (⟨l.toArray⟩ : ByteArray) = s1 at *
  generalize (⟨m.toArray⟩ : ByteArray) = s2 at *
  go_enter Tryz.func138, Tryz.ntmps138
  go_wp2_with fail
  go_ret
  exact ⟨by rw [← hbq]; rfl, rfl⟩

end Go.Proofs.YtcdcjoofcbdilaaGreat
