import Derived.Test.YtbahjinlcbjikaaGreatBlocks
import Derived.Test.YtbahjinlcbjikaaGreatMEntry
import Derived.Test.YtbahjinlcbjikaaGreatMBsw
import Derived.Test.YtbahjinlcbjikaaGreatMDiskB
import Derived.Test.YtbahjinlcbjikaaGreatMDisk
import Derived.BigQuiet
/-! Words and plain laws that the layers above the store share: bodies of frames, numbers there and back, append. -/
namespace Go.Proofs.YtbahjinlcbjikaaGreat
open Go.RowKit

def bodyF (l : List UInt8) (kind least : Nat) : Option (List UInt8) :=
  match unframe l with
  | some (k, x, to) => if k = kind ∧ to = l.length ∧ least ≤ x.length then some x else none
  | none => none

def BodyPost (w : World) (l : List UInt8) (kind least : Nat) (e : Ending) (w' : World) : Prop :=
  match bodyF l kind least with
  | none => ∃ v, e = .returned (.tuple #[v, .bool false]) ∧ Below w.heap.size w w'
  | some x => ∃ v, e = .returned (.tuple #[v, .bool true]) ∧ Own8 w' w.heap.size 5 v x ∧ Below w.heap.size w w'

theorem unframe_lens {l : List UInt8} {k to : Nat} {x : List UInt8} (h : unframe l = some (k, x, to)) : to ≤ l.length ∧ x.length ≤ 65536 ∧ k < 256 := by
  unfold unframe at h
  split at h
  · cases h
  · split at h
    · cases h
    · split at h
      · cases h
      · rename_i h1 h2 h3
        simp only [Option.some.injEq, Prod.mk.injEq] at h
        obtain ⟨rfl, rfl, rfl⟩ := h
        have := numOf_lt (l.take 1)
        have h4 : (l.take 1).length ≤ 1 := by simp; omega
        have h5 : 2 ^ (8 * (l.take 1).length) ≤ 2 ^ (8 * 1) := Nat.pow_le_pow_right (by omega) (by omega)
        refine ⟨by omega, ?_, by omega⟩
        rw [List.length_take]
        omega

theorem bodyF_len {l : List UInt8} {kind least : Nat} {x : List UInt8} (h : bodyF l kind least = some x) : least ≤ x.length ∧ x.length ≤ 65536 := by
  unfold bodyF at h
  cases hu : unframe l with
  | none => rw [hu] at h; cases h
  | some y =>
    obtain ⟨k, z, to⟩ := y
    rw [hu] at h
    simp only at h
    split at h
    · rename_i hc
      cases h
      exact ⟨hc.2.2, (unframe_lens hu).2.1⟩
    · cases h

theorem bs_from {w : World} {a : Option Addr} {n c : Nat} {l : List UInt8} (h : Bs w (.slice a n c) l) (k : Nat) (hk : k ≤ l.length) : Bs w (.slice (sla a c k) (n - k) (c - k)) (l.drop k) := by
  have hn : n = l.length := by obtain ⟨_, _, e, _⟩ := h; injection e
  have := h.slice (lo := k) (hi := n) (by omega) (Nat.le_refl _)
  rwa [List.take_of_length_le (by simp; omega)] at this

theorem own_set {W0 : Nat} (W' W5 : World) (g : Nat) (z : Array Value) {v : Value} {l : List UInt8} {t t' : TypeId} (h : Own8 W' W0 t v l) (hb : Blk W' g z t') (hx : Ext (fun b => b = g) W' W5) (hne : t ≠ t') : Own8 W5 W0 t v l := by
  refine ⟨h.1, h.2.imp id ?_⟩
  rintro ⟨g', cap, cur, e, h1, h2, r⟩
  refine ⟨g', cap, cur, e, h1, (hx.block g' (Array.getElem?_eq_some_iff.1 h2).1 (fun e' => ?_)).trans h2, r⟩
  have e'' : g' = g := e'
  subst e''
  have := hb.eq (show Blk W' g' cur t from h2)
  exact hne this.2.symm

theorem num_one {l : List UInt8} {i : Nat} {u : UInt8} (h : l[i]? = some u) : numOf ((l.drop i).take 1) = u.toNat := by
  have : (l.drop i).take 1 = [u] := by
    rw [List.take_one, List.head?_drop, h]
    rfl
  rw [this]
  simp [numOf]

/-- append onto an empty slice of the call's own without room. -/
theorem run_append_empty {P : Program} {T E : TypeId} {i : TypeInfo} (ht : P.underlying T = some (.slice E)) (hi : P.info? E = some i) (hz : i.zero = some (.int .u8 0)) (hsz : i.size = 1) (hby : i.bytes = 1) (ty : TypeId)
    {w : World} {base g : Nat} {x : Value} {m : List UInt8} (hown : Own8 w base E (.slice (some ⟨g, 0, none⟩) 0 0) []) (hx : BsW w x m) (hlen : m.length ≤ 140737488355328) (hbase : base ≤ w.heap.size) :
    ∃ v' w', (Builtin.append_ #[T, T] ty #[.slice (some ⟨g, 0, none⟩) 0 0, x]).run P w = .ok v' w' ∧ Own8 w' base E v' m ∧ Below w.heap.size w w' := by
  have hsame : (∃ ad c, x = .slice ad 0 c) → m = [] → ∃ v' w', (Builtin.append_ #[T, T] ty #[.slice (some ⟨g, 0, none⟩) 0 0, x]).run P w = .ok v' w' ∧ Own8 w' base E v' m ∧ Below w.heap.size w w' := by
    rintro ⟨ad, c, rfl⟩ rfl
    refine ⟨_, w, ?_, hown, Below.refl _ w⟩
    cases ad <;> simp [Builtin.append_, run_underlying ht, sizeOf, typeInfo, hi, Builtin.lenOf, Builtin.firstCells, loadCells, loadCellsFrom, storeCells]
  rcases hx with hx | ⟨rfl, ad, rfl⟩
  · cases m with
    | nil =>
      obtain ⟨a, c, rfl⟩ := hx.form
      exact hsame ⟨a, c, rfl⟩ rfl
    | cons u us =>
      obtain ⟨v', w', h1, h2, h3, h4, h5⟩ := run_append8k (P := P) ht hi hz hsz hby ty hown hx (by simpa using hlen) hbase
      rcases h5 with ⟨h5, _⟩ | ⟨a, c, e1, e2⟩
      · exact ⟨v', w', h1, by simpa using h2, ⟨h5.os, h5.tape, h5.output, h5.size, fun k hk => h5.block k hk (by simp)⟩⟩
      · injection e1 with _ _ e3
        subst e3
        obtain ⟨_, _, _, hc, _⟩ := h2.bs
        exfalso
        have := h2.bs
        rw [e2] at this
        obtain ⟨a9, c9, e9, hc9, _⟩ := this
        injection e9 with _ _ e9
        subst e9
        simp at hc9
  · exact hsame ⟨_, _, rfl⟩ rfl

/-- append onto a slice of the call's own that has no room left. -/
theorem run_append_full {P : Program} {T E : TypeId} {i : TypeInfo} (ht : P.underlying T = some (.slice E)) (hi : P.info? E = some i) (hz : i.zero = some (.int .u8 0)) (hsz : i.size = 1) (hby : i.bytes = 1) (ty : TypeId)
    {w : World} {base g n : Nat} {x : Value} {l m : List UInt8} (hown : Own8 w base E (.slice (some ⟨g, 0, none⟩) n n) l) (hln : l.length = n) (hx : Bs w x m) (hm : m ≠ []) (hlen : l.length + m.length ≤ 140737488355328) (hbase : base ≤ w.heap.size) :
    ∃ v' w', (Builtin.append_ #[T, T] ty #[.slice (some ⟨g, 0, none⟩) n n, x]).run P w = .ok v' w' ∧ Own8 w' base E v' (l ++ m) ∧ Below w.heap.size w w' := by
  obtain ⟨v', w', h1, h2, h3, h4, h5⟩ := run_append8k (P := P) ht hi hz hsz hby ty hown hx hlen hbase
  rcases h5 with ⟨h5, _⟩ | ⟨a, c, e1, e2⟩
  · exact ⟨v', w', h1, h2, ⟨h5.os, h5.tape, h5.output, h5.size, fun k hk => h5.block k hk (by simp)⟩⟩
  · exfalso
    injection e1 with _ e4 e3
    obtain ⟨a9, c9, e9, hc9, _⟩ := h2.bs
    rw [e2] at e9
    injection e9 with _ _ e9
    have : 0 < m.length := List.length_pos_iff.2 hm
    simp at hc9
    omega

theorem lowB_succ (n : Int) (k : Nat) : lowB n (k + 1) = lowB n k ++ [byteOf n k] := by
  unfold lowB
  rw [List.range_succ, List.map_append]
  rfl

theorem byteOf_nat (n k : Nat) : (byteOf (n : Int) k).toNat = n / 2 ^ (8 * k) % 256 := by
  have := byteOf_val (n : Int) k
  have e : (n : Int) / 2 ^ (8 * k) % 256 = ((n / 2 ^ (8 * k) % 256 : Nat) : Int) := by
    rw [Int.natCast_emod, Int.natCast_ediv, Int.natCast_pow]
    rfl
  rw [e] at this
  exact Int.ofNat.inj this

theorem numOf_low (n k : Nat) : numOf (lowB (n : Int) k) = n % 2 ^ (8 * k) := by
  induction k with
  | zero => simp [lowB, numOf, Nat.mod_one]
  | succ k ih =>
    rw [lowB_succ, numOf_snoc, ih, lowB_length, byteOf_nat, show 8 * (k + 1) = 8 * k + 8 from by omega, Nat.pow_add, show (2 : Nat) ^ 8 = 256 from rfl, Nat.mod_mul, Nat.mul_comm (2 ^ (8 * k))]

theorem numOf_low' {n : Nat} {k : Nat} (h : n < 2 ^ (8 * k)) : numOf (lowB (n : Int) k) = n := by rw [numOf_low, Nat.mod_eq_of_lt h]

theorem frame_length (k : Int) (x : List UInt8) : (frameB k x).length = 9 + x.length := by
  simp [frameB, frameH, lowB_length]
  omega

theorem unframe_frame (k : Nat) (x : List UInt8) (hk : k < 256) (hx : x.length ≤ 65536) : unframe (frameB (k : Int) x) = some (k, x, 9 + x.length) := by
  have hl := frame_length (k : Int) x
  have h1 : ((frameB (k : Int) x).drop 1).take 4 = lowB (x.length : Int) 4 := by
    unfold frameB frameH
    rw [List.cons_append, List.drop_succ_cons, List.drop_zero, List.append_assoc, List.take_append_of_le_length (by simp [lowB_length]), List.take_of_length_le (by simp [lowB_length])]
  have h2 : numOf (((frameB (k : Int) x).drop 1).take 4) = x.length := by rw [h1]; exact numOf_low' (by omega)
  have hH : (frameH (k : Int) x).length = 5 + x.length := by simp [frameH, lowB_length]; omega
  have h3 : (frameB (k : Int) x).take (5 + x.length) = frameH (k : Int) x := by
    unfold frameB
    rw [List.take_append_of_le_length (by omega), List.take_of_length_le (by omega)]
  have h4 : ((frameB (k : Int) x).drop (5 + x.length)).take 4 = lowB (crcOf (frameH (k : Int) x)) 4 := by
    unfold frameB
    rw [List.drop_append_of_le_length (by omega), List.drop_eq_nil_of_le (by omega), List.nil_append, List.take_of_length_le (by simp [lowB_length])]
  have h5 : (frameB (k : Int) x).take 1 = lowB (k : Int) 1 := rfl
  have h6 : ((frameB (k : Int) x).drop 5).take x.length = x := by
    have e : (frameB (k : Int) x).drop 5 = x ++ lowB (crcOf (frameH (k : Int) x)) 4 := by
      unfold frameB
      rw [List.drop_append_of_le_length (by omega)]
      congr 1
    rw [e, List.take_append_of_le_length (by omega), List.take_of_length_le (by omega)]
  unfold unframe
  rw [h2, h3, h4, h5, h6, if_neg (by omega), if_neg (by omega), if_neg (by rw [numOf_low' (by have := crcOf_lt (frameH (k : Int) x); omega)]; simp), numOf_low' (by omega)]

theorem bodyF_frame (k least : Nat) (x : List UInt8) (hk : k < 256) (hx : x.length ≤ 65536) (hl : least ≤ x.length) : bodyF (frameB (k : Int) x) k least = some x := by
  unfold bodyF
  rw [unframe_frame k x hk hx]
  simp only
  rw [if_pos ⟨by trivial, (frame_length _ _).symm, hl⟩]

theorem byteOf_succ (n j : Nat) : byteOf (n : Int) (j + 1) = byteOf ((n / 256 : Nat) : Int) j := by
  apply UInt8.toNat_inj.1
  rw [byteOf_nat, byteOf_nat, Nat.div_div_eq_div_mul, show 8 * (j + 1) = 8 + 8 * j from by omega, Nat.pow_add]

theorem lowB_cons (n k : Nat) : lowB (n : Int) (k + 1) = byteOf (n : Int) 0 :: lowB ((n / 256 : Nat) : Int) k := by
  unfold lowB
  rw [List.range_succ_eq_map, List.map_cons, List.map_map]
  congr 1
  exact List.map_congr_left (fun j _ => byteOf_succ n j)

theorem low_num : ∀ (l : List UInt8), lowB (numOf l : Int) l.length = l
  | [] => rfl
  | u :: l => by
    have ih := low_num l
    have hu := u.toNat_lt
    have e : numOf (u :: l) = u.toNat + 256 * numOf l := rfl
    have e1 : numOf (u :: l) / 256 = numOf l := by rw [e]; omega
    have e2 : byteOf (numOf (u :: l) : Int) 0 = u := by
      apply UInt8.toNat_inj.1
      rw [byteOf_nat, e]
      simp
    rw [List.length_cons, lowB_cons, e1, e2, ih]

theorem low_num' {l : List UInt8} {k : Nat} (h : l.length = k) : lowB (numOf l : Int) k = l := by subst h; exact low_num l

theorem frame_unframe {b x : List UInt8} {k to : Nat} (h : unframe b = some (k, x, to)) (ht : to = b.length) : frameB (k : Int) x = b := by
  unfold unframe at h
  split at h
  · cases h
  split at h
  · cases h
  split at h
  · cases h
  rename_i h1 h2 h3
  generalize hn : numOf ((b.drop 1).take 4) = n at h h2 h3
  simp only [Option.some.injEq, Prod.mk.injEq] at h
  obtain ⟨rfl, rfl, rfl⟩ := h
  have hxl : ((b.drop 5).take n).length = n := by simp; omega
  have e0 : lowB (numOf (b.take 1) : Int) 1 = b.take 1 := low_num' (by simp; omega)
  have e1 : lowB (((b.drop 5).take n).length : Int) 4 = (b.drop 1).take 4 := by rw [hxl, ← hn]; exact low_num' (by simp; omega)
  have eH : frameH (numOf (b.take 1) : Int) ((b.drop 5).take n) = b.take (5 + n) := by
    have : frameH (numOf (b.take 1) : Int) ((b.drop 5).take n) = lowB (numOf (b.take 1) : Int) 1 ++ (lowB (((b.drop 5).take n).length : Int) 4 ++ (b.drop 5).take n) := rfl
    rw [this, e0, e1, Nat.add_comm 5 n, show n + 5 = 1 + (4 + n) from by omega, List.take_add, List.take_add, List.drop_drop]
  unfold frameB
  rw [eH]
  have e4 : lowB (crcOf (b.take (5 + n)) : Int) 4 = (b.drop (5 + n)).take 4 := by
    rw [← Decidable.not_not.1 h3]
    exact low_num' (by simp; omega)
  rw [e4, ← List.take_add, List.take_of_length_le (by omega)]

theorem body_back {b x : List UInt8} {k least : Nat} (h : bodyF b k least = some x) : frameB (k : Int) x = b ∧ least ≤ x.length := by
  unfold bodyF at h
  cases hu : unframe b with
  | none => rw [hu] at h; cases h
  | some q =>
    obtain ⟨k', x', to⟩ := q
    rw [hu] at h
    simp only at h
    split at h
    · rename_i hc
      cases h
      obtain ⟨rfl, h2, h3⟩ := hc
      exact ⟨frame_unframe hu h2, h3⟩
    · cases h
end Go.Proofs.YtbahjinlcbjikaaGreat

/-! Package node: which requests and replies may be. -/
namespace Go.Proofs.YtbahjinlcbjikaaGreat
open Go.RowKit

set_option maxHeartbeats 400000 in
theorem node_number (v : Value) (l : List UInt8) (at_ n : Int) (w : World) (hv : Bs w v l) (hat : 0 ≤ at_) (hn : 1 ≤ n) (hn6 : n ≤ 6) (hle : at_ + n ≤ l.length) :
    Calls Tryz.prog 88 #[v, .int .i64 at_, .int .i64 n] w fun e w' => e = .returned (.int .i64 ((numOf ((l.drop at_.toNat).take n.toNat) : Nat) : Int)) ∧ Below w.heap.size w w' := by
  go_enter Tryz.func88, Tryz.ntmps88
  go_wp2_with fail
  refine (wire_Get _ _ _ _ _ hv hat hn hn6 hle).mono ?_
  rintro e w' ⟨rfl, hb⟩
  go_wp2_with fail
  go_ret
  exact ⟨rfl, hb⟩

set_option maxHeartbeats 400000 in
theorem node_low (n k : Int) (w : World) (h0 : 0 ≤ n) (h1 : 1 ≤ k) (hk : k ≤ 6) (hn : n < 2 ^ (8 * k.toNat)) :
    Calls Tryz.prog 74 #[.int .i64 n, .int .i64 k] w fun e w' => ∃ v, e = .returned v ∧ Own8 w' w.heap.size 5 v (lowB n k.toNat) ∧ Below w.heap.size w w' := by
  go_enter Tryz.func74, Tryz.ntmps74
  go_wp2_with fail
  refine (wire_Put _ _ _ h0 h1 hk hn).mono ?_
  rintro e w' ⟨v, rfl, ho, hb⟩
  go_wp2_with fail
  go_ret
  exact ⟨v, rfl, ho, hb⟩

def rightB (k lo po : Int) (n : Nat) : Bool := decide (1 ≤ k ∧ k < 7 ∧ 0 ≤ lo ∧ lo < 281474976710656 ∧ 0 ≤ po ∧ po ≤ 4096 ∧ n ≤ 65504 ∧ (k = 1 ∨ k = 2 ∨ (n = 0 ∧ (k = 3 ∨ k = 5 → po = 0))))
def tellsB (e tl : Int) (n : Nat) : Bool := decide (0 ≤ e ∧ e ≤ 255 ∧ 0 ≤ tl ∧ tl ≤ 4096 ∧ n ≤ 65504)

theorem ret_bool {a b : Bool} (h : a = b) : Ending.returned (.bool a) = .returned (.bool b) := by rw [h]

set_option maxRecDepth 100000 in
set_option maxHeartbeats 1600000 in
theorem request_right (k lo po : Int) (av : Option Addr) (n cv : Nat) (W : World) (hn : n ≤ 9223372036854775807) :
    Calls Tryz.prog 71 #[.agg #[.int .i64 k, .int .i64 lo, .int .i64 po, .slice av n cv]] W fun e w' => e = .returned (.bool (rightB k lo po n)) ∧ Below W.heap.size W w' := by
  go_enter Tryz.func71, Tryz.ntmps71
  go_wp2_with fail
  all_goals go_ret
  all_goals (refine ⟨ret_bool (Bool.eq_iff_iff.2 ?_), (Below.refl _ _).alloc (Nat.le_refl _) _⟩)
  all_goals (try simp only [beq_iff_eq, beq_eq_false_iff_ne, ne_eq] at *)
  all_goals (simp [rightB]; omega)

set_option maxRecDepth 100000 in
set_option maxHeartbeats 1600000 in
theorem reply_right (er tl : Int) (sl : Bool) (av : Option Addr) (n cv : Nat) (W : World) (hn : n ≤ 9223372036854775807) :
    Calls Tryz.prog 89 #[.agg #[.int .i64 er, .int .i64 tl, .bool sl, .slice av n cv]] W fun e w' => e = .returned (.bool (tellsB er tl n)) ∧ Below W.heap.size W w' := by
  go_enter Tryz.func89, Tryz.ntmps89
  go_wp2_with fail
  all_goals go_ret
  all_goals (refine ⟨ret_bool (Bool.eq_iff_iff.2 ?_), (Below.refl _ _).alloc (Nat.le_refl _) _⟩)
  all_goals (try simp only [beq_iff_eq, beq_eq_false_iff_ne, ne_eq] at *)
  all_goals (simp [tellsB]; omega)
end Go.Proofs.YtbahjinlcbjikaaGreat
