import Derived.Test.YtcdcjoofcbdilaaGreatBase
import Derived.Test.YtcdcjoofcbdilaaGreatBlocks
import Derived.Test.YtcdcjoofcbdilaaGreatMEntry
import Derived.Test.YtcdcjoofcbdilaaGreatMRegionB
import Derived.Test.YtcdcjoofcbdilaaGreatMap
import Derived.Test.YtcdcjoofcbdilaaGreatMSlices
import Derived.Deep.MidRow
import Derived.Carry
import Derived.Deep.QuietTactic
/-! Bytes that came in inside of something else: an empty slice may lie anywhere. No program is named here. -/
namespace Go.Proofs.YtcdcjoofcbdilaaGreat
open Go.RowKit

def BsW (w : World) (v : Value) (l : List UInt8) : Prop := Bs w v l ∨ (l = [] ∧ ∃ ad, v = .slice (some ad) 0 0)
theorem BsW.form {w : World} {v : Value} {l : List UInt8} (h : BsW w v l) : ∃ a c, v = .slice a l.length c := by
  rcases h with h | ⟨rfl, ad, rfl⟩
  · exact h.form
  · exact ⟨some ad, 0, rfl⟩
theorem BsW.keep {w w' : World} {v : Value} {l : List UInt8} (h : BsW w v l) (hb : Below w.heap.size w w') : BsW w' v l := h.imp (fun h => h.keep hb) id

theorem run_append8w {P : Program} {T E : TypeId} {i : TypeInfo} (ht : P.underlying T = some (.slice E)) (hi : P.info? E = some i) (hz : i.zero = some (.int .u8 0)) (hsz : i.size = 1) (hby : i.bytes = 1) (ty : TypeId)
    {w : World} {base : Nat} {v x : Value} {l m : List UInt8} (hown : Own8 w base E v l) (hx : BsW w x m) (hlen : l.length + m.length ≤ 140737488355328) (hbase : base ≤ w.heap.size) :
    ∃ v' w', (Builtin.append_ #[T, T] ty #[v, x]).run P w = .ok v' w' ∧ Own8 w' base E v' (l ++ m) ∧ w.grownBy w' v.ownBlock := by
  rcases hx with hx | ⟨rfl, ad, rfl⟩
  · obtain ⟨v', w', h1, h2, h3, _⟩ := run_append8 (P := P) ht hi hz hsz hby ty hown hx hlen hbase
    exact ⟨v', w', h1, h2, h3⟩
  · refine ⟨v, w, ?_, by simpa using hown, ⟨rfl, rfl, rfl, Nat.le_refl _, fun _ _ _ => rfl⟩⟩
    rcases hown.2 with ⟨rfl, _⟩ | ⟨g, cap, cur, rfl, _, _, hnc, _⟩
    · simp [Builtin.append_, run_underlying ht, sizeOf, typeInfo, hi, Builtin.lenOf, Builtin.firstCells, loadCells, loadCellsFrom]
    · simp [Builtin.append_, run_underlying ht, sizeOf, typeInfo, hi, Builtin.lenOf, Builtin.firstCells, hnc, storeCells, loadCells, loadCellsFrom]

theorem wpList_append8w {P : Program} {T E : TypeId} {i : TypeInfo} (ht : P.underlying T = some (.slice E)) (hi : P.info? E = some i) (hz : i.zero = some (.int .u8 0)) (hsz : i.size = 1) (hby : i.bytes = 1)
    {ops : Array Oper} {rest : List Oper} {o : Oper} {a : Act} {Q : Exit → Act → World → Prop} {w : World} (hgd : o.guard = none) (s y : Operand)
    (ho : o.op = .call { callee := .builtin .append, args := #[s, y], argTypes := #[T, T] })
    (base : Nat) {v x : Value} {l m : List UInt8} (hs : a.eval s = v) (hy : a.eval y = x) (hown : Own8 w base E v l) (hx : BsW w x m) (hlen : l.length + m.length ≤ 140737488355328) (hbase : base ≤ w.heap.size)
    (h : ∀ v' w', Own8 w' base E v' (l ++ m) → w.grownBy w' v.ownBlock → wpList P ops Q rest (a.put o.dst v') w') : wpList P ops Q (o :: rest) a w :=
  wpList_plain hgd fun K hK => by
    obtain ⟨v', w', hr, h2, h3⟩ := run_append8w (P := P) ht hi hz hsz hby o.type hown hx hlen hbase
    unfold Oper.wp execOp
    simp only [ho, resolve, invoke, builtin, Sem.run_bind, Sem.run_pure, Result.andThen_ok, List.map_toArray, List.map_cons, List.map_nil, hs, hy, hr]
    exact hK _ _ (h v' w' h2 h3)
end Go.Proofs.YtcdcjoofcbdilaaGreat

/-! Words and plain laws that the layers above the store share: bodies of frames, numbers there and back, append. -/
namespace Go.Proofs.YtcdcjoofcbdilaaGreat
open Go.RowKit

def bodyF (l : List UInt8) (kind least : Nat) : Option (List UInt8) :=
  match unframe l with
  | some (k, x, to) => if k = kind ∧ to = l.length ∧ least ≤ x.length then some x else none
  | none => none

def BodyPost (w : World) (l : List UInt8) (kind least : Nat) (e : Ending) (w' : World) : Prop :=
  match bodyF l kind least with
  | none => ∃ v, e = .returned (.tuple #[v, .bool false]) ∧ Below w.heap.size w w'
  | some x => ∃ v, e = .returned (.tuple #[v, .bool true]) ∧ Own8 w' w.heap.size 5 v x ∧ Below w.heap.size w w'

theorem unframe_lens {l : List UInt8} {k to : Nat} {x : List UInt8} (h : unframe l = some (k, x, to)) : to ≤ l.length ∧ x.length ≤ 65536 ∧ k < 256 := by
  unfold unframe at h
  split at h
  · cases h
  · split at h
    · cases h
    · split at h
      · cases h
      · rename_i h1 h2 h3
        simp only [Option.some.injEq, Prod.mk.injEq] at h
        obtain ⟨rfl, rfl, rfl⟩ := h
        have := numOf_lt (l.take 1)
        have h4 : (l.take 1).length ≤ 1 := by simp; omega
        have h5 : 2 ^ (8 * (l.take 1).length) ≤ 2 ^ (8 * 1) := Nat.pow_le_pow_right (by omega) (by omega)
        refine ⟨by omega, ?_, by omega⟩
        rw [List.length_take]
        omega

theorem bodyF_len {l : List UInt8} {kind least : Nat} {x : List UInt8} (h : bodyF l kind least = some x) : least ≤ x.length ∧ x.length ≤ 65536 := by
  unfold bodyF at h
  cases hu : unframe l with
  | none => rw [hu] at h; cases h
  | some y =>
    obtain ⟨k, z, to⟩ := y
    rw [hu] at h
    simp only at h
    split at h
    · rename_i hc
      cases h
      exact ⟨hc.2.2, (unframe_lens hu).2.1⟩
    · cases h

theorem bs_from {w : World} {a : Option Addr} {n c : Nat} {l : List UInt8} (h : Bs w (.slice a n c) l) (k : Nat) (hk : k ≤ l.length) : Bs w (.slice (sla a c k) (n - k) (c - k)) (l.drop k) := by
  have hn : n = l.length := by obtain ⟨_, _, e, _⟩ := h; injection e
  have := h.slice (lo := k) (hi := n) (by omega) (Nat.le_refl _)
  rwa [List.take_of_length_le (by simp; omega)] at this

theorem own_set {W0 : Nat} (W' W5 : World) (g : Nat) (z : Array Value) {v : Value} {l : List UInt8} {t t' : TypeId} (h : Own8 W' W0 t v l) (hb : Blk W' g z t') (hx : Ext (fun b => b = g) W' W5) (hne : t ≠ t') : Own8 W5 W0 t v l := by
  refine ⟨h.1, h.2.imp id ?_⟩
  rintro ⟨g', cap, cur, e, h1, h2, r⟩
  refine ⟨g', cap, cur, e, h1, (hx.block g' (Array.getElem?_eq_some_iff.1 h2).1 (fun e' => ?_)).trans h2, r⟩
  have e'' : g' = g := e'
  subst e''
  have := hb.eq (show Blk W' g' cur t from h2)
  exact hne this.2.symm

theorem num_one {l : List UInt8} {i : Nat} {u : UInt8} (h : l[i]? = some u) : numOf ((l.drop i).take 1) = u.toNat := by
  have : (l.drop i).take 1 = [u] := by
    rw [List.take_one, List.head?_drop, h]
    rfl
  rw [this]
  simp [numOf]

/-- append onto an empty slice of the call's own without room. -/
theorem run_append_empty {P : Program} {T E : TypeId} {i : TypeInfo} (ht : P.underlying T = some (.slice E)) (hi : P.info? E = some i) (hz : i.zero = some (.int .u8 0)) (hsz : i.size = 1) (hby : i.bytes = 1) (ty : TypeId)
    {w : World} {base g : Nat} {x : Value} {m : List UInt8} (hown : Own8 w base E (.slice (some ⟨g, 0, none⟩) 0 0) []) (hx : BsW w x m) (hlen : m.length ≤ 140737488355328) (hbase : base ≤ w.heap.size) :
    ∃ v' w', (Builtin.append_ #[T, T] ty #[.slice (some ⟨g, 0, none⟩) 0 0, x]).run P w = .ok v' w' ∧ Own8 w' base E v' m ∧ Below w.heap.size w w' := by
  have hsame : (∃ ad c, x = .slice ad 0 c) → m = [] → ∃ v' w', (Builtin.append_ #[T, T] ty #[.slice (some ⟨g, 0, none⟩) 0 0, x]).run P w = .ok v' w' ∧ Own8 w' base E v' m ∧ Below w.heap.size w w' := by
    rintro ⟨ad, c, rfl⟩ rfl
    refine ⟨_, w, ?_, hown, Below.refl _ w⟩
    cases ad <;> simp [Builtin.append_, run_underlying ht, sizeOf, typeInfo, hi, Builtin.lenOf, Builtin.firstCells, loadCells, loadCellsFrom, storeCells]
  rcases hx with hx | ⟨rfl, ad, rfl⟩
  · cases m with
    | nil =>
      obtain ⟨a, c, rfl⟩ := hx.form
      exact hsame ⟨a, c, rfl⟩ rfl
    | cons u us =>
      obtain ⟨v', w', h1, h2, h3, h4, h5⟩ := run_append8k (P := P) ht hi hz hsz hby ty hown hx (by simpa using hlen) hbase
      rcases h5 with ⟨h5, _⟩ | ⟨a, c, e1, e2⟩
      · exact ⟨v', w', h1, by simpa using h2, ⟨h5.os, h5.tape, h5.output, h5.size, fun k hk => h5.block k hk (by simp)⟩⟩
      · injection e1 with _ _ e3
        subst e3
        obtain ⟨_, _, _, hc, _⟩ := h2.bs
        exfalso
        have := h2.bs
        rw [e2] at this
        obtain ⟨a9, c9, e9, hc9, _⟩ := this
        injection e9 with _ _ e9
        subst e9
        simp at hc9
  · exact hsame ⟨_, _, rfl⟩ rfl

/-- append onto a slice of the call's own that has no room left. -/
theorem run_append_full {P : Program} {T E : TypeId} {i : TypeInfo} (ht : P.underlying T = some (.slice E)) (hi : P.info? E = some i) (hz : i.zero = some (.int .u8 0)) (hsz : i.size = 1) (hby : i.bytes = 1) (ty : TypeId)
    {w : World} {base g n : Nat} {x : Value} {l m : List UInt8} (hown : Own8 w base E (.slice (some ⟨g, 0, none⟩) n n) l) (hln : l.length = n) (hx : Bs w x m) (hm : m ≠ []) (hlen : l.length + m.length ≤ 140737488355328) (hbase : base ≤ w.heap.size) :
    ∃ v' w', (Builtin.append_ #[T, T] ty #[.slice (some ⟨g, 0, none⟩) n n, x]).run P w = .ok v' w' ∧ Own8 w' base E v' (l ++ m) ∧ Below w.heap.size w w' := by
  obtain ⟨v', w', h1, h2, h3, h4, h5⟩ := run_append8k (P := P) ht hi hz hsz hby ty hown hx hlen hbase
  rcases h5 with ⟨h5, _⟩ | ⟨a, c, e1, e2⟩
  · exact ⟨v', w', h1, h2, ⟨h5.os, h5.tape, h5.output, h5.size, fun k hk => h5.block k hk (by simp)⟩⟩
  · exfalso
    injection e1 with _ e4 e3
    obtain ⟨a9, c9, e9, hc9, _⟩ := h2.bs
    rw [e2] at e9
    injection e9 with _ _ e9
    have : 0 < m.length := List.length_pos_iff.2 hm
    simp at hc9
    omega

theorem lowB_succ (n : Int) (k : Nat) : lowB n (k + 1) = lowB n k ++ [byteOf n k] := by
  unfold lowB
  rw [List.range_succ, List.map_append]
  rfl

theorem byteOf_nat (n k : Nat) : (byteOf (n : Int) k).toNat = n / 2 ^ (8 * k) % 256 := by
  have := byteOf_val (n : Int) k
  have e : (n : Int) / 2 ^ (8 * k) % 256 = ((n / 2 ^ (8 * k) % 256 : Nat) : Int) := by
    rw [Int.natCast_emod, Int.natCast_ediv, Int.natCast_pow]
    rfl
  rw [e] at this
  exact Int.ofNat.inj this

theorem numOf_low (n k : Nat) : numOf (lowB (n : Int) k) = n % 2 ^ (8 * k) := by
  induction k with
  | zero => simp [lowB, numOf, Nat.mod_one]
  | succ k ih =>
    rw [lowB_succ, numOf_snoc, ih, lowB_length, byteOf_nat, show 8 * (k + 1) = 8 * k + 8 from by omega, Nat.pow_add, show (2 : Nat) ^ 8 = 256 from rfl, Nat.mod_mul, Nat.mul_comm (2 ^ (8 * k))]

theorem numOf_low' {n : Nat} {k : Nat} (h : n < 2 ^ (8 * k)) : numOf (lowB (n : Int) k) = n := by rw [numOf_low, Nat.mod_eq_of_lt h]

theorem frame_length (k : Int) (x : List UInt8) : (frameB k x).length = 9 + x.length := by
  simp [frameB, frameH, lowB_length]
  omega

theorem unframe_frame (k : Nat) (x : List UInt8) (hk : k < 256) (hx : x.length ≤ 65536) : unframe (frameB (k : Int) x) = some (k, x, 9 + x.length) := by
  have hl := frame_length (k : Int) x
  have h1 : ((frameB (k : Int) x).drop 1).take 4 = lowB (x.length : Int) 4 := by
    unfold frameB frameH
    rw [List.cons_append, List.drop_succ_cons, List.drop_zero, List.append_assoc, List.take_append_of_le_length (by simp [lowB_length]), List.take_of_length_le (by simp [lowB_length])]
  have h2 : numOf (((frameB (k : Int) x).drop 1).take 4) = x.length := by rw [h1]; exact numOf_low' (by omega)
  have hH : (frameH (k : Int) x).length = 5 + x.length := by simp [frameH, lowB_length]; omega
  have h3 : (frameB (k : Int) x).take (5 + x.length) = frameH (k : Int) x := by
    unfold frameB
    rw [List.take_append_of_le_length (by omega), List.take_of_length_le (by omega)]
  have h4 : ((frameB (k : Int) x).drop (5 + x.length)).take 4 = lowB (crcOf (frameH (k : Int) x)) 4 := by
    unfold frameB
    rw [List.drop_append_of_le_length (by omega), List.drop_eq_nil_of_le (by omega), List.nil_append, List.take_of_length_le (by simp [lowB_length])]
  have h5 : (frameB (k : Int) x).take 1 = lowB (k : Int) 1 := rfl
  have h6 : ((frameB (k : Int) x).drop 5).take x.length = x := by
    have e : (frameB (k : Int) x).drop 5 = x ++ lowB (crcOf (frameH (k : Int) x)) 4 := by
      unfold frameB
      rw [List.drop_append_of_le_length (by omega)]
      congr 1
    rw [e, List.take_append_of_le_length (by omega), List.take_of_length_le (by omega)]
  unfold unframe
  rw [h2, h3, h4, h5, h6, if_neg (by omega), if_neg (by omega), if_neg (by rw [numOf_low' (by have := crcOf_lt (frameH (k : Int) x); omega)]; simp), numOf_low' (by omega)]

theorem bodyF_frame (k least : Nat) (x : List UInt8) (hk : k < 256) (hx : x.length ≤ 65536) (hl : least ≤ x.length) : bodyF (frameB (k : Int) x) k least = some x := by
  unfold bodyF
  rw [unframe_frame k x hk hx]
  simp only
  rw [if_pos ⟨by trivial, (frame_length _ _).symm, hl⟩]

theorem byteOf_succ (n j : Nat) : byteOf (n : Int) (j + 1) = byteOf ((n / 256 : Nat) : Int) j := by
  apply UInt8.toNat_inj.1
  rw [byteOf_nat, byteOf_nat, Nat.div_div_eq_div_mul, show 8 * (j + 1) = 8 + 8 * j from by omega, Nat.pow_add]

theorem lowB_cons (n k : Nat) : lowB (n : Int) (k + 1) = byteOf (n : Int) 0 :: lowB ((n / 256 : Nat) : Int) k := by
  unfold lowB
  rw [List.range_succ_eq_map, List.map_cons, List.map_map]
  congr 1
  exact List.map_congr_left (fun j _ => byteOf_succ n j)

theorem low_num : ∀ (l : List UInt8), lowB (numOf l : Int) l.length = l
  | [] => rfl
  | u :: l => by
    have ih := low_num l
    have hu := u.toNat_lt
    have e : numOf (u :: l) = u.toNat + 256 * numOf l := rfl
    have e1 : numOf (u :: l) / 256 = numOf l := by rw [e]; omega
    have e2 : byteOf (numOf (u :: l) : Int) 0 = u := by
      apply UInt8.toNat_inj.1
      rw [byteOf_nat, e]
      simp
    rw [List.length_cons, lowB_cons, e1, e2, ih]

theorem low_num' {l : List UInt8} {k : Nat} (h : l.length = k) : lowB (numOf l : Int) k = l := by subst h; exact low_num l

theorem frame_unframe {b x : List UInt8} {k to : Nat} (h : unframe b = some (k, x, to)) (ht : to = b.length) : frameB (k : Int) x = b := by
  unfold unframe at h
  split at h
  · cases h
  split at h
  · cases h
  split at h
  · cases h
  rename_i h1 h2 h3
  generalize hn : numOf ((b.drop 1).take 4) = n at h h2 h3
  simp only [Option.some.injEq, Prod.mk.injEq] at h
  obtain ⟨rfl, rfl, rfl⟩ := h
  have hxl : ((b.drop 5).take n).length = n := by simp; omega
  have e0 : lowB (numOf (b.take 1) : Int) 1 = b.take 1 := low_num' (by simp; omega)
  have e1 : lowB (((b.drop 5).take n).length : Int) 4 = (b.drop 1).take 4 := by rw [hxl, ← hn]; exact low_num' (by simp; omega)
  have eH : frameH (numOf (b.take 1) : Int) ((b.drop 5).take n) = b.take (5 + n) := by
    have : frameH (numOf (b.take 1) : Int) ((b.drop 5).take n) = lowB (numOf (b.take 1) : Int) 1 ++ (lowB (((b.drop 5).take n).length : Int) 4 ++ (b.drop 5).take n) := rfl
    rw [this, e0, e1, Nat.add_comm 5 n, show n + 5 = 1 + (4 + n) from by omega, List.take_add, List.take_add, List.drop_drop]
  unfold frameB
  rw [eH]
  have e4 : lowB (crcOf (b.take (5 + n)) : Int) 4 = (b.drop (5 + n)).take 4 := by
    rw [← Decidable.not_not.1 h3]
    exact low_num' (by simp; omega)
  rw [e4, ← List.take_add, List.take_of_length_le (by omega)]

theorem body_back {b x : List UInt8} {k least : Nat} (h : bodyF b k least = some x) : frameB (k : Int) x = b ∧ least ≤ x.length := by
  unfold bodyF at h
  cases hu : unframe b with
  | none => rw [hu] at h; cases h
  | some q =>
    obtain ⟨k', x', to⟩ := q
    rw [hu] at h
    simp only at h
    split at h
    · rename_i hc
      cases h
      obtain ⟨rfl, h2, h3⟩ := hc
      exact ⟨frame_unframe hu h2, h3⟩
    · cases h
end Go.Proofs.YtcdcjoofcbdilaaGreat

/-! Package disk: what lies in memory, and the walks of New, none, Blocks, Down. -/
namespace Go.Proofs.YtcdcjoofcbdilaaGreat
open Go.RowKit

/-- A disk. -/
structure Dk where
  texts : List (List UInt8)
  bad : Int → Bool
  vers : Int → Option (List UInt8)
  off : Bool
  fuse : Int

/-- Where it lies: the struct, its rows, its two maps; V: the blocks of what it wrote since. -/
structure DkP where
  d : Nat
  gt : Nat
  mb : Nat
  mv : Nat
  V : Nat → Prop

def VerAt (W : World) (V : Nat → Prop) (v : Value) (t : List UInt8) : Prop := ∃ g c, v = .slice (some ⟨g, 0, none⟩) 1 c ∧ 1 ≤ c ∧ V g ∧ W.rangeAt g 0 (t.map bv)

structure DkAt (W : World) (p : DkP) (D : Dk) : Prop where
  cell : Blk W p.d #[.slice (some ⟨p.gt, 0, none⟩) D.texts.length D.texts.length, .map (some p.mb), .map (some p.mv), .bool D.off, .int .i64 D.fuse] 173
  rows : ∀ i t, D.texts[i]? = some t → W.rangeAt p.gt (256 * i) (t.map bv)
  free : ∀ o, W.frozen? ⟨p.gt, o, none⟩ = false
  lens : ∀ t ∈ D.texts, t.length = 256
  pos : 0 < D.texts.length
  most : D.texts.length ≤ 4096
  bads : ∃ es c, MapAt W p.mb encI es c ∧ (∀ k, D.bad k = mhas es k) ∧ ∀ e ∈ es, e.v = .bool true
  vers : ∃ es c, MapAt W p.mv encI es c ∧ (∀ k, (D.vers k).isSome = mhas es k) ∧ ∀ e ∈ es, ∃ t, D.vers e.k = some t ∧ VerAt W p.V e.v t ∧ 0 ≤ e.k ∧ e.k < D.texts.length ∧ t.length = 256
  ne : p.d ≠ p.gt ∧ p.d ≠ p.mb ∧ p.d ≠ p.mv ∧ p.gt ≠ p.mb ∧ p.gt ≠ p.mv ∧ p.mb ≠ p.mv
  low : ¬ p.V p.d ∧ ¬ p.V p.gt ∧ ¬ p.V p.mb ∧ ¬ p.V p.mv
  base : p.d < W.heap.size ∧ p.gt < W.heap.size ∧ p.mb < W.heap.size ∧ p.mv < W.heap.size ∧ ∀ b, p.V b → b < W.heap.size
  fuse : -1 ≤ D.fuse ∧ D.fuse ≤ 9223372036854775807

theorem rangeAt_ext {fp : Nat → Prop} {W W' : World} {b o : Nat} {cs : List Value} (h : W.rangeAt b o cs) (he : Ext fp W W') (hn : ¬ fp b) : W'.rangeAt b o cs := fun j v hv => ext_cell (h j v hv) he hn
theorem frozen_ext {fp : Nat → Prop} {W W' : World} {a : Addr} (he : Ext fp W W') (hl : a.block < W.heap.size) (hn : ¬ fp a.block) : W'.frozen? a = W.frozen? a := World.frozen?_of_block (he.block a.block hl hn)
theorem VerAt.ext {fp : Nat → Prop} {W W' : World} {V : Nat → Prop} {v : Value} {t : List UInt8} (h : VerAt W V v t) (he : Ext fp W W') (hn : ∀ b, fp b → ¬ V b) : VerAt W' V v t := by
  obtain ⟨g, c, rfl, h1, h2, h3⟩ := h
  exact ⟨g, c, rfl, h1, h2, rangeAt_ext h3 he (fun h => hn g h h2)⟩
theorem DkAt.base' {W W' : World} {p : DkP} (h : p.d < W.heap.size ∧ p.gt < W.heap.size ∧ p.mb < W.heap.size ∧ p.mv < W.heap.size ∧ ∀ b, p.V b → b < W.heap.size) (hs : W.heap.size ≤ W'.heap.size) :
    p.d < W'.heap.size ∧ p.gt < W'.heap.size ∧ p.mb < W'.heap.size ∧ p.mv < W'.heap.size ∧ ∀ b, p.V b → b < W'.heap.size :=
  ⟨by omega, by omega, by omega, by omega, fun b hb => by have := h.2.2.2.2 b hb; omega⟩
/-- The blocks that a disk's calls turn; all of its blocks. -/
def DkP.own (p : DkP) (b : Nat) : Prop := b = p.d ∨ b = p.gt ∨ b = p.mb ∨ b = p.mv
def DkP.all (p : DkP) (b : Nat) : Prop := p.own b ∨ p.V b
/-- The disk where only blocks other than its own were turned. -/
theorem DkAt.ext {fp : Nat → Prop} {W W' : World} {p : DkP} {D : Dk} (h : DkAt W p D) (he : Ext fp W W') (h1 : ¬ fp p.d) (h2 : ¬ fp p.gt) (h3 : ¬ fp p.mb) (h4 : ¬ fp p.mv) (hn : ∀ b, fp b → ¬ p.V b) : DkAt W' p D where
  cell := h.cell.ext he h1
  rows := fun i t ht => rangeAt_ext (h.rows i t ht) he h2
  free := fun o => by rw [frozen_ext he h.base.2.1 h2]; exact h.free o
  lens := h.lens
  pos := h.pos
  most := h.most
  bads := by obtain ⟨es, c, hm, hr⟩ := h.bads; exact ⟨es, c, hm.ext he h3, hr⟩
  vers := by
    obtain ⟨es, c, hm, hr, hv⟩ := h.vers
    refine ⟨es, c, hm.ext he h4, hr, fun e hm => ?_⟩
    obtain ⟨t, q1, q2, q3⟩ := hv e hm
    exact ⟨t, q1, q2.ext he hn, q3⟩
  ne := h.ne
  low := h.low
  base := DkAt.base' h.base he.size
  fuse := h.fuse
theorem DkAt.extAll {fp : Nat → Prop} {W W' : World} {p : DkP} {D : Dk} (h : DkAt W p D) (he : Ext fp W W') (hn : ∀ b, fp b → ¬ p.all b) : DkAt W' p D :=
  h.ext he (fun h => hn _ h (.inl (.inl rfl))) (fun h => hn _ h (.inl (.inr (.inl rfl)))) (fun h => hn _ h (.inl (.inr (.inr (.inl rfl))))) (fun h => hn _ h (.inl (.inr (.inr (.inr rfl))))) (fun b h hv => hn b h (.inr hv))
theorem DkAt.lt {W : World} {p : DkP} {D : Dk} (h : DkAt W p D) {b : Nat} (hb : p.all b) : b < W.heap.size := by
  have := h.base
  rcases hb with (rfl | rfl | rfl | rfl) | hb
  · exact this.1
  · exact this.2.1
  · exact this.2.2.1
  · exact this.2.2.2.1
  · exact this.2.2.2.2 b hb
theorem DkAt.keep {W W' : World} {p : DkP} {D : Dk} (h : DkAt W p D) (hb : Below W.heap.size W W') : DkAt W' p D := h.ext (fp := nofp) (Ext.ofBelow hb) id id id id (fun _ h => h.elim)

def Dk.fresh (n : Nat) : Dk := { texts := List.replicate n (List.replicate 256 0), bad := fun _ => false, vers := fun _ => none, off := false, fuse := -1 }

theorem info_text : ((Tryz.prog.info? 207).map (fun i => (i.zero.map (·.cells), i.size, i.bytes))) = some (some (Array.replicate 256 (.int .u8 0)), 256, 256) := by kernel_rfl

theorem run_make_texts (k : Nat) (hk : k ≤ 4096) (w : World) : (Instr.makeSlice 169 (.int .i64 (k : Int)) (.int .i64 (k : Int))).run Tryz.prog w = .ok (.slice (some ⟨w.heap.size, 0, none⟩) k k) (w.alloc (.cells (madeCells (Array.replicate 256 (.int .u8 0)) (k * 256)) 207)) := by
  obtain ⟨i, hi, he⟩ := Option.map_eq_some_iff.1 info_text
  simp only [Prod.mk.injEq, Option.map_eq_some_iff] at he
  obtain ⟨⟨z, hz, hzc⟩, hs, hb⟩ := he
  have h := run_make (P := Tryz.prog) w 169 207 i z Tryz.underlying169 hi hz .i64 .i64 (k : Int) (k : Int) (by omega) (by omega) (by rw [hb]; omega) (by omega)
  rw [hs, hzc] at h
  simpa using h

theorem made_zero (m j : Nat) (h : j < m) : (madeCells (Array.replicate 256 (Value.int .u8 0)) m)[j]? = some (bv 0) := by
  simp [madeCells, h]
  rw [getElem!_pos _ _ (by simp; exact Nat.mod_lt _ (by decide))]
  simp

set_option maxRecDepth 100000 in
set_option maxHeartbeats 800000 in
theorem disk_New (n : Nat) (w : World) (h1 : 1 ≤ n) (h2 : n ≤ 4096) :
    Calls Tryz.prog 51 #[.int .i64 (n : Int)] w fun e w' => ∃ p, e = .returned (.tuple #[.pointer (some ⟨p.d, 0, none⟩), .int .i64 0]) ∧ DkAt w' p (Dk.fresh n) ∧ Below w.heap.size w w' ∧ (∀ b, p.all b → w.heap.size ≤ b) := by
  have hd1 : decide ((n : Int) < 1) = false := by simp; omega
  have hd2 : decide ((n : Int) > 4096) = false := by simp; omega
  have hmk := run_make_texts n h2 w
  obtain ⟨W1, hW1⟩ : ∃ W1, w.alloc (.cells (madeCells (Array.replicate 256 (.int .u8 0)) (n * 256)) 207) = W1 := ⟨_, rfl⟩
  rw [hW1] at hmk
  have hs1 : W1.heap.size = w.heap.size + 1 := by rw [← hW1]; simp
  have hmm := @run_makeMap Tryz.prog
  go_enter Tryz.func51, Tryz.ntmps51
  go_wp2_with fail
  have hW : Below w.heap.size w W1 := by rw [← hW1]; exact (Below.refl _ w).alloc (Nat.le_refl _) _
  have hrow : ∀ j, j < n * 256 → W1.cell? ⟨w.heap.size, j, none⟩ = some (bv 0) := fun j hj => by
    rw [← hW1]; exact (Blk.new w _ _).cell (made_zero _ _ hj)
  have hfr : ∀ o, W1.frozen? ⟨w.heap.size, o, none⟩ = false := fun o => by rw [← hW1]; exact (Blk.new w _ _).free o
  go_ret2
  refine ⟨⟨w.heap.size + 1 + 1 + 1, w.heap.size, w.heap.size + 1, w.heap.size + 1 + 1, fun _ => False⟩, rfl, ?_, ?_, ?_⟩
  · have hx : Below W1.heap.size W1 (((W1.alloc (.map #[] 0)).alloc (.map #[] 0)).alloc (.cells #[.slice (some ⟨w.heap.size, 0, none⟩) n n, .map (some (w.heap.size + 1)), .map (some (w.heap.size + 1 + 1)), .bool false, .int .i64 (-1)] 173)) :=
      ((((Below.refl _ W1).alloc (Nat.le_refl _) _).alloc (by simp) _).alloc (by simp; omega) _)
    constructor
    · rw [Dk.fresh]
      simp only [List.length_replicate]
      exact Blk.new' _ _ (by simp; omega) _ _
    · intro i t ht j v hv
      simp only [Dk.fresh, List.getElem?_replicate] at ht
      split at ht
      · cases ht
        rename_i hi
        simp only [List.map_replicate, List.getElem?_replicate] at hv
        split at hv
        · cases hv
          rename_i hj
          rw [hx.cell (show w.heap.size < W1.heap.size by omega)]
          exact hrow _ (by omega)
        · cases hv
      · cases ht
    · intro o
      have := World.frozen?_of_block (a := ⟨w.heap.size, o, none⟩) (hx.block w.heap.size (by omega))
      exact this.trans (hfr o)
    · intro t ht
      simp only [Dk.fresh, List.mem_replicate] at ht
      rw [ht.2]; simp
    · simp only [Dk.fresh, List.length_replicate]; omega
    · simp only [Dk.fresh, List.length_replicate]; omega
    · refine ⟨[], 0, ?_, fun k => rfl, fun e he => by simp at he⟩
      have := (MapAt.new W1 encI).keep (w' := ((W1.alloc (.map #[] 0)).alloc (.map #[] 0)).alloc (.cells #[.slice (some ⟨w.heap.size, 0, none⟩) n n, .map (some (w.heap.size + 1)), .map (some (w.heap.size + 1 + 1)), .bool false, .int .i64 (-1)] 173)) (((Below.refl _ _).alloc (Nat.le_refl _) _).alloc (by simp) _)
      rw [hs1] at this
      exact this
    · refine ⟨[], 0, ?_, fun k => rfl, fun e he => by simp at he⟩
      have := (MapAt.new (W1.alloc (.map #[] 0)) encI).keep (w' := ((W1.alloc (.map #[] 0)).alloc (.map #[] 0)).alloc (.cells #[.slice (some ⟨w.heap.size, 0, none⟩) n n, .map (some (w.heap.size + 1)), .map (some (w.heap.size + 1 + 1)), .bool false, .int .i64 (-1)] 173)) ((Below.refl _ _).alloc (Nat.le_refl _) _)
      rw [World.size_alloc, hs1] at this
      exact this
    · simp; omega
    · exact ⟨id, id, id, id⟩
    · refine ⟨?_, ?_, ?_, ?_, fun b hb => hb.elim⟩
      all_goals simp
      all_goals omega
    · simp [Dk.fresh]
  · exact ((hW.alloc (by omega) _).alloc (by simp; omega) _).alloc (by simp; omega) _
  · rintro b ((hb | hb | hb | hb) | hb)
    · simp at hb; omega
    · simp at hb; omega
    · simp at hb; omega
    · simp at hb; omega
    · exact hb.elim

section
variable {W : World} {p : DkP} {D : Dk}

set_option maxHeartbeats 800000 in
theorem disk_none (h : DkAt W p D) : Calls Tryz.prog 112 #[.pointer (some ⟨p.d, 0, none⟩)] W fun e w' => e = .returned (.bool false) ∧ w' = W := by
  have c0 := h.cell.cell (o := 0) rfl
  have hd0 : ¬ ((D.texts.length : Int) = 0) := by have := h.pos; omega
  have hd : decide ((D.texts.length : Int) = 0) = false := decide_eq_false hd0
  have hd2 : ((D.texts.length : Int) == 0) = false := beq_eq_false_iff_ne.2 hd0
  go_enter Tryz.func112, Tryz.ntmps112
  go_wp2_with fail
  go_ret
  exact ⟨rfl, rfl⟩

set_option maxHeartbeats 800000 in
theorem disk_Blocks (h : DkAt W p D) : Calls Tryz.prog 133 #[.pointer (some ⟨p.d, 0, none⟩)] W fun e w' => e = .returned (.int .i64 (D.texts.length : Int)) ∧ w' = W := by
  go_enter Tryz.func133, Tryz.ntmps133
  go_wp2_with fail
  refine (disk_none h).mono ?_
  rintro e W1 ⟨rfl, rfl⟩
  have c0 := h.cell.cell (o := 0) rfl
  go_wp2_with fail
  go_ret
  exact ⟨rfl, rfl⟩

set_option maxHeartbeats 800000 in
theorem disk_Down (h : DkAt W p D) : Calls Tryz.prog 134 #[.pointer (some ⟨p.d, 0, none⟩)] W fun e w' => e = .returned (.bool D.off) ∧ w' = W := by
  go_enter Tryz.func134, Tryz.ntmps134
  go_wp2_with fail
  refine (disk_none h).mono ?_
  rintro e W1 ⟨rfl, rfl⟩
  have c3 := h.cell.cell (o := 3) rfl
  go_wp2_with fail
  go_ret
  exact ⟨rfl, rfl⟩
end

end Go.Proofs.YtcdcjoofcbdilaaGreat

/-! Package disk, on: operation, Cut. -/
namespace Go.Proofs.YtcdcjoofcbdilaaGreat
open Go.RowKit

theorem DkAt.recell {W W' : World} {p : DkP} {D : Dk} (h : DkAt W p D) (he : Ext (fun b => b = p.d) W W') (off : Bool) (fuse : Int) (hf : -1 ≤ fuse ∧ fuse ≤ 9223372036854775807)
    (hc : Blk W' p.d #[.slice (some ⟨p.gt, 0, none⟩) D.texts.length D.texts.length, .map (some p.mb), .map (some p.mv), .bool off, .int .i64 fuse] 173) : DkAt W' p { D with off := off, fuse := fuse } where
  cell := hc
  rows := fun i t ht => rangeAt_ext (h.rows i t ht) he (Ne.symm h.ne.1)
  free := fun o => by rw [frozen_ext he h.base.2.1 (Ne.symm h.ne.1)]; exact h.free o
  lens := h.lens
  pos := h.pos
  most := h.most
  bads := by obtain ⟨es, c, hm, hr⟩ := h.bads; exact ⟨es, c, hm.ext he (Ne.symm h.ne.2.1), hr⟩
  vers := by
    obtain ⟨es, c, hm, hr, hv⟩ := h.vers
    refine ⟨es, c, hm.ext he (Ne.symm h.ne.2.2.1), hr, fun e hm => ?_⟩
    obtain ⟨t, q1, q2, q3⟩ := hv e hm
    exact ⟨t, q1, q2.ext he (fun b hb => by rw [hb]; exact h.low.1), q3⟩
  ne := h.ne
  low := h.low
  base := DkAt.base' h.base he.size
  fuse := hf

/-- The fuse behind an operation that is done. -/
def Dk.spent (D : Dk) : Dk := { D with fuse := if 0 < D.fuse then D.fuse - 1 else D.fuse }
/-- The disk behind one that is not. -/
def Dk.fail (D : Dk) : Dk := if D.off then D else { D with off := true, fuse := -1 }
def Dk.goes (D : Dk) : Bool := !D.off && !(D.fuse == 0)

section
variable {W : World} {p : DkP} {D : Dk}

set_option maxHeartbeats 800000 in
theorem disk_operation (h : DkAt W p D) (hg : D.goes = true) (f : Nat) (caps : Array Value) (eg : ∀ args w, (callFunc f args).run Tryz.prog w = .ok (.enter f args) w) (R : World → Prop)
    (hdo : ∀ W1, DkAt W1 p D.spent → Ext (fun b => b = p.d) W W1 → Calls Tryz.prog f caps W1 (fun e w' => (∃ v, e = .returned v) ∧ R w')) :
    Calls Tryz.prog 174 #[.pointer (some ⟨p.d, 0, none⟩), .func (.func f) #[] caps] W fun e w' => e = .returned (.int .i64 0) ∧ R w' := by
  have hoff : D.off = false := by simp [Dk.goes] at hg; exact hg.1
  have hf0 : ¬ D.fuse = 0 := by simp [Dk.goes] at hg; exact hg.2
  have c3 := h.cell.cell (o := 3) rfl
  have c4 := h.cell.cell (o := 4) rfl
  have f4 := h.cell.free 4
  rw [hoff] at c3
  have hd : decide (D.fuse = 0) = false := decide_eq_false hf0
  have hfu := h.fuse
  by_cases hpos : 0 < D.fuse
  · have hx : Ext (fun b => b = p.d) W (W.setCell ⟨p.d, 4, none⟩ (.int .i64 (D.fuse - 1))) := (Ext.refl (fun b => b = p.d) W).setCell (a := ⟨p.d, 4, none⟩) (.inl rfl) _
    have hD : DkAt (W.setCell ⟨p.d, 4, none⟩ (.int .i64 (D.fuse - 1))) p D.spent := by
      unfold Dk.spent
      rw [if_pos hpos]
      have := h.recell hx D.off (D.fuse - 1) (by omega) (by have := h.cell.set (o := 4) (.int .i64 (D.fuse - 1)); simpa using this)
      exact this
    have hC := hdo _ hD hx
    go_enter Tryz.func174, Tryz.ntmps174
    go_wp2_with fail
    refine hC.mono ?_
    rintro e W2 ⟨⟨v, rfl⟩, hr⟩
    go_wp2_with fail
    go_ret
    exact ⟨rfl, hr⟩
  · have hD : DkAt W p D.spent := by
      unfold Dk.spent
      rw [if_neg hpos]
      exact h
    have hC := hdo W hD (Ext.refl _ _)
    go_enter Tryz.func174, Tryz.ntmps174
    go_wp2_with fail
    refine hC.mono ?_
    rintro e W2 ⟨⟨v, rfl⟩, hr⟩
    go_wp2_with fail
    go_ret
    exact ⟨rfl, hr⟩

theorem DkAt.same {D' : Dk} (h : DkAt W p D) (e : D = D') : DkAt W p D' := e ▸ h

set_option maxHeartbeats 800000 in
theorem disk_operation_fails (h : DkAt W p D) (hg : D.goes = false) (f : Nat) (caps : Array Value) :
    Calls Tryz.prog 174 #[.pointer (some ⟨p.d, 0, none⟩), .func (.func f) #[] caps] W fun e w' => e = .returned (.int .i64 8) ∧ DkAt w' p D.fail ∧ Ext (fun b => b = p.d) W w' := by
  have c3 := h.cell.cell (o := 3) rfl
  have c4 := h.cell.cell (o := 4) rfl
  have f4 := h.cell.free 4
  have f3 := h.cell.free 3
  cases hoff : D.off
  · have hf0 : D.fuse = 0 := by simpa [Dk.goes, hoff] using hg
    rw [hoff] at c3
    rw [hf0] at c4
    have hx : Ext (fun b => b = p.d) W ((W.setCell ⟨p.d, 3, none⟩ (.bool true)).setCell ⟨p.d, 4, none⟩ (.int .i64 (-1))) := ((Ext.refl (fun b => b = p.d) W).setCell (a := ⟨p.d, 3, none⟩) (.inl rfl) _).setCell (a := ⟨p.d, 4, none⟩) (.inl rfl) _
    have hD : DkAt ((W.setCell ⟨p.d, 3, none⟩ (.bool true)).setCell ⟨p.d, 4, none⟩ (.int .i64 (-1))) p D.fail := by
      unfold Dk.fail
      rw [hoff]
      have := h.recell hx true (-1) (by omega) (by have := (h.cell.set (o := 3) (.bool true)).set (o := 4) (.int .i64 (-1)); simpa using this)
      exact this
    have c3' : (W.setCell ⟨p.d, 3, none⟩ (.bool true)).cell? ⟨p.d, 4, none⟩ = some (.int .i64 0) := by rw [World.cell?_setCell_other _ _ _ _ (by simp)]; exact c4
    have f3' : (W.setCell ⟨p.d, 3, none⟩ (.bool true)).frozen? ⟨p.d, 4, none⟩ = false := (h.cell.set (o := 3) (.bool true)).free 4
    have c5 := hD.cell.cell (o := 3) rfl
    rw [show D.fail.off = true by simp [Dk.fail, hoff]] at c5
    generalize hW2 : (W.setCell ⟨p.d, 3, none⟩ (.bool true)).setCell ⟨p.d, 4, none⟩ (.int .i64 (-1)) = W2 at *
    go_enter Tryz.func174, Tryz.ntmps174
    go_wp2_with fail
    go_ret
    exact ⟨rfl, hD, hx⟩
  · rw [hoff] at c3
    have hD : DkAt W p D.fail := by
      unfold Dk.fail
      rw [hoff]
      exact h
    go_enter Tryz.func174, Tryz.ntmps174
    go_wp2_with fail
    go_ret
    exact ⟨rfl, hD, Ext.refl _ _⟩
end

end Go.Proofs.YtcdcjoofcbdilaaGreat
