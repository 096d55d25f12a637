import Derived.WalkKit
import Derived.WalkSpells
import Derived.WalkLawsBesides
import Derived.Deep.Draws
/-! Plain words on worlds that all texts of this seat use: what a block holds, what a call may have turned, bytes in memory. No program is named here. -/
namespace Go.Proofs.Ytpkaepmmkojdaaa
open Go.RowKit

theorem hid {p : Prop} (h : p) : Hid p := h

/-! ### Blocks of cells -/
def Blk (W : World) (g : Nat) (c : Array Value) (t : TypeId) : Prop := W.heap[g]? = some (.cells c t (0, 0))

section
variable {W : World} {g o : Nat} {c : Array Value} {t : TypeId} {v : Value}
theorem Blk.cell (h : Blk W g c t) (hv : c[o]? = some v) : W.cell? ⟨g, o, none⟩ = some v := by
  unfold Blk at h
  simp [World.cell?, h, hv]
theorem Blk.cellAt (h : Blk W g c t) (ho : o < c.size) : ∃ v, c[o]? = some v ∧ W.cell? ⟨g, o, none⟩ = some v := ⟨c[o], by simp, h.cell (by simp)⟩
theorem Blk.free (h : Blk W g c t) (o : Nat) : W.frozen? ⟨g, o, none⟩ = false := by
  unfold Blk at h
  simp only [World.frozen?, h]
  simp
theorem Blk.lt (h : Blk W g c t) : g < W.heap.size := (Array.getElem?_eq_some_iff.1 h).1
theorem Blk.set (h : Blk W g c t) (v : Value) : Blk (W.setCell ⟨g, o, none⟩ v) g (c.setIfInBounds o v) t := by
  unfold Blk at *
  simp [World.setCell, Array.getElem?_modify, h]
theorem Blk.setOther (h : Blk W g c t) {a : Addr} (ha : g ≠ a.block) (v : Value) : Blk (W.setCell a v) g c t := by
  unfold Blk at *
  rw [Below.heap_setCell _ _ _ _ ha]; exact h
theorem Blk.alloc (h : Blk W g c t) (ob : Obj) : Blk (W.alloc ob) g c t := by
  have hl := h.lt
  unfold Blk at *
  rw [Below.heap_alloc _ _ _ hl]; exact h
theorem Blk.drew (h : Blk W g c t) : Blk W.drew g c t := h
theorem Blk.new (W : World) (c : Array Value) (t : TypeId) : Blk (W.alloc (.cells c t)) W.heap.size c t := by
  unfold Blk
  show (W.heap.push _)[W.heap.size]? = _
  simp
theorem Blk.new' (W : World) (n : Nat) (hn : n = W.heap.size) (c : Array Value) (t : TypeId) : Blk (W.alloc (.cells c t)) n c t := by
  subst hn; exact Blk.new W c t
theorem Blk.setRow (h : Blk W g c t) (cs : Array Value) : Blk (W.setRow g cs) g cs t := setRow_heap W g c cs t (0, 0) h
theorem Blk.setRowOther (h : Blk W g c t) {k : Nat} (hk : g ≠ k) (cs : Array Value) : Blk (W.setRow k cs) g c t := by
  unfold Blk at *
  rw [setRow_other _ _ _ _ hk]; exact h
theorem Blk.eq (h : Blk W g c t) {c' : Array Value} {t' : TypeId} (h' : Blk W g c' t') : c = c' ∧ t = t' := by
  unfold Blk at *
  rw [h] at h'
  cases h'
  exact ⟨rfl, rfl⟩
theorem Blk.below {W' : World} {B : Nat} (h : Blk W g c t) (hb : Below B W W') (hg : g < B) : Blk W' g c t := by
  unfold Blk at *
  rw [hb.block g hg]; exact h
end

/-! ### What a call may have turned: the blocks of a set, and new ones -/
structure Ext (fp : Nat → Prop) (w w' : World) : Prop where
  os : w'.os = w.os
  tape : w'.tape = w.tape
  output : w'.output = w.output
  size : w.heap.size ≤ w'.heap.size
  block : ∀ k, k < w.heap.size → ¬ fp k → w'.heap[k]? = w.heap[k]?

def nofp : Nat → Prop := fun _ => False

section
variable {fp fp' : Nat → Prop} {w w1 w2 : World}
theorem Ext.refl (fp : Nat → Prop) (w : World) : Ext fp w w := ⟨rfl, rfl, rfl, Nat.le_refl _, fun _ _ _ => rfl⟩
theorem Ext.trans (h : Ext fp w w1) (k : Ext fp' w1 w2) (hs : ∀ b, fp' b → fp b ∨ w.heap.size ≤ b) : Ext fp w w2 :=
  ⟨k.os.trans h.os, k.tape.trans h.tape, k.output.trans h.output, Nat.le_trans h.size k.size, fun i hi hn =>
    (k.block i (Nat.lt_of_lt_of_le hi h.size) (fun hf => (hs i hf).elim hn (fun h => absurd hi (Nat.not_lt.2 h)))).trans (h.block i hi hn)⟩
theorem Ext.trans' (h : Ext fp w w1) (k : Ext fp w1 w2) : Ext fp w w2 := h.trans k (fun _ h => .inl h)
theorem Ext.mono (h : Ext fp w w1) (hs : ∀ b, b < w.heap.size → fp b → fp' b) : Ext fp' w w1 :=
  ⟨h.os, h.tape, h.output, h.size, fun i hi hn => h.block i hi (fun hf => hn (hs i hi hf))⟩
theorem Ext.ofBelow (h : Below w.heap.size w w1) : Ext fp w w1 := ⟨h.os, h.tape, h.output, h.size, fun k hk _ => h.block k hk⟩
theorem Ext.below (h : Ext nofp w w1) : Below w.heap.size w w1 := ⟨h.os, h.tape, h.output, h.size, fun k hk => h.block k hk (fun h => h)⟩
theorem Ext.belowOf {B : Nat} (h : Ext fp w w1) (hB : B ≤ w.heap.size) (hf : ∀ b, b < B → ¬ fp b) : Below B w w1 := ⟨h.os, h.tape, h.output, h.size, fun k hk => h.block k (by omega) (hf k hk)⟩
theorem Ext.drew (h : Ext fp w w1) : Ext fp w w1.drew := ⟨h.os, h.tape, h.output, h.size, h.block⟩
theorem Ext.drewN (h : Ext fp w w1) (n : Nat) : Ext fp w (w1.drewN n) := ⟨h.os, h.tape, h.output, h.size, h.block⟩
theorem Ext.alloc (h : Ext fp w w1) (o : Obj) : Ext fp w (w1.alloc o) :=
  h.trans (fp' := nofp) (Ext.ofBelow ((Below.refl _ _).alloc (Nat.le_refl _) o)) (fun _ h => h.elim)
theorem Ext.setCell (h : Ext fp w w1) {a : Addr} (ha : fp a.block ∨ w.heap.size ≤ a.block) (v : Value) : Ext fp w (w1.setCell a v) :=
  h.trans (fp' := fun b => b = a.block) ⟨rfl, rfl, rfl, by simp [World.setCell], fun k _ hk => Below.heap_setCell _ _ _ _ hk⟩ (fun b hb => by subst hb; exact ha)
theorem setRow_grown (w : World) (g : Nat) (cs : Array Value) : w.grownBy (w.setRow g cs) (some g) :=
  ⟨rfl, rfl, rfl, by simp [World.setRow], fun k _ hk => setRow_other _ _ _ _ (fun e => hk (by rw [e]))⟩
theorem Ext.grown {row : Option Nat} (h : Ext fp w w1) (hg : w1.grownBy w2 row) (hr : ∀ k, row = some k → fp k ∨ w.heap.size ≤ k) : Ext fp w w2 :=
  h.trans (fp' := fun b => some b = row) ⟨hg.os, hg.tape, hg.output, hg.size, fun k hk hn => hg.block k hk hn⟩ (fun b hb => hr b hb.symm)
theorem Ext.then (h : Ext fp w w1) (k : Below w1.heap.size w1 w2) : Ext fp w w2 := h.trans (fp' := nofp) (Ext.ofBelow k) (fun _ h => h.elim)
theorem Blk.ext {g : Nat} {c : Array Value} {t : TypeId} (h : Blk w g c t) (he : Ext fp w w1) (hn : ¬ fp g) : Blk w1 g c t := by
  have hl := h.lt
  unfold Blk at *
  rw [he.block g hl hn]; exact h
theorem ext_cell {a : Addr} {v : Value} (h : w.cell? a = some v) (he : Ext fp w w1) (hn : ¬ fp a.block) : w1.cell? a = some v :=
  (World.cell?_of_block (he.block a.block (World.block_lt_of_cell? w a h) hn)).trans h
end

theorem below_ext {w w' : World} (h : Below w.heap.size w w') {g : Nat} {o : Obj} (hg : w.heap[g]? = some o) : w'.heap[g]? = some o := by
  rw [h.block g (Array.getElem?_eq_some_iff.1 hg).1]; exact hg
theorem Blk.keep {w w' : World} {g : Nat} {c : Array Value} {t : TypeId} (h : Blk w g c t) (hb : Below w.heap.size w w') : Blk w' g c t := h.below hb h.lt

theorem below_drewN {B : Nat} {a w : World} (h : Below B a w) (n : Nat) : Below B a (w.drewN n) := ⟨h.os, h.tape, h.output, h.size, h.block⟩

/-! ### Bytes in memory -/
abbrev bv (b : UInt8) : Value := .int .u8 (b.toNat : Int)

/-- The bytes l can be read from the slice v on. -/
def Bs (w : World) (v : Value) (l : List UInt8) : Prop :=
  ∃ a c, v = .slice a l.length c ∧ l.length ≤ c ∧ c ≤ maxLen ∧ (a = none → c = 0) ∧ (∀ ad, a = some ad → c ≠ 0 → ad.spot = none) ∧ ∀ i u, l[i]? = some u → ∃ ad, a = some ad ∧ w.cell? ⟨ad.block, ad.off + i, none⟩ = some (bv u)

/-- .. spelled out: nil, or an address. -/
theorem Bs.cases {w : World} {v : Value} {l : List UInt8} (h : Bs w v l) : (v = .slice none 0 0 ∧ l = []) ∨
    (∃ g o c, v = .slice (some ⟨g, o, none⟩) l.length c ∧ l.length ≤ c ∧ c ≤ maxLen ∧ ∀ i u, l[i]? = some u → w.cell? ⟨g, o + i, none⟩ = some (bv u)) ∨ (l = [] ∧ ∃ ad, v = .slice (some ad) 0 0) := by
  obtain ⟨a, c, rfl, hc, hm, hn, hs, hr⟩ := h
  cases a with
  | none =>
    have h0 := hn rfl
    subst h0
    have : l = [] := List.eq_nil_of_length_eq_zero (by omega)
    subst this
    exact .inl ⟨rfl, rfl⟩
  | some ad =>
    by_cases hc0 : c = 0
    · subst hc0
      have : l = [] := List.eq_nil_of_length_eq_zero (by omega)
      subst this
      exact .inr (.inr ⟨rfl, ad, rfl⟩)
    obtain ⟨g, o, s⟩ := ad
    have := hs _ rfl hc0
    simp only at this
    subst this
    refine .inr (.inl ⟨g, o, c, rfl, hc, hm, fun i u hi => ?_⟩)
    obtain ⟨ad, e, h⟩ := hr i u hi
    cases e
    exact h
theorem Bs.nil (w : World) : Bs w (.slice none 0 0) [] := ⟨none, 0, rfl, Nat.le_refl _, Nat.zero_le _, fun _ => rfl, (fun _ h => by cases h), (fun i u h => by simp at h)⟩
theorem Bs.mk {w : World} {g o c n : Nat} {l : List UInt8} (hn : l.length = n) (hc : n ≤ c) (hm : c ≤ maxLen) (h : ∀ i u, l[i]? = some u → w.cell? ⟨g, o + i, none⟩ = some (bv u)) : Bs w (.slice (some ⟨g, o, none⟩) n c) l := by
  subst hn
  exact ⟨_, c, rfl, hc, hm, (fun h => by cases h), (fun _ e _ => by cases e; rfl), fun i u hi => ⟨_, rfl, h i u hi⟩⟩
theorem Bs.ext {fp : Nat → Prop} {w w' : World} {v : Value} {l : List UInt8} (h : Bs w v l) (he : Ext fp w w') (hn : ∀ k, v.ownBlock = some k → k < w.heap.size → ¬ fp k) : Bs w' v l := by
  obtain ⟨a, c, rfl, hc, hm, h0, hs, hr⟩ := h
  refine ⟨a, c, rfl, hc, hm, h0, hs, fun i u hi => ?_⟩
  obtain ⟨ad, rfl, h⟩ := hr i u hi
  exact ⟨ad, rfl, ext_cell h he (hn ad.block rfl (World.block_lt_of_cell? w ⟨ad.block, ad.off + i, none⟩ h))⟩
theorem Bs.keep {w w' : World} {v : Value} {l : List UInt8} (h : Bs w v l) (hb : Below w.heap.size w w') : Bs w' v l := h.ext (fp := nofp) (Ext.ofBelow hb) (fun _ _ _ h => h)
theorem Bs.len {w : World} {v : Value} {l : List UInt8} (h : Bs w v l) : l.length ≤ maxLen := by obtain ⟨a, c, rfl, hc, hm, _⟩ := h; omega

/-! ### A slice of a slice -/
def sla (a : Option Addr) (c lo : Nat) : Option Addr := if c = lo then a else a.map (·.add lo)

theorem run_slice_b {P : Program} {T E : TypeId} (hT : P.underlying T = some (.slice E)) (hE : (P.info? E).map (·.size) = some 1) (a : Option Addr) (n c : Nat) (lo hi : Int) (h0 : 0 ≤ lo) (h1 : lo ≤ hi) (h2 : hi ≤ c) (W : World) :
    (Instr.slice T (.slice a n c) (some (.int .i64 lo)) (some (.int .i64 hi)) none).run P W = .ok (.slice (sla a c lo.toNat) (hi.toNat - lo.toNat) (c - lo.toNat)) W := by
  have hs : (sizeOf E).run P W = .ok 1 W := by
    cases hq : P.info? E with
    | none => simp [hq] at hE
    | some i =>
      simp [hq] at hE
      simp [sizeOf, typeInfo, hq, hE]
  have e1 : ∀ (code : BoundsCode), (Instr.sliceBound (.int .i64 hi) c code).run P W = .ok hi.toNat W := fun code => run_sliceBound (P := P) (w := W) .i64 hi c code (by omega) h2
  have e2 : ∀ (code : BoundsCode), (Instr.sliceBound (.int .i64 lo) hi.toNat code).run P W = .ok lo.toNat W := fun code => run_sliceBound (P := P) (w := W) .i64 lo hi.toNat code h0 (by omega)
  simp [Instr.slice, Instr.sliceBounds, run_underlying hT, e1, e2, hs, sla, Sem.run_bind]
theorem run_slice_from {P : Program} {T E : TypeId} (hT : P.underlying T = some (.slice E)) (hE : (P.info? E).map (·.size) = some 1) (a : Option Addr) (n c : Nat) (lo : Int) (h0 : 0 ≤ lo) (h1 : lo ≤ n) (W : World) :
    (Instr.slice T (.slice a n c) (some (.int .i64 lo)) none none).run P W = .ok (.slice (sla a c lo.toNat) (n - lo.toNat) (c - lo.toNat)) W := by
  have hs : (sizeOf E).run P W = .ok 1 W := by
    cases hq : P.info? E with
    | none => simp [hq] at hE
    | some i =>
      simp [hq] at hE
      simp [sizeOf, typeInfo, hq, hE]
  have e2 : ∀ (code : BoundsCode), (Instr.sliceBound (.int .i64 lo) n code).run P W = .ok lo.toNat W := fun code => run_sliceBound (P := P) (w := W) .i64 lo n code h0 (by omega)
  simp [Instr.slice, Instr.sliceBounds, run_underlying hT, e2, hs, sla, Sem.run_bind]

theorem Bs.slice {w : World} {a : Option Addr} {n c lo hi : Nat} {l : List UInt8} (h : Bs w (.slice a n c) l) (h1 : lo ≤ hi) (h2 : hi ≤ n) : Bs w (.slice (sla a c lo) (hi - lo) (c - lo)) ((l.drop lo).take (hi - lo)) := by
  obtain ⟨a', c', e, hc, hm, h0, hs, hr⟩ := h
  injection e with e1 e2 e3
  subst e1 e2 e3
  have hlen : ((l.drop lo).take (hi - lo)).length = hi - lo := by simp; omega
  refine ⟨sla a c lo, c - lo, by rw [hlen], by omega, by omega, fun hn => ?_, fun ad hd hcn => ?_, fun i u hi' => ?_⟩
  · unfold sla at hn
    split at hn
    · omega
    · simp at hn
      have := h0 hn
      omega
  · unfold sla at hd
    split at hd
    · exact hs _ hd (by omega)
    · cases a with
      | none => simp at hd
      | some b =>
        simp at hd
        subst hd
        unfold Addr.add
        split
        · exact hs _ rfl (by omega)
        · rfl
  · rw [List.getElem?_take] at hi'
    split at hi'
    · rename_i hlt
      rw [List.getElem?_drop] at hi'
      obtain ⟨ad, rfl, hcell⟩ := hr _ _ hi'
      have hsp := hs _ rfl (by omega)
      unfold sla
      rw [if_neg (by omega)]
      refine ⟨ad.add lo, rfl, ?_⟩
      unfold Addr.add
      split
      · rename_i hz
        subst hz
        simpa using hcell
      · simpa [Nat.add_assoc] using hcell
    · cases hi'

/-- A new slice of bytes that the call owns. -/
abbrev Own8 (w : World) (base : Nat) (t : TypeId) (v : Value) (l : List UInt8) : Prop := w.ownsRow base t 1 v l.length (l.map bv)

theorem Own8.bs {w : World} {base : Nat} {t : TypeId} {v : Value} {l : List UInt8} (h : Own8 w base t v l) : Bs w v l := by
  obtain ⟨h1, h2⟩ := h
  rcases h2 with ⟨rfl, h0⟩ | ⟨g, cap, cur, rfl, _, hg, hc, hm, _, ht⟩
  · have : l = [] := List.eq_nil_of_length_eq_zero h0
    subst this
    exact Bs.nil w
  · refine Bs.mk rfl hc hm fun i u hi => ?_
    have hi' : (l.map bv)[i]? = some (bv u) := by simp [hi]
    rw [← ht, List.getElem?_take] at hi'
    split at hi'
    · simp [World.cell?, hg]
      simpa using hi'
    · cases hi'
theorem Own8.nil (w : World) (base : Nat) (t : TypeId) : Own8 w base t (.slice none 0 0) [] := World.ownsRow_nil w base t 1

theorem bv_inj {a b : UInt8} (h : bv a = bv b) : a = b := by
  simp only [bv, Value.int.injEq, true_and] at h
  exact UInt8.toNat_inj.1 (by omega)

theorem toNat_ofNat_u8 {n : Nat} (h : n < 256) : (UInt8.ofNat n).toNat = n := by simp; omega

/-- A slice that owns its whole block. -/
theorem own8_mk {w : World} {base g : Nat} {t : TypeId} {cap n : Nat} {c : Array Value} {l : List UInt8} (hb : base ≤ g) (h : Blk w g c t) (hln : l.length = n) (hn : n ≤ cap) (hm : cap ≤ maxLen) (hs : c.size = cap) (hl : ∀ (i : Nat) (u : UInt8), l[i]? = some u → c[i]? = some (bv u)) : Own8 w base t (.slice (some ⟨g, 0, none⟩) n cap) l := by
  subst hln
  refine ⟨by simp, .inr ⟨g, cap, c, rfl, hb, h, hn, hm, by omega, ?_⟩⟩
  apply List.ext_getElem?
  intro i
  rw [List.getElem?_take]
  split
  · rename_i hi
    have hi2 : i < l.length := by omega
    have := hl i _ (List.getElem?_eq_getElem hi2)
    simp only [List.getElem?_map, List.getElem?_eq_getElem hi2, Option.map_some]
    simpa using this
  · rename_i hi
    rw [List.getElem?_eq_none]
    simp only [List.length_map]
    omega
theorem Own8.mono {w : World} {base base' : Nat} {t : TypeId} {v : Value} {l : List UInt8} (h : Own8 w base t v l) (hb : base' ≤ base) : Own8 w base' t v l := by
  refine ⟨h.1, h.2.imp id ?_⟩
  rintro ⟨g, cap, cur, e, h1, r⟩
  exact ⟨g, cap, cur, e, by omega, r⟩

/-! ### append onto bytes of the call's own, whatever the source -/
theorem run_append8 {P : Program} {T E : TypeId} {i : TypeInfo} (ht : P.underlying T = some (.slice E)) (hi : P.info? E = some i) (hz : i.zero = some (.int .u8 0)) (hsz : i.size = 1) (hby : i.bytes = 1) (ty : TypeId)
    {w : World} {base : Nat} {v x : Value} {l m : List UInt8} (hown : Own8 w base E v l) (hx : Bs w x m) (hlen : l.length + m.length ≤ 140737488355328) (hbase : base ≤ w.heap.size) :
    ∃ v' w', (Builtin.append_ #[T, T] ty #[v, x]).run P w = .ok v' w' ∧ Own8 w' base E v' (l ++ m) ∧ w.grownBy w' v.ownBlock ∧ (v' = .slice none 0 0 ↔ v = .slice none 0 0 ∧ m = []) := by
  rcases hx.cases with ⟨rfl, rfl⟩ | ⟨g, o, c, rfl, hc, hm, hr⟩ | ⟨rfl, ad, rfl⟩
  · refine ⟨v, w, ?_, by simpa using hown, ⟨rfl, rfl, rfl, Nat.le_refl _, fun _ _ _ => rfl⟩, by simp⟩
    rcases hown.2 with ⟨rfl, _⟩ | ⟨g, cap, cur, rfl, _, _, hnc, _⟩
    · simp [Builtin.append_, run_underlying ht, sizeOf, typeInfo, hi, Builtin.lenOf, Builtin.firstCells]
    · simp [Builtin.append_, run_underlying ht, sizeOf, typeInfo, hi, Builtin.lenOf, Builtin.firstCells, hnc, storeCells]
  rotate_left
  · refine ⟨v, w, ?_, by simpa using hown, ⟨rfl, rfl, rfl, Nat.le_refl _, fun _ _ _ => rfl⟩, by simp⟩
    rcases hown.2 with ⟨rfl, _⟩ | ⟨g, cap, cur, rfl, _, _, hnc, _⟩
    · simp [Builtin.append_, run_underlying ht, sizeOf, typeInfo, hi, Builtin.lenOf, Builtin.firstCells, loadCells, loadCellsFrom]
    · simp [Builtin.append_, run_underlying ht, sizeOf, typeInfo, hi, Builtin.lenOf, Builtin.firstCells, hnc, storeCells, loadCells, loadCellsFrom]
  · obtain ⟨v', w', h1, h2, h3, h4⟩ := run_append_own (P := P) w base T ty E i _ 1 1 ht hi hz hsz hby rfl (by decide) v l.length (l.map bv) hown ⟨g, o, none⟩ m.length c (m.map bv) (by simp)
      (fun j u hu => by
        simp only [List.getElem?_map, Option.map_eq_some_iff] at hu
        obtain ⟨b, hb, rfl⟩ := hu
        have := hr j b hb
        unfold Addr.add
        split
        · rename_i hz
          subst hz
          simpa using this
        · exact this)
      (fun u hu => by
        simp only [List.mem_map] at hu
        obtain ⟨b, _, rfl⟩ := hu
        rfl) (by unfold maxLen; omega) (by omega) hbase
    refine ⟨v', w', h1, ?_, h3, ?_⟩
    · unfold Own8
      rw [List.map_append, List.length_append]
      exact h2
    · rw [h4]
      exact ⟨fun ⟨h, e⟩ => ⟨h, List.eq_nil_of_length_eq_zero e⟩, fun ⟨h, e⟩ => ⟨h, by rw [e]; rfl⟩⟩

theorem wpList_append8 {P : Program} {T E : TypeId} {i : TypeInfo} (ht : P.underlying T = some (.slice E)) (hi : P.info? E = some i) (hz : i.zero = some (.int .u8 0)) (hsz : i.size = 1) (hby : i.bytes = 1)
    {ops : Array Oper} {rest : List Oper} {o : Oper} {a : Act} {Q : Exit → Act → World → Prop} {w : World} (hgd : o.guard = none) (s y : Operand)
    (ho : o.op = .call { callee := .builtin .append, args := #[s, y], argTypes := #[T, T] })
    (base : Nat) {v x : Value} {l m : List UInt8} (hs : a.eval s = v) (hy : a.eval y = x) (hown : Own8 w base E v l) (hx : Bs w x m) (hlen : l.length + m.length ≤ 140737488355328) (hbase : base ≤ w.heap.size)
    (h : ∀ v' w', Own8 w' base E v' (l ++ m) → w.grownBy w' v.ownBlock → (v' = .slice none 0 0 ↔ v = .slice none 0 0 ∧ m = []) → wpList P ops Q rest (a.put o.dst v') w') : wpList P ops Q (o :: rest) a w :=
  wpList_plain hgd fun K hK => by
    obtain ⟨v', w', hr, h2, h3, h4⟩ := run_append8 (P := P) ht hi hz hsz hby o.type hown hx hlen hbase
    unfold Oper.wp execOp
    simp only [ho, resolve, invoke, builtin, Sem.run_bind, Sem.run_pure, Result.andThen_ok, List.map_toArray, List.map_cons, List.map_nil, hs, hy, hr]
    exact hK _ _ (h v' w' h2 h3 h4)

theorem Bs.form {w : World} {v : Value} {l : List UInt8} (h : Bs w v l) : ∃ a c, v = .slice a l.length c := by
  obtain ⟨a, c, e, _⟩ := h
  exact ⟨a, c, e⟩
theorem Own8.form {w : World} {base : Nat} {t : TypeId} {v : Value} {l : List UInt8} (h : Own8 w base t v l) : ∃ a c, v = .slice a l.length c := h.bs.form
theorem Own8.keep {w w' : World} {base : Nat} {t : TypeId} {v : Value} {l : List UInt8} (h : Own8 w base t v l) (hb : Below w.heap.size w w') : Own8 w' base t v l :=
  World.ownsRow.kept (row := none) h ⟨hb.os, hb.tape, hb.output, hb.size, fun k hk _ => hb.block k hk⟩ (by cases h : v.ownBlock <;> simp)
theorem Own8.ext {fp : Nat → Prop} {w w' : World} {base : Nat} {t : TypeId} {v : Value} {l : List UInt8} (h : Own8 w base t v l) (he : Ext fp w w') (hn : ∀ k, base ≤ k → ¬ fp k) : Own8 w' base t v l := by
  refine ⟨h.1, h.2.imp id ?_⟩
  rintro ⟨g, cap, cur, e, h1, h2, r⟩
  exact ⟨g, cap, cur, e, h1, (he.block g (Array.getElem?_eq_some_iff.1 h2).1 (hn g h1)).trans h2, r⟩
/-- What a slice of the call's own occupies lies from base on. -/
theorem Own8.blk {w : World} {base : Nat} {t : TypeId} {v : Value} {l : List UInt8} (h : Own8 w base t v l) : ∀ k, v.ownBlock = some k → base ≤ k ∧ k < w.heap.size := World.ownsRow.lt h
end Go.Proofs.Ytpkaepmmkojdaaa
