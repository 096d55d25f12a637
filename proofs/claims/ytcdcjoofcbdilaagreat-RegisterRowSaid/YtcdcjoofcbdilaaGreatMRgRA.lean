import Derived.Test.YtcdcjoofcbdilaaGreatMQNetP
import Derived.Test.YtcdcjoofcbdilaaGreatMDiskB
import Derived.Deep.Slices
import Derived.JoinedCond
import Derived.Test.YtcdcjoofcbdilaaGreatMRgStop
/-! Arguments, opened: ints, bytes; and what the bound of the second form gives. -/
namespace Go.Proofs.YtcdcjoofcbdilaaGreat
open Go.ChangeShapes Go.WideShapes Go.ChangeAt Go.RowKit Go.Deep

/-! ### The bound -/
section
variable {H : Type}
theorem bulk_one (d : DataW H) : 1 ≤ Rows.uptoBulk d := by
  cases d with
  | lit l => cases l <;> simp [Rows.uptoBulk]
  | nil => simp [Rows.uptoBulk]
  | ptr d => simp [Rows.uptoBulk]
  | slice elems spare => simp [Rows.uptoBulk]
  | agg parts => simp [Rows.uptoBulk]
  | iface t d => simp [Rows.uptoBulk]
  | map entries => simp [Rows.uptoBulk]
  | held h => simp [Rows.uptoBulk]
theorem bulk_part {d : DataW H} {l : List (DataW H)} (h : d ∈ l) : Rows.uptoBulk d ≤ Rows.uptoBulkAll l := by
  induction l with
  | nil => cases h
  | cons x r ih =>
    simp only [Rows.uptoBulkAll]
    cases List.mem_cons.1 h with
    | inl e => subst e; omega
    | inr e => have := ih e; omega
theorem bulk_length (l : List (DataW H)) : l.length ≤ Rows.uptoBulkAll l := by
  induction l with
  | nil => simp [Rows.uptoBulkAll]
  | cons x r ih => have := bulk_one x; simp only [Rows.uptoBulkAll, List.length_cons]; omega
theorem bulk_elems (elems spare : List (DataW H)) : Rows.uptoBulkAll elems + 1 ≤ Rows.uptoBulk (.slice elems spare) := by
  simp only [Rows.uptoBulk]; omega
set_option maxRecDepth 100000 in
theorem bulk_bound {l : List (DataW H)} (hk : Rows.uptoSmall H l = true) : Rows.uptoBulkAll l ≤ 1048576 := of_decide_eq_true hk
end

section
variable {H : Type} {enc : TypeId × Value → H} {P : Program} {W : World} {n : Nat} {held : Bool} {spare : Nat → Bool}
theorem trod_int_inv {t : TypeId} {k : IntKind} {c : Value} {x : DataW H × List MemPlace} (ht : P.underlying t = some (.int k)) (h : DataW.trod enc P W 0 spare held n t [c] = some x) : ∃ z, c = .int k z ∧ (Lit.int k z).wf = true := by
  cases n with
  | zero => simp [DataW.trod] at h
  | succ n =>
    unfold DataW.trod at h
    cases c <;> simp [ht] at h
    obtain ⟨⟨rfl, h2⟩, _⟩ := h
    exact ⟨_, rfl, h2⟩
theorem trod_bool_inv {t : TypeId} {c : Value} {x : DataW H × List MemPlace} (ht : P.underlying t = some .bool) (h : DataW.trod enc P W 0 spare held n t [c] = some x) : ∃ b, c = .bool b := by
  cases n with
  | zero => simp [DataW.trod] at h
  | succ n =>
    unfold DataW.trod at h
    cases c <;> simp [ht] at h
    exact ⟨_, rfl⟩
theorem field_at {t : TypeId} {l : List (TypeId × Nat)} (hf : (P.fieldsOf t).toList.map (fun f => (f.type, f.offset)) = l) (i : Nat) {ty off : Nat} (h : l[i]? = some (ty, off)) : ∃ f, (P.fieldsOf t)[i]? = some f ∧ f.type = ty ∧ f.offset = off := by
  rw [← hf, List.getElem?_map] at h
  obtain ⟨f, h1, h2⟩ := Option.map_eq_some_iff.1 h
  simp only [Prod.mk.injEq] at h2
  exact ⟨f, by simpa using h1, h2⟩
end

theorem cells_u8 : Tryz.prog.cellsOf 5 = 1 := by kernel_rfl
set_option maxRecDepth 100000 in
theorem wf_u8_bounds {z : Int} (h : (Lit.int .u8 z).wf = true) : 0 ≤ z ∧ z ≤ 255 := by
  have e1 : IntKind.u8.min = 0 := rfl
  have e2 : IntKind.u8.max = 255 := rfl
  simpa [Lit.wf, e1, e2] using h

section
variable {H : Type} {enc : TypeId × Value → H} {W : World} {fuel : Nat}
set_option maxRecDepth 100000 in
theorem trod_Is {v : Value} {x : DataW H × List MemPlace} {t : TypeId} (ht : Tryz.prog.underlying t = some (.slice 3)) (hf : DataW.trod enc Tryz.prog W 0 (fun _ => true) true fuel t [v] = some x) :
    ∃ l, Is W v l ∧ l.length ≤ 9223372036854775807 ∧ (∀ x ∈ l, -9223372036854775808 ≤ x ∧ x ≤ 9223372036854775807) ∧ l.length ≤ Rows.uptoBulk x.1 := by
  rcases open_ints ht Tryz.underlying3 cells_int hf with ⟨hcs, hx⟩ | ⟨a, len, cap, zs, hcs, _, hl, hm, hz, hx, hcell, hwz⟩
  · simp at hcs
    subst hcs
    exact ⟨[], ⟨none, 0, rfl, fun i x h => by simp at h⟩, by simp, (fun x h => by simp at h), by simp⟩
  · simp at hcs
    subst hcs
    simp only [if_true] at hz
    have hlen : (zs.take len).length = len := by simp; omega
    refine ⟨zs.take len, ⟨some a, cap, by rw [hlen], fun i x hi => ?_⟩, ?_, fun x hx => wf_i64_bounds (hwz x (List.mem_of_mem_take hx)), ?_⟩
    · rw [List.getElem?_take] at hi
      split at hi
      · have hlt : i < zs.length := by omega
        have hc := hcell i hlt
        have ha := add_spot (hcell 0 (by omega))
        obtain ⟨b, o, s⟩ := a
        simp only at ha
        subst ha
        rw [add_plain] at hc
        refine ⟨b, o, rfl, ?_⟩
        rw [hc, List.getD_eq_getElem?_getD, hi]
        rfl
      · cases hi
    · unfold maxLen at hm
      omega
    · rw [hx]
      have h1 := bulk_elems (lits (H := H) .i64 (zs.take len)) (lits .i64 (zs.drop len))
      have h2 := bulk_length (lits (H := H) .i64 (zs.take len))
      simp only [lits, List.length_map] at h1 h2 ⊢
      omega

set_option maxRecDepth 100000 in
theorem trod_Bs {v : Value} {x : DataW H × List MemPlace} {t : TypeId} (ht : Tryz.prog.underlying t = some (.slice 5)) (hf : DataW.trod enc Tryz.prog W 0 (fun _ => true) true fuel t [v] = some x) :
    ∃ l, BsW W v l ∧ l.length ≤ Rows.uptoBulk x.1 := by
  rcases open_ints ht Tryz.underlying5 cells_u8 hf with ⟨hcs, hx⟩ | ⟨a, len, cap, zs, hcs, _, hl, hm, hz, hx, hcell, hwz⟩
  · simp at hcs
    subst hcs
    exact ⟨[], .inl (Bs.nil W), by simp⟩
  · simp at hcs
    subst hcs
    simp only [if_true] at hz
    have hlen : ((zs.take len).map (fun z => UInt8.ofNat z.toNat)).length = len := by simp; omega
    refine ⟨(zs.take len).map (fun z => UInt8.ofNat z.toNat), ?_, ?_⟩
    · by_cases h0 : zs.length = 0
      · have e1 : cap = 0 := by omega
        have e2 : len = 0 := by omega
        subst e1 e2
        exact .inr ⟨by simp, a, rfl⟩
      · have ha := add_spot (hcell 0 (by omega))
        obtain ⟨b, o, s⟩ := a
        simp only at ha
        subst ha
        refine .inl (Bs.mk hlen hl hm ?_)
        intro i u hi
        rw [List.getElem?_map, List.getElem?_take] at hi
        split at hi
        · have hlt : i < zs.length := by omega
          have hc := hcell i hlt
          rw [add_plain, List.getD_eq_getElem?_getD, List.getElem?_eq_getElem hlt, Option.getD_some] at hc
          rw [List.getElem?_eq_getElem hlt] at hi
          simp only [Option.map_some, Option.some.injEq] at hi
          have hw := wf_u8_bounds (hwz zs[i] (by simp))
          rw [hc, ← hi]
          simp only [bv, toNat_ofNat_u8 (show zs[i].toNat < 256 by omega)]
          congr 2
          omega
        · cases hi
    · rw [hx]
      have h1 := bulk_elems (lits (H := H) .u8 (zs.take len)) (lits .u8 (zs.drop len))
      have h2 := bulk_length (lits (H := H) .u8 (zs.take len))
      simp only [lits, List.length_map] at h1 h2 ⊢
      omega
theorem cells_bool : Tryz.prog.cellsOf 4 = 1 := by kernel_rfl
theorem cells_u8s : Tryz.prog.cellsOf 30 = 1 := by kernel_rfl
theorem cells_ints : Tryz.prog.cellsOf 34 = 1 := by kernel_rfl
theorem BsW.len {w : World} {v : Value} {l : List UInt8} (h : BsW w v l) : l.length ≤ maxLen := by
  rcases h with h | ⟨rfl, _⟩
  · exact h.len
  · simp
end
theorem okWide_spot_g {P : Program} {w : World} {r : Reach} {base : Nat} {t e : TypeId} {ad : Addr} {l c : Nat} (ht : P.underlying t = some (.slice e)) (h : Value.okWide P w r base t (.slice (some ad) l c)) : ad.spot = none := by
  simp only [Value.okWide, ht, Cell.okWide, Cell.ok] at h
  exact h.2.2.2.1
theorem bs_of_g {P : Program} {w w' : World} {r : Reach} {base : Nat} {t e : TypeId} {v : Value} {l : List UInt8} (ht : P.underlying t = some (.slice e)) (h : Value.okWide P w r base t v) (hb : BsW w' v l) : Bs w' v l := by
  rcases hb with hb | ⟨rfl, ad, rfl⟩
  · exact hb
  · have := okWide_spot_g ht h
    obtain ⟨g, o, s⟩ := ad
    simp only at this
    subst this
    exact Bs.mk rfl (Nat.le_refl _) (by simp [maxLen]) (fun i u hi => by simp at hi)
end Go.Proofs.YtcdcjoofcbdilaaGreat

/-! gazettelaw09: Ops in memory; a literal's block while a region draws its order. -/
namespace Go.Proofs.YtcdcjoofcbdilaaGreat
open Go.ChangeShapes Go.WideShapes Go.ChangeAt Go.RowKit Go.Deep

structure Op9 where
  kind : Int
  key : Int
  id : Int
  n : Int
  b : List UInt8
  l : List Int
def Op9.cells (o : Op9) (bv lv : Value) : Array Value := #[.int .i64 o.kind, .int .i64 o.key, .int .i64 o.id, .int .i64 o.n, bv, lv]
def Op9At (w : World) (g f : Nat) (o : Op9) : Prop := ∃ bv lv, (∀ k v, (o.cells bv lv)[k]? = some v → w.cell? ⟨g, f + k, none⟩ = some v) ∧ BsW w bv o.b ∧ Is w lv o.l
def Ops9 (w : World) (v : Value) (l : List Op9) : Prop := ∃ a c, v = .slice a l.length c ∧ ∀ (i : Nat) o, l[i]? = some o → ∃ g f, a = some ⟨g, f, none⟩ ∧ Op9At w g (f + i * 6) o
theorem Op9At.keep {w w' : World} {g f : Nat} {o : Op9} (h : Op9At w g f o) (hb : Below w.heap.size w w') : Op9At w' g f o := by
  obtain ⟨bv, lv, h1, h2, h3⟩ := h
  exact ⟨bv, lv, fun k v hk => by rw [hb.cell (World.block_lt_of_cell? w _ (h1 k v hk))]; exact h1 k v hk, h2.keep hb, h3.keep hb⟩
theorem Op9At.open_ {w : World} {g f : Nat} {o : Op9} (h : Op9At w g f o) : w.cell? ⟨g, f, none⟩ = some (.int .i64 o.kind) ∧ w.cell? ⟨g, f + 1, none⟩ = some (.int .i64 o.key) ∧ w.cell? ⟨g, f + 2, none⟩ = some (.int .i64 o.id) ∧ w.cell? ⟨g, f + 3, none⟩ = some (.int .i64 o.n) := by
  obtain ⟨bv, lv, h1, h2, h3⟩ := h
  exact ⟨h1 0 _ rfl, h1 1 _ rfl, h1 2 _ rfl, h1 3 _ rfl⟩
instance : Inhabited Op9 := ⟨⟨0, 0, 0, 0, [], []⟩⟩
section
variable {H : Type} {enc : TypeId × Value → H} {W : World} {fuel : Nat}
theorem fields_op9 : (Tryz.prog.fieldsOf 36).toList.map (fun f => (f.type, f.offset)) = [(3, 0), (3, 1), (3, 2), (3, 3), (30, 4), (34, 5)] := by kernel_rfl
theorem under_op9 : Tryz.prog.underlying 36 = some (.struct (Tryz.prog.fieldsOf 36)) := by kernel_rfl
theorem cells_op9 : Tryz.prog.cellsOf 36 = 6 := by kernel_rfl
set_option maxRecDepth 100000 in
theorem trod_op9 {cs : List Value} {x : DataW H × List MemPlace} (hf : DataW.trod enc Tryz.prog W 0 (fun _ => true) true fuel 36 cs = some x) :
    ∃ (o : Op9) (bv lv : Value), cs.toArray = o.cells bv lv ∧ BsW W bv o.b ∧ Is W lv o.l := by
  obtain ⟨xs, n, _, hx, hl, hxl, hfs⟩ := DataW.trod_struct under_op9 hf
  rw [cells_op9] at hl
  have hxs : xs.length = 6 := by
    rw [hxl]
    have := congrArg List.length fields_op9
    simpa using this
  have key : ∀ (i : Nat) (ty off : Nat), [(3, 0), (3, 1), (3, 2), (3, 3), (30, 4), (34, 5)][i]? = some (ty, off) → DataW.trod enc Tryz.prog W 0 (fun _ => true) true n ty ((cs.drop off).take (Tryz.prog.cellsOf ty)) = xs[i]? := by
    intro i ty off hi
    obtain ⟨f, h1, rfl, rfl⟩ := field_at (P := Tryz.prog) fields_op9 i hi
    exact hfs i f h1
  match cs, hl with
  | [a0, a1, a2, a3, a4, a5], _ =>
    match xs, hxs with
    | [y0, y1, y2, y3, y4, y5], _ =>
      have k0 := key 0 _ _ rfl
      have k1 := key 1 _ _ rfl
      have k2 := key 2 _ _ rfl
      have k3 := key 3 _ _ rfl
      have k4 := key 4 _ _ rfl
      have k5 := key 5 _ _ rfl
      rw [cells_int] at k0 k1 k2 k3
      rw [cells_u8s] at k4
      rw [cells_ints] at k5
      obtain ⟨z0, rfl, w0⟩ := trod_int_inv Tryz.underlying3 k0
      obtain ⟨z1, rfl, w1⟩ := trod_int_inv Tryz.underlying3 k1
      obtain ⟨z2, rfl, w2⟩ := trod_int_inv Tryz.underlying3 k2
      obtain ⟨z3, rfl, w3⟩ := trod_int_inv Tryz.underlying3 k3
      obtain ⟨l4, h4, n4⟩ := trod_Bs Tryz.underlying30 k4
      obtain ⟨l5, h5, _, _, n5⟩ := trod_Is Tryz.underlying34 k5
      exact ⟨⟨z0, z1, z2, z3, l4, l5⟩, a4, a5, rfl, h4, h5⟩

set_option maxRecDepth 100000 in
theorem open_Ops9 {v : Value} {d : DataW H} {p : List MemPlace} (hval : Value.okWide Tryz.prog W .any 0 22 v) (h : DataW.Trod enc Tryz.prog W 0 (fun _ => true) true 22 v d p) :
    ∃ l, Ops9 W v l ∧ l.length ≤ 9223372036854775807 := by
  obtain ⟨a0, len0, cap0, rfl⟩ := okWide_slice Tryz.underlying22 hval
  obtain ⟨fuel, hf⟩ := h
  rcases open_slice Tryz.underlying22 hf with ⟨hcs, hx⟩ | ⟨a, len, cap, m, n, D, Pl, hcs, _, hl, hm, hmm, hx, hel⟩
  · simp [Value.cells] at hcs
    obtain ⟨rfl, rfl, rfl⟩ := hcs
    exact ⟨[], ⟨none, 0, rfl, fun i o h => by simp at h⟩, by simp⟩
  · simp [Value.cells] at hcs
    obtain ⟨rfl, rfl, rfl⟩ := hcs
    simp only [if_true] at hmm
    subst hmm
    have hex : ∀ i, i < len0 → ∃ o : Op9, True ∧ ∃ g f, a = ⟨g, f, none⟩ ∧ Op9At W g (f + i * 6) o := by
      intro i hi
      obtain ⟨cs, h1, h2⟩ := hel i (by omega)
      obtain ⟨o, bv, lv, hcs, hb, hi'⟩ := trod_op9 h2
      rw [cells_op9] at h1
      obtain ⟨_, hlen, hcell⟩ := World.cells?_some h1
      have hsp : a.spot = none := by
        obtain ⟨cs0, h10, h20⟩ := hel 0 (by omega)
        rw [cells_op9] at h10
        obtain ⟨_, hlen0, hcell0⟩ := World.cells?_some h10
        have := hcell0 0 (by omega)
        rw [List.getElem?_eq_getElem (by omega)] at this
        have := World.cell?_spot this
        simpa [Addr.add] using this
      obtain ⟨g, f, s⟩ := a
      simp only at hsp
      subst hsp
      refine ⟨o, trivial, g, f, rfl, bv, lv, fun k v hk => ?_, hb, hi'⟩
      have hk8 : k < 6 := by
        rw [← hcs] at hk
        have := (Array.getElem?_eq_some_iff.1 hk).1
        simp at this
        omega
      have := hcell k hk8
      rw [add_plain, add_plain] at this
      rw [this, ← hk, ← hcs]
      simp
    obtain ⟨F, hF⟩ := choose_lt (α := Op9) hex
    refine ⟨(List.range len0).map F, ⟨some a, m, by simp, fun i o hi => ?_⟩, ?_⟩
    · rw [List.getElem?_map] at hi
      by_cases hlt : i < len0
      · rw [List.getElem?_range hlt] at hi
        simp only [Option.map_some, Option.some.injEq] at hi
        subst hi
        obtain ⟨_, g, f, e, hop⟩ := hF i hlt
        exact ⟨g, f, by rw [e], hop⟩
      · rw [List.getElem?_eq_none (by simp; omega)] at hi
        cases hi
    · unfold maxLen at hm
      simp
      omega
end

/-- A literal's block of one byte, marked or not. -/
def LitB (w : World) (c : Int) (g : Nat) : Prop := ∃ m, w.heap[g]? = some (.cells #[.int .u8 c] 5 m)
structure GrowL (n0 : Nat) (c : Int) (x y : World) : Prop where
  below : Below n0 x y
  lit : ∀ g, LitB x c g → LitB y c g
theorem GrowL.refl (n0 : Nat) (c : Int) (x : World) : GrowL n0 c x x := ⟨Below.refl _ _, fun _ h => h⟩
theorem GrowL.trans {n0 : Nat} {c : Int} {x y z : World} (h : GrowL n0 c x y) (k : GrowL n0 c y z) : GrowL n0 c x z := ⟨h.below.trans k.below, fun g hg => k.lit g (h.lit g hg)⟩
theorem GrowL.alloc {n0 : Nat} {c : Int} {x : World} (h : n0 ≤ x.heap.size) (o : Obj) : GrowL n0 c x (x.alloc o) := by
  have hb : Below x.heap.size x (x.alloc o) := (Below.refl _ _).alloc (Nat.le_refl _) o
  refine ⟨hb.mono h, fun g hg => ?_⟩
  obtain ⟨m, hm⟩ := hg
  exact ⟨m, (hb.block g (Array.getElem?_eq_some_iff.1 hm).1).trans hm⟩
theorem LitB.new (x : World) (c : Int) : LitB (x.alloc (.cells #[.int .u8 c] 5)) c x.heap.size := ⟨_, Blk.new x _ _⟩
theorem LitB.lt {x : World} {c : Int} {g : Nat} (h : LitB x c g) : g < x.heap.size := by
  obtain ⟨m, hm⟩ := h
  exact (Array.getElem?_eq_some_iff.1 hm).1
theorem LitB.bs {x : World} {c : Int} {g : Nat} (h : LitB x c g) (u : UInt8) (hu : c = (u.toNat : Int)) : Bs x (.slice (some ⟨g, 0, none⟩) 1 1) [u] := by
  obtain ⟨m, hm⟩ := h
  refine Bs.mk rfl (Nat.le_refl _) (by simp [maxLen]) (fun i y hi => ?_)
  match i, hi with
  | 0, hi =>
    simp at hi
    subst hi
    simp [World.cell?, hm, hu]
theorem LitB.conv {x : World} {c : Int} {g n0 : Nat} (h : LitB x c g) (hn : n0 ≤ g) : ∃ x', (convert 30 30 (.slice (some ⟨g, 0, none⟩) 1 1)).run Tryz.prog x = .ok (.slice (some ⟨g, 0, none⟩) 1 1) x' ∧ GrowL n0 c x x' := by
  obtain ⟨m, hm⟩ := h
  refine ⟨x.freeze ⟨g, 1, none⟩ 1, ?_, Lib.below_freeze (Below.refl _ _) hn 1, fun k hk => ?_⟩
  · simp [convert, run_underlying Tryz.underlying30, run_underlying Tryz.underlying5, Sem.run_bind, markStringish, World.shape?, hm]
  · obtain ⟨m2, hm2⟩ := hk
    unfold LitB
    by_cases hkg : g = k
    · subst hkg
      obtain ⟨lo, hi⟩ := m2
      exact ⟨(if lo == hi then (1, 1 + 1) else (min lo 1, max hi (1 + 1))), by simp [World.freeze, Array.getElem?_modify, hm2]⟩
    · exact ⟨m2, by simp [World.freeze, Array.getElem?_modify, hkg, hm2]⟩
theorem modk_wrap (x : Int) (k : Int) (hk : 0 < k) (h9 : k ≤ 100) : wrap64 (x.tmod k + k) = x.tmod k + k ∧ 0 ≤ (x.tmod k + k).tmod k ∧ (x.tmod k + k).tmod k < k := by
  have h1 := Int.lt_tmod_of_pos x hk
  have h2 := Int.tmod_lt_of_pos x hk
  refine ⟨?_, Int.tmod_nonneg k (by omega), Int.tmod_lt_of_pos _ hk⟩
  generalize x.tmod k = t at *
  unfold wrap64
  omega
end Go.Proofs.YtcdcjoofcbdilaaGreat

/-! gazettelaw09.RegisterRow: its words. -/
namespace Go.Proofs.YtcdcjoofcbdilaaGreat
open Go.ChangeShapes Go.WideShapes Go.ChangeAt Go.RowKit Go.Deep

theorem BsW.bs' {w : World} {v : Value} {l : List UInt8} (h : BsW w v l) : Bs w v l := by
  rcases h with h | ⟨rfl, ad, rfl⟩
  · exact h
  · exact ⟨some ad, 0, rfl, Nat.le_refl _, Nat.zero_le _, (fun h => by cases h), (fun _ _ hc => absurd rfl hc), fun i u hi => by simp at hi⟩
theorem Bs.obk_lt {w : World} {v : Value} {l : List UInt8} (h : Bs w v l) {g : Nat} (hg : obk v = some g) : g < w.heap.size := by
  obtain ⟨a, c, rfl, hc, hm, h0, hs, hr⟩ := h
  cases l with
  | nil =>
    cases a with
    | none => cases hg
    | some ad => cases hg
  | cons x l =>
    obtain ⟨ad, rfl, hcell⟩ := hr 0 x rfl
    have := obk_own hg
    cases this
    exact World.block_lt_of_cell? w ⟨ad.block, ad.off + 0, none⟩ hcell
theorem Bs.cut {w : World} {a : Option Addr} {c k : Nat} {l : List UInt8} (h : Bs w (.slice a l.length c) l) (hk : k ≤ l.length) : k ≤ c ∧ Bs w (.slice a k c) (l.take k) := by
  obtain ⟨a', c', e, hc, hm, h0, hs, hr⟩ := h
  injection e with e1 e2 e3
  subst e1 e3
  have hl : (l.take k).length = k := by simp; omega
  exact ⟨by omega, a, c, by rw [hl], by omega, hm, h0, hs, fun i u hi => hr i u (by rw [List.getElem?_take] at hi; split at hi; exact hi; cases hi)⟩
/-- Rows of bytes. -/
def Bss (w : World) (v : Value) (ls : List (List UInt8)) : Prop := ∃ a c, v = .slice a ls.length c ∧ ∀ (i : Nat) l, ls[i]? = some l → ∃ g f b, a = some ⟨g, f, none⟩ ∧ w.cell? ⟨g, f + i, none⟩ = some b ∧ Bs w b l
section
variable {H : Type} {enc : TypeId × Value → H} {W : World} {fuel : Nat}
instance : Inhabited (List UInt8) := ⟨[]⟩
set_option maxRecDepth 100000 in
theorem open_Bss {v : Value} {d : DataW H} {p : List MemPlace} (hval : Value.okWide Tryz.prog W .any 0 40 v) (h : DataW.Trod enc Tryz.prog W 0 (fun _ => true) true 40 v d p) :
    ∃ l, Bss W v l ∧ l.length ≤ 9223372036854775807 := by
  obtain ⟨a0, len0, cap0, rfl⟩ := okWide_slice Tryz.underlying40 hval
  obtain ⟨fuel, hf⟩ := h
  rcases open_slice Tryz.underlying40 hf with ⟨hcs, hx⟩ | ⟨a, len, cap, m, n, D, Pl, hcs, _, hl, hm, hmm, hx, hel⟩
  · simp [Value.cells] at hcs
    obtain ⟨rfl, rfl, rfl⟩ := hcs
    exact ⟨[], ⟨none, 0, rfl, fun i o h => by simp at h⟩, by simp⟩
  · simp [Value.cells] at hcs
    obtain ⟨rfl, rfl, rfl⟩ := hcs
    simp only [if_true] at hmm
    subst hmm
    have hex : ∀ i, i < len0 → ∃ l : List UInt8, True ∧ ∃ g f b, a = ⟨g, f, none⟩ ∧ W.cell? ⟨g, f + i, none⟩ = some b ∧ Bs W b l := by
      intro i hi
      obtain ⟨cs, h1, h2⟩ := hel i (by omega)
      rw [cells_u8s] at h1
      obtain ⟨_, hlen, hcell⟩ := World.cells?_some h1
      obtain ⟨b, rfl⟩ : ∃ b, cs = [b] := by
        match cs, hlen with
        | [b], _ => exact ⟨b, rfl⟩
      obtain ⟨l, hl2, _⟩ := trod_Bs Tryz.underlying30 h2
      have hsp : a.spot = none := by
        obtain ⟨cs0, h10, h20⟩ := hel 0 (by omega)
        rw [cells_u8s] at h10
        obtain ⟨_, hlen0, hcell0⟩ := World.cells?_some h10
        have := hcell0 0 (by omega)
        rw [List.getElem?_eq_getElem (by omega)] at this
        have := World.cell?_spot this
        simpa [Addr.add] using this
      obtain ⟨g, f, s⟩ := a
      simp only at hsp
      subst hsp
      refine ⟨l, trivial, g, f, b, rfl, ?_, hl2.bs'⟩
      have := hcell 0 (by omega)
      rw [add_plain, add_plain] at this
      simpa using this
    obtain ⟨F, hF⟩ := choose_lt (α := List UInt8) hex
    refine ⟨(List.range len0).map F, ⟨some a, m, by simp, fun i o hi => ?_⟩, ?_⟩
    · rw [List.getElem?_map] at hi
      by_cases hlt : i < len0
      · rw [List.getElem?_range hlt] at hi
        simp only [Option.map_some, Option.some.injEq] at hi
        subst hi
        obtain ⟨_, g, f, b, e, hop⟩ := hF i hlt
        exact ⟨g, f, b, by rw [e], hop⟩
      · rw [List.getElem?_eq_none (by simp; omega)] at hi
        cases hi
    · unfold maxLen at hm
      simp
      omega
end
/-- A literal byte row, marked behind its end. -/
theorem litN_bs {W W' : World} (l : List UInt8) (n : Nat) (hn : l.length = n) (hm : n ≤ maxLen) (h : (W.alloc (.cells (l.map bv).toArray 5)).freeze ⟨W.heap.size, n, none⟩ 1 = W') : Bs W' (.slice (some ⟨W.heap.size, 0, none⟩) n n) l := by
  rw [← h]
  refine Bs.mk hn (Nat.le_refl _) hm (fun i y hi => ?_)
  have hb := Blk.new W (l.map bv).toArray 5
  unfold Blk at hb
  generalize W.alloc (.cells (l.map bv).toArray 5) = V at hb ⊢
  generalize W.heap.size = g at hb ⊢
  simp [World.cell?, World.freeze, Array.getElem?_modify, hb, hi]
theorem litN_below {W W' : World} {c : Array Value} {n : Nat} (h : (W.alloc (.cells c 5)).freeze ⟨W.heap.size, n, none⟩ 1 = W') : Below W.heap.size W W' := by
  rw [← h]
  exact Lib.below_freeze ((Below.refl _ W).alloc (Nat.le_refl _) _) (Nat.le_refl _) 1
theorem litN_lt {W W' : World} {c : Array Value} {n : Nat} (h : (W.alloc (.cells c 5)).freeze ⟨W.heap.size, n, none⟩ 1 = W') : W.heap.size < W'.heap.size := by
  rw [← h]
  simp [World.freeze]
theorem litN_conv {W W' : World} {c : Array Value} {n : Nat} (hn : c.size = n) (h : (W.alloc (.cells c 5)).freeze ⟨W.heap.size, n, none⟩ 1 = W') : (convert 30 30 (.slice (some ⟨W.heap.size, 0, none⟩) n n)).run Tryz.prog (W.alloc (.cells c 5)) = .ok (.slice (some ⟨W.heap.size, 0, none⟩) n n) W' := by
  have hb := Blk.new W c 5
  unfold Blk at hb
  rw [← h]
  clear h
  generalize W.alloc (.cells c 5) = V at hb ⊢
  generalize W.heap.size = g at hb ⊢
  simp [convert, run_underlying Tryz.underlying30, run_underlying Tryz.underlying5, Sem.run_bind, markStringish, World.shape?, hb, hn]
theorem mod7_nums (x : Int) : ∃ n : Nat, 1 ≤ n ∧ n ≤ 7 ∧ wrap64 (x.tmod 7 + 7) = x.tmod 7 + 7 ∧ wrap64 (1 + (x.tmod 7 + 7).tmod 7) = (n : Int) := by
  have h1 := Int.lt_tmod_of_pos x (show (0 : Int) < 7 by omega)
  have h2 := Int.tmod_lt_of_pos x (show (0 : Int) < 7 by omega)
  have hb : 0 ≤ (x.tmod 7 + 7).tmod 7 ∧ (x.tmod 7 + 7).tmod 7 < 7 := ⟨Int.tmod_nonneg 7 (by omega), Int.tmod_lt_of_pos _ (by omega)⟩
  refine ⟨(1 + (x.tmod 7 + 7).tmod 7).toNat, by omega, by omega, ?_, ?_⟩
  · generalize x.tmod 7 = t at *
    unfold wrap64
    omega
  · generalize (x.tmod 7 + 7).tmod 7 = t at *
    unfold wrap64
    omega
/-- How many are stopped. -/
theorem down_nums (x : Int) (n : Nat) (h1 : 1 ≤ n) (h7 : n ≤ 7) : ∃ h d : Nat, d ≤ h ∧ n / 2 + 1 ≤ n - d ∧ d ≤ n ∧ h ≤ 3 ∧ ((n : Int) - 1).tdiv 2 = (h : Int) ∧ wrap64 (x.tmod ((h : Int) + 1) + (h : Int)) = x.tmod ((h : Int) + 1) + (h : Int) ∧
    wrap64 (x.tmod ((h : Int) + 1) + (h : Int) + 1) = x.tmod ((h : Int) + 1) + (h : Int) + 1 ∧ (x.tmod ((h : Int) + 1) + (h : Int) + 1).tmod ((h : Int) + 1) = (d : Int) := by
  have hh : ((n : Int) - 1).tdiv 2 = (((n - 1) / 2 : Nat) : Int) := by
    rw [Int.tdiv_eq_ediv_of_nonneg (by omega)]
    omega
  obtain ⟨h, hh2⟩ : ∃ h, (n - 1) / 2 = h := ⟨_, rfl⟩
  have hb1 : h ≤ 3 := by omega
  have hb2 : n / 2 + 1 + h ≤ n := by omega
  rw [hh2] at hh
  have h1' := Int.lt_tmod_of_pos x (show (0 : Int) < (h : Int) + 1 by omega)
  have h2' := Int.tmod_lt_of_pos x (show (0 : Int) < (h : Int) + 1 by omega)
  have hb : 0 ≤ (x.tmod ((h : Int) + 1) + (h : Int) + 1).tmod ((h : Int) + 1) ∧ (x.tmod ((h : Int) + 1) + (h : Int) + 1).tmod ((h : Int) + 1) < (h : Int) + 1 := ⟨Int.tmod_nonneg _ (by omega), Int.tmod_lt_of_pos _ (by omega)⟩
  refine ⟨h, ((x.tmod ((h : Int) + 1) + (h : Int) + 1).tmod ((h : Int) + 1)).toNat, ?_, ?_, ?_, hb1, hh, ?_, ?_, ?_⟩
  · generalize (x.tmod ((h : Int) + 1) + (h : Int) + 1).tmod ((h : Int) + 1) = t at *
    omega
  · generalize (x.tmod ((h : Int) + 1) + (h : Int) + 1).tmod ((h : Int) + 1) = t at *
    omega
  · generalize (x.tmod ((h : Int) + 1) + (h : Int) + 1).tmod ((h : Int) + 1) = t at *
    omega
  · generalize x.tmod ((h : Int) + 1) = t at *
    unfold wrap64
    omega
  · generalize x.tmod ((h : Int) + 1) = t at *
    unfold wrap64
    omega
  · omega
end Go.Proofs.YtcdcjoofcbdilaaGreat
