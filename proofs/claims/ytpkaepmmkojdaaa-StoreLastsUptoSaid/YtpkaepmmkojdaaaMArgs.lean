import Derived.Test.YtpkaepmmkojdaaaMSrt
import Derived.Test.YtpkaepmmkojdaaaMCallB
import Derived.Deep.Slices
import Derived.JoinedCond
import Derived.Test.YtpkaepmmkojdaaaMEql
/-! Arguments, opened: ints, bytes; and what the bound of the second form gives. -/
namespace Go.Proofs.Ytpkaepmmkojdaaa
open Go.ChangeShapes Go.WideShapes Go.ChangeAt Go.RowKit Go.Deep

/-! ### The bound -/
section
variable {H : Type}
theorem bulk_one (d : DataW H) : 1 ≤ Rows.uptoBulk d := by
  cases d with
  | lit l => cases l <;> simp [Rows.uptoBulk]
  | nil => simp [Rows.uptoBulk]
  | ptr d => simp [Rows.uptoBulk]
  | slice elems spare => simp [Rows.uptoBulk]
  | agg parts => simp [Rows.uptoBulk]
  | iface t d => simp [Rows.uptoBulk]
  | map entries => simp [Rows.uptoBulk]
  | held h => simp [Rows.uptoBulk]
theorem bulk_part {d : DataW H} {l : List (DataW H)} (h : d ∈ l) : Rows.uptoBulk d ≤ Rows.uptoBulkAll l := by
  induction l with
  | nil => cases h
  | cons x r ih =>
    simp only [Rows.uptoBulkAll]
    cases List.mem_cons.1 h with
    | inl e => subst e; omega
    | inr e => have := ih e; omega
theorem bulk_length (l : List (DataW H)) : l.length ≤ Rows.uptoBulkAll l := by
  induction l with
  | nil => simp [Rows.uptoBulkAll]
  | cons x r ih => have := bulk_one x; simp only [Rows.uptoBulkAll, List.length_cons]; omega
theorem bulk_elems (elems spare : List (DataW H)) : Rows.uptoBulkAll elems + 1 ≤ Rows.uptoBulk (.slice elems spare) := by
  simp only [Rows.uptoBulk]; omega
set_option maxRecDepth 100000 in
theorem bulk_bound {l : List (DataW H)} (hk : Rows.uptoSmall H l = true) : Rows.uptoBulkAll l ≤ 1048576 := of_decide_eq_true hk
end

section
variable {H : Type} {enc : TypeId × Value → H} {P : Program} {W : World} {n : Nat} {held : Bool} {spare : Nat → Bool}
theorem trod_int_inv {t : TypeId} {k : IntKind} {c : Value} {x : DataW H × List MemPlace} (ht : P.underlying t = some (.int k)) (h : DataW.trod enc P W 0 spare held n t [c] = some x) : ∃ z, c = .int k z ∧ (Lit.int k z).wf = true := by
  cases n with
  | zero => simp [DataW.trod] at h
  | succ n =>
    unfold DataW.trod at h
    cases c <;> simp [ht] at h
    obtain ⟨⟨rfl, h2⟩, _⟩ := h
    exact ⟨_, rfl, h2⟩
theorem trod_bool_inv {t : TypeId} {c : Value} {x : DataW H × List MemPlace} (ht : P.underlying t = some .bool) (h : DataW.trod enc P W 0 spare held n t [c] = some x) : ∃ b, c = .bool b := by
  cases n with
  | zero => simp [DataW.trod] at h
  | succ n =>
    unfold DataW.trod at h
    cases c <;> simp [ht] at h
    exact ⟨_, rfl⟩
theorem field_at {t : TypeId} {l : List (TypeId × Nat)} (hf : (P.fieldsOf t).toList.map (fun f => (f.type, f.offset)) = l) (i : Nat) {ty off : Nat} (h : l[i]? = some (ty, off)) : ∃ f, (P.fieldsOf t)[i]? = some f ∧ f.type = ty ∧ f.offset = off := by
  rw [← hf, List.getElem?_map] at h
  obtain ⟨f, h1, h2⟩ := Option.map_eq_some_iff.1 h
  simp only [Prod.mk.injEq] at h2
  exact ⟨f, by simpa using h1, h2⟩
end

theorem cells_u8 : Try.prog.cellsOf 5 = 1 := by kernel_rfl
set_option maxRecDepth 100000 in
theorem wf_u8_bounds {z : Int} (h : (Lit.int .u8 z).wf = true) : 0 ≤ z ∧ z ≤ 255 := by
  have e1 : IntKind.u8.min = 0 := rfl
  have e2 : IntKind.u8.max = 255 := rfl
  simpa [Lit.wf, e1, e2] using h

section
variable {H : Type} {enc : TypeId × Value → H} {W : World} {fuel : Nat}
set_option maxRecDepth 100000 in
theorem trod_Is {v : Value} {x : DataW H × List MemPlace} {t : TypeId} (ht : Try.prog.underlying t = some (.slice 3)) (hf : DataW.trod enc Try.prog W 0 (fun _ => true) true fuel t [v] = some x) :
    ∃ l, Is W v l ∧ l.length ≤ 9223372036854775807 ∧ (∀ x ∈ l, -9223372036854775808 ≤ x ∧ x ≤ 9223372036854775807) ∧ l.length ≤ Rows.uptoBulk x.1 := by
  rcases open_ints ht Try.underlying3 cells_int hf with ⟨hcs, hx⟩ | ⟨a, len, cap, zs, hcs, _, hl, hm, hz, hx, hcell, hwz⟩
  · simp at hcs
    subst hcs
    exact ⟨[], ⟨none, 0, rfl, fun i x h => by simp at h⟩, by simp, (fun x h => by simp at h), by simp⟩
  · simp at hcs
    subst hcs
    simp only [if_true] at hz
    have hlen : (zs.take len).length = len := by simp; omega
    refine ⟨zs.take len, ⟨some a, cap, by rw [hlen], fun i x hi => ?_⟩, ?_, fun x hx => wf_i64_bounds (hwz x (List.mem_of_mem_take hx)), ?_⟩
    · rw [List.getElem?_take] at hi
      split at hi
      · have hlt : i < zs.length := by omega
        have hc := hcell i hlt
        have ha := add_spot (hcell 0 (by omega))
        obtain ⟨b, o, s⟩ := a
        simp only at ha
        subst ha
        rw [add_plain] at hc
        refine ⟨b, o, rfl, ?_⟩
        rw [hc, List.getD_eq_getElem?_getD, hi]
        rfl
      · cases hi
    · unfold maxLen at hm
      omega
    · rw [hx]
      have h1 := bulk_elems (lits (H := H) .i64 (zs.take len)) (lits .i64 (zs.drop len))
      have h2 := bulk_length (lits (H := H) .i64 (zs.take len))
      simp only [lits, List.length_map] at h1 h2 ⊢
      omega

set_option maxRecDepth 100000 in
theorem trod_Bs {v : Value} {x : DataW H × List MemPlace} {t : TypeId} (ht : Try.prog.underlying t = some (.slice 5)) (hf : DataW.trod enc Try.prog W 0 (fun _ => true) true fuel t [v] = some x) :
    ∃ l, BsW W v l ∧ l.length ≤ Rows.uptoBulk x.1 := by
  rcases open_ints ht Try.underlying5 cells_u8 hf with ⟨hcs, hx⟩ | ⟨a, len, cap, zs, hcs, _, hl, hm, hz, hx, hcell, hwz⟩
  · simp at hcs
    subst hcs
    exact ⟨[], .inl (Bs.nil W), by simp⟩
  · simp at hcs
    subst hcs
    simp only [if_true] at hz
    have hlen : ((zs.take len).map (fun z => UInt8.ofNat z.toNat)).length = len := by simp; omega
    refine ⟨(zs.take len).map (fun z => UInt8.ofNat z.toNat), ?_, ?_⟩
    · by_cases h0 : zs.length = 0
      · have e1 : cap = 0 := by omega
        have e2 : len = 0 := by omega
        subst e1 e2
        exact .inr ⟨by simp, a, rfl⟩
      · have ha := add_spot (hcell 0 (by omega))
        obtain ⟨b, o, s⟩ := a
        simp only at ha
        subst ha
        refine .inl (Bs.mk hlen hl hm ?_)
        intro i u hi
        rw [List.getElem?_map, List.getElem?_take] at hi
        split at hi
        · have hlt : i < zs.length := by omega
          have hc := hcell i hlt
          rw [add_plain, List.getD_eq_getElem?_getD, List.getElem?_eq_getElem hlt, Option.getD_some] at hc
          rw [List.getElem?_eq_getElem hlt] at hi
          simp only [Option.map_some, Option.some.injEq] at hi
          have hw := wf_u8_bounds (hwz zs[i] (by simp))
          rw [hc, ← hi]
          simp only [bv, toNat_ofNat_u8 (show zs[i].toNat < 256 by omega)]
          congr 2
          omega
        · cases hi
    · rw [hx]
      have h1 := bulk_elems (lits (H := H) .u8 (zs.take len)) (lits .u8 (zs.drop len))
      have h2 := bulk_length (lits (H := H) .u8 (zs.take len))
      simp only [lits, List.length_map] at h1 h2 ⊢
      omega
theorem cells_bool : Try.prog.cellsOf 4 = 1 := by kernel_rfl
theorem cells_u8s : Try.prog.cellsOf 40 = 1 := by kernel_rfl
theorem cells_ints : Try.prog.cellsOf 41 = 1 := by kernel_rfl
theorem BsW.len {w : World} {v : Value} {l : List UInt8} (h : BsW w v l) : l.length ≤ maxLen := by
  rcases h with h | ⟨rfl, _⟩
  · exact h.len
  · simp
end
theorem okWide_spot_g {P : Program} {w : World} {r : Reach} {base : Nat} {t e : TypeId} {ad : Addr} {l c : Nat} (ht : P.underlying t = some (.slice e)) (h : Value.okWide P w r base t (.slice (some ad) l c)) : ad.spot = none := by
  simp only [Value.okWide, ht, Cell.okWide, Cell.ok] at h
  exact h.2.2.2.1
theorem bs_of_g {P : Program} {w w' : World} {r : Reach} {base : Nat} {t e : TypeId} {v : Value} {l : List UInt8} (ht : P.underlying t = some (.slice e)) (h : Value.okWide P w r base t v) (hb : BsW w' v l) : Bs w' v l := by
  rcases hb with hb | ⟨rfl, ad, rfl⟩
  · exact hb
  · have := okWide_spot_g ht h
    obtain ⟨g, o, s⟩ := ad
    simp only at this
    subst this
    exact Bs.mk rfl (Nat.le_refl _) (by simp [maxLen]) (fun i u hi => by simp at hi)
end Go.Proofs.Ytpkaepmmkojdaaa

/-! Arguments, opened: Ops; and what the bound of the second form gives. -/
namespace Go.Proofs.Ytpkaepmmkojdaaa
open Go.ChangeShapes Go.WideShapes Go.ChangeAt Go.RowKit Go.Deep

instance : Inhabited Opr := ⟨⟨0, 0, 0, 0, false, [], 0, []⟩⟩
section
variable {H : Type} {enc : TypeId × Value → H} {W : World} {fuel : Nat}
theorem fields_op : (Try.prog.fieldsOf 43).toList.map (fun f => (f.type, f.offset)) = [(3, 0), (3, 1), (3, 2), (3, 3), (4, 4), (40, 5), (3, 6), (41, 7)] := by kernel_rfl
theorem under_op : Try.prog.underlying 43 = some (.struct (Try.prog.fieldsOf 43)) := by kernel_rfl
theorem cells_op : Try.prog.cellsOf 43 = 8 := by kernel_rfl

set_option maxRecDepth 100000 in
theorem trod_op {cs : List Value} {x : DataW H × List MemPlace} (hf : DataW.trod enc Try.prog W 0 (fun _ => true) true fuel 43 cs = some x) (hk : Rows.uptoBulk x.1 ≤ 1048576) :
    ∃ (o : Opr) (bv lv : Value), cs.toArray = o.cells bv lv ∧ BsW W bv o.b ∧ Is W lv o.l ∧ OprOk o := by
  obtain ⟨xs, n, _, hx, hl, hxl, hfs⟩ := DataW.trod_struct under_op hf
  rw [cells_op] at hl
  have hxs : xs.length = 8 := by
    rw [hxl]
    have := congrArg List.length fields_op
    simpa using this
  have key : ∀ (i : Nat) (ty off : Nat), [(3, 0), (3, 1), (3, 2), (3, 3), (4, 4), (40, 5), (3, 6), (41, 7)][i]? = some (ty, off) → DataW.trod enc Try.prog W 0 (fun _ => true) true n ty ((cs.drop off).take (Try.prog.cellsOf ty)) = xs[i]? := by
    intro i ty off hi
    obtain ⟨f, h1, rfl, rfl⟩ := field_at (P := Try.prog) fields_op i hi
    exact hfs i f h1
  match cs, hl with
  | [a0, a1, a2, a3, a4, a5, a6, a7], _ =>
    match xs, hxs with
    | [y0, y1, y2, y3, y4, y5, y6, y7], _ =>
      have k0 := key 0 _ _ rfl
      have k1 := key 1 _ _ rfl
      have k2 := key 2 _ _ rfl
      have k3 := key 3 _ _ rfl
      have k4 := key 4 _ _ rfl
      have k5 := key 5 _ _ rfl
      have k6 := key 6 _ _ rfl
      have k7 := key 7 _ _ rfl
      rw [cells_int] at k0 k1 k2 k3 k6
      rw [cells_bool] at k4
      rw [cells_u8s] at k5
      rw [cells_ints] at k7
      obtain ⟨z0, rfl, w0⟩ := trod_int_inv Try.underlying3 k0
      obtain ⟨z1, rfl, w1⟩ := trod_int_inv Try.underlying3 k1
      obtain ⟨z2, rfl, w2⟩ := trod_int_inv Try.underlying3 k2
      obtain ⟨z3, rfl, w3⟩ := trod_int_inv Try.underlying3 k3
      obtain ⟨b4, rfl⟩ := trod_bool_inv Try.underlying4 k4
      obtain ⟨l5, h5, n5⟩ := trod_Bs Try.underlying40 k5
      obtain ⟨z6, rfl, w6⟩ := trod_int_inv Try.underlying3 k6
      obtain ⟨l7, h7, _, _, n7⟩ := trod_Is Try.underlying41 k7
      refine ⟨⟨z0, z1, z2, z3, b4, l5, z6, l7⟩, a5, a7, rfl, h5, h7, ⟨wf_i64_bounds w0, wf_i64_bounds w1, wf_i64_bounds w2, wf_i64_bounds w3, wf_i64_bounds w6, ?_, ?_⟩⟩
      all_goals rw [hx] at hk
      · have h1 : Rows.uptoBulk y5.1 ≤ Rows.uptoBulkAll ([y0, y1, y2, y3, y4, y5, y6, y7].map (·.1)) := bulk_part (List.mem_map.2 ⟨y5, by simp, rfl⟩)
        simp only [Rows.uptoBulk] at hk
        show l5.length ≤ 1073741824
        omega
      · have h1 : Rows.uptoBulk y7.1 ≤ Rows.uptoBulkAll ([y0, y1, y2, y3, y4, y5, y6, y7].map (·.1)) := bulk_part (List.mem_map.2 ⟨y7, by simp, rfl⟩)
        simp only [Rows.uptoBulk] at hk
        show l7.length ≤ 1073741824
        omega

set_option maxRecDepth 100000 in
theorem open_Ops {v : Value} {d : DataW H} {p : List MemPlace} (hval : Value.okWide Try.prog W .any 0 22 v) (h : DataW.Trod enc Try.prog W 0 (fun _ => true) true 22 v d p) (hk : Rows.uptoBulk d ≤ 1048576) :
    ∃ l, Ops W v l ∧ l.length ≤ 9223372036854775807 ∧ ∀ o ∈ l, OprOk o := by
  obtain ⟨a0, len0, cap0, rfl⟩ := okWide_slice Try.underlying22 hval
  obtain ⟨fuel, hf⟩ := h
  rcases open_slice Try.underlying22 hf with ⟨hcs, hx⟩ | ⟨a, len, cap, m, n, D, Pl, hcs, _, hl, hm, hmm, hx, hel⟩
  · simp [Value.cells] at hcs
    obtain ⟨rfl, rfl, rfl⟩ := hcs
    exact ⟨[], ⟨none, 0, rfl, fun i o h => by simp at h⟩, by simp, fun o h => by simp at h⟩
  · simp [Value.cells] at hcs
    obtain ⟨rfl, rfl, rfl⟩ := hcs
    simp only [if_true] at hmm
    subst hmm
    have hD : ∀ i, i < len0 → Rows.uptoBulk (D i) ≤ 1048576 := by
      intro i hi
      simp only [Prod.mk.injEq] at hx
      rw [hx.1] at hk
      have h1 := bulk_elems ((List.range len0).map D) ((List.range (m - len0)).map fun j => D (len0 + j))
      have h2 : Rows.uptoBulk (D i) ≤ Rows.uptoBulkAll ((List.range len0).map D) := bulk_part (List.mem_map.2 ⟨i, List.mem_range.2 hi, rfl⟩)
      omega
    have hex : ∀ i, i < len0 → ∃ o : Opr, OprOk o ∧ ∃ g f, a = ⟨g, f, none⟩ ∧ OpAt W g (f + i * 8) o := by
      intro i hi
      obtain ⟨cs, h1, h2⟩ := hel i (by omega)
      obtain ⟨o, bv, lv, hcs, hb, hi', ho⟩ := trod_op h2 (hD i hi)
      rw [cells_op] at h1
      obtain ⟨_, hlen, hcell⟩ := World.cells?_some h1
      have hsp : a.spot = none := by
        obtain ⟨cs0, h10, h20⟩ := hel 0 (by omega)
        rw [cells_op] at h10
        obtain ⟨_, hlen0, hcell0⟩ := World.cells?_some h10
        have := hcell0 0 (by omega)
        rw [List.getElem?_eq_getElem (by omega)] at this
        have := World.cell?_spot this
        simpa [Addr.add] using this
      obtain ⟨g, f, s⟩ := a
      simp only at hsp
      subst hsp
      refine ⟨o, ho, g, f, rfl, bv, lv, fun k v hk => ?_, hb, hi'⟩
      have hk8 : k < 8 := by
        rw [← hcs] at hk
        have := (Array.getElem?_eq_some_iff.1 hk).1
        simp at this
        omega
      have := hcell k hk8
      rw [add_plain, add_plain] at this
      rw [this, ← hk, ← hcs]
      simp
    obtain ⟨F, hF⟩ := choose_lt (α := Opr) hex
    refine ⟨(List.range len0).map F, ⟨some a, m, by simp, fun i o hi => ?_⟩, ?_, fun o ho => ?_⟩
    · rw [List.getElem?_map] at hi
      by_cases hlt : i < len0
      · rw [List.getElem?_range hlt] at hi
        simp only [Option.map_some, Option.some.injEq] at hi
        subst hi
        obtain ⟨_, g, f, e, hop⟩ := hF i hlt
        exact ⟨g, f, by rw [e], hop⟩
      · rw [List.getElem?_eq_none (by simp; omega)] at hi
        cases hi
    · unfold maxLen at hm
      simp
      omega
    · obtain ⟨i, hi, rfl⟩ := List.mem_map.1 ho
      exact (hF i (List.mem_range.1 hi)).1
end
end Go.Proofs.Ytpkaepmmkojdaaa
