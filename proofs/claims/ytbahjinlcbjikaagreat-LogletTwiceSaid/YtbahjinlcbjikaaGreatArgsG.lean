import Derived.Test.YtbahjinlcbjikaaGreatMLit
import Derived.Test.YtbahjinlcbjikaaGreatMBsw
import Derived.Deep.Slices
import Derived.JoinedCond
/-! Arguments, opened: ints, bytes; and what the bound of the second form gives. -/
namespace Go.Proofs.YtbahjinlcbjikaaGreat
open Go.ChangeShapes Go.WideShapes Go.ChangeAt Go.RowKit Go.Deep

/-! ### The bound -/
section
variable {H : Type}
theorem bulk_one (d : DataW H) : 1 ≤ Rows.uptoBulk d := by
  cases d with
  | lit l => cases l <;> simp [Rows.uptoBulk]
  | nil => simp [Rows.uptoBulk]
  | ptr d => simp [Rows.uptoBulk]
  | slice elems spare => simp [Rows.uptoBulk]
  | agg parts => simp [Rows.uptoBulk]
  | iface t d => simp [Rows.uptoBulk]
  | map entries => simp [Rows.uptoBulk]
  | held h => simp [Rows.uptoBulk]
theorem bulk_part {d : DataW H} {l : List (DataW H)} (h : d ∈ l) : Rows.uptoBulk d ≤ Rows.uptoBulkAll l := by
  induction l with
  | nil => cases h
  | cons x r ih =>
    simp only [Rows.uptoBulkAll]
    cases List.mem_cons.1 h with
    | inl e => subst e; omega
    | inr e => have := ih e; omega
theorem bulk_length (l : List (DataW H)) : l.length ≤ Rows.uptoBulkAll l := by
  induction l with
  | nil => simp [Rows.uptoBulkAll]
  | cons x r ih => have := bulk_one x; simp only [Rows.uptoBulkAll, List.length_cons]; omega
theorem bulk_elems (elems spare : List (DataW H)) : Rows.uptoBulkAll elems + 1 ≤ Rows.uptoBulk (.slice elems spare) := by
  simp only [Rows.uptoBulk]; omega
set_option maxRecDepth 100000 in
theorem bulk_bound {l : List (DataW H)} (hk : Rows.uptoSmall H l = true) : Rows.uptoBulkAll l ≤ 1048576 := of_decide_eq_true hk
end

section
variable {H : Type} {enc : TypeId × Value → H} {P : Program} {W : World} {n : Nat} {held : Bool} {spare : Nat → Bool}
theorem trod_int_inv {t : TypeId} {k : IntKind} {c : Value} {x : DataW H × List MemPlace} (ht : P.underlying t = some (.int k)) (h : DataW.trod enc P W 0 spare held n t [c] = some x) : ∃ z, c = .int k z ∧ (Lit.int k z).wf = true := by
  cases n with
  | zero => simp [DataW.trod] at h
  | succ n =>
    unfold DataW.trod at h
    cases c <;> simp [ht] at h
    obtain ⟨⟨rfl, h2⟩, _⟩ := h
    exact ⟨_, rfl, h2⟩
theorem trod_bool_inv {t : TypeId} {c : Value} {x : DataW H × List MemPlace} (ht : P.underlying t = some .bool) (h : DataW.trod enc P W 0 spare held n t [c] = some x) : ∃ b, c = .bool b := by
  cases n with
  | zero => simp [DataW.trod] at h
  | succ n =>
    unfold DataW.trod at h
    cases c <;> simp [ht] at h
    exact ⟨_, rfl⟩
theorem field_at {t : TypeId} {l : List (TypeId × Nat)} (hf : (P.fieldsOf t).toList.map (fun f => (f.type, f.offset)) = l) (i : Nat) {ty off : Nat} (h : l[i]? = some (ty, off)) : ∃ f, (P.fieldsOf t)[i]? = some f ∧ f.type = ty ∧ f.offset = off := by
  rw [← hf, List.getElem?_map] at h
  obtain ⟨f, h1, h2⟩ := Option.map_eq_some_iff.1 h
  simp only [Prod.mk.injEq] at h2
  exact ⟨f, by simpa using h1, h2⟩
end

theorem cells_u8 : Tryz.prog.cellsOf 5 = 1 := by kernel_rfl
set_option maxRecDepth 100000 in
theorem wf_u8_bounds {z : Int} (h : (Lit.int .u8 z).wf = true) : 0 ≤ z ∧ z ≤ 255 := by
  have e1 : IntKind.u8.min = 0 := rfl
  have e2 : IntKind.u8.max = 255 := rfl
  simpa [Lit.wf, e1, e2] using h

section
variable {H : Type} {enc : TypeId × Value → H} {W : World} {fuel : Nat}
set_option maxRecDepth 100000 in
theorem trod_Is {v : Value} {x : DataW H × List MemPlace} {t : TypeId} (ht : Tryz.prog.underlying t = some (.slice 3)) (hf : DataW.trod enc Tryz.prog W 0 (fun _ => true) true fuel t [v] = some x) :
    ∃ l, Is W v l ∧ l.length ≤ 9223372036854775807 ∧ (∀ x ∈ l, -9223372036854775808 ≤ x ∧ x ≤ 9223372036854775807) ∧ l.length ≤ Rows.uptoBulk x.1 := by
  rcases open_ints ht Tryz.underlying3 cells_int hf with ⟨hcs, hx⟩ | ⟨a, len, cap, zs, hcs, _, hl, hm, hz, hx, hcell, hwz⟩
  · simp at hcs
    subst hcs
    exact ⟨[], ⟨none, 0, rfl, fun i x h => by simp at h⟩, by simp, (fun x h => by simp at h), by simp⟩
  · simp at hcs
    subst hcs
    simp only [if_true] at hz
    have hlen : (zs.take len).length = len := by simp; omega
    refine ⟨zs.take len, ⟨some a, cap, by rw [hlen], fun i x hi => ?_⟩, ?_, fun x hx => wf_i64_bounds (hwz x (List.mem_of_mem_take hx)), ?_⟩
    · rw [List.getElem?_take] at hi
      split at hi
      · have hlt : i < zs.length := by omega
        have hc := hcell i hlt
        have ha := add_spot (hcell 0 (by omega))
        obtain ⟨b, o, s⟩ := a
        simp only at ha
        subst ha
        rw [add_plain] at hc
        refine ⟨b, o, rfl, ?_⟩
        rw [hc, List.getD_eq_getElem?_getD, hi]
        rfl
      · cases hi
    · unfold maxLen at hm
      omega
    · rw [hx]
      have h1 := bulk_elems (lits (H := H) .i64 (zs.take len)) (lits .i64 (zs.drop len))
      have h2 := bulk_length (lits (H := H) .i64 (zs.take len))
      simp only [lits, List.length_map] at h1 h2 ⊢
      omega

set_option maxRecDepth 100000 in
theorem trod_Bs {v : Value} {x : DataW H × List MemPlace} {t : TypeId} (ht : Tryz.prog.underlying t = some (.slice 5)) (hf : DataW.trod enc Tryz.prog W 0 (fun _ => true) true fuel t [v] = some x) :
    ∃ l, BsW W v l ∧ l.length ≤ Rows.uptoBulk x.1 := by
  rcases open_ints ht Tryz.underlying5 cells_u8 hf with ⟨hcs, hx⟩ | ⟨a, len, cap, zs, hcs, _, hl, hm, hz, hx, hcell, hwz⟩
  · simp at hcs
    subst hcs
    exact ⟨[], .inl (Bs.nil W), by simp⟩
  · simp at hcs
    subst hcs
    simp only [if_true] at hz
    have hlen : ((zs.take len).map (fun z => UInt8.ofNat z.toNat)).length = len := by simp; omega
    refine ⟨(zs.take len).map (fun z => UInt8.ofNat z.toNat), ?_, ?_⟩
    · by_cases h0 : zs.length = 0
      · have e1 : cap = 0 := by omega
        have e2 : len = 0 := by omega
        subst e1 e2
        exact .inr ⟨by simp, a, rfl⟩
      · have ha := add_spot (hcell 0 (by omega))
        obtain ⟨b, o, s⟩ := a
        simp only at ha
        subst ha
        refine .inl (Bs.mk hlen hl hm ?_)
        intro i u hi
        rw [List.getElem?_map, List.getElem?_take] at hi
        split at hi
        · have hlt : i < zs.length := by omega
          have hc := hcell i hlt
          rw [add_plain, List.getD_eq_getElem?_getD, List.getElem?_eq_getElem hlt, Option.getD_some] at hc
          rw [List.getElem?_eq_getElem hlt] at hi
          simp only [Option.map_some, Option.some.injEq] at hi
          have hw := wf_u8_bounds (hwz zs[i] (by simp))
          rw [hc, ← hi]
          simp only [bv, toNat_ofNat_u8 (show zs[i].toNat < 256 by omega)]
          congr 2
          omega
        · cases hi
    · rw [hx]
      have h1 := bulk_elems (lits (H := H) .u8 (zs.take len)) (lits .u8 (zs.drop len))
      have h2 := bulk_length (lits (H := H) .u8 (zs.take len))
      simp only [lits, List.length_map] at h1 h2 ⊢
      omega
theorem cells_bool : Tryz.prog.cellsOf 4 = 1 := by kernel_rfl
theorem cells_u8s : Tryz.prog.cellsOf 35 = 1 := by kernel_rfl
theorem cells_ints : Tryz.prog.cellsOf 22 = 1 := by kernel_rfl
theorem BsW.len {w : World} {v : Value} {l : List UInt8} (h : BsW w v l) : l.length ≤ maxLen := by
  rcases h with h | ⟨rfl, _⟩
  · exact h.len
  · simp
end
theorem okWide_spot_g {P : Program} {w : World} {r : Reach} {base : Nat} {t e : TypeId} {ad : Addr} {l c : Nat} (ht : P.underlying t = some (.slice e)) (h : Value.okWide P w r base t (.slice (some ad) l c)) : ad.spot = none := by
  simp only [Value.okWide, ht, Cell.okWide, Cell.ok] at h
  exact h.2.2.2.1
theorem bs_of_g {P : Program} {w w' : World} {r : Reach} {base : Nat} {t e : TypeId} {v : Value} {l : List UInt8} (ht : P.underlying t = some (.slice e)) (h : Value.okWide P w r base t v) (hb : BsW w' v l) : Bs w' v l := by
  rcases hb with hb | ⟨rfl, ad, rfl⟩
  · exact hb
  · have := okWide_spot_g ht h
    obtain ⟨g, o, s⟩ := ad
    simp only at this
    subst this
    exact Bs.mk rfl (Nat.le_refl _) (by simp [maxLen]) (fun i u hi => by simp at hi)
end Go.Proofs.YtbahjinlcbjikaaGreat
