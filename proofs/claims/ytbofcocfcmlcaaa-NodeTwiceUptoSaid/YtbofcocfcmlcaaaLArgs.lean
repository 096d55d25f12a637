import Derived.Test.YtbofcocfcmlcaaaArgs
import Derived.Test.YtbofcocfcmlcaaaMBsw
/-! Arguments of gazettelaw05: a Request, Requests. -/
namespace Go.Proofs.Ytbofcocfcmlcaaa
open Go.ChangeShapes Go.WideShapes Go.ChangeAt Go.RowKit Go.Deep

/-- The document's request. -/
structure Rq where
  k : Int
  lo : Int
  po : Int
  b : List UInt8
instance : Inhabited Rq := ⟨⟨0, 0, 0, []⟩⟩
def Rq.cells (r : Rq) (v : Value) : Array Value := #[.int .i64 r.k, .int .i64 r.lo, .int .i64 r.po, v]
structure RqOk (r : Rq) : Prop where
  k : -9223372036854775808 ≤ r.k ∧ r.k ≤ 9223372036854775807
  lo : -9223372036854775808 ≤ r.lo ∧ r.lo ≤ 9223372036854775807
  po : -9223372036854775808 ≤ r.po ∧ r.po ≤ 9223372036854775807
  b : r.b.length ≤ 1073741824
def RqAt (w : World) (g f : Nat) (r : Rq) : Prop := ∃ v, (∀ k u, (r.cells v)[k]? = some u → w.cell? ⟨g, f + k, none⟩ = some u) ∧ BsW w v r.b
def Rqs (w : World) (v : Value) (l : List Rq) : Prop := ∃ a c, v = .slice a l.length c ∧ ∀ (i : Nat) r, l[i]? = some r → ∃ g f, a = some ⟨g, f, none⟩ ∧ RqAt w g (f + i * 4) r
theorem RqAt.keep {w w' : World} {g f : Nat} {r : Rq} (h : RqAt w g f r) (hb : Below w.heap.size w w') : RqAt w' g f r := by
  obtain ⟨v, h1, h2⟩ := h
  refine ⟨v, fun k u hk => ?_, h2.keep hb⟩
  have h3 := h1 k u hk
  rw [hb.cell (World.block_lt_of_cell? w _ h3)]
  exact h3
theorem Rqs.keep {w w' : World} {v : Value} {l : List Rq} (h : Rqs w v l) (hb : Below w.heap.size w w') : Rqs w' v l := by
  obtain ⟨a, c, e, h⟩ := h
  exact ⟨a, c, e, fun i r hi => by obtain ⟨g, f, e2, h2⟩ := h i r hi; exact ⟨g, f, e2, h2.keep hb⟩⟩

theorem fields_rq : (Try.prog.fieldsOf 54).toList.map (fun f => (f.type, f.offset)) = [(3, 0), (3, 1), (3, 2), (34, 3)] := by kernel_rfl
theorem under_rq : Try.prog.underlying 54 = some (.struct (Try.prog.fieldsOf 54)) := by kernel_rfl
theorem cells_rq : Try.prog.cellsOf 54 = 4 := by kernel_rfl

section
variable {H : Type} {enc : TypeId × Value → H} {W : World} {fuel : Nat}
set_option maxRecDepth 100000 in
theorem trod_rq {cs : List Value} {x : DataW H × List MemPlace} (hf : DataW.trod enc Try.prog W 0 (fun _ => true) true fuel 54 cs = some x) (hk : Rows.uptoBulk x.1 ≤ 1048576) :
    ∃ (r : Rq) (v : Value), cs.toArray = r.cells v ∧ BsW W v r.b ∧ RqOk r := by
  obtain ⟨xs, n, _, hx, hl, hxl, hfs⟩ := DataW.trod_struct under_rq hf
  rw [cells_rq] at hl
  have hxs : xs.length = 4 := by
    rw [hxl]
    have := congrArg List.length fields_rq
    simpa using this
  have key : ∀ (i : Nat) (ty off : Nat), [(3, 0), (3, 1), (3, 2), (34, 3)][i]? = some (ty, off) → DataW.trod enc Try.prog W 0 (fun _ => true) true n ty ((cs.drop off).take (Try.prog.cellsOf ty)) = xs[i]? := by
    intro i ty off hi
    obtain ⟨f, h1, rfl, rfl⟩ := field_at (P := Try.prog) fields_rq i hi
    exact hfs i f h1
  match cs, hl with
  | [a0, a1, a2, a3], _ =>
    match xs, hxs with
    | [y0, y1, y2, y3], _ =>
      have k0 := key 0 _ _ rfl
      have k1 := key 1 _ _ rfl
      have k2 := key 2 _ _ rfl
      have k3 := key 3 _ _ rfl
      rw [cells_int] at k0 k1 k2
      rw [cells_u8s] at k3
      obtain ⟨z0, rfl, w0⟩ := trod_int_inv Try.underlying3 k0
      obtain ⟨z1, rfl, w1⟩ := trod_int_inv Try.underlying3 k1
      obtain ⟨z2, rfl, w2⟩ := trod_int_inv Try.underlying3 k2
      obtain ⟨l3, h3, n3⟩ := trod_Bs Try.underlying34 k3
      refine ⟨⟨z0, z1, z2, l3⟩, a3, rfl, h3, ⟨wf_i64_bounds w0, wf_i64_bounds w1, wf_i64_bounds w2, ?_⟩⟩
      rw [hx] at hk
      have h1 : Rows.uptoBulk y3.1 ≤ Rows.uptoBulkAll ([y0, y1, y2, y3].map (·.1)) := bulk_part (List.mem_map.2 ⟨y3, by simp, rfl⟩)
      simp only [Rows.uptoBulk] at hk
      show l3.length ≤ 1073741824
      omega

set_option maxRecDepth 100000 in
theorem open_Rqs {v : Value} {d : DataW H} {p : List MemPlace} (hval : Value.okWide Try.prog W .any 0 80 v) (h : DataW.Trod enc Try.prog W 0 (fun _ => true) true 80 v d p) (hk : Rows.uptoBulk d ≤ 1048576) :
    ∃ l, Rqs W v l ∧ l.length ≤ 9223372036854775807 ∧ ∀ o ∈ l, RqOk o := by
  obtain ⟨a0, len0, cap0, rfl⟩ := okWide_slice Try.underlying80 hval
  obtain ⟨fuel, hf⟩ := h
  rcases open_slice Try.underlying80 hf with ⟨hcs, hx⟩ | ⟨a, len, cap, m, n, D, Pl, hcs, _, hl, hm, hmm, hx, hel⟩
  · simp [Value.cells] at hcs
    obtain ⟨rfl, rfl, rfl⟩ := hcs
    exact ⟨[], ⟨none, 0, rfl, fun i o h => by simp at h⟩, by simp, fun o h => by simp at h⟩
  · simp [Value.cells] at hcs
    obtain ⟨rfl, rfl, rfl⟩ := hcs
    simp only [if_true] at hmm
    subst hmm
    have hD : ∀ i, i < len0 → Rows.uptoBulk (D i) ≤ 1048576 := by
      intro i hi
      simp only [Prod.mk.injEq] at hx
      rw [hx.1] at hk
      have h1 := bulk_elems ((List.range len0).map D) ((List.range (m - len0)).map fun j => D (len0 + j))
      have h2 : Rows.uptoBulk (D i) ≤ Rows.uptoBulkAll ((List.range len0).map D) := bulk_part (List.mem_map.2 ⟨i, List.mem_range.2 hi, rfl⟩)
      omega
    have hex : ∀ i, i < len0 → ∃ o : Rq, RqOk o ∧ ∃ g f, a = ⟨g, f, none⟩ ∧ RqAt W g (f + i * 4) o := by
      intro i hi
      obtain ⟨cs, h1, h2⟩ := hel i (by omega)
      obtain ⟨o, bv, hcs, hb, ho⟩ := trod_rq h2 (hD i hi)
      rw [cells_rq] at h1
      obtain ⟨_, hlen, hcell⟩ := World.cells?_some h1
      have hsp : a.spot = none := by
        obtain ⟨cs0, h10, h20⟩ := hel 0 (by omega)
        rw [cells_rq] at h10
        obtain ⟨_, hlen0, hcell0⟩ := World.cells?_some h10
        have := hcell0 0 (by omega)
        rw [List.getElem?_eq_getElem (by omega)] at this
        have := World.cell?_spot this
        simpa [Addr.add] using this
      obtain ⟨g, f, s⟩ := a
      simp only at hsp
      subst hsp
      refine ⟨o, ho, g, f, rfl, bv, fun k v hk => ?_, hb⟩
      have hk8 : k < 4 := by
        rw [← hcs] at hk
        have := (Array.getElem?_eq_some_iff.1 hk).1
        simp at this
        omega
      have := hcell k hk8
      rw [add_plain, add_plain] at this
      rw [this, ← hk, ← hcs]
      simp
    obtain ⟨F, hF⟩ := choose_lt (α := Rq) hex
    refine ⟨(List.range len0).map F, ⟨some a, m, by simp, fun i o hi => ?_⟩, ?_, fun o ho => ?_⟩
    · rw [List.getElem?_map] at hi
      by_cases hlt : i < len0
      · rw [List.getElem?_range hlt] at hi
        simp only [Option.map_some, Option.some.injEq] at hi
        subst hi
        obtain ⟨_, g, f, e, hop⟩ := hF i hlt
        exact ⟨g, f, by rw [e], hop⟩
      · rw [List.getElem?_eq_none (by simp; omega)] at hi
        cases hi
    · unfold maxLen at hm
      simp
      omega
    · obtain ⟨i, hi, rfl⟩ := List.mem_map.1 ho
      exact (hF i (List.mem_range.1 hi)).1
end
end Go.Proofs.Ytbofcocfcmlcaaa
