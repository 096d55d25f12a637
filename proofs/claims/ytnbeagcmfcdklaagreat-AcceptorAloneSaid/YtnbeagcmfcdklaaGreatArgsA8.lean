import Derived.Test.YtnbeagcmfcdklaaGreatMArgs8
import Derived.Test.YtnbeagcmfcdklaaGreatAlone
/-! Arguments of gazettelaw08: Ops, as far as their asks go. -/
namespace Go.Proofs.YtnbeagcmfcdklaaGreat
open Go.ChangeShapes Go.WideShapes Go.ChangeAt Go.RowKit Go.Deep

instance : Inhabited Aop := ⟨⟨0, 0, 0, 0, []⟩⟩
theorem fields_op8 : (Tryz.prog.fieldsOf 61).toList.map (fun f => (f.type, f.offset)) = [(3, 0), (3, 1), (24, 2), (22, 7), (59, 8)] := by kernel_rfl
theorem under_op8 : Tryz.prog.underlying 61 = some (.struct (Tryz.prog.fieldsOf 61)) := by kernel_rfl
theorem cells_op8 : Tryz.prog.cellsOf 61 = 9 := by kernel_rfl
section
variable {H : Type} {enc : TypeId × Value → H} {W : World} {fuel : Nat}
set_option maxRecDepth 100000 in
theorem trod_op8 {cs : List Value} {x : DataW H × List MemPlace} (hf : DataW.trod enc Tryz.prog W 0 (fun _ => true) true fuel 61 cs = some x) :
    ∃ (o : Aop) (bv : Value), cs[2]? = some (.int .i64 o.k) ∧ cs[3]? = some (.int .i64 o.key) ∧ cs[4]? = some (.int .i64 o.ver) ∧ cs[5]? = some (.int .i64 o.bal) ∧ cs[6]? = some bv ∧ BsW W bv o.b := by
  obtain ⟨xs, n, _, hx, hl, hxl, hfs⟩ := DataW.trod_struct under_op8 hf
  rw [cells_op8] at hl
  have hxs : xs.length = 5 := by
    rw [hxl]
    have := congrArg List.length fields_op8
    simpa using this
  have key : ∀ (i : Nat) (ty off : Nat), ([(3, 0), (3, 1), (24, 2), (22, 7), (59, 8)])[i]? = some (ty, off) → DataW.trod enc Tryz.prog W 0 (fun _ => true) true n ty ((cs.drop off).take (Tryz.prog.cellsOf ty)) = xs[i]? := by
    intro i ty off hi
    obtain ⟨f, h1, rfl, rfl⟩ := field_at (P := Tryz.prog) fields_op8 i hi
    exact hfs i f h1
  match cs, hl with
  | [a0, a1, a2, a3, a4, a5, a6, a7, a8], _ =>
    match xs, hxs with
    | [y0, y1, y2, y3, y4], _ =>
      have k2 := key 2 _ _ rfl
      rw [cells_Aq] at k2
      obtain ⟨r, bv, hc, _, _, _, _, hb, _⟩ := trod_Aq k2
      simp [Aq.cells] at hc
      obtain ⟨rfl, rfl, rfl, rfl, rfl⟩ := hc
      exact ⟨⟨r.k, r.key, r.ver, r.bal, r.b⟩, _, rfl, rfl, rfl, rfl, rfl, hb⟩

set_option maxRecDepth 100000 in
theorem open_Aops {v : Value} {d : DataW H} {p : List MemPlace} (hval : Value.okWide Tryz.prog W .any 0 54 v) (h : DataW.Trod enc Tryz.prog W 0 (fun _ => true) true 54 v d p) :
    ∃ l, Aops W v l ∧ l.length ≤ 9223372036854775807 ∧ ∀ o ∈ l, o.b.length ≤ 9223372036854775807 := by
  obtain ⟨a0, len0, cap0, rfl⟩ := okWide_slice Tryz.underlying54 hval
  obtain ⟨fuel, hf⟩ := h
  rcases open_slice Tryz.underlying54 hf with ⟨hcs, hx⟩ | ⟨a, len, cap, m, n, D, Pl, hcs, _, hl, hm, hmm, hx, hel⟩
  · simp [Value.cells] at hcs
    obtain ⟨rfl, rfl, rfl⟩ := hcs
    exact ⟨[], ⟨none, 0, rfl, fun i o h => by simp at h⟩, by simp, fun o h => by simp at h⟩
  · simp [Value.cells] at hcs
    obtain ⟨rfl, rfl, rfl⟩ := hcs
    simp only [if_true] at hmm
    subst hmm
    have hex : ∀ i, i < len0 → ∃ o : Aop, o.b.length ≤ 9223372036854775807 ∧ ∃ g f, a = ⟨g, f, none⟩ ∧ AopAt W g (f + i * 9) o := by
      intro i hi
      obtain ⟨cs, h1, h2⟩ := hel i (by omega)
      obtain ⟨o, bv, hc2, hc3, hc4, hc5, hc6, hb⟩ := trod_op8 h2
      rw [cells_op8] at h1
      obtain ⟨_, hlen, hcell⟩ := World.cells?_some h1
      have hsp : a.spot = none := by
        obtain ⟨cs0, h10, h20⟩ := hel 0 (by omega)
        rw [cells_op8] at h10
        obtain ⟨_, hlen0, hcell0⟩ := World.cells?_some h10
        have := hcell0 0 (by omega)
        rw [List.getElem?_eq_getElem (by omega)] at this
        have := World.cell?_spot this
        simpa [Addr.add] using this
      obtain ⟨g, f, s⟩ := a
      simp only at hsp
      subst hsp
      have hat : ∀ (k : Nat) (u : Value), k < 9 → cs[k]? = some u → W.cell? ⟨g, f + i * 9 + k, none⟩ = some u := fun k u hk hu => by
        have := hcell k hk
        rw [add_plain, add_plain] at this
        rw [this, hu]
      have hbl := hb.len
      unfold maxLen at hbl
      exact ⟨o, by omega, g, f, rfl, bv, hat 2 _ (by omega) hc2, hat 3 _ (by omega) hc3, hat 4 _ (by omega) hc4, hat 5 _ (by omega) hc5, hat 6 _ (by omega) hc6, hb⟩
    obtain ⟨F, hF⟩ := choose_lt (α := Aop) hex
    refine ⟨(List.range len0).map F, ⟨some a, m, by simp, fun i o hi => ?_⟩, ?_, fun o ho => ?_⟩
    · rw [List.getElem?_map] at hi
      by_cases hlt : i < len0
      · rw [List.getElem?_range hlt] at hi
        simp only [Option.map_some, Option.some.injEq] at hi
        subst hi
        obtain ⟨_, g, f, e, hop⟩ := hF i hlt
        exact ⟨g, f, by rw [e], hop⟩
      · rw [List.getElem?_eq_none (by simp; omega)] at hi
        cases hi
    · unfold maxLen at hm
      simp
      omega
    · obtain ⟨i, hi, rfl⟩ := List.mem_map.1 ho
      exact (hF i (List.mem_range.1 hi)).1
end
end Go.Proofs.YtnbeagcmfcdklaaGreat
