import Derived.Test.YtbofcocfcmlcaaaBase
import Derived.Lib.AppendZerosOnto
/-! append of so many zeros (an append of a make) onto bytes of the call's own. No program is named here. -/
namespace Go.Proofs.Ytbofcocfcmlcaaa
open Go.RowKit

theorem zeroCells_u8 (k : Nat) : Builtin.zeroCells #[.int .u8 0] k = ((List.replicate k (0 : UInt8)).map bv).toArray := by
  apply Array.ext
  · simp [size_zeroCells]
  · intro i h1 h2
    simp [Builtin.zeroCells, Nat.mod_one]

theorem run_append8_zeros {P : Program} {T TI E : TypeId} {i : TypeInfo} {kn kq : IntKind} (ht : P.underlying T = some (.slice E)) (hti : P.underlying TI = some (.int kn)) (hi : P.info? E = some i) (hz : i.zero = some (.int .u8 0)) (hsz : i.size = 1) (hby : i.bytes = 1) (ty : TypeId)
    {w : World} {base : Nat} {v : Value} {l : List UInt8} {k : Nat} (hown : Own8 w base E v l) (hlen : l.length + k ≤ 140737488355328) (hbase : base ≤ w.heap.size) :
    ∃ v' w', (Builtin.append_ #[T, TI] ty #[v, .int kq (k : Int)]).run P w = .ok v' w' ∧ Own8 w' base E v' (l ++ List.replicate k 0) ∧ w.grownBy w' v.ownBlock := by
  have hw : IntKind.i64.wrap (k : Int) = k := by rw [IntKind.wrap_i64]; omega
  have hw0 : IntKind.i64.wrap 0 = 0 := by rw [IntKind.wrap_i64]; rfl
  have hneg : ¬ ((k : Int) < 0) := by omega
  have h48i : ¬ (281474976710656 < (k : Int)) := by omega
  have hzc : (Value.int .u8 0).cells = #[.int .u8 0] := rfl
  rcases hown.2 with ⟨rfl, h0⟩ | ⟨g, cap, cur, rfl, hbg, hg, hnc, hcm, hcs, htake⟩
  · have hl : l = [] := List.eq_nil_of_length_eq_zero h0
    subst hl
    by_cases hk : k = 0
    · subst hk
      refine ⟨.slice none 0 0, w, ?_, by simpa using hown, ⟨rfl, rfl, rfl, Nat.le_refl _, fun _ _ _ => rfl⟩⟩
      simp [Builtin.append_, run_underlying ht, run_underlying hti, sizeOf, typeInfo, hi, asInt, asIntOf, hw0, hby]
    · have hr := Lib.run_append_nil_zeros (P := P) w T TI ty E i (.int .u8 0) kq kn ht hti hi hz k (by omega) (by omega) (by omega) (by rw [hby]; omega)
      have hcap : grownCap w k 0 E ≤ maxLen := grownCap_le_maxLen w k 0 _ (by unfold maxLen; omega)
      have hge := grownCap_ge w k 0 E
      refine ⟨_, _, hr, ?_, ⟨rfl, rfl, rfl, by simp, fun j hj _ => Below.heap_alloc w.drew _ j hj⟩⟩
      refine own8_mk hbase (Blk.new w.drew _ _) (by simp) hge hcap ?_ ?_
      · rw [hzc, zeroCells_u8, zeroCells_u8]; simp; omega
      · intro j u hu
        rw [hzc, zeroCells_u8, Array.getElem?_append_left (by simp; have := (List.getElem?_eq_some_iff.1 hu).1; simp at this; omega)]
        simp only [List.getElem?_toArray, List.getElem?_map]
        rw [List.nil_append] at hu
        rw [hu]; rfl
  · by_cases hroom : l.length + k ≤ cap
    · have hst := run_storeCells_at P g l.length E ((List.replicate k (0 : UInt8)).map bv) 0 cur w hg (by simp; omega) (fun u hu => by simp at hu; rw [hu.2]; rfl)
      simp only [Nat.add_zero] at hst
      refine ⟨.slice (some ⟨g, 0, none⟩) (l.length + k) cap, w.setRow g (cur.toList.take l.length ++ (List.replicate k (0 : UInt8)).map bv ++ cur.toList.drop (l.length + ((List.replicate k (0 : UInt8)).map bv).length)).toArray, ?_, ?_, ⟨rfl, rfl, rfl, by simp, fun j _ hj => setRow_other w g j _ (fun e => hj (by simp [Value.ownBlock, e]))⟩⟩
      · by_cases hk : k = 0
        · subst hk
          simp only [List.replicate_zero, List.map_nil, List.append_nil, List.length_nil, Nat.add_zero] at hst ⊢
          simp only [Nat.add_zero] at hroom
          simp [Builtin.append_, run_underlying ht, run_underlying hti, sizeOf, typeInfo, hi, asInt, asIntOf, hw0, hby, hsz, hroom, storeCells, Addr.add_lit]
          rw [setRow_self w g cur E (0, 0) hg]
        · have hst2 := hst
          rw [show ((List.replicate k (0 : UInt8)).map bv) = (Builtin.zeroCells #[.int .u8 0] k).toList from by rw [zeroCells_u8]] at hst2
          simp [Builtin.append_, run_underlying ht, run_underlying hti, sizeOf, typeInfo, zeroValue, hi, hz, asInt, asIntOf, hw, hby, hsz, hroom, hneg, h48i, hk, Addr.add_lit, hzc, hst2]
          simp [zeroCells_u8]
      · have hB : Blk w g cur E := hg
        refine own8_mk hbg (hB.setRow _) (by simp) hroom hcm ?_ ?_
        · simp; omega
        · intro j u hu
          have hlen9 : (cur.toList.take l.length ++ (List.replicate k (0 : UInt8)).map bv) = (l ++ List.replicate k 0).map bv := by
            rw [List.map_append]
            congr 1
            rw [← htake]; simp
          rw [List.getElem?_toArray, hlen9, List.getElem?_append_left (by simp; have := (List.getElem?_eq_some_iff.1 hu).1; simp at this; omega), List.getElem?_map, hu]
          rfl
    · have hk : 0 < k := by omega
      have holds : ∀ j u, (l.map bv)[j]? = some u → w.cell? ((⟨g, 0, none⟩ : Addr).add j) = some u := World.ownsRow.cells hown (g := g) rfl
      have hold := run_firstCells_some (P := P) (w := w.drew) i.size l.length ⟨g, 0, none⟩ l.length cap (l.map bv) (by simp [hsz]) (by simpa using holds)
      have hr := Lib.run_append_grow_zeros (P := P) w T TI ty E i (.int .u8 0) kq kn ht hti hi hz (some ⟨g, 0, none⟩) l.length cap (l.map bv) hold k hk (by omega) (by omega) (by omega) (by rw [hby]; omega) (growslice_fits (by omega) (by rw [hby]; omega))
      have hcap : grownCap w (l.length + k) cap E ≤ maxLen := grownCap_le_maxLen w _ _ _ (by unfold maxLen; omega)
      have hge := grownCap_ge w (l.length + k) cap E
      refine ⟨_, _, hr, ?_, ⟨rfl, rfl, rfl, by simp, fun j hj _ => Below.heap_alloc w.drew _ j hj⟩⟩
      refine own8_mk hbase (Blk.new w.drew _ _) (by simp) hge hcap ?_ ?_
      · rw [hzc, zeroCells_u8, zeroCells_u8]; simp; omega
      · intro j u hu
        rw [hzc, zeroCells_u8, Array.getElem?_append_left (by simp; have := (List.getElem?_eq_some_iff.1 hu).1; simp at this; omega)]
        simp only [List.append_toArray, List.getElem?_toArray, ← List.map_append, List.getElem?_map]
        rw [hu]; rfl
end Go.Proofs.Ytbofcocfcmlcaaa
