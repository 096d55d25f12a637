import Derived.Test.YtbofcocfcmlcaaaWireC
/-! The walks of package wire, on: join and frames; of package slices: Concat, Clone. -/
namespace Go.Proofs.Ytbofcocfcmlcaaa
open Go.RowKit

/-- Slices in a row of a block, each with its bytes. -/
def Parts (w : World) (g : Nat) (vs : List Value) (ls : List (List UInt8)) : Prop :=
  vs.length = ls.length ∧ (∀ (i : Nat) (v : Value), vs[i]? = some v → w.cell? ⟨g, i, none⟩ = some v) ∧ ∀ (i : Nat) (v : Value) (l : List UInt8), vs[i]? = some v → ls[i]? = some l → Bs w v l

theorem Parts.keep {w w' : World} {g : Nat} {vs : List Value} {ls : List (List UInt8)} (h : Parts w g vs ls) (hb : Below w.heap.size w w') : Parts w' g vs ls :=
  ⟨h.1, fun i v hv => by
    have := h.2.1 i v hv
    rw [hb.cell (World.block_lt_of_cell? w _ this)]; exact this, fun i v l hv hl => (h.2.2 i v l hv hl).keep hb⟩

theorem take_flat (ls : List (List UInt8)) (j : Nat) (l : List UInt8) (h : ls[j]? = some l) : (ls.take (j + 1)).flatten = (ls.take j).flatten ++ l := by
  rw [List.take_add_one, h, List.flatten_append]
  simp
theorem take_flat_le (ls : List (List UInt8)) (j : Nat) (l : List UInt8) (h : ls[j]? = some l) : (ls.take j).flatten.length + l.length ≤ ls.flatten.length := by
  rw [← List.length_append, ← take_flat ls j l h]
  conv => rhs; rw [← List.take_append_drop (j + 1) ls, List.flatten_append, List.length_append]
  omega

set_option maxRecDepth 100000 in
set_option maxHeartbeats 800000 in
theorem wire_join (g n c : Nat) (vs : List Value) (ls : List (List UInt8)) (w : World) (hn : n = vs.length) (hp : Parts w g vs ls) (hvs : vs.length ≤ 64) (hls : ls.flatten.length ≤ 1073741824) :
    Calls Try.prog 99 #[.slice (some ⟨g, 0, none⟩) n c] w fun e w' => ∃ v, e = .returned v ∧ Own8 w' w.heap.size 5 v ls.flatten ∧ Below w.heap.size w w' := by
  subst hn
  obtain ⟨i0, hi, hz0, hz1, hz2⟩ := info_parts info_u8
  go_enter Try.func99, Try.ntmps99
  go_wp2_with fail
  go_loopw [3, 5, 8] (fun v t i wr => ∃ j : Nat, j ≤ vs.length ∧ i = .int .i64 j ∧ Own8 wr w.heap.size 5 v (ls.take j).flatten ∧ Below w.heap.size w wr) (fun _ _ i _ => vs.length - (intOf i).toNat)
  case atStart => exact ⟨0, by omega, rfl, Own8.nil _ _ _, Below.refl _ _⟩
  case round =>
    obtain ⟨j, hj, rfl, ho, hb⟩ := hrel
    by_cases hlt : j < vs.length
    · obtain ⟨x, hx⟩ : ∃ x, vs[j]? = some x := ⟨vs[j], by simp⟩
      obtain ⟨l, hl⟩ : ∃ l, ls[j]? = some l := ⟨ls[j]'(by have := hp.1; omega), by simp⟩
      have hp' := hp.keep hb
      have hc := hp'.2.1 j x hx
      have hB := hp'.2.2 j x l hx hl
      have hlen : (ls.take j).flatten.length + l.length ≤ 1073741824 := by
        have h1 := take_flat_le ls j l hl
        omega
      have HE := hid (take_flat ls j l hl)
      go_wp2_with (at_builtin; refine wpList_append8 Try.underlying34 hi hz0 hz1 hz2 rfl _ _ rfl w.heap.size rfl rfl ho hB (by omega) hb.size ?_; intro v' w1 ho' hg _)
      go_roundw
      case rel => exact ⟨j + 1, by omega, by go_num, by rw [HE.out]; exact ho', hb.grown hg hb.size (fun k hk => (ho.blk k hk).1)⟩
      case measure => simp [intOf]; omega
    · obtain rfl : j = vs.length := by omega
      rw [hp.1, List.take_length] at ho
      have hd : decide ((vs.length : Int) < (vs.length : Int)) = false := by simp
      go_wp2_with fail
      go_ret
      exact ⟨_, rfl, ho, hb⟩

end Go.Proofs.Ytbofcocfcmlcaaa
