import Derived.Test.YtbofcocfcmlcaaaGreatWireB
/-! The walks of package wire, on: Get; frames. -/
namespace Go.Proofs.YtbofcocfcmlcaaaGreat
open Go.RowKit

set_option maxRecDepth 100000 in
set_option maxHeartbeats 800000 in
theorem wire_Get (v : Value) (l : List UInt8) (at_ n : Int) (w : World) (hv : Bs w v l) (hat : 0 ≤ at_) (hn : 1 ≤ n) (hn6 : n ≤ 6) (hle : at_ + n ≤ l.length) :
    Calls Tryz.prog 131 #[v, .int .i64 at_, .int .i64 n] w fun e w' => e = .returned (.tuple #[.int .i64 ((numOf ((l.drop at_.toNat).take n.toNat) : Nat) : Int), .int .i64 (at_ + n), .int .i64 0]) ∧ Below w.heap.size w w' := by
  obtain ⟨a, c, rfl, hc, hm, ha, hsp, hr⟩ := id hv
  have hmx := hm
  unfold maxLen at hmx
  have hB := Blk.new w #[.slice a l.length c, .int .i64 at_] 202
  have hv1 := hv.keep ((Below.refl _ w).alloc (Nat.le_refl _) (.cells #[.slice a l.length c, .int .i64 at_] 202))
  have hown : ∀ k, (Value.slice a l.length c).ownBlock = some k → k ≠ w.heap.size := by
    intro k hk
    have hne : l ≠ [] := by rintro rfl; simp at hle; omega
    cases a with
    | none => simp [Value.ownBlock] at hk
    | some ad =>
      simp [Value.ownBlock] at hk
      subst hk
      obtain ⟨x, y, rfl⟩ := List.exists_cons_of_ne_nil hne
      obtain ⟨_, e, h⟩ := hr 0 x rfl
      cases e
      have := World.block_lt_of_cell? w _ h
      simp only at this
      omega
  have hbW : Below w.heap.size w (w.alloc (.cells #[.slice a l.length c, .int .i64 at_] 202)) := (Below.refl _ w).alloc (Nat.le_refl _) _
  clear hr
  go_enter Tryz.func131, Tryz.ntmps131
  go_wp2_with fail
  generalize w.alloc (.cells #[.slice a l.length c, .int .i64 at_] 202) = W at *
  have c0 := hB.cell (o := 0) rfl
  have c1 := hB.cell (o := 1) rfl
  have cf := hB.free 1
  refine (place_has_true _ _ _ _ _ _ _ c0 c1 hat (by omega) (by omega) (by omega)).mono ?_
  rintro e w' ⟨rfl, k1, rfl⟩
  go_wp2_with fail
  refine (reader_number _ _ _ _ _ _ (W.drewN k1) c0 c1 cf hat (by omega) hn6 (by omega) hle hv1 hown).mono ?_
  rintro e w' ⟨rfl, k2, rfl⟩
  go_wp2_with fail
  have hB2 : Blk (((W.drewN k1).setCell ⟨w.heap.size, 1, none⟩ (.int .i64 (at_ + n))).drewN k2) w.heap.size #[.slice a l.length c, .int .i64 (at_ + n)] 202 := hB.set (o := 1) _
  have hbW2 : Below w.heap.size w (((W.drewN k1).setCell ⟨w.heap.size, 1, none⟩ (.int .i64 (at_ + n))).drewN k2) := below_drewN (Below.setCell (p := ⟨w.heap.size, 1, none⟩) (below_drewN hbW k1) (Nat.le_refl _) _) k2
  generalize ((W.drewN k1).setCell ⟨w.heap.size, 1, none⟩ (.int .i64 (at_ + n))).drewN k2 = W2 at *
  have c2 := hB2.cell (o := 1) rfl
  clear hB hv1 c0 c1 cf hbW hv
  go_quiet (fail)
  go_wp2_with fail
  go_ret3
  exact ⟨rfl, below_drewN hbW2 _⟩

set_option maxHeartbeats 400000 in
theorem store_number (v : Value) (l : List UInt8) (at_ n : Int) (w : World) (hv : Bs w v l) (hat : 0 ≤ at_) (hn : 1 ≤ n) (hn6 : n ≤ 6) (hle : at_ + n ≤ l.length) :
    Calls Tryz.prog 112 #[v, .int .i64 at_, .int .i64 n] w fun e w' => e = .returned (.int .i64 ((numOf ((l.drop at_.toNat).take n.toNat) : Nat) : Int)) ∧ Below w.heap.size w w' := by
  go_enter Tryz.func112, Tryz.ntmps112
  go_wp2_with fail
  refine (wire_Get _ _ _ _ _ hv hat hn hn6 hle).mono ?_
  rintro e w' ⟨rfl, hb⟩
  go_wp2_with fail
  go_ret
  exact ⟨rfl, hb⟩

set_option maxHeartbeats 400000 in
theorem node_number (v : Value) (l : List UInt8) (at_ n : Int) (w : World) (hv : Bs w v l) (hat : 0 ≤ at_) (hn : 1 ≤ n) (hn6 : n ≤ 6) (hle : at_ + n ≤ l.length) :
    Calls Tryz.prog 97 #[v, .int .i64 at_, .int .i64 n] w fun e w' => e = .returned (.int .i64 ((numOf ((l.drop at_.toNat).take n.toNat) : Nat) : Int)) ∧ Below w.heap.size w w' := by
  go_enter Tryz.func97, Tryz.ntmps97
  go_wp2_with fail
  refine (wire_Get _ _ _ _ _ hv hat hn hn6 hle).mono ?_
  rintro e w' ⟨rfl, hb⟩
  go_wp2_with fail
  go_ret
  exact ⟨rfl, hb⟩

set_option maxHeartbeats 400000 in
theorem node_low (n k : Int) (w : World) (h0 : 0 ≤ n) (h1 : 1 ≤ k) (hk : k ≤ 6) (hn : n < 2 ^ (8 * k.toNat)) :
    Calls Tryz.prog 110 #[.int .i64 n, .int .i64 k] w fun e w' => ∃ v, e = .returned v ∧ Own8 w' w.heap.size 5 v (lowB n k.toNat) ∧ Below w.heap.size w w' := by
  go_enter Tryz.func110, Tryz.ntmps110
  go_wp2_with fail
  refine (wire_Put _ _ _ h0 h1 hk hn).mono ?_
  rintro e w' ⟨v, rfl, ho, hb⟩
  go_wp2_with fail
  go_ret
  exact ⟨v, rfl, ho, hb⟩

end Go.Proofs.YtbofcocfcmlcaaaGreat

/-! The walks of package wire, on: join and frames; of package slices: Concat, Clone. -/
namespace Go.Proofs.YtbofcocfcmlcaaaGreat
open Go.RowKit

/-- Slices in a row of a block, each with its bytes. -/
def Parts (w : World) (g : Nat) (vs : List Value) (ls : List (List UInt8)) : Prop :=
  vs.length = ls.length ∧ (∀ (i : Nat) (v : Value), vs[i]? = some v → w.cell? ⟨g, i, none⟩ = some v) ∧ ∀ (i : Nat) (v : Value) (l : List UInt8), vs[i]? = some v → ls[i]? = some l → Bs w v l

theorem Parts.keep {w w' : World} {g : Nat} {vs : List Value} {ls : List (List UInt8)} (h : Parts w g vs ls) (hb : Below w.heap.size w w') : Parts w' g vs ls :=
  ⟨h.1, fun i v hv => by
    have := h.2.1 i v hv
    rw [hb.cell (World.block_lt_of_cell? w _ this)]; exact this, fun i v l hv hl => (h.2.2 i v l hv hl).keep hb⟩

theorem take_flat (ls : List (List UInt8)) (j : Nat) (l : List UInt8) (h : ls[j]? = some l) : (ls.take (j + 1)).flatten = (ls.take j).flatten ++ l := by
  rw [List.take_add_one, h, List.flatten_append]
  simp
theorem take_flat_le (ls : List (List UInt8)) (j : Nat) (l : List UInt8) (h : ls[j]? = some l) : (ls.take j).flatten.length + l.length ≤ ls.flatten.length := by
  rw [← List.length_append, ← take_flat ls j l h]
  conv => rhs; rw [← List.take_append_drop (j + 1) ls, List.flatten_append, List.length_append]
  omega

set_option maxRecDepth 100000 in
set_option maxHeartbeats 800000 in
theorem wire_join (g n c : Nat) (vs : List Value) (ls : List (List UInt8)) (w : World) (hn : n = vs.length) (hp : Parts w g vs ls) (hvs : vs.length ≤ 64) (hls : ls.flatten.length ≤ 1073741824) :
    Calls Tryz.prog 136 #[.slice (some ⟨g, 0, none⟩) n c] w fun e w' => ∃ v, e = .returned v ∧ Own8 w' w.heap.size 5 v ls.flatten ∧ Below w.heap.size w w' := by
  subst hn
  obtain ⟨i0, hi, hz0, hz1, hz2⟩ := info_parts info_u8
  go_enter Tryz.func136, Tryz.ntmps136
  go_wp2_with fail
  go_loopw [3, 5, 8] (fun v t i wr => ∃ j : Nat, j ≤ vs.length ∧ i = .int .i64 j ∧ Own8 wr w.heap.size 5 v (ls.take j).flatten ∧ Below w.heap.size w wr) (fun _ _ i _ => vs.length - (intOf i).toNat)
  case atStart => exact ⟨0, by omega, rfl, Own8.nil _ _ _, Below.refl _ _⟩
  case round =>
    obtain ⟨j, hj, rfl, ho, hb⟩ := hrel
    by_cases hlt : j < vs.length
    · obtain ⟨x, hx⟩ : ∃ x, vs[j]? = some x := ⟨vs[j], by simp⟩
      obtain ⟨l, hl⟩ : ∃ l, ls[j]? = some l := ⟨ls[j]'(by have := hp.1; omega), by simp⟩
      have hp' := hp.keep hb
      have hc := hp'.2.1 j x hx
      have hB := hp'.2.2 j x l hx hl
      have hlen : (ls.take j).flatten.length + l.length ≤ 1073741824 := by
        have h1 := take_flat_le ls j l hl
        omega
      have HE := hid (take_flat ls j l hl)
      go_wp2_with (at_builtin; refine wpList_append8 Tryz.underlying28 hi hz0 hz1 hz2 rfl _ _ rfl w.heap.size rfl rfl ho hB (by omega) hb.size ?_; intro v' w1 ho' hg _)
      go_roundw
      case rel => exact ⟨j + 1, by omega, by go_num, by rw [HE.out]; exact ho', hb.grown hg hb.size (fun k hk => (ho.blk k hk).1)⟩
      case measure => simp [intOf]; omega
    · obtain rfl : j = vs.length := by omega
      rw [hp.1, List.take_length] at ho
      have hd : decide ((vs.length : Int) < (vs.length : Int)) = false := by simp
      go_wp2_with fail
      go_ret
      exact ⟨_, rfl, ho, hb⟩

end Go.Proofs.YtbofcocfcmlcaaaGreat
