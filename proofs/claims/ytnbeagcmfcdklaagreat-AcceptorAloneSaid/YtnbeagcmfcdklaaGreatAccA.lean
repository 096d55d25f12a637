import Derived.Test.YtnbeagcmfcdklaaGreatMAccP
import Derived.Test.YtnbeagcmfcdklaaGreatRegionW
/-! Package acceptor: in, right, truth, low, body. -/
namespace Go.Proofs.YtnbeagcmfcdklaaGreat
open Go.RowKit

theorem ret_boolA {a b : Bool} (h : a = b) : Ending.returned (.bool a) = .returned (.bool b) := by rw [h]
set_option maxRecDepth 100000 in
set_option maxHeartbeats 1600000 in
theorem acc_in (n least : Int) (W : World) :
    Calls Tryz.prog 62 #[.int .i64 n, .int .i64 least] W fun e w' => e = .returned (.bool (decide (least ≤ n ∧ n < 281474976710656))) ∧ w' = W := by
  go_enter Tryz.func62, Tryz.ntmps62
  go_wp2_with fail
  all_goals go_ret
  all_goals (refine ⟨ret_boolA (Bool.eq_iff_iff.2 ?_), rfl⟩)
  all_goals (try simp only [beq_iff_eq, beq_eq_false_iff_ne, ne_eq, bne_iff_ne, bne_eq_false_iff_eq] at *)
  all_goals (simp; omega)

set_option maxRecDepth 100000 in
set_option maxHeartbeats 6400000 in
theorem acc_ask_right (k key ver bal : Int) (av : Option Addr) (n cv : Nat) (W : World) (hn : n ≤ 9223372036854775807) :
    Calls Tryz.prog 34 #[.agg #[.int .i64 k, .int .i64 key, .int .i64 ver, .int .i64 bal, .slice av n cv]] W fun e w' => e = .returned (.bool (askOk k key ver bal n)) ∧ Below W.heap.size W w' := by
  go_enter Tryz.func34, Tryz.ntmps34
  go_wp2_with fail
  iterate 5 (all_goals (try (refine (acc_in _ _ _).mono ?_; rintro e Wx ⟨rfl, hw⟩; rw [hw]; clear hw Wx; go_wp2_with fail)))
  all_goals go_ret
  all_goals (refine ⟨ret_boolA (Bool.eq_iff_iff.2 ?_), (Below.refl _ _).alloc (Nat.le_refl _) _⟩)
  all_goals (try simp only [beq_iff_eq, beq_eq_false_iff_ne, ne_eq, bne_iff_ne, bne_eq_false_iff_eq, decide_eq_true_eq, decide_eq_false_iff_not] at *)
  all_goals (simp [askOk]; omega)

set_option maxRecDepth 100000 in
set_option maxHeartbeats 6400000 in
theorem acc_ans_right (er ver pr ba : Int) (le : Bool) (av : Option Addr) (n cv : Nat) (W : World) (hn : n ≤ 9223372036854775807) :
    Calls Tryz.prog 41 #[.agg #[.int .i64 er, .int .i64 ver, .int .i64 pr, .int .i64 ba, .bool le, .slice av n cv]] W fun e w' => e = .returned (.bool (ansOk er ver pr ba n)) ∧ Below W.heap.size W w' := by
  go_enter Tryz.func41, Tryz.ntmps41
  go_wp2_with fail
  iterate 5 (all_goals (try (refine (acc_in _ _ _).mono ?_; rintro e Wx ⟨rfl, hw⟩; rw [hw]; clear hw Wx; go_wp2_with fail)))
  all_goals go_ret
  all_goals (refine ⟨ret_boolA (Bool.eq_iff_iff.2 ?_), (Below.refl _ _).alloc (Nat.le_refl _) _⟩)
  all_goals (try simp only [beq_iff_eq, beq_eq_false_iff_ne, ne_eq, bne_iff_ne, bne_eq_false_iff_eq, decide_eq_true_eq, decide_eq_false_iff_not] at *)
  all_goals (simp [ansOk]; omega)

set_option maxHeartbeats 800000 in
theorem acc_truth (b : Bool) (W : World) : Calls Tryz.prog 42 #[.bool b] W fun e w' => e = .returned (.int .u8 (bit b)) ∧ w' = W := by
  cases b
  · go_enter Tryz.func42, Tryz.ntmps42
    go_wp2_with fail
    go_ret
    exact ⟨rfl, rfl⟩
  · go_enter Tryz.func42, Tryz.ntmps42
    go_wp2_with fail
    go_ret
    exact ⟨rfl, rfl⟩

def flat6 (ns : List Int) : List UInt8 := ns.flatMap (fun n => lowB n 6)
theorem flat6_take (ns : List Int) (j : Nat) (x : Int) (h : ns[j]? = some x) : flat6 (ns.take (j + 1)) = flat6 (ns.take j) ++ lowB x 6 := by
  unfold flat6
  rw [List.take_add_one, h]
  simp
theorem flat6_len (ns : List Int) : (flat6 ns).length = 6 * ns.length := by
  induction ns with
  | nil => rfl
  | cons x l ih => simp [flat6, lowB_length] at *; omega
set_option maxRecDepth 100000 in
set_option maxHeartbeats 1600000 in
theorem acc_low (g n c : Nat) (ns : List Int) (W : World) (hn : n = ns.length) (hm : ns.length ≤ 8) (hc : ∀ i x, ns[i]? = some x → W.cell? ⟨g, i, none⟩ = some (.int .i64 x)) (hb : ∀ x ∈ ns, 0 ≤ x ∧ x < 281474976710656) :
    Calls Tryz.prog 37 #[.slice (some ⟨g, 0, none⟩) n c] W fun e w' => ∃ v, e = .returned v ∧ Own8 w' W.heap.size 5 v (flat6 ns) ∧ Below W.heap.size W w' := by
  subst hn
  obtain ⟨i0, hi, hz0, hz1, hz2⟩ := info_parts info_u8
  have HC := hid hc
  have HB := hid hb
  clear hc hb
  go_enter Tryz.func37, Tryz.ntmps37
  go_wp2_with fail
  go_loopw [3, 10] (fun v i wr => ∃ j : Nat, j ≤ ns.length ∧ i = .int .i64 j ∧ Own8 wr W.heap.size 5 v (flat6 (ns.take j)) ∧ Below W.heap.size W wr) (fun _ i _ => ns.length - (intOf i).toNat)
  case atStart => exact ⟨0, by omega, rfl, Own8.nil _ _ _, Below.refl _ _⟩
  case round =>
    obtain ⟨j, hj, rfl, ho, hbl⟩ := hrel
    by_cases hlt : j < ns.length
    · obtain ⟨x, hx⟩ : ∃ x, ns[j]? = some x := ⟨ns[j], by simp⟩
      have hcell : wr.cell? ⟨g, j, none⟩ = some (.int .i64 x) := ext_cell (HC.out j x hx) (fp := nofp) (Ext.ofBelow (hbl.mono (Nat.le_refl _))) (fun h => h)
      obtain ⟨hx0, hx1⟩ := HB.out x (List.mem_of_getElem? hx)
      have HE := hid (flat6_take ns j x hx)
      have hlen : (flat6 (ns.take j)).length ≤ 48 := by rw [flat6_len]; simp; omega
      have HO := hid (And.intro ho hbl)
      clear hx ho hbl
      go_wp2_with fail
      refine (wire_Put x 6 wr hx0 (by omega) (by omega) (by simpa using hx1)).mono ?_
      rintro e W2 ⟨v2, rfl, o2, b2⟩
      have o1 := HO.out.1.keep b2
      have hb2 := HO.out.2.trans (b2.mono HO.out.2.size)
      have s2 := o2.bs
      have hl6 := lowB_length x 6
      clear o2 b2 HO hcell
      go_wp2_with (at_builtin; refine wpList_append8 Tryz.underlying22 hi hz0 hz1 hz2 rfl _ _ rfl W.heap.size rfl rfl o1 s2 (by simp; omega) hb2.size ?_; intro v' w1 ho' hg _)
      go_roundw
      case rel => exact ⟨j + 1, by omega, by go_num, by rw [HE.out]; exact ho', hb2.grown hg hb2.size (fun k hk => (o1.blk k hk).1)⟩
      case measure => simp [intOf]; omega
    · obtain rfl : j = ns.length := by omega
      rw [List.take_length] at ho
      have hd : decide ((ns.length : Int) < (ns.length : Int)) = false := by simp
      go_wp2_with fail
      go_ret
      exact ⟨_, rfl, ho, hbl⟩
end Go.Proofs.YtnbeagcmfcdklaaGreat
