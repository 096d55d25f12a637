import Derived.Test.YtbahjinlcbjikaaGreatMLgCntP
import Derived.Test.YtbahjinlcbjikaaGreatMLLgC
/-! gazettelaw07.LogletCounts, under way. -/
namespace Go.Proofs.YtbahjinlcbjikaaGreat
open Go.RowKit

/-- A slice of truths. -/
def BoS (w : World) (v : Value) (l : List Bool) : Prop := ∃ a c, v = .slice a l.length c ∧ ∀ (i : Nat) b, l[i]? = some b → ∃ g o, a = some ⟨g, o, none⟩ ∧ w.cell? ⟨g, o + i, none⟩ = some (.bool b)
theorem BoS.keep {w w' : World} {v : Value} {l : List Bool} (h : BoS w v l) (hb : Below w.heap.size w w') : BoS w' v l := by
  obtain ⟨a, c, rfl, hr⟩ := h
  refine ⟨a, c, rfl, fun i x hi => ?_⟩
  obtain ⟨g, o, e, hc⟩ := hr i x hi
  exact ⟨g, o, e, by rw [hb.cell (World.block_lt_of_cell? w _ hc)]; exact hc⟩
def mod9 (x : Int) : Int := (x.tmod 9 + 9).tmod 9
theorem mod9_bound (x : Int) : 0 ≤ mod9 x ∧ mod9 x < 9 := by
  unfold mod9
  have h1 := Int.lt_tmod_of_pos x (show (0 : Int) < 9 by omega)
  have h2 := Int.tmod_lt_of_pos x (show (0 : Int) < 9 by omega)
  have h3 : 0 ≤ x.tmod 9 + 9 := by omega
  exact ⟨Int.tmod_nonneg 9 h3, Int.tmod_lt_of_pos _ (by omega)⟩
/-- Which of n nodes are down. -/
def downL (l : List Bool) (n : Nat) : List Bool := (List.range n).map (fun i => (l[i]?).getD false)
theorem downL_length (l : List Bool) (n : Nat) : (downL l n).length = n := by simp [downL]
theorem downL_succ (l : List Bool) (n : Nat) : downL l (n + 1) = downL l n ++ [(l[n]?).getD false] := by
  simp [downL, List.range_succ]
theorem upL_snoc (l : List Bool) (b : Bool) : upL (l ++ [b]) = upL l + if b = true then 0 else 1 := by
  unfold upL
  cases b <;> simp
theorem upL_le (l : List Bool) : upL l ≤ l.length := by
  unfold upL
  exact List.length_filter_le _ _
/-- The link when the first nodes were gone through. -/
def midL (l : List Bool) (i n : Nat) (X : St × Dk) : List Nds := mixL (downL l i) X ++ List.replicate (n - i) (some X)
theorem midL_length (l : List Bool) (i n : Nat) (X : St × Dk) (h : i ≤ n) : (midL l i n X).length = n := by
  simp [midL, mixL, downL_length]; omega
theorem midL_zero (l : List Bool) (n : Nat) (X : St × Dk) : midL l 0 n X = List.replicate n (some X) := by
  simp [midL, mixL, downL]
theorem midL_all (l : List Bool) (n : Nat) (X : St × Dk) : midL l n n X = mixL (downL l n) X := by
  simp [midL]
theorem midL_up (l : List Bool) (i n : Nat) (X : St × Dk) (h : i < n) (hb : (l[i]?).getD false = false) : midL l (i + 1) n X = midL l i n X := by
  obtain ⟨m, hm⟩ : ∃ m, n - i = m + 1 := ⟨n - i - 1, by omega⟩
  unfold midL
  rw [downL_succ, hb, hm, show n - (i + 1) = m from by omega, List.replicate_succ]
  simp [mixL]
theorem midL_down (l : List Bool) (i n : Nat) (X : St × Dk) (h : i < n) (hb : (l[i]?).getD false = true) : midL l (i + 1) n X = (midL l i n X).set i none := by
  obtain ⟨m, hm⟩ : ∃ m, n - i = m + 1 := ⟨n - i - 1, by omega⟩
  have hl : (mixL (downL l i) X).length = i := by simp [mixL, downL_length]
  unfold midL
  rw [downL_succ, hb, hm, show n - (i + 1) = m from by omega, List.replicate_succ]
  rw [List.set_append_right _ _ (by omega), hl, Nat.sub_self]
  simp [mixL]
end Go.Proofs.YtbahjinlcbjikaaGreat

/-! gazetteref07: Check, Quorum. -/
namespace Go.Proofs.YtbahjinlcbjikaaGreat
open Go.RowKit

section
variable {W : World}
set_option maxRecDepth 100000 in
set_option maxHeartbeats 800000 in
theorem ref7_Quorum (id : Int) (a : Option Addr) (n c : Nat) (hn : n ≤ 9223372036854775806) :
    Calls Tryz.prog 13 #[.agg #[.int .i64 id, .slice a n c]] W fun e w' => e = .returned (.int .i64 ((n / 2 + 1 : Nat) : Int)) ∧ Below W.heap.size W w' := by
  have h1 : (n : Int) / 2 = ((n / 2 : Nat) : Int) := by omega
  have h2 : Int.tdiv (n : Int) 2 = ((n / 2 : Nat) : Int) := by rw [Int.tdiv_eq_ediv_of_nonneg (by omega)]; exact h1
  have h5 : n / 2 ≤ 4611686018427387903 := by omega
  generalize n / 2 = q at *
  have h3 : wrap64 ((q : Int) + 1) = (q : Int) + 1 := by unfold wrap64; omega
  clear hn
  go_enter Tryz.func13, Tryz.ntmps13
  go_wp2_with fail
  go_ret
  exact ⟨by simp, (Below.refl _ _).alloc (Nat.le_refl _) _⟩
theorem of_base {id : Int} {n : Nat} {b : Bool} (h : decide (0 ≤ id ∧ id < 281474976710656 ∧ 1 ≤ n ∧ n ≤ 9) = b) : if b = true then (0 ≤ id ∧ id < 281474976710656 ∧ 1 ≤ n ∧ n ≤ 9) else ¬ (0 ≤ id ∧ id < 281474976710656 ∧ 1 ≤ n ∧ n ≤ 9) := by
  subst h
  split
  · rename_i h; exact of_decide_eq_true h
  · rename_i h; simpa using h
theorem okTo_take {nd : Int} {l : List Int} (k : Nat) (h : okTo nd l = true) : okTo nd (l.take k) = true := by
  have h1 := of_decide_eq_true h
  exact decide_eq_true ⟨fun x hx => h1.1 x (List.mem_of_mem_take hx), h1.2.sublist (List.take_sublist k l)⟩
set_option maxRecDepth 100000 in
set_option maxHeartbeats 6400000 in
theorem ref7_Check (id : Int) (v : Value) (l : List Int) (nd : Int) (hv : Is W v l) (hl : l.length ≤ 1073741824) :
    Calls Tryz.prog 12 #[.agg #[.int .i64 id, v], .int .i64 nd] W fun e w' => e = .returned (.int .i64 (checkE (checkB ⟨id, l⟩ nd))) ∧ Below W.heap.size W w' := by
  obtain ⟨base, hbase⟩ : ∃ b, (decide (0 ≤ id ∧ id < 281474976710656 ∧ 1 ≤ l.length ∧ l.length ≤ 9)) = b := ⟨_, rfl⟩
  have hchk : checkB ⟨id, l⟩ nd = (base && okTo nd l) := by rw [check_base, hbase]
  have HC := hid hchk
  obtain ⟨a, c, hav⟩ : ∃ a c, v = .slice a l.length c := by obtain ⟨a, c, e, _⟩ := hv; exact ⟨a, c, e⟩
  subst hav
  have HV := hid hv
  obtain ⟨W1, hW1⟩ : ∃ W1, W.alloc (.cells #[.int .i64 id, .slice a l.length c] 25) = W1 := ⟨_, rfl⟩
  have k1 : Blk W1 W.heap.size #[.int .i64 id, .slice a l.length c] 25 := by rw [← hW1]; exact Blk.new _ _ _
  have b1 : Below W.heap.size W W1 := by rw [← hW1]; exact (Below.refl _ _).alloc (Nat.le_refl _) _
  have c0 := k1.cell (o := 0) rfl
  have c1 := k1.cell (o := 1) rfl
  have HB := hid b1
  have HK := hid k1
  have hbase2 := of_base hbase
  clear hv hchk hbase k1 b1
  cases base
  · have HE := hid (show checkE (checkB ⟨id, l⟩ nd) = 1 by rw [HC.out]; rfl)
    go_enter Tryz.func12, Tryz.ntmps12
    go_wp2_with fail
    all_goals first | (exfalso; simp at hbase2; omega) | skip
    all_goals (go_ret; rw [HE.out]; exact ⟨rfl, HB.out⟩)
  · simp only [if_true] at hbase2
    obtain ⟨q1, q2, q3, q4⟩ := hbase2
    go_enter Tryz.func12, Tryz.ntmps12
    go_wp2_with fail
    all_goals first | (exfalso; omega) | skip
    clear q1 q2 q3
    have HBAD := hid (show ∀ j, okTo nd (l.take j) = false → checkE (checkB ⟨id, l⟩ nd) = 1 from fun j hj => by
      rw [HC.out, Bool.true_and]
      cases ho : okTo nd l with
      | false => rfl
      | true => rw [okTo_take j ho] at hj; cases hj)
    clear hW1
    go_loopw [5] (fun i wr => ∃ k : Nat, k ≤ l.length ∧ i = .int .i64 (k : Int) ∧ okTo nd (l.take k) = true ∧ Below W1.heap.size W1 wr) (fun i _ => l.length - (intOf i).toNat)
    case atStart => exact ⟨0, Nat.zero_le _, rfl, by rw [List.take_zero, okTo_nil], Below.refl _ _⟩
    case round =>
      obtain ⟨k, hk, rfl, hok, hbr⟩ := hrel
      have hkr := HK.out.keep hbr
      have c0 := hkr.cell (o := 0) rfl
      have c1 := hkr.cell (o := 1) rfl
      have hIs := HV.out.keep (HB.out.trans (hbr.mono HB.out.size))
      have HBR := hid hbr
      have HKR := hid hkr
      have HOK := hid hok
      clear hkr hbr hok
      by_cases hlt : k < l.length
      · obtain ⟨x, hx⟩ : ∃ x, l[k]? = some x := ⟨l[k], by simp⟩
        have hd1 : decide ((k : Int) < (l.length : Int)) = true := decide_eq_true (by omega)
        have HS := hid (okTo_succ (nd := nd) hx)
        obtain ⟨a9, c9, ea, hr⟩ := hIs
        cases ea
        obtain ⟨g, o, eg, hc⟩ := hr k x hx
        subst eg
        have HR := hid hr
        clear hr
        by_cases hx0 : x < 0
        · have HE := hid (HBAD.out (k + 1) (by rw [HS.out, decide_eq_false (by omega : ¬ x ≥ 0)]; simp))
          go_wp2_with fail
          all_goals first | (exfalso; omega) | skip
          go_ret
          rw [HE.out]
          exact ⟨rfl, HB.out.trans (HBR.out.mono HB.out.size)⟩
        · by_cases hx1 : x ≥ nd
          · have HE := hid (HBAD.out (k + 1) (by rw [HS.out, decide_eq_false (by omega : ¬ x < nd)]; simp))
            go_wp2_with fail
            all_goals first | (exfalso; omega) | skip
            go_ret
            rw [HE.out]
            exact ⟨rfl, HB.out.trans (HBR.out.mono HB.out.size)⟩
          · go_wp2_with fail
            all_goals first | (exfalso; omega) | skip
            have HX := hid (And.intro hx0 hx1)
            have HX2 := hid hx
            clear c0 c1 hx0 hx1 hc hx hd1
            go_loopw [6] (fun i w2 => ∃ j : Nat, j ≤ k ∧ i = .int .i64 (j : Int) ∧ x ∉ l.take j ∧ Below wr.heap.size wr w2) (fun i _ => k - (intOf i).toNat)
            case atStart => exact ⟨0, Nat.zero_le _, rfl, by simp, Below.refl _ _⟩
            case round =>
              obtain ⟨j, hj, rfl, hnx, hb2⟩ := hrel
              have hk2 := HKR.out.keep hb2
              have HB2 := hid hb2
              by_cases hjk : j < k
              · obtain ⟨y, hy⟩ : ∃ y, l[j]? = some y := ⟨l[j]'(by omega), by simp⟩
                have hd2 : decide ((j : Int) < (k : Int)) = true := decide_eq_true (by omega)
                obtain ⟨g1, o1, eg1, hcj⟩ := HR.out j y hy
                cases eg1
                obtain ⟨g2, o2, eg2, hck⟩ := HR.out k x HX2.out
                cases eg2
                have m1 : wr.cell? ⟨g, o + j, none⟩ = some (.int .i64 y) := ext_cell hcj (Ext.ofBelow (fp := nofp) hb2) (fun h => h)
                have m2 : wr.cell? ⟨g, o + k, none⟩ = some (.int .i64 x) := ext_cell hck (Ext.ofBelow (fp := nofp) hb2) (fun h => h)
                have c0 := hk2.cell (o := 0) rfl
                have c1 := hk2.cell (o := 1) rfl
                have HNX := hid hnx
                have HY := hid hy
                clear hb2 hk2 hnx hy hcj hck
                by_cases hyx : y = x
                · have hd3 : (y == x) = true := beq_iff_eq.2 hyx
                  have HYX := hid hyx
                  clear hyx
                  have HE := hid (HBAD.out (k + 1) (by
                    have hm : x ∈ l.take k := by
                      have h9 := HY.out
                      rw [HYX.out] at h9
                      exact List.mem_iff_getElem?.2 ⟨j, by rw [List.getElem?_take, if_pos hjk]; exact h9⟩
                    rw [HS.out, decide_eq_true hm]
                    simp))
                  go_wp2_with fail
                  go_quiet (fail)
                  go_wp2_with fail
                  go_ret
                  rw [HE.out]
                  exact ⟨rfl, (HB.out.trans (HBR.out.mono HB.out.size)).trans ((HB2.out.trans (below_of_drewN _ _ _)).mono (Nat.le_trans HB.out.size HBR.out.size))⟩
                · have hd3 : (y == x) = false := beq_eq_false_iff_ne.2 hyx
                  have HYX := hid hyx
                  clear hyx
                  go_wp2_with fail
                  go_quiet (fail)
                  go_wp2_with fail
                  go_roundw
                  case rel =>
                    refine ⟨j + 1, by omega, by go_num, fun hm => ?_, HB2.out.trans (below_of_drewN _ _ _)⟩
                    rcases (mem_take_succ HY.out).1 hm with h9 | h9
                    · exact HYX.out h9.symm
                    · exact HNX.out h9
                  case measure => simp [intOf]; omega
              · obtain rfl : j = k := by omega
                have hd2 : decide ((j : Int) < (j : Int)) = false := decide_eq_false (by omega)
                have HNX := hid hnx
                clear hb2 hk2 hnx
                go_wp2_with fail
                go_roundw
                case rel => exact ⟨j + 1, by omega, by go_num, by rw [HS.out, HOK.out, decide_eq_true (by have := HX.out.1; omega : x ≥ 0), decide_eq_true (by have := HX.out.2; omega : x < nd), decide_eq_false HNX.out]; rfl, HBR.out.trans (HB2.out.mono HBR.out.size)⟩
                case measure => simp [intOf]; omega
      · obtain rfl : k = l.length := by omega
        have hd1 : decide ((l.length : Int) < (l.length : Int)) = false := decide_eq_false (by omega)
        have HE := hid (show checkE (checkB ⟨id, l⟩ nd) = 0 by
          have := HOK.out
          rw [List.take_length] at this
          rw [HC.out, this]
          rfl)
        go_wp2_with fail
        go_ret
        rw [HE.out]
        exact ⟨rfl, HB.out.trans (HBR.out.mono HB.out.size)⟩
end
end Go.Proofs.YtbahjinlcbjikaaGreat
