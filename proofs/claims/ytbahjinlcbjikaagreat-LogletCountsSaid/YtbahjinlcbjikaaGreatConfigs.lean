import Derived.Test.YtbahjinlcbjikaaGreatMRef7
/-! gazettelaw07.LogletConfigs. -/
namespace Go.Proofs.YtbahjinlcbjikaaGreat
open Go.RowKit

section
variable {W : World}
theorem own_none (W : World) (c : Array Value) (hs : c = #[]) : OwnI (W.alloc (.cells c 3)) W.heap.size 3 (.slice (some ⟨W.heap.size, 0, none⟩) 0 0) [] := by
  subst hs
  exact ⟨rfl, .inr ⟨W.heap.size, 0, #[], rfl, Nat.le_refl _, Blk.new _ _ _, Nat.le_refl _, by simp [maxLen], rfl, rfl⟩⟩
theorem OwnI.is {w : World} {base : Nat} {t : TypeId} {v : Value} {l : List Int} (h : OwnI w base t v l) : Is w v l := by
  rcases h.2 with ⟨rfl, h0⟩ | ⟨g, cap, cur, rfl, _, hg, hc, hm, _, ht⟩
  · have : l = [] := List.eq_nil_of_length_eq_zero h0
    subst this
    exact ⟨none, 0, rfl, fun i x h => by simp at h⟩
  · refine ⟨_, _, rfl, fun i x hi => ⟨g, 0, rfl, ?_⟩⟩
    have hu : (l.map iv)[i]? = some (iv x) := by simp [hi]
    rw [← ht, List.getElem?_take] at hu
    split at hu
    · simp [World.cell?, hg]
      simpa using hu
    · cases hu
theorem wrap_small {z : Int} (h0 : 0 ≤ z) (h1 : z ≤ 2000000) : IntKind.i64.wrap z = z := by
  rw [IntKind.wrap_i64]
  omega
theorem half_facts {n : Nat} {q : Int} (hn : n ≤ 1048576) (h : ((n / 2 + 1 : Nat) : Int) = q) : 0 ≤ 2 * q ∧ 2 * q ≤ 2000000 ∧ 2 * q > (n : Int) ∧ 2 * q ≤ (n : Int) + 2 := by
  subst h
  have h1 := Nat.div_add_mod n 2
  have h2 := Nat.mod_lt n (show 0 < 2 by omega)
  generalize n / 2 = m at *
  generalize n % 2 = r at *
  omega
set_option maxRecDepth 100000 in
set_option maxHeartbeats 12800000 in
theorem law7_configs (id nd : Int) (v : Value) (l : List Int) (W : World) (hv : Is W v l) (hl : l.length ≤ 1048576) :
    Calls Tryz.prog 3 #[.int .i64 id, v, .int .i64 nd] W fun e w' => e = .returned (.bool true) ∧ Below W.heap.size W w' := by
  obtain ⟨i9, hi, hz0⟩ := Option.map_eq_some_iff.1 info_int
  have hz1 : i9.zero = some (.int .i64 0) := congrArg (fun p : Option Value × Nat × Nat => p.1) hz0
  have hz2 : i9.size = 1 := congrArg (fun p : Option Value × Nat × Nat => p.2.1) hz0
  have hz3 : i9.bytes = 8 := congrArg (fun p : Option Value × Nat × Nat => p.2.2) hz0
  obtain ⟨va, vc, hav⟩ : ∃ a c, v = .slice a l.length c := by obtain ⟨a, c, e, _⟩ := hv; exact ⟨a, c, e⟩
  subst hav
  obtain ⟨W1, hW1⟩ : ∃ W1, W.alloc (.cells #[] 3) = W1 := ⟨_, rfl⟩
  have b1 : Below W.heap.size W W1 := by rw [← hW1]; exact (Below.refl _ _).alloc (Nat.le_refl _) _
  have o1 : OwnI W1 W.heap.size 3 (.slice (some ⟨W.heap.size, 0, none⟩) 0 0) [] := by rw [← hW1]; exact own_none W _ rfl
  obtain ⟨v2, W2, hr2, o2, g2, _⟩ := run_appendI (P := Tryz.prog) Tryz.underlying22 hi hz1 hz2 hz3 22 o1 (hv.keep b1) (by simp; omega) b1.size
  rw [List.nil_append] at o2
  have b2 : Below W.heap.size W W2 := b1.grown g2 b1.size (fun k hk => by cases hk; exact Nat.le_refl _)
  have is2 := o2.is
  obtain ⟨a2, c2, e2⟩ : ∃ a c, v2 = .slice a l.length c := by obtain ⟨a, c, e, _⟩ := is2; exact ⟨a, c, e⟩
  subst e2
  obtain ⟨W3, hW3⟩ : ∃ W3, W2.alloc (.cells #[.int .i64 id, .slice a2 l.length c2] 24) = W3 := ⟨_, rfl⟩
  have b3 : Below W2.heap.size W2 W3 := by rw [← hW3]; exact (Below.refl _ _).alloc (Nat.le_refl _) _
  have k3 : Blk W3 W2.heap.size #[.int .i64 id, .slice a2 l.length c2] 24 := by rw [← hW3]; exact Blk.new _ _ _
  obtain ⟨W4, hW4⟩ : ∃ W4, W3.alloc (.cells #[.int .i64 id, .slice va l.length vc] 25) = W4 := ⟨_, rfl⟩
  have b4 : Below W3.heap.size W3 W4 := by rw [← hW4]; exact (Below.refl _ _).alloc (Nat.le_refl _) _
  have k4 : Blk W4 W3.heap.size #[.int .i64 id, .slice va l.length vc] 25 := by rw [← hW4]; exact Blk.new _ _ _
  have k34 := k3.keep b4
  have b24 := b3.trans (b4.mono b3.size)
  have b04 := b2.trans (b24.mono b2.size)
  have c0 := k34.cell (o := 0) rfl
  have c1 := k34.cell (o := 1) rfl
  obtain ⟨q, hq⟩ : ∃ q : Int, ((l.length / 2 + 1 : Nat) : Int) = q := ⟨_, rfl⟩
  have hcq := log_Quorum (W := W4) id a2 l.length c2 (by omega)
  rw [hq] at hcq
  have HC := hid hcq
  have HH := hid (And.intro k34 (And.intro k4 (And.intro (is2.keep b24) (And.intro (hv.keep b04) b04))))
  have HQ := hid hq
  obtain ⟨G3, hG3⟩ : ∃ g, W2.heap.size = g := ⟨_, rfl⟩
  obtain ⟨G4, hG4⟩ : ∃ g, W3.heap.size = g := ⟨_, rfl⟩
  have HG := hid (And.intro hG3 hG4)
  clear hv o1 hi hz0 hz1 hz2 hz3 g2 o2 b1 b2 b3 b4 k3 k4 k34 b24 b04 is2 hcq hG3 hG4
  go_enter Tryz.func3, Tryz.ntmps3
  go_wp2_with (at_builtin; refine Lib.wpList_append_run W1 rfl (.tmp 11) (.tmp 12) _ _ rfl _ _ rfl rfl _ _ hr2 ?_)
  refine HC.out.mono ?_
  rintro e W5 ⟨rfl, b5⟩
  obtain ⟨k3, k4, is2, hv, b04⟩ := HH.out
  rw [HG.out.1] at k3
  rw [HG.out.2] at k4
  have HK3 := hid (k3.keep b5)
  have HK4 := hid (k4.keep b5)
  have HI2 := hid (is2.keep b5)
  have HV := hid (hv.keep b5)
  have HB := hid (b04.trans (b5.mono b04.size))
  have hg3 := HG.out.1
  have hg4 := HG.out.2
  clear k3 k4 is2 hv b04 b5 HC HH hr2 hW1 hW3 hW4 c0 c1
  go_wp2_with fail
  try rw [hg3]
  try rw [hg4]
  obtain ⟨E, hE⟩ : ∃ E, checkE (checkB ⟨id, l⟩ nd) = E := ⟨_, rfl⟩
  have HE := hid hE
  have hb9 : 0 ≤ 2 * q ∧ 2 * q ≤ 2000000 ∧ 2 * q > (l.length : Int) ∧ 2 * q ≤ (l.length : Int) + 2 := half_facts hl HQ.out
  have hm1 : IntKind.i64.wrap (2 * q) = 2 * q := wrap_small hb9.1 hb9.2.1
  have hm2 : IntKind.i64.wrap ((l.length : Int) + 2) = (l.length : Int) + 2 := wrap_small (by omega) (by omega)
  have hd1 : decide (2 * q > (l.length : Int)) = true := decide_eq_true hb9.2.2.1
  have hd2 : decide (2 * q ≤ (l.length : Int) + 2) = true := decide_eq_true hb9.2.2.2
  have he1 : (E == E) = true := beq_self_eq_true E
  have he2 : (q == q) = true := beq_self_eq_true q
  clear hb9 hE hq hg3 hg4
  refine wp_region_invG rfl Grows (fun i v x => match i with
      | 0 => v = .agg #[.int .i64 id, .slice a2 l.length c2]
      | 1 => v = .int .i64 nd
      | 2 => v = .int .i64 E
      | 3 => v = .int .i64 E
      | 4 => v = .agg #[.int .i64 id, .slice va l.length vc]
      | 5 => v = .int .i64 nd
      | 6 => v = .int .i64 E
      | 7 => v = .bool true
      | 8 => v = .bool true
      | 9 => v = .int .i64 q
      | 10 => v = .agg #[.int .i64 id, .slice va l.length vc]
      | 11 => v = .int .i64 q
      | 12 => v = .bool true
      | 13 => v = .bool true
      | 14 => v = .bool true
      | 15 => v = .int .i64 q
      | 16 => v = .int .i64 (2 * q)
      | 17 => v = .slice va l.length vc
      | 18 => v = .int .i64 (l.length : Int)
      | 19 => v = .bool true
      | 20 => v = .bool true
      | 21 => v = .bool true
      | 22 => v = .int .i64 q
      | 23 => v = .int .i64 (2 * q)
      | 24 => v = .slice va l.length vc
      | 25 => v = .int .i64 (l.length : Int)
      | 26 => v = .int .i64 ((l.length : Int) + 2)
      | 27 => v = .bool true
      | 28 => v = .bool true
      | 29 => v = .bool true
      | 30 => v = .bool true
      | 31 => v = .bool true
      | 32 => v = .bool true
      | _ => True) (by kernel_rfl) Grows.refl Grows.trans ?rstab ?rsteps ?rfin
  case rstab =>
    intro i v x y hg h
    match i with
    | 0 | 1 | 2 | 3 | 4 | 5 | 6 | 7 | 8 | 9 | 10 | 11 | 12 | 13 | 14 | 15 | 16 | 17 | 18 | 19 | 20 | 21 | 22 | 23 | 24 | 25 | 26 | 27 | 28 | 29 | 30 | 31 | 32 => exact h
    | n + 33 => trivial
  case rsteps =>
    refine ⟨?_, ?_, ?_, ?_, ?_, ?_, ?_, ?_, ?_, ?_, ?_, ?_, ?_, ?_, ?_, ?_, ?_, ?_, ?_, ?_, ?_, ?_, ?_, ?_, ?_, ?_, ?_, ?_, ?_, ?_, ?_, ?_, ?_, trivial⟩
    · intro a x hA
      refine .inl ⟨rfl, ?_⟩
      have t7 := hA.at_ 7 (by first | rfl | kernel_rfl) rfl
      have hBx := HK3.out.keep hA.grown
      have hc0 := hBx.cell (o := 0) rfl
      have hc1 := hBx.cell (o := 1) rfl
      have hBy := HK4.out.keep hA.grown
      have hc2 := hBy.cell (o := 0) rfl
      have hc3 := hBy.cell (o := 1) rfl
      clear hBx hBy
      refine step_value (w' := x) (v := .agg #[.int .i64 id, .slice a2 l.length c2]) ?_ (Grows.refl _) ?_
      · go_simp
      · rfl
    · intro a x hA
      refine .inl ⟨rfl, ?_⟩
      have t2 := hA.at_ 2 (by first | rfl | kernel_rfl) rfl
      refine step_value (w' := x) (v := .int .i64 nd) ?_ (Grows.refl _) ?_
      · go_simp
      · rfl
    · intro a x hA
      refine .inl ⟨rfl, ?_⟩
      have t20 : a.tmps[20]?.getD undef = .agg #[.int .i64 id, .slice a2 l.length c2] := hA.dep_ ⟨0, .data⟩ (by simp) _ 20 rfl rfl
      have t21 : a.tmps[21]?.getD undef = .int .i64 nd := hA.dep_ ⟨1, .data⟩ (by simp) _ 21 rfl rfl
      have hBx := HK3.out.keep hA.grown
      have hc0 := hBx.cell (o := 0) rfl
      have hc1 := hBx.cell (o := 1) rfl
      have hBy := HK4.out.keep hA.grown
      have hc2 := hBy.cell (o := 0) rfl
      have hc3 := hBy.cell (o := 1) rfl
      clear hBx hBy
      refine step_call (f := 11) (args := #[.agg #[.int .i64 id, .slice a2 l.length c2], .int .i64 nd]) (by clear hc0 hc1 hc2 hc3; go_simp) ((log_Check id _ l nd (HI2.out.keep hA.grown) (by omega)).mono ?_)
      rw [HE.out]
      rintro e w' ⟨rfl, hb⟩
      exact ⟨_, rfl, grows_of_below hb, rfl⟩
    · intro a x hA
      refine .inl ⟨rfl, ?_⟩
      have t22 : a.tmps[22]?.getD undef = .int .i64 E := hA.dep_ ⟨2, .data⟩ (by simp) _ 22 rfl rfl
      have hBx := HK3.out.keep hA.grown
      have hc0 := hBx.cell (o := 0) rfl
      have hc1 := hBx.cell (o := 1) rfl
      have hBy := HK4.out.keep hA.grown
      have hc2 := hBy.cell (o := 0) rfl
      have hc3 := hBy.cell (o := 1) rfl
      clear hBx hBy
      refine step_call (f := 10) (args := #[.int .i64 E]) (by clear hc0 hc1 hc2 hc3; go_simp) ((law7_num E x).mono ?_)
      rintro e w' ⟨rfl, hw⟩
      subst hw
      exact ⟨_, rfl, Grows.refl _, rfl⟩
    · intro a x hA
      refine .inl ⟨rfl, ?_⟩
      have t8 := hA.at_ 8 (by first | rfl | kernel_rfl) rfl
      have hBx := HK3.out.keep hA.grown
      have hc0 := hBx.cell (o := 0) rfl
      have hc1 := hBx.cell (o := 1) rfl
      have hBy := HK4.out.keep hA.grown
      have hc2 := hBy.cell (o := 0) rfl
      have hc3 := hBy.cell (o := 1) rfl
      clear hBx hBy
      refine step_value (w' := x) (v := .agg #[.int .i64 id, .slice va l.length vc]) ?_ (Grows.refl _) ?_
      · go_simp
      · rfl
    · intro a x hA
      refine .inl ⟨rfl, ?_⟩
      have t2 := hA.at_ 2 (by first | rfl | kernel_rfl) rfl
      refine step_value (w' := x) (v := .int .i64 nd) ?_ (Grows.refl _) ?_
      · go_simp
      · rfl
    · intro a x hA
      refine .inl ⟨rfl, ?_⟩
      have t24 : a.tmps[24]?.getD undef = .agg #[.int .i64 id, .slice va l.length vc] := hA.dep_ ⟨4, .data⟩ (by simp) _ 24 rfl rfl
      have t25 : a.tmps[25]?.getD undef = .int .i64 nd := hA.dep_ ⟨5, .data⟩ (by simp) _ 25 rfl rfl
      have hBx := HK3.out.keep hA.grown
      have hc0 := hBx.cell (o := 0) rfl
      have hc1 := hBx.cell (o := 1) rfl
      have hBy := HK4.out.keep hA.grown
      have hc2 := hBy.cell (o := 0) rfl
      have hc3 := hBy.cell (o := 1) rfl
      clear hBx hBy
      refine step_call (f := 12) (args := #[.agg #[.int .i64 id, .slice va l.length vc], .int .i64 nd]) (by clear hc0 hc1 hc2 hc3; go_simp) ((ref7_Check id _ l nd (HV.out.keep hA.grown) (by omega)).mono ?_)
      rw [HE.out]
      rintro e w' ⟨rfl, hb⟩
      exact ⟨_, rfl, grows_of_below hb, rfl⟩
    · intro a x hA
      refine .inl ⟨rfl, ?_⟩
      have t23 : a.tmps[23]?.getD undef = .int .i64 E := hA.dep_ ⟨3, .data⟩ (by simp) _ 23 rfl rfl
      have t26 : a.tmps[26]?.getD undef = .int .i64 E := hA.dep_ ⟨6, .data⟩ (by simp) _ 26 rfl rfl
      refine step_value (w' := x) (v := .bool true) ?_ (Grows.refl _) ?_
      · go_simp
      · rfl
    · intro a x hA
      refine .inl ⟨rfl, ?_⟩
      have t27 : a.tmps[27]?.getD undef = .bool true := hA.dep_ ⟨7, .data⟩ (by simp) _ 27 rfl rfl
      refine step_value (w' := x) (v := .bool true) ?_ (Grows.refl _) ?_
      · go_simp
      · rfl
    · intro a x hA
      have tg : a.tmps[28]?.getD undef = .bool true := hA.dep_ ⟨8, .guard⟩ (by simp) _ 28 rfl rfl
      refine .inl ⟨by rw [wanted_of (j := 8) rfl (yielded_of (by rfl) rfl tg)]; rfl, ?_⟩
      clear tg
      have t9 := hA.at_ 9 (by first | rfl | kernel_rfl) rfl
      refine step_value (w' := x) (v := .int .i64 q) ?_ (Grows.refl _) ?_
      · go_simp
      · rfl
    · intro a x hA
      have tg : a.tmps[28]?.getD undef = .bool true := hA.dep_ ⟨8, .guard⟩ (by simp) _ 28 rfl rfl
      refine .inl ⟨by rw [wanted_of (j := 8) rfl (yielded_of (by rfl) rfl tg)]; rfl, ?_⟩
      clear tg
      have t8 := hA.at_ 8 (by first | rfl | kernel_rfl) rfl
      have hBx := HK3.out.keep hA.grown
      have hc0 := hBx.cell (o := 0) rfl
      have hc1 := hBx.cell (o := 1) rfl
      have hBy := HK4.out.keep hA.grown
      have hc2 := hBy.cell (o := 0) rfl
      have hc3 := hBy.cell (o := 1) rfl
      clear hBx hBy
      refine step_value (w' := x) (v := .agg #[.int .i64 id, .slice va l.length vc]) ?_ (Grows.refl _) ?_
      · go_simp
      · rfl
    · intro a x hA
      have tg : a.tmps[28]?.getD undef = .bool true := hA.dep_ ⟨8, .guard⟩ (by simp) _ 28 rfl rfl
      refine .inl ⟨by rw [wanted_of (j := 8) rfl (yielded_of (by rfl) rfl tg)]; rfl, ?_⟩
      clear tg
      have t30 : a.tmps[30]?.getD undef = .agg #[.int .i64 id, .slice va l.length vc] := hA.dep_ ⟨10, .data⟩ (by simp) _ 30 rfl rfl
      have hBx := HK3.out.keep hA.grown
      have hc0 := hBx.cell (o := 0) rfl
      have hc1 := hBx.cell (o := 1) rfl
      have hBy := HK4.out.keep hA.grown
      have hc2 := hBy.cell (o := 0) rfl
      have hc3 := hBy.cell (o := 1) rfl
      clear hBx hBy
      have hcq := ref7_Quorum (W := x) id va l.length vc (by omega)
      rw [HQ.out] at hcq
      refine step_call (f := 13) (args := #[.agg #[.int .i64 id, .slice va l.length vc]]) (by clear hc0 hc1 hc2 hc3 hcq; go_simp) (hcq.mono ?_)
      rintro e w' ⟨rfl, hb⟩
      exact ⟨_, rfl, grows_of_below hb, rfl⟩
    · intro a x hA
      have tg : a.tmps[28]?.getD undef = .bool true := hA.dep_ ⟨8, .guard⟩ (by simp) _ 28 rfl rfl
      refine .inl ⟨by rw [wanted_of (j := 8) rfl (yielded_of (by rfl) rfl tg)]; rfl, ?_⟩
      clear tg
      have t29 : a.tmps[29]?.getD undef = .int .i64 q := hA.dep_ ⟨9, .data⟩ (by simp) _ 29 rfl rfl
      have t31 : a.tmps[31]?.getD undef = .int .i64 q := hA.dep_ ⟨11, .data⟩ (by simp) _ 31 rfl rfl
      refine step_value (w' := x) (v := .bool true) ?_ (Grows.refl _) ?_
      · go_simp
      · rfl
    · intro a x hA
      refine .inl ⟨rfl, ?_⟩
      have t28 : a.tmps[28]?.getD undef = .bool true := hA.dep_ ⟨8, .data⟩ (by simp) _ 28 rfl rfl
      have t32 : a.tmps[32]?.getD undef = .bool true := hA.dep_ ⟨12, .data⟩ (by simp) _ 32 rfl rfl
      refine step_value (w' := x) (v := .bool true) ?_ (Grows.refl _) ?_
      · go_simp
      · rfl
    · intro a x hA
      refine .inl ⟨rfl, ?_⟩
      have t33 : a.tmps[33]?.getD undef = .bool true := hA.dep_ ⟨13, .data⟩ (by simp) _ 33 rfl rfl
      refine step_value (w' := x) (v := .bool true) ?_ (Grows.refl _) ?_
      · go_simp
      · rfl
    · intro a x hA
      have tg : a.tmps[34]?.getD undef = .bool true := hA.dep_ ⟨14, .guard⟩ (by simp) _ 34 rfl rfl
      refine .inl ⟨by rw [wanted_of (j := 14) rfl (yielded_of (by rfl) rfl tg)]; rfl, ?_⟩
      clear tg
      have t9 := hA.at_ 9 (by first | rfl | kernel_rfl) rfl
      refine step_value (w' := x) (v := .int .i64 q) ?_ (Grows.refl _) ?_
      · go_simp
      · rfl
    · intro a x hA
      have tg : a.tmps[34]?.getD undef = .bool true := hA.dep_ ⟨14, .guard⟩ (by simp) _ 34 rfl rfl
      refine .inl ⟨by rw [wanted_of (j := 14) rfl (yielded_of (by rfl) rfl tg)]; rfl, ?_⟩
      clear tg
      have t35 : a.tmps[35]?.getD undef = .int .i64 q := hA.dep_ ⟨15, .data⟩ (by simp) _ 35 rfl rfl
      refine step_value (w' := x) (v := .int .i64 (2 * q)) ?_ (Grows.refl _) ?_
      · go_simp
      · rfl
    · intro a x hA
      have tg : a.tmps[34]?.getD undef = .bool true := hA.dep_ ⟨14, .guard⟩ (by simp) _ 34 rfl rfl
      refine .inl ⟨by rw [wanted_of (j := 14) rfl (yielded_of (by rfl) rfl tg)]; rfl, ?_⟩
      clear tg
      have t1 := hA.at_ 1 (by first | rfl | kernel_rfl) rfl
      refine step_value (w' := x) (v := .slice va l.length vc) ?_ (Grows.refl _) ?_
      · go_simp
      · rfl
    · intro a x hA
      have tg : a.tmps[34]?.getD undef = .bool true := hA.dep_ ⟨14, .guard⟩ (by simp) _ 34 rfl rfl
      refine .inl ⟨by rw [wanted_of (j := 14) rfl (yielded_of (by rfl) rfl tg)]; rfl, ?_⟩
      clear tg
      have t37 : a.tmps[37]?.getD undef = .slice va l.length vc := hA.dep_ ⟨17, .data⟩ (by simp) _ 37 rfl rfl
      refine step_value (w' := x) (v := .int .i64 (l.length : Int)) ?_ (Grows.refl _) ?_
      · go_simp
      · rfl
    · intro a x hA
      have tg : a.tmps[34]?.getD undef = .bool true := hA.dep_ ⟨14, .guard⟩ (by simp) _ 34 rfl rfl
      refine .inl ⟨by rw [wanted_of (j := 14) rfl (yielded_of (by rfl) rfl tg)]; rfl, ?_⟩
      clear tg
      have t36 : a.tmps[36]?.getD undef = .int .i64 (2 * q) := hA.dep_ ⟨16, .data⟩ (by simp) _ 36 rfl rfl
      have t38 : a.tmps[38]?.getD undef = .int .i64 (l.length : Int) := hA.dep_ ⟨18, .data⟩ (by simp) _ 38 rfl rfl
      refine step_value (w' := x) (v := .bool true) ?_ (Grows.refl _) ?_
      · go_simp
      · rfl
    · intro a x hA
      refine .inl ⟨rfl, ?_⟩
      have t34 : a.tmps[34]?.getD undef = .bool true := hA.dep_ ⟨14, .data⟩ (by simp) _ 34 rfl rfl
      have t39 : a.tmps[39]?.getD undef = .bool true := hA.dep_ ⟨19, .data⟩ (by simp) _ 39 rfl rfl
      refine step_value (w' := x) (v := .bool true) ?_ (Grows.refl _) ?_
      · go_simp
      · rfl
    · intro a x hA
      refine .inl ⟨rfl, ?_⟩
      have t40 : a.tmps[40]?.getD undef = .bool true := hA.dep_ ⟨20, .data⟩ (by simp) _ 40 rfl rfl
      refine step_value (w' := x) (v := .bool true) ?_ (Grows.refl _) ?_
      · go_simp
      · rfl
    · intro a x hA
      have tg : a.tmps[41]?.getD undef = .bool true := hA.dep_ ⟨21, .guard⟩ (by simp) _ 41 rfl rfl
      refine .inl ⟨by rw [wanted_of (j := 21) rfl (yielded_of (by rfl) rfl tg)]; rfl, ?_⟩
      clear tg
      have t9 := hA.at_ 9 (by first | rfl | kernel_rfl) rfl
      refine step_value (w' := x) (v := .int .i64 q) ?_ (Grows.refl _) ?_
      · go_simp
      · rfl
    · intro a x hA
      have tg : a.tmps[41]?.getD undef = .bool true := hA.dep_ ⟨21, .guard⟩ (by simp) _ 41 rfl rfl
      refine .inl ⟨by rw [wanted_of (j := 21) rfl (yielded_of (by rfl) rfl tg)]; rfl, ?_⟩
      clear tg
      have t42 : a.tmps[42]?.getD undef = .int .i64 q := hA.dep_ ⟨22, .data⟩ (by simp) _ 42 rfl rfl
      refine step_value (w' := x) (v := .int .i64 (2 * q)) ?_ (Grows.refl _) ?_
      · go_simp
      · rfl
    · intro a x hA
      have tg : a.tmps[41]?.getD undef = .bool true := hA.dep_ ⟨21, .guard⟩ (by simp) _ 41 rfl rfl
      refine .inl ⟨by rw [wanted_of (j := 21) rfl (yielded_of (by rfl) rfl tg)]; rfl, ?_⟩
      clear tg
      have t1 := hA.at_ 1 (by first | rfl | kernel_rfl) rfl
      refine step_value (w' := x) (v := .slice va l.length vc) ?_ (Grows.refl _) ?_
      · go_simp
      · rfl
    · intro a x hA
      have tg : a.tmps[41]?.getD undef = .bool true := hA.dep_ ⟨21, .guard⟩ (by simp) _ 41 rfl rfl
      refine .inl ⟨by rw [wanted_of (j := 21) rfl (yielded_of (by rfl) rfl tg)]; rfl, ?_⟩
      clear tg
      have t44 : a.tmps[44]?.getD undef = .slice va l.length vc := hA.dep_ ⟨24, .data⟩ (by simp) _ 44 rfl rfl
      refine step_value (w' := x) (v := .int .i64 (l.length : Int)) ?_ (Grows.refl _) ?_
      · go_simp
      · rfl
    · intro a x hA
      have tg : a.tmps[41]?.getD undef = .bool true := hA.dep_ ⟨21, .guard⟩ (by simp) _ 41 rfl rfl
      refine .inl ⟨by rw [wanted_of (j := 21) rfl (yielded_of (by rfl) rfl tg)]; rfl, ?_⟩
      clear tg
      have t45 : a.tmps[45]?.getD undef = .int .i64 (l.length : Int) := hA.dep_ ⟨25, .data⟩ (by simp) _ 45 rfl rfl
      refine step_value (w' := x) (v := .int .i64 ((l.length : Int) + 2)) ?_ (Grows.refl _) ?_
      · go_simp
      · rfl
    · intro a x hA
      have tg : a.tmps[41]?.getD undef = .bool true := hA.dep_ ⟨21, .guard⟩ (by simp) _ 41 rfl rfl
      refine .inl ⟨by rw [wanted_of (j := 21) rfl (yielded_of (by rfl) rfl tg)]; rfl, ?_⟩
      clear tg
      have t43 : a.tmps[43]?.getD undef = .int .i64 (2 * q) := hA.dep_ ⟨23, .data⟩ (by simp) _ 43 rfl rfl
      have t46 : a.tmps[46]?.getD undef = .int .i64 ((l.length : Int) + 2) := hA.dep_ ⟨26, .data⟩ (by simp) _ 46 rfl rfl
      refine step_value (w' := x) (v := .bool true) ?_ (Grows.refl _) ?_
      · go_simp
      · rfl
    · intro a x hA
      refine .inl ⟨rfl, ?_⟩
      have t41 : a.tmps[41]?.getD undef = .bool true := hA.dep_ ⟨21, .data⟩ (by simp) _ 41 rfl rfl
      have t47 : a.tmps[47]?.getD undef = .bool true := hA.dep_ ⟨27, .data⟩ (by simp) _ 47 rfl rfl
      refine step_value (w' := x) (v := .bool true) ?_ (Grows.refl _) ?_
      · go_simp
      · rfl
    · intro a x hA
      refine .inl ⟨rfl, ?_⟩
      have t48 : a.tmps[48]?.getD undef = .bool true := hA.dep_ ⟨28, .data⟩ (by simp) _ 48 rfl rfl
      refine step_value (w' := x) (v := .bool true) ?_ (Grows.refl _) ?_
      · go_simp
      · rfl
    · intro a x hA
      have tg : a.tmps[49]?.getD undef = .bool true := hA.dep_ ⟨29, .guard⟩ (by simp) _ 49 rfl rfl
      refine .inl ⟨by rw [wanted_of (j := 29) rfl (yielded_of (by rfl) rfl tg)]; rfl, ?_⟩
      clear tg
      have hBx := HK3.out.keep hA.grown
      have hc0 := hBx.cell (o := 0) rfl
      have hc1 := hBx.cell (o := 1) rfl
      have hBy := HK4.out.keep hA.grown
      have hc2 := hBy.cell (o := 0) rfl
      have hc3 := hBy.cell (o := 1) rfl
      clear hBx hBy
      refine step_call (f := 14) (args := #[]) (by clear hc0 hc1 hc2 hc3; go_simp) (law7_knows.mono ?_)
      rintro e w' ⟨rfl, hb⟩
      exact ⟨_, rfl, grows_of_below hb, rfl⟩
    · intro a x hA
      refine .inl ⟨rfl, ?_⟩
      have t49 : a.tmps[49]?.getD undef = .bool true := hA.dep_ ⟨29, .data⟩ (by simp) _ 49 rfl rfl
      have t50 : a.tmps[50]?.getD undef = .bool true := hA.dep_ ⟨30, .data⟩ (by simp) _ 50 rfl rfl
      refine step_value (w' := x) (v := .bool true) ?_ (Grows.refl _) ?_
      · go_simp
      · rfl
    · intro a x hA
      refine .inl ⟨rfl, ?_⟩
      have t51 : a.tmps[51]?.getD undef = .bool true := hA.dep_ ⟨31, .data⟩ (by simp) _ 51 rfl rfl
      refine step_value (w' := x) (v := .bool true) ?_ (Grows.refl _) ?_
      · go_simp
      · rfl
  case rfin =>
    intro y W' hg hV
    simp only [AllVals] at hV
    obtain ⟨_, _, _, _, _, _, _, _, _, _, _, _, _, _, _, _, _, _, _, _, _, _, _, _, _, _, _, _, _, _, _, _, hA9, _⟩ := hV
    have hb := grows_below hg
    clear hg
    simp only [putAll, Act.put, List.setIfInBounds_toArray, List.set_cons_zero, List.set_cons_succ]
    rw [hA9]
    clear hA9
    have HBW := hid (HB.out.trans (hb.mono HB.out.size))
    clear hb
    go_wp2_with fail
    go_ret
    exact ⟨rfl, HBW.out⟩
end
end Go.Proofs.YtbahjinlcbjikaaGreat
