import Derived.Test.YtcdcjoofcbdilaaGreatRgH
/-! Package register: most, may, the ranks. -/
namespace Go.Proofs.YtcdcjoofcbdilaaGreat
open Go.RowKit

section
variable {W : World} {L : Nat} {p : RgL} {s : RgS}
theorem reg_most (h : RgAt W L p s) : Calls Tryz.prog 26 #[.pointer (some ⟨L, 0, none⟩)] W fun e w' => e = .returned (.int .i64 (s.most : Int)) ∧ w' = W := by
  have c1 := h.link.cell (o := 1) rfl
  have hfew := h.few
  unfold RgS.most
  clear h
  generalize s.acs.length = n at *
  have h1 : (n : Int) / 2 = ((n / 2 : Nat) : Int) := by omega
  have h2 : Int.tdiv (n : Int) 2 = ((n / 2 : Nat) : Int) := by rw [Int.tdiv_eq_ediv_of_nonneg (by omega)]; exact h1
  have h5 : n / 2 ≤ 1000 := by omega
  generalize n / 2 = q at *
  have h3 : wrap64 ((q : Int) + 1) = (q : Int) + 1 := by unfold wrap64; omega
  clear hfew
  go_enter Tryz.func26, Tryz.ntmps26
  go_wp2_with fail
  go_ret
  exact ⟨by simp, rfl⟩
theorem reg_may (h : RgAt W L p s) (key id : Int) : Calls Tryz.prog 24 #[.pointer (some ⟨L, 0, none⟩), .int .i64 key, .int .i64 id] W fun e w' => e = .returned (.bool (mayR s key id)) ∧ w' = W := by
  have c1 := h.link.cell (o := 1) rfl
  have hn := hid (reg_none h)
  clear h
  unfold mayR
  obtain ⟨n, hL⟩ : ∃ n, s.acs.length = n := ⟨_, rfl⟩
  rw [hL] at c1 ⊢
  clear hL
  obtain ⟨R, hR⟩ : ∃ R, decide (0 ≤ key ∧ key < 281474976710656 ∧ 0 ≤ id ∧ id < 16 ∧ 1 ≤ n ∧ n ≤ 9) = R := ⟨_, rfl⟩
  rw [hR]
  have HR := hid hR
  clear hR
  by_cases h1 : 0 ≤ key
  · have d1 : decide (key ≥ 0) = true := decide_eq_true h1
    by_cases h2 : key < 281474976710656
    · have d2 : decide (key < 281474976710656) = true := decide_eq_true h2
      by_cases h3 : 0 ≤ id
      · have d3 : decide (id ≥ 0) = true := decide_eq_true h3
        by_cases h4 : id < 16
        · have d4 : decide (id < 16) = true := decide_eq_true h4
          by_cases h5 : 1 ≤ n
          · have d5 : decide ((n : Int) ≥ 1) = true := decide_eq_true (by omega)
            obtain ⟨R2, hR2⟩ : ∃ R2, decide ((n : Int) ≤ 9) = R2 := ⟨_, rfl⟩
            have HE := hid (show R2 = R from by
              rw [← hR2, ← HR.out]
              by_cases h6 : n ≤ 9
              · rw [decide_eq_true (by omega), decide_eq_true ⟨h1, h2, h3, h4, h5, h6⟩]
              · rw [decide_eq_false (by omega), decide_eq_false (fun h => h6 h.2.2.2.2.2)])
            go_enter Tryz.func24, Tryz.ntmps24
            go_wp2_with (go_at_call 32; refine hn.out.mono ?_; rintro e Wx ⟨rfl, rfl⟩)
            go_ret
            exact ⟨by rw [← HE.out]; first | rfl | simp, rfl⟩
          · have d5 : decide ((n : Int) ≥ 1) = false := decide_eq_false (by omega)
            have HE := hid (show false = R from by rw [← HR.out, decide_eq_false (fun h => h5 h.2.2.2.2.1)])
            go_enter Tryz.func24, Tryz.ntmps24
            go_wp2_with (go_at_call 32; refine hn.out.mono ?_; rintro e Wx ⟨rfl, rfl⟩)
            go_ret
            exact ⟨by rw [← HE.out]; first | rfl | simp, rfl⟩
        · have d4 : decide (id < 16) = false := decide_eq_false h4
          have HE := hid (show false = R from by rw [← HR.out, decide_eq_false (fun h => h4 h.2.2.2.1)])
          go_enter Tryz.func24, Tryz.ntmps24
          go_wp2_with (go_at_call 32; refine hn.out.mono ?_; rintro e Wx ⟨rfl, rfl⟩)
          go_ret
          exact ⟨by rw [← HE.out]; first | rfl | simp, rfl⟩
      · have d3 : decide (id ≥ 0) = false := decide_eq_false h3
        have HE := hid (show false = R from by rw [← HR.out, decide_eq_false (fun h => h3 h.2.2.1)])
        go_enter Tryz.func24, Tryz.ntmps24
        go_wp2_with (go_at_call 32; refine hn.out.mono ?_; rintro e Wx ⟨rfl, rfl⟩)
        go_ret
        exact ⟨by rw [← HE.out]; first | rfl | simp, rfl⟩
    · have d2 : decide (key < 281474976710656) = false := decide_eq_false h2
      have HE := hid (show false = R from by rw [← HR.out, decide_eq_false (fun h => h2 h.2.1)])
      go_enter Tryz.func24, Tryz.ntmps24
      go_wp2_with (go_at_call 32; refine hn.out.mono ?_; rintro e Wx ⟨rfl, rfl⟩)
      go_ret
      exact ⟨by rw [← HE.out]; first | rfl | simp, rfl⟩
  · have d1 : decide (key ≥ 0) = false := decide_eq_false h1
    have HE := hid (show false = R from by rw [← HR.out, decide_eq_false (fun h => h1 h.1)])
    go_enter Tryz.func24, Tryz.ntmps24
    go_wp2_with (go_at_call 32; refine hn.out.mono ?_; rintro e Wx ⟨rfl, rfl⟩)
    go_ret
    exact ⟨by rw [← HE.out]; first | rfl | simp, rfl⟩
/-- An answer's rank by a function of the program: it reads alone. -/
def Ranks (K : FuncId) (f : An → Int) : Prop := ∀ (W : World) (r : An) (v : Value), (∃ a n c, v = .slice a n c) → Calls Tryz.prog K #[.agg #[.int .i64 r.e, .int .i64 r.ver, .int .i64 r.pr, .int .i64 r.ba, .bool r.le, v]] W fun e w' => e = .returned (.int .i64 (f r)) ∧ Below W.heap.size W w'
theorem ranks_ver : Ranks 28 (·.ver) := by
  rintro W r v ⟨a, n, c, rfl⟩
  go_enter Tryz.func28, Tryz.ntmps28
  go_wp2_with fail
  go_ret
  exact ⟨rfl, (Below.refl _ _).alloc (Nat.le_refl _) _⟩
theorem ranks_ba : Ranks 55 (·.ba) := by
  rintro W r v ⟨a, n, c, rfl⟩
  go_enter Tryz.func55, Tryz.ntmps55
  go_wp2_with fail
  go_ret
  exact ⟨rfl, (Below.refl _ _).alloc (Nat.le_refl _) _⟩
end
end Go.Proofs.YtcdcjoofcbdilaaGreat

/-! Package register: best. -/
namespace Go.Proofs.YtcdcjoofcbdilaaGreat
open Go.RowKit

def bestP (f : An → Int) (ps : List (An × Value)) : Option (An × Value) × Int := ps.foldl (fun p q => if p.2 < f q.1 then (some q, f q.1) else p) (none, 0)
theorem bestP_snoc (f : An → Int) (a : List (An × Value)) (q : An × Value) : bestP f (a ++ [q]) = if (bestP f a).2 < f q.1 then (some q, f q.1) else bestP f a := by
  unfold bestP
  rw [List.foldl_append]
  rfl
theorem bestP_get (f : An → Int) : ∀ n (ps : List (An × Value)), ps.length = n → (bestP f ps).1.map (·.1) = bestR f (ps.map (·.1)) ∧ (bestP f ps).2 = ((ps.map (·.1)).foldl (fun (p : Option An × Int) r => if p.2 < f r then (some r, f r) else p) (none, 0)).2 ∧ (0 ≤ (bestP f ps).2 ∧ ((bestP f ps).1.isSome = decide ((bestP f ps).2 > 0))) ∧ ∀ q, (bestP f ps).1 = some q → q ∈ ps := by
  intro n
  induction n with
  | zero =>
    intro ps h
    have : ps = [] := List.eq_nil_of_length_eq_zero h
    subst this
    exact ⟨rfl, rfl, ⟨Int.le_refl _, rfl⟩, fun q hq => by cases hq⟩
  | succ n ih =>
    intro ps h
    rcases List.eq_nil_or_concat ps with rfl | ⟨a, q, rfl⟩
    · cases h
    · rw [List.concat_eq_append] at *
      obtain ⟨h1, h2, ⟨h3, h4⟩, h5⟩ := ih a (by simpa using h)
      rw [bestP_snoc]
      unfold bestR at h1 ⊢
      rw [List.map_append, List.foldl_append]
      simp only [List.map_cons, List.map_nil, List.foldl_cons, List.foldl_nil]
      rw [← h2]
      by_cases hc : (bestP f a).2 < f q.1
      · rw [if_pos hc, if_pos hc]
        exact ⟨rfl, rfl, ⟨by show 0 ≤ f q.1; omega, by show true = _; rw [decide_eq_true (show f q.1 > 0 by omega)]⟩, fun q2 hq => by cases hq; simp⟩
      · rw [if_neg hc, if_neg hc]
        exact ⟨h1, h2, ⟨h3, h4⟩, fun q2 hq => List.mem_append_left _ (h5 q2 hq)⟩
def bcell : Option (An × Value) → Array Value
  | none => #[.int .i64 0, .int .i64 0, .int .i64 0, .int .i64 0, .bool false, .slice none 0 0]
  | some q => (acell q.1 q.2).toArray
theorem bcell_form (o : Option (An × Value)) (h : ∀ q, o = some q → ∃ a n c, q.2 = .slice a n c) : ∃ i0 i1 i2 i3 b4 a n c, bcell o = #[.int .i64 i0, .int .i64 i1, .int .i64 i2, .int .i64 i3, .bool b4, .slice a n c] := by
  cases o with
  | none => exact ⟨_, _, _, _, _, _, _, _, rfl⟩
  | some q =>
    obtain ⟨a, n, c, e⟩ := h q rfl
    refine ⟨q.1.e, q.1.ver, q.1.pr, q.1.ba, q.1.le, a, n, c, ?_⟩
    show (acell q.1 q.2).toArray = _
    unfold acell
    rw [e]
section
variable {W : World}
set_option maxRecDepth 100000 in
set_option maxHeartbeats 6400000 in
theorem reg_best (K : FuncId) (f : An → Int) (hK : Ranks K f) (eg : ∀ args w, (callFunc K args).run Tryz.prog w = .ok (.enter K args) w) (M : Nat) (gv : Value) (ps : List (An × Value)) (ho : OwnA W M gv ps) (hv : ∀ q ∈ ps, ∃ a n c, q.2 = .slice a n c) (hl : ps.length ≤ 1000) :
    Calls Tryz.prog 27 #[gv, .func (.func K) #[] #[]] W fun e w' => e = .returned (.tuple #[.agg (bcell (bestP f ps).1), .bool (bestP f ps).1.isSome]) ∧ Below W.heap.size W w' := by
  obtain ⟨ga, gc, hgf⟩ : ∃ a c, gv = .slice a ps.length c := by
    rcases ho.form with ⟨e, e2⟩ | ⟨g, c, e⟩
    · exact ⟨none, 0, by rw [e, e2]; rfl⟩
    · exact ⟨_, c, e⟩
  have HO := hid ho
  subst hgf
  obtain ⟨W1, hW1⟩ : ∃ W1, W.alloc (.cells #[.int .i64 0, .int .i64 0, .int .i64 0, .int .i64 0, .bool false, .slice none 0 0] 44) = W1 := ⟨_, rfl⟩
  have b1 : Below W.heap.size W W1 := by rw [← hW1]; exact (Below.refl _ _).alloc (Nat.le_refl _) _
  have q1 : Blk W1 W.heap.size (bcell none) 44 := by rw [← hW1]; exact Blk.new W _ _
  have HB1 := hid b1
  obtain ⟨N, hN⟩ : ∃ N, ps.length = N := ⟨_, rfl⟩
  rw [hN] at hl
  have HN := hid hN
  have HV := hid hv
  have HKK := hid hK
  rw [hN] at HO ⊢
  clear ho hN hv b1 hK
  go_enter Tryz.func27, Tryz.ntmps27
  go_upto_region 3 with fail
  clear hW1
  go_loopw [6, 12] (fun s6 i wr => ∃ (t : Nat), t ≤ N ∧ i = .int .i64 (t : Int) ∧ s6 = .int .i64 (bestP f (ps.take t)).2 ∧ Blk wr W.heap.size (bcell (bestP f (ps.take t)).1) 44 ∧ Ext (fun b => b = W.heap.size) W1 wr) (fun _ i _ => N - (intOf i).toNat)
  case atStart => exact ⟨0, Nat.zero_le _, rfl, rfl, q1, Ext.refl _ _⟩
  case round =>
    obtain ⟨t, ht, rfl, rfl, hB, hx⟩ := hrel
    by_cases hlt : t < N
    · have hd1 : decide ((t : Int) < (N : Int)) = true := decide_eq_true (by omega)
      obtain ⟨q, hq⟩ : ∃ q, ps[t]? = some q := ⟨_, List.getElem?_eq_getElem (by rw [HN.out]; exact hlt)⟩
      obtain ⟨va, vn, vc, hvf⟩ := HV.out q (List.mem_of_getElem? hq)
      have ho := HO.out
      rw [← HN.out] at ho
      obtain ⟨g, rfl⟩ : ∃ g, ga = some ⟨g, 0, none⟩ := by
        rcases ho.form with ⟨e, e2⟩ | ⟨g, c, e⟩
        · rw [e2] at hq; cases hq
        · cases e; exact ⟨g, rfl⟩
      have hgl := (World.ownsRow.lt ho g rfl).2
      have hcl : ∀ o u, o < 6 → (acell q.1 q.2)[o]? = some u → wr.cell? ⟨g, t * 6 + o, none⟩ = some u := fun o u h6 hu => by
        have h9 := ho.cells (j := t * 6 + o) (u := u) (by rw [acells_at o h6 hq]; exact hu)
        have h8 := (HB1.out.block g hgl)
        have h7 : wr.heap[g]? = W.heap[g]? := (hx.block g (Nat.lt_of_lt_of_le hgl HB1.out.size) (by omega)).trans h8
        rw [World.cell?_of_block h7]
        exact h9
      have c0 : wr.cell? ⟨g, t * 6, none⟩ = some (.int .i64 q.1.e) := hcl 0 _ (by omega) rfl
      have c1 := hcl 1 _ (by omega) rfl
      have c2 := hcl 2 _ (by omega) rfl
      have c3 := hcl 3 _ (by omega) rfl
      have c4 := hcl 4 _ (by omega) rfl
      have c5 := hcl 5 _ (by omega) rfl
      rw [hvf] at c5
      obtain ⟨W2, hW2⟩ : ∃ W2, wr.alloc (.cells #[.int .i64 q.1.e, .int .i64 q.1.ver, .int .i64 q.1.pr, .int .i64 q.1.ba, .bool q.1.le, .slice va vn vc] 44) = W2 := ⟨_, rfl⟩
      have b2 : Below wr.heap.size wr W2 := by rw [← hW2]; exact (Below.refl _ _).alloc (Nat.le_refl _) _
      have q2 : Blk W2 wr.heap.size #[.int .i64 q.1.e, .int .i64 q.1.ver, .int .i64 q.1.pr, .int .i64 q.1.ba, .bool q.1.le, .slice va vn vc] 44 := by rw [← hW2]; exact Blk.new wr _ _
      have hB2 := hB.keep b2
      have hx2 := hx.then b2
      have m0 := q2.cell (o := 0) rfl
      have mf0 := q2.free 0
      have m1 := q2.cell (o := 1) rfl
      have mf1 := q2.free 1
      have m2 := q2.cell (o := 2) rfl
      have mf2 := q2.free 2
      have m3 := q2.cell (o := 3) rfl
      have mf3 := q2.free 3
      have m4 := q2.cell (o := 4) rfl
      have mf4 := q2.free 4
      have m5 := q2.cell (o := 5) rfl
      have mf5 := q2.free 5
      have HC := hid (HKK.out W2 q.1 (.slice va vn vc) ⟨va, vn, vc, rfl⟩)
      have HB := hid (And.intro hB2 (And.intro hx2 (And.intro q2 (And.intro b2 (And.intro hq hvf)))))
      clear hcl ho hB hx hB2 hx2 q2 b2 hvf hq
      go_wp2_with fail
      refine HC.out.mono ?_
      rintro e W3 ⟨rfl, b3⟩
      obtain ⟨hB2, hx2, q2, b2, hq, hvf⟩ := HB.out
      have hB3 := hB2.keep b3
      have hx3 := hx2.then b3
      have q3 := q2.keep b3
      have hmem : ∀ z, (bestP f (ps.take t)).1 = some z → ∃ a n c, z.2 = .slice a n c := fun z hz => HV.out z (List.mem_of_mem_take ((bestP_get f _ _ rfl).2.2.2 z hz))
      obtain ⟨i0, i1, i2, i3, b4, ia, inn, ic, hbf⟩ := bcell_form _ hmem
      have htk : ps.take (t + 1) = ps.take t ++ [q] := by rw [List.take_add_one, hq]; rfl
      have hsn := bestP_snoc f (ps.take t) q
      rw [← htk] at hsn
      obtain ⟨mo, hmo⟩ : ∃ mo, (bestP f (ps.take t)).2 = mo := ⟨_, rfl⟩
      obtain ⟨bo, hbo⟩ : ∃ bo, bestP f (ps.take t) = bo := ⟨_, rfl⟩
      rw [hmo, hbo] at hsn
      rw [hbo] at hB3 hbf
      have hbc : bcell (some q) = #[.int .i64 q.1.e, .int .i64 q.1.ver, .int .i64 q.1.pr, .int .i64 q.1.ba, .bool q.1.le, .slice va vn vc] := by
        show (acell q.1 q.2).toArray = _
        unfold acell
        rw [hvf]
      clear HB m0 m1 m2 m3 m4 m5 mf0 mf1 mf2 mf3 mf4 mf5 c0 c1 c2 c3 c4 c5 hW2 hB2 hx2 q2
      have HBO := hid (And.intro hbo hmo)
      have hm2 : bo.2 = mo := by rw [← hbo]; exact hmo
      rw [hmo]
      clear hbo hmo
      by_cases hgt : mo < f q.1
      · have hd2 : decide (f q.1 > mo) = true := decide_eq_true hgt
        rw [if_pos hgt] at hsn
        have hB3' := hB3
        rw [hbf] at hB3'
        have k0 := hB3'.cell (o := 0) rfl
        have k1 := hB3'.cell (o := 1) rfl
        have k2 := hB3'.cell (o := 2) rfl
        have k3 := hB3'.cell (o := 3) rfl
        have k4 := hB3'.cell (o := 4) rfl
        have k5 := hB3'.cell (o := 5) rfl
        have f0 := hB3'.free 0
        have f1 := hB3'.free 1
        have f2 := hB3'.free 2
        have f3 := hB3'.free 3
        have f4 := hB3'.free 4
        have f5 := hB3'.free 5
        have m0 := q3.cell (o := 0) rfl
        have m1 := q3.cell (o := 1) rfl
        have m2 := q3.cell (o := 2) rfl
        have m3 := q3.cell (o := 3) rfl
        have m4 := q3.cell (o := 4) rfl
        have m5 := q3.cell (o := 5) rfl
        obtain ⟨W4, hW4⟩ : ∃ W4, (((((W3.setCell ⟨W.heap.size, 0, none⟩ (.int .i64 q.1.e)).setCell ⟨W.heap.size, 1, none⟩ (.int .i64 q.1.ver)).setCell ⟨W.heap.size, 2, none⟩ (.int .i64 q.1.pr)).setCell ⟨W.heap.size, 3, none⟩ (.int .i64 q.1.ba)).setCell ⟨W.heap.size, 4, none⟩ (.bool q.1.le)).setCell ⟨W.heap.size, 5, none⟩ (.slice va vn vc) = W4 := ⟨_, rfl⟩
        have q4 := ((((((hB3'.set (o := 0) (.int .i64 q.1.e)).set (o := 1) (.int .i64 q.1.ver)).set (o := 2) (.int .i64 q.1.pr)).set (o := 3) (.int .i64 q.1.ba)).set (o := 4) (.bool q.1.le)).set (o := 5) (.slice va vn vc))
        rw [hW4] at q4
        simp only [List.setIfInBounds_toArray, List.set_cons_zero, List.set_cons_succ] at q4
        rw [← hbc] at q4
        have x4 : Ext (fun b => b = W.heap.size) W3 W4 := by rw [← hW4]; exact ((((((Ext.refl (fun b => b = W.heap.size) W3).setCell (.inl rfl) _).setCell (.inl rfl) _).setCell (.inl rfl) _).setCell (.inl rfl) _).setCell (.inl rfl) _).setCell (.inl rfl) _
        have HE := hid (And.intro q4 (And.intro (hx3.trans' x4) (And.intro hsn hW4)))
        clear q4 x4 hx3 hB3 hB3' q3 hbf hbc hsn hW4 htk hmem b2 b3 hq hvf hm2
        go_wp2_with fail
        rw [HE.out.2.2.2]
        go_roundw
        case rel =>
          refine ⟨t + 1, by omega, by go_num, ?_, ?_, HE.out.2.1⟩
          · rw [HE.out.2.2.1]
          · rw [HE.out.2.2.1]; exact HE.out.1
        case measure => simp [intOf]; omega
      · have hd2 : decide (f q.1 > mo) = false := decide_eq_false hgt
        rw [if_neg hgt] at hsn
        have HE := hid (And.intro hB3 (And.intro hx3 (And.intro hsn hm2)))
        clear hx3 hB3 q3 hbf hbc hsn htk hmem b2 b3 hq hvf hm2
        go_wp2_with fail
        go_roundw
        case rel =>
          refine ⟨t + 1, by omega, by go_num, ?_, ?_, HE.out.2.1⟩
          · rw [HE.out.2.2.1, HE.out.2.2.2]
          · rw [HE.out.2.2.1]; exact HE.out.1
        case measure => simp [intOf]; omega
    · obtain rfl : t = N := by omega
      have hd1 : decide ((t : Int) < (t : Int)) = false := decide_eq_false (by omega)
      have htk : ps.take t = ps := by rw [← HN.out, List.take_length]
      rw [htk] at hB ⊢
      obtain ⟨-, -, ⟨-, hsm⟩, hme⟩ := bestP_get f _ ps rfl
      obtain ⟨i0, i1, i2, i3, b4, ia, inn, ic, hbf⟩ := bcell_form _ (fun z hz => HV.out z (hme z hz))
      obtain ⟨mo, hmo⟩ : ∃ mo, (bestP f ps).2 = mo := ⟨_, rfl⟩
      rw [hmo] at hsm ⊢
      have HS := hid (And.intro hsm hbf)
      rw [hbf] at hB
      have k0 := hB.cell (o := 0) rfl
      have k1 := hB.cell (o := 1) rfl
      have k2 := hB.cell (o := 2) rfl
      have k3 := hB.cell (o := 3) rfl
      have k4 := hB.cell (o := 4) rfl
      have k5 := hB.cell (o := 5) rfl
      have f0 := hB.free 0
      have f1 := hB.free 1
      have f2 := hB.free 2
      have f3 := hB.free 3
      have f4 := hB.free 4
      have f5 := hB.free 5
      obtain ⟨W4, hW4⟩ : ∃ W4, (((((wr.setCell ⟨W.heap.size, 0, none⟩ (.int .i64 i0)).setCell ⟨W.heap.size, 1, none⟩ (.int .i64 i1)).setCell ⟨W.heap.size, 2, none⟩ (.int .i64 i2)).setCell ⟨W.heap.size, 3, none⟩ (.int .i64 i3)).setCell ⟨W.heap.size, 4, none⟩ (.bool b4)).setCell ⟨W.heap.size, 5, none⟩ (.slice ia inn ic) = W4 := ⟨_, rfl⟩
      have q4 := ((((((hB.set (o := 0) (.int .i64 i0)).set (o := 1) (.int .i64 i1)).set (o := 2) (.int .i64 i2)).set (o := 3) (.int .i64 i3)).set (o := 4) (.bool b4)).set (o := 5) (.slice ia inn ic))
      rw [hW4] at q4
      simp only [List.setIfInBounds_toArray, List.set_cons_zero, List.set_cons_succ] at q4
      have x4 : Ext (fun b => b = W.heap.size) wr W4 := by rw [← hW4]; exact ((((((Ext.refl (fun b => b = W.heap.size) wr).setCell (.inl rfl) _).setCell (.inl rfl) _).setCell (.inl rfl) _).setCell (.inl rfl) _).setCell (.inl rfl) _).setCell (.inl rfl) _
      have HE := hid (And.intro q4 (And.intro (hx.trans' x4) hW4))
      clear q4 x4 hB hx hbf hsm hme hW4 htk hmo
      go_wp2_with fail
      rw [HE.out.2.2]
      have hld := run_loadVar_row (P := Tryz.prog) W4 W.heap.size 44 44 _ (0, 0) _ HE.out.1 Tryz.underlying44 rfl size_ans
      refine bodyPost_ret (v := .tuple #[.agg #[.int .i64 i0, .int .i64 i1, .int .i64 i2, .int .i64 i3, .bool b4, .slice ia inn ic], .bool (decide (mo > 0))]) ?_ rfl ?_
      · simp [results, Tryz.results27, hld, asAddr]
      · exact ⟨by rw [HS.out.1, HS.out.2], HB1.out.trans (HE.out.2.1.belowOf HB1.out.size (fun b hb e => by have e2 : b = W.heap.size := e; omega))⟩
end
end Go.Proofs.YtcdcjoofcbdilaaGreat

/-! Package register: agree's tell. -/
namespace Go.Proofs.YtcdcjoofcbdilaaGreat
open Go.RowKit

section
variable {W : World} {L : Nat} {p : RgL} {s : RgS}
set_option maxRecDepth 100000 in
set_option maxHeartbeats 3200000 in
theorem reg_tell (h : RgAt W L p s) (hpr : s.room s.acs.length) (c10 c11 bL bk bv : Nat) (x0 : Value) (e0 key ver : Int) (v : Value) (l : List UInt8) (hv : Bs W v l)
    (q0 : Blk W c10 #[x0] 30) (q1 : Blk W c11 #[.int .i64 e0] 31) (qL : Blk W bL #[.pointer (some ⟨L, 0, none⟩)] 23) (qk : Blk W bk #[.int .i64 key] 3) (qv : Blk W bv #[.int .i64 ver] 3)
    (hn : ¬ p.all L c10 ∧ ¬ p.all L c11 ∧ c10 ≠ c11 ∧ bL ≠ c10 ∧ bL ≠ c11 ∧ bk ≠ c10 ∧ bk ≠ c11 ∧ bv ≠ c10 ∧ bv ≠ c11) (hg : ∀ g, obk v = some g → ¬ p.all L g ∧ g < W.heap.size ∧ g ≠ c10 ∧ g ≠ c11) :
    Calls Tryz.prog 54 #[v, .pointer (some ⟨c10, 0, none⟩), .pointer (some ⟨c11, 0, none⟩), .pointer (some ⟨bL, 0, none⟩), .pointer (some ⟨bk, 0, none⟩), .pointer (some ⟨bv, 0, none⟩)] W fun e w' => (∃ x, e = .returned x) ∧
      ∃ p', RgAt w' L p' (hearR s 3 key ver 0 l).2 ∧ (∀ b, p'.all L b → p.all L b ∨ W.heap.size ≤ b) ∧ Ext (fun b => p.all L b ∨ b = c10 ∨ b = c11) W w' ∧ Blk w' c10 #[v] 30 ∧ Blk w' c11 #[.int .i64 0] 31 := by
  obtain ⟨n1, n2, n3, n4, n5, n6, n7, n8, n9⟩ := hn
  obtain ⟨va, vc, hvf⟩ := hv.form
  obtain ⟨W1, hW1⟩ : ∃ W1, W.setCell ⟨c10, 0, none⟩ v = W1 := ⟨_, rfl⟩
  obtain ⟨W2, hW2⟩ : ∃ W2, W1.setCell ⟨c11, 0, none⟩ (.int .i64 0) = W2 := ⟨_, rfl⟩
  have x1 : Ext (fun b => b = c10) W W1 := by rw [← hW1]; exact (Ext.refl (fun b => b = c10) W).setCell (.inl rfl) _
  have x2 : Ext (fun b => b = c11) W1 W2 := by rw [← hW2]; exact (Ext.refl (fun b => b = c11) W1).setCell (.inl rfl) _
  have x12 : Ext (fun b => b = c10 ∨ b = c11) W W2 := (x1.mono (fun b _ e => .inl e)).trans' (x2.mono (fun b _ e => .inr e))
  have r0 : Blk W1 c10 #[v] 30 := by rw [← hW1]; exact q0.set (o := 0) v
  have r1 : Blk W2 c11 #[.int .i64 0] 31 := by rw [← hW2]; exact (q1.ext x1 (fun e => n3 e.symm)).set (o := 0) _
  have r0 := r0.ext x2 n3
  have y0 := q0.cell (o := 0) rfl
  have y0f := q0.free 0
  have q1' := q1.ext x1 (fun e => n3 e.symm)
  have y1 := q1'.cell (o := 0) rfl
  have y1f := q1'.free 0
  have yL := (qL.ext x12 (fun e => e.elim n4 n5)).cell (o := 0) rfl
  have yk := (qk.ext x12 (fun e => e.elim n6 n7)).cell (o := 0) rfl
  have yv := (qv.ext x12 (fun e => e.elim n8 n9)).cell (o := 0) rfl
  have hp2 : ∀ b, (b = c10 ∨ b = c11) → ¬ p.all L b := by
    rintro b (rfl | rfl)
    · exact n1
    · exact n2
  have h2 : RgAt W2 L p s := h.ext x12 hp2
  have hv2 : Bs W2 v l := hv.extO x12 (fun g hgo _ e => by
    obtain ⟨_, _, g3, g4⟩ := hg g hgo
    exact e.elim g3 g4)
  have HC := hid (reg_hear h2 hpr 3 key ver 0 v l hv2 (fun g hgo => ⟨(hg g hgo).1, Nat.lt_of_lt_of_le (hg g hgo).2.1 x12.size⟩))
  have HX := hid (And.intro x12 (And.intro r0 (And.intro r1 (And.intro n1 n2))))
  have hss := x12.size
  subst hvf
  clear x1 x2 x12 r0 r1 h2 hv2 q0 q1 q1' qL qk qv hp2 hg hv h hpr n1 n2 n3 n4 n5 n6 n7 n8 n9
  go_enter Tryz.func54, Tryz.ntmps54
  go_wp2_with (go_at_call 25; refine HC.out.mono ?_; rintro e W3 ⟨p', gv, lp, rfl, h3, hgr, hx3, -, -⟩)
  go_end0
  obtain ⟨x12, r0, r1, n1, n2⟩ := HX.out
  exact ⟨⟨_, rfl⟩, p', h3, fun b hb => (hgr b hb).imp id (fun h => by omega), (x12.mono (fun b _ e => .inr e)).trans' (hx3.mono (fun b _ e => .inl e)), r0.ext hx3 n1, r1.ext hx3 n2⟩
end
end Go.Proofs.YtcdcjoofcbdilaaGreat

/-! Package register: what agree holds between its steps. -/
namespace Go.Proofs.YtcdcjoofcbdilaaGreat
open Go.RowKit

theorem askR_ok {s : RgS} {to k key ver bal : Int} {l : List UInt8} {r : An} (h : (askR s to k key ver bal l).1 = some r) : r.ok := by
  unfold askR at h
  split at h
  · simp only at h
    split at h
    · exact askAcN_ok h
    · cases h
  · cases h
theorem allR_ok {k key ver bal : Int} {l : List UInt8} : ∀ (ns : List Int) (s : RgS), ∀ r ∈ (allR s k key ver bal l ns).1, r.ok
  | [], s, r, h => by cases h
  | n :: ns, s, r, h => by
    have h' : r ∈ (askR s n k key ver bal l).1.toList ++ (allR (askR s n k key ver bal l).2 k key ver bal l ns).1 := h
    rcases List.mem_append.1 h' with h1 | h1
    · exact askR_ok (Option.mem_toList.1 h1)
    · exact allR_ok ns _ r h1
theorem hearR_ok {s : RgS} {k key ver bal : Int} {l : List UInt8} : ∀ r ∈ (hearR s k key ver bal l).1, r.ok := allR_ok _ _
theorem promR_low (rs : List An) : ∀ n, rs.length = n → (∀ r ∈ rs, r.ok) → 0 ≤ promR rs ∧ promR rs ≤ 281474976710655 := by
  intro n
  induction n generalizing rs with
  | zero =>
    intro h _
    have : rs = [] := List.eq_nil_of_length_eq_zero h
    subst this
    exact ⟨Int.le_refl _, by decide⟩
  | succ n ih =>
    intro h hr
    rcases List.eq_nil_or_concat rs with rfl | ⟨a, r, rfl⟩
    · cases h
    · rw [List.concat_eq_append] at *
      obtain ⟨h1, h2⟩ := ih a (by simpa using h) (fun x hx => hr x (List.mem_append_left _ hx))
      have h3 := of_decide_eq_true (hr r (by simp))
      rw [promR_snoc]
      omega
theorem hearR_prom (s : RgS) (k key ver bal : Int) (l : List UInt8) : 0 ≤ promR (hearR s k key ver bal l).1 ∧ promR (hearR s k key ver bal l).1 ≤ 281474976710655 := promR_low _ _ rfl hearR_ok
theorem hearR_acs (s : RgS) (k key ver bal : Int) (l : List UInt8) : (hearR s k key ver bal l).2.acs.length = s.acs.length := (allR_acs _ _).1
theorem hearR_room (s : RgS) (k key ver bal : Int) (l : List UInt8) (c : Nat) (h : s.room (s.acs.length + c)) : (hearR s k key ver bal l).2.room c := allR_room _ (by rw [idxR_length]; exact h)
theorem nextR_low {round top : Int} {t : Nat} (h0 : 0 ≤ round) (h1 : round ≤ 17592186044416 + t) (h2 : 0 ≤ top) (h3 : top ≤ 281474976710655) : 0 ≤ nextR round top ∧ nextR round top ≤ 17592186044416 + ((t + 1 : Nat) : Int) := by
  unfold nextR
  split
  · have := Int.ediv_nonneg (show 0 ≤ top - 1 by omega) (show (0:Int) ≤ 16 by omega)
    have h9 : (top - 1) / 16 ≤ 17592186044415 := by omega
    omega
  · omega

/-- Agree, between two steps. -/
structure AgAt (W : World) (L : Nat) (p : RgL) (n0 : Nat) (key ver : Int) (wr : World) (pr : RgL) (st : RgS) (v0 : Value) (e : Int) : Prop where
  rg : RgAt wr L pr st
  bL : Blk wr n0 #[.pointer (some ⟨L, 0, none⟩)] 23
  bk : Blk wr (n0 + 1) #[.int .i64 key] 3
  bv : Blk wr (n0 + 2) #[.int .i64 ver] 3
  cv : Blk wr (n0 + 3) #[v0] 30
  ce : Blk wr (n0 + 4) #[.int .i64 e] 31
  gr : ∀ b, pr.all L b → p.all L b ∨ n0 + 5 ≤ b
  ext : Ext (p.all L) W wr
  size : n0 + 5 ≤ wr.heap.size
  low : W.heap.size ≤ n0 ∧ ∀ b, p.all L b → b < W.heap.size
section
variable {W wr w2 : World} {L n0 : Nat} {p pr : RgL} {s st : RgS} {key ver e : Int} {v0 : Value}
theorem AgAt.off (h : AgAt W L p n0 key ver wr pr st v0 e) : ∀ b, n0 ≤ b → b < n0 + 5 → ¬ pr.all L b := fun b h1 h2 hc => by
  rcases h.gr b hc with h3 | h3
  · have := h.low.2 b h3; have := h.low.1; omega
  · omega
/-- Nothing of it is turned. -/
theorem AgAt.move {fp : Nat → Prop} (h : AgAt W L p n0 key ver wr pr st v0 e) (he : Ext fp wr w2) (hf : ∀ b, fp b → n0 + 5 ≤ b ∧ ¬ pr.all L b) : AgAt W L p n0 key ver w2 pr st v0 e := by
  have hno : ∀ b, b < n0 + 5 → ¬ fp b := fun b hb hc => by have := (hf b hc).1; omega
  exact ⟨h.rg.ext he (fun b hb => (hf b hb).2), h.bL.ext he (hno _ (by omega)), h.bk.ext he (hno _ (by omega)), h.bv.ext he (hno _ (by omega)), h.cv.ext he (hno _ (by omega)), h.ce.ext he (hno _ (by omega)), h.gr, h.ext.trans he (fun b hb => .inr (by have := (hf b hb).1; have := h.low.1; omega)), Nat.le_trans h.size he.size, h.low⟩
theorem AgAt.keep (h : AgAt W L p n0 key ver wr pr st v0 e) (hb : Below wr.heap.size wr w2) : AgAt W L p n0 key ver w2 pr st v0 e := h.move (fp := nofp) (Ext.ofBelow hb) (fun b h => h.elim)
/-- The link was asked. -/
theorem AgAt.heard {p2 : RgL} {s2 : RgS} (h : AgAt W L p n0 key ver wr pr st v0 e) (h2 : RgAt w2 L p2 s2) (hg : ∀ b, p2.all L b → pr.all L b ∨ wr.heap.size ≤ b) (he : Ext (pr.all L) wr w2) : AgAt W L p n0 key ver w2 p2 s2 v0 e := by
  have hno := h.off
  exact ⟨h2, h.bL.ext he (hno _ (by omega) (by omega)), h.bk.ext he (hno _ (by omega) (by omega)), h.bv.ext he (hno _ (by omega) (by omega)), h.cv.ext he (hno _ (by omega) (by omega)), h.ce.ext he (hno _ (by omega) (by omega)), fun b hb => (hg b hb).elim (h.gr b) (fun h9 => .inr (by have := h.size; omega)), h.ext.trans he (fun b hb => (h.gr b hb).imp id (fun h9 => by have := h.low.1; omega)), Nat.le_trans h.size he.size, h.low⟩
/-- An error is noted. -/
theorem AgAt.err (h : AgAt W L p n0 key ver wr pr st v0 e) (e2 : Int) : AgAt W L p n0 key ver (wr.setCell ⟨n0 + 4, 0, none⟩ (.int .i64 e2)) pr st v0 e2 := by
  have he : Ext (fun b => b = n0 + 4) wr (wr.setCell ⟨n0 + 4, 0, none⟩ (.int .i64 e2)) := (Ext.refl (fun b => b = n0 + 4) wr).setCell (a := ⟨n0 + 4, 0, none⟩) (.inl rfl) _
  have hno := h.off
  exact ⟨h.rg.ext he (fun b hb => by rw [hb]; exact hno _ (by omega) (by omega)), h.bL.ext he (by omega), h.bk.ext he (by omega), h.bv.ext he (by omega), h.cv.ext he (by omega), h.ce.set (o := 0) (.int .i64 e2), h.gr, h.ext.trans he (fun b hb => .inr (by have := h.low.1; omega)), Nat.le_trans h.size he.size, h.low⟩
/-- A value is noted. -/
theorem AgAt.val (h : AgAt W L p n0 key ver wr pr st v0 e) (v2 : Value) : AgAt W L p n0 key ver (wr.setCell ⟨n0 + 3, 0, none⟩ v2) pr st v2 e := by
  have he : Ext (fun b => b = n0 + 3) wr (wr.setCell ⟨n0 + 3, 0, none⟩ v2) := (Ext.refl (fun b => b = n0 + 3) wr).setCell (a := ⟨n0 + 3, 0, none⟩) (.inl rfl) _
  have hno := h.off
  exact ⟨h.rg.ext he (fun b hb => by rw [hb]; exact hno _ (by omega) (by omega)), h.bL.ext he (by omega), h.bk.ext he (by omega), h.bv.ext he (by omega), h.cv.set (o := 0) v2, h.ce.ext he (by omega), h.gr, h.ext.trans he (fun b hb => .inr (by have := h.low.1; omega)), Nat.le_trans h.size he.size, h.low⟩
/-- The tell. -/
theorem AgAt.tell (h : AgAt W L p n0 key ver wr pr st v0 e) (hpr : st.room st.acs.length) (v : Value) (l : List UInt8) (hv : Bs wr v l) (hg : ∀ g, obk v = some g → ¬ pr.all L g ∧ g < wr.heap.size ∧ g ≠ n0 + 3 ∧ g ≠ n0 + 4) :
    Calls Tryz.prog 54 #[v, .pointer (some ⟨n0 + 3, 0, none⟩), .pointer (some ⟨n0 + 4, 0, none⟩), .pointer (some ⟨n0, 0, none⟩), .pointer (some ⟨n0 + 1, 0, none⟩), .pointer (some ⟨n0 + 2, 0, none⟩)] wr fun e w' => (∃ x, e = .returned x) ∧
      ∃ p', AgAt W L p n0 key ver w' p' (hearR st 3 key ver 0 l).2 v 0 ∧ (∀ b, p'.all L b → pr.all L b ∨ wr.heap.size ≤ b) ∧ Ext (fun b => pr.all L b ∨ b = n0 + 3 ∨ b = n0 + 4) wr w' := by
  have hno := h.off
  refine (reg_tell h.rg hpr (n0 + 3) (n0 + 4) n0 (n0 + 1) (n0 + 2) v0 e key ver v l hv h.cv h.ce h.bL h.bk h.bv ⟨hno _ (by omega) (by omega), hno _ (by omega) (by omega), by omega, by omega, by omega, by omega, by omega, by omega, by omega⟩ hg).mono ?_
  rintro _ w' ⟨hx, p', h1, h2, h3, h4, h5⟩
  refine ⟨hx, p', ⟨h1, ?_, ?_, ?_, h4, h5, fun b hb => (h2 b hb).elim (h.gr b) (fun h9 => .inr (by have := h.size; omega)), h.ext.trans h3 (fun b hb => ?_), Nat.le_trans h.size h3.size, h.low⟩, h2, h3⟩
  · exact h.bL.ext h3 (fun hc => hc.elim (hno _ (by omega) (by omega)) (fun hc => by omega))
  · exact h.bk.ext h3 (fun hc => hc.elim (hno _ (by omega) (by omega)) (fun hc => by omega))
  · exact h.bv.ext h3 (fun hc => hc.elim (hno _ (by omega) (by omega)) (fun hc => by omega))
  · rcases hb with hb | hb
    · exact (h.gr b hb).imp id (fun h9 => by have := h.low.1; omega)
    · exact .inr (by have := h.low.1; omega)
end
end Go.Proofs.YtcdcjoofcbdilaaGreat

/-! Package register: one turn of agree, behind the promises. -/
namespace Go.Proofs.YtcdcjoofcbdilaaGreat
open Go.RowKit

/-- A turn behind the promises p: a value is chosen, or none. -/
def turnV (p : List An × RgS) (key ver bal round e0 : Int) : Option (List UInt8) → ((List UInt8 × Int) ⊕ (Int × Int)) × RgS
  | none => (.inr (nextR round (promR p.1), e0), p.2)
  | some v => if p.2.most ≤ (goodR (hearR p.2 2 key ver bal v).1).length then (.inl (v, 0), (hearR (hearR p.2 2 key ver bal v).2 3 key ver 0 v).2)
    else (.inr (nextR round (max (promR p.1) (promR (hearR p.2 2 key ver bal v).1)), if fullR (hearR p.2 2 key ver bal v).1 = true then 7 else e0), (hearR p.2 2 key ver bal v).2)
def agreeV (key id ver : Int) (want : Option (List UInt8)) (n : Nat) (p : List An × RgS) (round e0 : Int) (vo : Option (List UInt8)) : (List UInt8 × Int) × RgS :=
  match (turnV p key ver (16 * round + id + 1) round e0 vo).1 with
  | .inl r => (r, (turnV p key ver (16 * round + id + 1) round e0 vo).2)
  | .inr (rd, e) => agreeGo key id ver want n (turnV p key ver (16 * round + id + 1) round e0 vo).2 rd e
section
variable {key id ver round e e0 : Int} {want : Option (List UInt8)} {n : Nat} {s : RgS} {p : List An × RgS}
theorem agree_less (hp : hearR s 1 key ver (16 * round + id + 1) [] = p) (hl : learnR p.1 = none) (he : (if fullR p.1 = true then (7 : Int) else 33) = e0) (hm : ¬ s.most ≤ (goodR p.1).length) :
    agreeGo key id ver want (n + 1) s round e = agreeV key id ver want n p round e0 none := by
  have h : turnR s key id ver want round = turnV p key ver (16 * round + id + 1) round e0 none := by
    unfold turnR turnV
    simp only [hp, hl, he, if_neg hm]
  unfold agreeV
  rw [agreeGo, h]
  generalize turnV _ _ _ _ _ _ _ = q
  obtain ⟨a, b⟩ := q
  cases a <;> rfl
theorem agree_best {x : An} (hp : hearR s 1 key ver (16 * round + id + 1) [] = p) (hl : learnR p.1 = none) (he : (if fullR p.1 = true then (7 : Int) else 33) = e0) (hm : s.most ≤ (goodR p.1).length) (hs : s.most = p.2.most) (hb : bestR (·.ba) (goodR p.1) = some x) :
    agreeGo key id ver want (n + 1) s round e = agreeV key id ver want n p round e0 (some x.b) := by
  have h : turnR s key id ver want round = turnV p key ver (16 * round + id + 1) round e0 (some x.b) := by
    unfold turnR turnV
    rw [← hs]
    simp only [hp, hl, he, if_pos hm, hb]
  unfold agreeV
  rw [agreeGo, h]
  generalize turnV _ _ _ _ _ _ _ = q
  obtain ⟨a, b⟩ := q
  cases a <;> rfl
theorem agree_want {v : List UInt8} (hp : hearR s 1 key ver (16 * round + id + 1) [] = p) (hl : learnR p.1 = none) (he : (if fullR p.1 = true then (7 : Int) else 33) = e0) (hm : s.most ≤ (goodR p.1).length) (hs : s.most = p.2.most) (hb : bestR (·.ba) (goodR p.1) = none) (hw : want = some v) :
    agreeGo key id ver want (n + 1) s round e = agreeV key id ver want n p round e0 (some v) := by
  have h : turnR s key id ver want round = turnV p key ver (16 * round + id + 1) round e0 (some v) := by
    unfold turnR turnV
    rw [← hs]
    simp only [hp, hl, he, if_pos hm, hb, hw]
  unfold agreeV
  rw [agreeGo, h]
  generalize turnV _ _ _ _ _ _ _ = q
  obtain ⟨a, b⟩ := q
  cases a <;> rfl
theorem agree_none (hp : hearR s 1 key ver (16 * round + id + 1) [] = p) (hl : learnR p.1 = none) (he : (if fullR p.1 = true then (7 : Int) else 33) = e0) (hm : s.most ≤ (goodR p.1).length) (hb : bestR (·.ba) (goodR p.1) = none) (hw : want = none) (ha : accR p.1 = true) :
    agreeGo key id ver want (n + 1) s round e = agreeV key id ver want n p round e0 none := by
  have h : turnR s key id ver want round = turnV p key ver (16 * round + id + 1) round e0 none := by
    unfold turnR turnV
    simp only [hp, hl, he, if_pos hm, hb, hw, ha, if_true]
  unfold agreeV
  rw [agreeGo, h]
  generalize turnV _ _ _ _ _ _ _ = q
  obtain ⟨a, b⟩ := q
  cases a <;> rfl
theorem agree_stop (hp : hearR s 1 key ver (16 * round + id + 1) [] = p) (hl : learnR p.1 = none) (hm : s.most ≤ (goodR p.1).length) (hb : bestR (·.ba) (goodR p.1) = none) (hw : want = none) (ha : accR p.1 = false) :
    agreeGo key id ver want (n + 1) s round e = (([], 33), p.2) := by
  have h : turnR s key id ver want round = (.inl ([], 33), p.2) := by
    unfold turnR
    simp only [hp, hl, if_pos hm, hb, hw, ha]
    rfl
  rw [agreeGo, h]
theorem agreeV_none : agreeV key id ver want n p round e0 none = agreeGo key id ver want n p.2 (nextR round (promR p.1)) e0 := rfl
theorem agreeV_told {v : List UInt8} {g : List An × RgS} (hg : hearR p.2 2 key ver (16 * round + id + 1) v = g) (hm : p.2.most ≤ (goodR g.1).length) :
    agreeV key id ver want n p round e0 (some v) = ((v, 0), (hearR g.2 3 key ver 0 v).2) := by
  unfold agreeV turnV
  simp only [hg, if_pos hm]
theorem agreeV_next {v : List UInt8} {g : List An × RgS} (hg : hearR p.2 2 key ver (16 * round + id + 1) v = g) (hm : ¬ p.2.most ≤ (goodR g.1).length) :
    agreeV key id ver want n p round e0 (some v) = agreeGo key id ver want n g.2 (nextR round (max (promR p.1) (promR g.1))) (if fullR g.1 = true then 7 else e0) := by
  unfold agreeV turnV
  simp only [hg, if_neg hm]
end
end Go.Proofs.YtcdcjoofcbdilaaGreat
