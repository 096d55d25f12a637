import Derived.Test.YtcdcjoofcbdilaaGreatRgN
/-! Package register: Read. -/
namespace Go.Proofs.YtcdcjoofcbdilaaGreat
open Go.RowKit

def ReadPost (W : World) (L : Nat) (p : RgL) (R : (Int × List UInt8 × Int) × RgS) (e : Ending) (w' : World) : Prop :=
  ∃ p' v, e = .returned (.tuple #[.int .i64 R.1.1, v, .int .i64 R.1.2.2]) ∧ RgAt w' L p' R.2 ∧ (∀ b, p'.all L b → p.all L b ∨ W.heap.size ≤ b) ∧ Ext (p.all L) W w' ∧ Bs w' v R.1.2.1 ∧ ∀ g, obk v = some g → ¬ p'.all L g ∧ g < w'.heap.size
theorem find_take_none {f : An → Bool} : ∀ {l : List An} {t : Nat}, t = l.length → (∀ j x, j < t → l[j]? = some x → f x = false) → l.find? f = none := fun {l t} ht h => by
  rw [List.find?_eq_none]
  intro x hx
  obtain ⟨j, hj⟩ := List.getElem?_of_mem hx
  have := h j x (by rw [ht]; exact (List.getElem?_eq_some_iff.1 hj).1) hj
  rw [this]
  decide
theorem find_at {f : An → Bool} : ∀ {l : List An} {t : Nat} {q : An}, l[t]? = some q → f q = true → (∀ j x, j < t → l[j]? = some x → f x = false) → l.find? f = some q
  | [], t, q, h, _, _ => by simp at h
  | x :: l, 0, q, h, hf, _ => by
    simp at h
    subst h
    simp [List.find?, hf]
  | x :: l, t + 1, q, h, hf, hno => by
    have h0 := hno 0 x (by omega) rfl
    have := find_at (l := l) (t := t) (q := q) (by simpa using h) hf (fun j y hj hy => hno (j + 1) y (by omega) (by simpa using hy))
    simp [List.find?, h0, this]
section
variable {W : World} {L : Nat} {p : RgL} {s : RgS}
set_option maxRecDepth 100000 in
set_option maxHeartbeats 6400000 in
theorem reg_Read (h : RgAt W L p s) (hpr : s.room (13 * s.acs.length)) (key idn : Int) :
    Calls Tryz.prog 11 #[.pointer (some ⟨L, 0, none⟩), .int .i64 key, .int .i64 idn] W (ReadPost W L p (readR s key idn)) := by
  have hM := reg_may h key idn
  have hN : s.acs.length ≤ 1000 := h.few
  obtain ⟨mb, hmb⟩ : ∃ mb, mayR s key idn = mb := ⟨_, rfl⟩
  rw [hmb] at hM
  have HM := Go.Proofs.YtcdcjoofcbdilaaGreat.hid hM
  obtain ⟨R, hR⟩ : ∃ R, readR s key idn = R := ⟨_, rfl⟩
  rw [hR]
  have HR := Go.Proofs.YtcdcjoofcbdilaaGreat.hid (And.intro hR hmb)
  have HH := Go.Proofs.YtcdcjoofcbdilaaGreat.hid (And.intro h hpr)
  clear hR hmb hM h hpr
  go_enter Tryz.func11, Tryz.ntmps11
  go_wp2_with fail
  refine HM.out.mono ?_
  rintro e0 w0 ⟨rfl, rfl⟩
  cases mb
  case false =>
    go_wp2_with fail
    go_ret3
    have hRe : R = ((0, [], 1), s) := by
      rw [← HR.out.1]
      unfold readR
      rw [HR.out.2]
      rfl
    rw [hRe]
    exact ⟨p, _, rfl, HH.out.1, fun b hb => .inl hb, Ext.refl _ _, Bs.nil _, fun g hg => by cases hg⟩
  case true =>
    obtain ⟨h, hpr⟩ := HH.out
    have hC := reg_hear h (hpr.le (by omega)) 4 key 0 0 (.slice none 0 0) [] (Bs.nil _) (fun g hg => by cases hg)
    obtain ⟨H1, hH1⟩ : ∃ H1, hearR s 4 key 0 0 [] = H1 := ⟨_, rfl⟩
    rw [hH1] at hC
    have hps : s.room (s.acs.length + 12 * s.acs.length) := hpr.le (by omega)
    have HP := Go.Proofs.YtcdcjoofcbdilaaGreat.hid (show H1.2.acs.length = s.acs.length ∧ H1.2.room (12 * s.acs.length) ∧ s.most = H1.2.most ∧ (goodR H1.1).length ≤ 1000 from by
      have a1 := hearR_acs s 4 key 0 0 []
      have a3 := hearR_room s 4 key 0 0 [] _ hps
      have a4 : (goodR (hearR s 4 key 0 0 []).1).length ≤ 1000 := by
        unfold goodR
        refine Nat.le_trans (List.length_filter_le _ _) ?_
        unfold hearR
        refine Nat.le_trans (allR_length _ _) ?_
        rw [idxR_length]
        exact hN
      rw [hH1] at a1 a3 a4
      refine ⟨a1, a3, ?_, a4⟩
      unfold RgS.most
      rw [a1])
    have HC := Go.Proofs.YtcdcjoofcbdilaaGreat.hid hC
    have HH1 := Go.Proofs.YtcdcjoofcbdilaaGreat.hid hH1
    clear hC hH1 hps h hpr
    go_upto_region 4 with (go_at_call 25; refine HC.out.mono ?_; rintro e3 W3 ⟨p2, gv, lp, rfl, h3, hgr, hx3, hgood, hlrn⟩; obtain ⟨ga, gc, hgf⟩ := hgood.form; obtain ⟨la, hlp, -⟩ := hlrn.form; subst hgf hlp; obtain ⟨W4, hW4⟩ : ∃ W4, W3.alloc (.cells #[.slice ga (goodR H1.1).length gc, .pointer la, .int .i64 (promR H1.1), .bool (accR H1.1), .bool (fullR H1.1)] 84) = W4 := ⟨_, rfl⟩; have b4 : Below W3.heap.size W3 W4 := (by rw [← hW4]; exact (Below.refl _ _).alloc (Nat.le_refl _) _); have q4 : Blk W4 W3.heap.size #[.slice ga (goodR H1.1).length gc, .pointer la, .int .i64 (promR H1.1), .bool (accR H1.1), .bool (fullR H1.1)] 84 := (by rw [← hW4]; exact Blk.new W3 _ _); have k0 := q4.cell (o := 0) rfl; have k1 := q4.cell (o := 1) rfl; have k2 := q4.cell (o := 2) rfl; have k3 := q4.cell (o := 3) rfl; have k4 := q4.cell (o := 4) rfl; have f0 := q4.free 0; have f1 := q4.free 1; have f2 := q4.free 2; have f3 := q4.free 3; have f4 := q4.free 4; have HQ4 := Go.Proofs.YtcdcjoofcbdilaaGreat.hid (And.intro b4 (And.intro q4 (And.intro h3 (And.intro hgr (And.intro hx3 hgood))))); clear b4 q4 h3 hgr hx3 hgood hlrn)
    obtain ⟨b4, q4, h3, hgr, hx3, hgood⟩ := HQ4.out
    have h4 := h3.keep b4
    have hx4 := hx3.then b4
    have hg4 := hgood.move (Ext.ofBelow b4 : Ext nofp W3 W4) (fun b h => h.elim) (fun b h => .inl h)
    have HMO := Go.Proofs.YtcdcjoofcbdilaaGreat.hid (fun k => reg_most (h4.keep (below_of_drewN W4.heap.size W4 k)))
    obtain ⟨tb, htb⟩ : ∃ tb, decide ((goodR H1.1).length < H1.2.most) = tb := ⟨_, rfl⟩
    have HX := Go.Proofs.YtcdcjoofcbdilaaGreat.hid (And.intro h4 (And.intro hx4 (And.intro hg4 q4)))
    clear h4 hx4 hg4 q4 b4 h3 hx3 hgood k1 k2 k3 k4 f0 f1 f2 f3 f4 hW4
    go_quiet ((go_at_call 26; exact Calls.quiet_of_same (HMO.out _)))
    have hk := below_of_drewN W4.heap.size W4 nq
    obtain ⟨h4, hx4, hg4, q4⟩ := HX.out
    have h5 := h4.keep hk
    have hx5 := hx4.then hk
    have hg5 := hg4.move (Ext.ofBelow hk : Ext nofp _ _) (fun b h => h.elim) (fun b h => .inl h)
    have q5 := q4.keep hk
    clear HX HMO h4 hx4 hg4 q4 hk k0
    generalize W4.drewN nq = w5 at *
    have hs5 := hx5.size
    have HX5 := Go.Proofs.YtcdcjoofcbdilaaGreat.hid (And.intro h5 (And.intro hx5 (And.intro hgr q5)))
    have hw05 : w0.heap.size ≤ w5.heap.size := hx5.size
    clear h5 hx5 hgr q5 HQ4 HC
    cases tb
    case true =>
      have HB := Go.Proofs.YtcdcjoofcbdilaaGreat.hid hg5
      clear hg5
      go_wp2_with fail
      go_ret3
      have hRe : R = ((0, [], 33), H1.2) := by
        rw [← HR.out.1]
        unfold readR
        rw [HR.out.2, HH1.out]
        simp only [if_true]
        rw [if_pos (by rw [HP.out.2.2.1]; exact of_decide_eq_true htb)]
      rw [hRe]
      exact ⟨p2, _, rfl, HX5.out.1, HX5.out.2.2.1, HX5.out.2.1, Bs.nil _, fun g hg => by cases hg⟩
    case false =>
      have hRe : R = match bestR (·.ver) (goodR H1.1) with
          | none => ((0, [], 0), H1.2)
          | some x => match (goodR H1.1).find? (fun y => decide (y.ver = x.ver) && y.le) with
            | some y => ((y.ver, y.b, 0), H1.2)
            | none => if (agreeR H1.2 key idn x.ver none).1.2 = 0 then ((x.ver, (agreeR H1.2 key idn x.ver none).1.1, 0), (agreeR H1.2 key idn x.ver none).2) else ((0, [], (agreeR H1.2 key idn x.ver none).1.2), (agreeR H1.2 key idn x.ver none).2) := by
        rw [← HR.out.1]
        unfold readR
        rw [HR.out.2, HH1.out]
        simp only [if_true]
        rw [if_neg (by rw [HP.out.2.2.1]; exact of_decide_eq_false htb)]
        cases bestR (·.ver) (goodR H1.1) with
        | none => rfl
        | some x => dsimp only; cases List.find? (fun y => decide (y.ver = x.ver) && y.le) (goodR H1.1) <;> rfl
      have HRE := Go.Proofs.YtcdcjoofcbdilaaGreat.hid hRe
      clear hRe htb
      obtain ⟨ps, hps, hown, hvals, hgal⟩ := hg5
      have hvf : ∀ q ∈ ps, ∃ a n c, q.2 = .slice a n c := fun q hq => by
        obtain ⟨a, c, e⟩ := (hvals q hq).1.form
        exact ⟨a, _, c, e⟩
      have hplen : ps.length = (goodR H1.1).length := by rw [← hps]; simp
      have hB := reg_best 28 (·.ver) ranks_ver (fun args w => rfl) _ (.slice ga (goodR H1.1).length gc) ps hown hvf (by rw [hplen]; exact HP.out.2.2.2)
      obtain ⟨hb1, -, -, hbm⟩ := bestP_get (·.ver) _ ps rfl
      obtain ⟨bo, hbo⟩ : ∃ bo, (bestP (·.ver) ps).1 = bo := ⟨_, rfl⟩
      rw [hbo] at hB hb1 hbm
      rw [hps] at hb1
      have HB := Go.Proofs.YtcdcjoofcbdilaaGreat.hid hB
      have HPS := Go.Proofs.YtcdcjoofcbdilaaGreat.hid (And.intro hps (And.intro hvals (And.intro hvf (And.intro hown hplen))))
      have HBM := Go.Proofs.YtcdcjoofcbdilaaGreat.hid (And.intro hb1 hbm)
      have j0 : w5.cell? ⟨W3.heap.size, 0, none⟩ = some (.slice ga (goodR H1.1).length gc) := HX5.out.2.2.2.cell (o := 0) rfl
      clear hB hps hown hvals hgal hvf hbo hb1 hbm hplen
      rcases bo with _ | q
      · have HB0 := Go.Proofs.YtcdcjoofcbdilaaGreat.hid (show Calls Tryz.prog 27 #[.slice ga (goodR H1.1).length gc, .func (.func 28) #[] #[]] w5 (fun e w' => e = .returned (.tuple #[.agg #[.int .i64 0, .int .i64 0, .int .i64 0, .int .i64 0, .bool false, .slice none 0 0], .bool false]) ∧ Below w5.heap.size w5 w') from HB.out)
        clear HB
        go_wp2_with (go_at_call 27; refine HB0.out.mono ?_; rintro e6 W6 ⟨rfl, b6⟩)
        go_ret3
        have hRe : R = ((0, [], 0), H1.2) := by
          rw [HRE.out, show bestR (·.ver) (goodR H1.1) = none from HBM.out.1.symm]
        rw [hRe]
        have b7 := b6.alloc b6.size (.cells #[.int .i64 0, .int .i64 0, .int .i64 0, .int .i64 0, .bool false, .slice none 0 0] 44)
        exact ⟨p2, _, rfl, HX5.out.1.keep b7, HX5.out.2.2.1, HX5.out.2.1.then b7, Bs.nil _, fun g hg => by cases hg⟩
      · obtain ⟨va, vn, vc, hqf⟩ := HPS.out.2.2.1 q (HBM.out.2 q rfl)
        have HB0 := Go.Proofs.YtcdcjoofcbdilaaGreat.hid (show Calls Tryz.prog 27 #[.slice ga (goodR H1.1).length gc, .func (.func 28) #[] #[]] w5 (fun e w' => e = .returned (.tuple #[.agg #[.int .i64 q.1.e, .int .i64 q.1.ver, .int .i64 q.1.pr, .int .i64 q.1.ba, .bool q.1.le, .slice va vn vc], .bool true]) ∧ Below w5.heap.size w5 w') from by rw [← hqf]; exact HB.out)
        have HQF := Go.Proofs.YtcdcjoofcbdilaaGreat.hid hqf
        clear HB hqf
        go_upto_region 7 with (go_at_call 27; refine HB0.out.mono ?_; rintro e6 W6 ⟨rfl, b6⟩; obtain ⟨W7, hW7⟩ : ∃ W7, W6.alloc (.cells #[.int .i64 q.1.e, .int .i64 q.1.ver, .int .i64 q.1.pr, .int .i64 q.1.ba, .bool q.1.le, .slice va vn vc] 44) = W7 := ⟨_, rfl⟩; have b7 : Below W6.heap.size W6 W7 := (by rw [← hW7]; exact (Below.refl _ _).alloc (Nat.le_refl _) _); have q7 : Blk W7 W6.heap.size #[.int .i64 q.1.e, .int .i64 q.1.ver, .int .i64 q.1.pr, .int .i64 q.1.ba, .bool q.1.le, .slice va vn vc] 44 := (by rw [← hW7]; exact Blk.new W6 _ _); have k0 := q7.cell (o := 0) rfl; have k1 := q7.cell (o := 1) rfl; have k2 := q7.cell (o := 2) rfl; have k3 := q7.cell (o := 3) rfl; have k4 := q7.cell (o := 4) rfl; have k5 := q7.cell (o := 5) rfl; have f0 := q7.free 0; have f1 := q7.free 1; have f2 := q7.free 2; have f3 := q7.free 3; have f4 := q7.free 4; have f5 := q7.free 5; have HQ7 := Go.Proofs.YtcdcjoofcbdilaaGreat.hid (And.intro (b6.trans (b7.mono b6.size)) (And.intro q7 b6.size)); clear b6 b7 q7)
        obtain ⟨b57, q7, hw56⟩ := HQ7.out
        have j7 : W7.cell? ⟨W3.heap.size, 0, none⟩ = some (.slice ga (goodR H1.1).length gc) := (HX5.out.2.2.2.keep b57).cell (o := 0) rfl
        have hX := q7.lt
        have hw57 := b57.size
        clear hW7 b57 k0 k1 k2 k3 k4 k5 f0 f1 f2 f3 f4 f5 j0
        go_upto_region 10 with fail
        go_loopw [40] (fun i wr => ∃ t : Nat, t ≤ (goodR H1.1).length ∧ i = .int .i64 (t : Int) ∧ Below W7.heap.size W7 wr ∧ ∀ j x, j < t → (goodR H1.1)[j]? = some x → (decide (x.ver = q.1.ver) && x.le) = false) (fun i _ => (goodR H1.1).length - (intOf i).toNat)
        case atStart => exact ⟨0, Nat.zero_le _, rfl, Below.refl _ _, fun j x hj => by omega⟩
        case round =>
          obtain ⟨t, ht, rfl, hbr, hno⟩ := hrel
          by_cases hlt : t < (goodR H1.1).length
          · have hd1 : decide ((t : Int) < ((goodR H1.1).length : Int)) = true := decide_eq_true (by omega)
            have hlm := HP.out.2.2.2
            have wt : wrap64 ((t : Int) + 1) = (t : Int) + 1 := by unfold wrap64; omega
            obtain ⟨hps, hvals, hvf, ho, hplen⟩ := HPS.out
            obtain ⟨r, hr⟩ : ∃ r, ps[t]? = some r := ⟨_, List.getElem?_eq_getElem (by rw [hplen]; exact hlt)⟩
            obtain ⟨ra, rn, rc, hrf⟩ := hvf r (List.mem_of_getElem? hr)
            have hrg : (goodR H1.1)[t]? = some r.1 := by rw [← hps, List.getElem?_map, hr]; rfl
            obtain ⟨g, rfl⟩ : ∃ g, ga = some ⟨g, 0, none⟩ := by
              rcases ho.form with ⟨e, e2⟩ | ⟨g, c, e⟩
              · rw [e2] at hr; cases hr
              · rw [hplen] at e; cases e; exact ⟨g, rfl⟩
            have hgl := (World.ownsRow.lt ho g rfl).2
            have hb5r : Below w5.heap.size w5 wr := HQ7.out.1.trans (hbr.mono hw57)
            have hcl : ∀ o u, o < 6 → (acell r.1 r.2)[o]? = some u → wr.cell? ⟨g, t * 6 + o, none⟩ = some u := fun o u h6 hu => by
              rw [hb5r.cell (show g < w5.heap.size from hgl)]
              exact ho.cells (j := t * 6 + o) (u := u) (by rw [acells_at o h6 hr]; exact hu)
            have c0 : wr.cell? ⟨g, t * 6, none⟩ = some (.int .i64 r.1.e) := hcl 0 _ (by omega) rfl
            have c1 := hcl 1 _ (by omega) rfl
            have c2 := hcl 2 _ (by omega) rfl
            have c3 := hcl 3 _ (by omega) rfl
            have c4 := hcl 4 _ (by omega) rfl
            have c5 := hcl 5 _ (by omega) rfl
            rw [hrf] at c5
            obtain ⟨W8, hW8⟩ : ∃ W8, wr.alloc (.cells #[.int .i64 r.1.e, .int .i64 r.1.ver, .int .i64 r.1.pr, .int .i64 r.1.ba, .bool r.1.le, .slice ra rn rc] 44) = W8 := ⟨_, rfl⟩
            have b8 : Below wr.heap.size wr W8 := by rw [← hW8]; exact (Below.refl _ _).alloc (Nat.le_refl _) _
            have q8 : Blk W8 wr.heap.size #[.int .i64 r.1.e, .int .i64 r.1.ver, .int .i64 r.1.pr, .int .i64 r.1.ba, .bool r.1.le, .slice ra rn rc] 44 := by rw [← hW8]; exact Blk.new wr _ _
            have b78 := hbr.trans (b8.mono hbr.size)
            have m0 := q8.cell (o := 0) rfl
            have mf0 := q8.free 0
            have m1 := q8.cell (o := 1) rfl
            have mf1 := q8.free 1
            have m2 := q8.cell (o := 2) rfl
            have mf2 := q8.free 2
            have m3 := q8.cell (o := 3) rfl
            have mf3 := q8.free 3
            have m4 := q8.cell (o := 4) rfl
            have mf4 := q8.free 4
            have m5 := q8.cell (o := 5) rfl
            have mf5 := q8.free 5
            have x1 : W8.cell? ⟨W6.heap.size, 1, none⟩ = some (.int .i64 q.1.ver) := (q7.keep b78).cell (o := 1) rfl
            obtain ⟨eb, heb⟩ : ∃ eb, (r.1.ver == q.1.ver) = eb := ⟨_, rfl⟩
            obtain ⟨lb, hlb⟩ : ∃ lb, r.1.le = lb := ⟨_, rfl⟩
            have hrd : decide (r.1.ver = q.1.ver) = eb := by rw [← heb]; rfl
            have HT := Go.Proofs.YtcdcjoofcbdilaaGreat.hid (And.intro hno (And.intro hrg (And.intro b78 (And.intro (hvals r (List.mem_of_getElem? hr)) (And.intro hrf (And.intro hrd hlb))))))
            rw [hlb] at c4 m4 hW8
            clear hps hvals hvf ho hplen hr hrf hrg hcl hno b78 b8 q8 hbr hlb hrd hb5r
            cases eb
            · go_wp2_with fail
              go_roundw
              case rel => 
                obtain ⟨hno, hrg, b78, hval, hrf, hrd, hlb⟩ := HT.out
                refine ⟨t + 1, by omega, by go_num, b78, fun j x hj hx => ?_⟩
                rcases Nat.lt_succ_iff_lt_or_eq.1 hj with h9 | rfl
                · exact hno j x h9 hx
                · rw [hrg] at hx; cases hx; rw [hrd]; rfl
              case measure => simp [intOf]; omega
            · cases lb
              · go_wp2_with fail
                go_roundw
                case rel => 
                  obtain ⟨hno, hrg, b78, hval, hrf, hrd, hlb⟩ := HT.out
                  refine ⟨t + 1, by omega, by go_num, b78, fun j x hj hx => ?_⟩
                  rcases Nat.lt_succ_iff_lt_or_eq.1 hj with h9 | rfl
                  · exact hno j x h9 hx
                  · rw [hrg] at hx; cases hx; rw [hrd, hlb]; rfl
                case measure => simp [intOf]; omega
              · go_upto_region 13 with fail
                go_quiet (fail)
                have hk := below_of_drewN W8.heap.size W8 nq
                go_wp2_with fail
                go_ret3
                obtain ⟨hno, hrg, b78, hval, hrf, hrd, hlb⟩ := HT.out
                have b9 := (HQ7.out.1.trans (b78.mono hw57)).trans (hk.mono (by have := (HQ7.out.1.trans (b78.mono hw57)).size; omega))
                have hRe : R = ((r.1.ver, r.1.b, 0), H1.2) := by
                  rw [HRE.out, show bestR (·.ver) (goodR H1.1) = some q.1 from HBM.out.1.symm]
                  dsimp only
                  rw [find_at hrg (by rw [hrd, hlb]; rfl) hno]
                rw [hRe]
                have hv9 := hval.move (Ext.ofBelow b9 : Ext nofp _ _) (fun b h => h.elim) (al' := p2.all L) (fun b h => .inl h)
                rw [hrf] at hv9
                exact ⟨p2, _, rfl, HX5.out.1.keep b9, HX5.out.2.2.1, HX5.out.2.1.then b9, hv9.1.bs, fun g hg => ⟨hv9.2 g (obk_own hg), (hv9.1.blk g (obk_own hg)).2⟩⟩
          · obtain rfl : t = (goodR H1.1).length := by omega
            have hd1 : decide (((goodR H1.1).length : Int) < ((goodR H1.1).length : Int)) = false := decide_eq_false (by omega)
            have x1 : wr.cell? ⟨W6.heap.size, 1, none⟩ = some (.int .i64 q.1.ver) := (q7.keep hbr).cell (o := 1) rfl
            have hb5r : Below w5.heap.size w5 wr := HQ7.out.1.trans (hbr.mono hw57)
            have hidn : 0 ≤ idn ∧ idn < 16 := by
              have h9 := of_decide_eq_true HR.out.2
              omega
            have hR5 := HX5.out.1.keep hb5r
            have hA := reg_agree hR5 (by rw [HP.out.1]; exact HP.out.2.1) key idn q.1.ver hidn (.pointer none) none rfl
            obtain ⟨A, hAe⟩ : ∃ A, agreeR H1.2 key idn q.1.ver none = A := ⟨_, rfl⟩
            rw [hAe] at hA
            have hRe : R = if A.1.2 = 0 then ((q.1.ver, A.1.1, 0), A.2) else ((0, [], A.1.2), A.2) := by
              rw [HRE.out, show bestR (·.ver) (goodR H1.1) = some q.1 from HBM.out.1.symm]
              dsimp only
              rw [find_take_none rfl hno, hAe]
            have hx5 := HX5.out.2.1.then hb5r
            have HA := Go.Proofs.YtcdcjoofcbdilaaGreat.hid hA
            have HE := Go.Proofs.YtcdcjoofcbdilaaGreat.hid (And.intro hRe (And.intro hx5 (And.intro hb5r (q7.keep hbr))))
            clear hA hRe hx5 hb5r hR5 hAe hno hbr hidn
            go_upto_region 16 with (go_at_call 29; refine HA.out.mono ?_; rintro e9 W9 ⟨p9, v9, rfl, h9, hgr9, hx9, hv9, hg9⟩; obtain ⟨va9, vc9, hvf9⟩ := hv9.form; subst hvf9)
            have hx5 := HE.out.2.1
            have hw5r := HE.out.2.2.1.size
            have hfin : RgAt W9 L p9 A.2 ∧ (∀ b, p9.all L b → p.all L b ∨ w0.heap.size ≤ b) ∧ Ext (p.all L) w0 W9 := ⟨h9, fun b hb => (hgr9 b hb).elim (fun h => HX5.out.2.2.1 b h) (fun h => .inr (by omega)), hx5.trans hx9 (fun b hb => HX5.out.2.2.1 b hb)⟩
            have y1 : W9.cell? ⟨W6.heap.size, 1, none⟩ = some (.int .i64 q.1.ver) := by
              refine ext_cell x1 hx9 (fun hc => ?_)
              have h1 : W6.heap.size < w5.heap.size := HX5.out.1.size hc
              omega
            have HF := Go.Proofs.YtcdcjoofcbdilaaGreat.hid (And.intro hfin (And.intro hv9 hg9))
            clear hfin hv9 hg9 h9 hgr9 hx9 x1 hx5
            by_cases hz : A.1.2 = 0
            · have hzb : (A.1.2 != 0) = false := by rw [hz]; rfl
              have HRR := Go.Proofs.YtcdcjoofcbdilaaGreat.hid (show R = ((q.1.ver, A.1.1, 0), A.2) from by rw [HE.out.1, if_pos hz])
              clear hz
              go_wp2_with fail
              go_ret3
              rw [HRR.out]
              exact ⟨p9, _, rfl, HF.out.1.1, HF.out.1.2.1, HF.out.1.2.2, HF.out.2.1, HF.out.2.2⟩
            · have hzb : (A.1.2 != 0) = true := by simpa using hz
              have HRR := Go.Proofs.YtcdcjoofcbdilaaGreat.hid (show R = ((0, [], A.1.2), A.2) from by rw [HE.out.1, if_neg hz])
              clear hz
              go_wp2_with fail
              go_ret3
              rw [HRR.out]
              exact ⟨p9, _, rfl, HF.out.1.1, HF.out.1.2.1, HF.out.1.2.2, Bs.nil _, fun g hg => by cases hg⟩
end
end Go.Proofs.YtcdcjoofcbdilaaGreat

/-! Package register: Swap. -/
namespace Go.Proofs.YtcdcjoofcbdilaaGreat
open Go.RowKit

def SwapPost (W : World) (L : Nat) (p : RgL) (R : Int × RgS) (e : Ending) (w' : World) : Prop :=
  ∃ p', e = .returned (.int .i64 R.1) ∧ RgAt w' L p' R.2 ∧ (∀ b, p'.all L b → p.all L b ∨ W.heap.size ≤ b) ∧ Ext (p.all L) W w'
/-- So many askings of all lie between. -/
def AfterR (n : Nat) (s s' : RgS) : Prop := s'.acs.length = s.acs.length ∧ ∀ c, s.room (n * s.acs.length + c) → s'.room c
theorem AfterR.refl (n : Nat) (s : RgS) : AfterR n s s := ⟨rfl, fun c h => h.le (by omega)⟩
theorem AfterR.hear (s : RgS) (k key ver bal : Int) (l : List UInt8) : AfterR 1 s (hearR s k key ver bal l).2 := ⟨hearR_acs s k key ver bal l, fun c h => hearR_room s k key ver bal l c (h.le (by omega))⟩
theorem AfterR.trans {n m : Nat} {s s' s'' : RgS} (h : AfterR n s s') (h' : AfterR m s' s'') : AfterR (n + m) s s'' := ⟨h'.1.trans h.1, fun c hc => h'.2 c (h.2 _ (hc.le (by rw [h.1, Nat.add_mul]; omega)))⟩
theorem AfterR.le {n m : Nat} {s s' : RgS} (h : AfterR n s s') (hm : n ≤ m) : AfterR m s s' := ⟨h.1, fun c hc => h.2 c (hc.le (by have := Nat.mul_le_mul_right s.acs.length hm; omega))⟩
theorem turnR_after (s : RgS) (key id ver : Int) (want : Option (List UInt8)) (round : Int) : AfterR 3 s (turnR s key id ver want round).2 := by
  unfold turnR
  dsimp only
  split
  · exact ((AfterR.hear _ _ _ _ _ _).trans (AfterR.hear _ _ _ _ _ _)).le (by omega)
  · split
    · split
      · split
        · exact (AfterR.hear _ _ _ _ _ _).le (by omega)
        · exact (AfterR.hear _ _ _ _ _ _).le (by omega)
      · split
        · exact ((AfterR.hear _ _ _ _ _ _).trans (AfterR.hear _ _ _ _ _ _)).trans (AfterR.hear _ _ _ _ _ _)
        · exact ((AfterR.hear _ _ _ _ _ _).trans (AfterR.hear _ _ _ _ _ _)).le (by omega)
      · split
        · exact ((AfterR.hear _ _ _ _ _ _).trans (AfterR.hear _ _ _ _ _ _)).trans (AfterR.hear _ _ _ _ _ _)
        · exact ((AfterR.hear _ _ _ _ _ _).trans (AfterR.hear _ _ _ _ _ _)).le (by omega)
    · exact (AfterR.hear _ _ _ _ _ _).le (by omega)
theorem agreeGo_after (key id ver : Int) (want : Option (List UInt8)) : ∀ (n : Nat) (s : RgS) (round e : Int), AfterR (3 * n) s (agreeGo key id ver want n s round e).2
  | 0, s, _, _ => AfterR.refl _ s
  | n + 1, s, round, e => by
    unfold agreeGo
    have h := turnR_after s key id ver want round
    split
    · exact h.le (by omega)
    · exact (h.trans (agreeGo_after key id ver want n _ _ _)).le (by omega)
theorem agreeR_after (s : RgS) (key id ver : Int) (want : Option (List UInt8)) : AfterR 12 s (agreeR s key id ver want).2 := agreeGo_after key id ver want 4 s 0 0
theorem readR_after (s : RgS) (key id : Int) : AfterR 13 s (readR s key id).2 := by
  unfold readR
  dsimp only
  split
  · split
    · exact (AfterR.hear _ _ _ _ _ _).le (by omega)
    · split
      · exact (AfterR.hear _ _ _ _ _ _).le (by omega)
      · split
        · exact (AfterR.hear _ _ _ _ _ _).le (by omega)
        · split
          · exact ((AfterR.hear _ _ _ _ _ _).trans (agreeR_after _ _ _ _ _)).le (by omega)
          · exact ((AfterR.hear _ _ _ _ _ _).trans (agreeR_after _ _ _ _ _)).le (by omega)
  · exact AfterR.refl _ _
theorem swapR_after (s : RgS) (key id ver : Int) (v : List UInt8) : AfterR 25 s (swapR s key id ver v).2 := by
  unfold swapR
  dsimp only
  split
  · split
    · exact (readR_after _ _ _).le (by omega)
    · split
      · exact (readR_after _ _ _).le (by omega)
      · exact ((readR_after _ _ _).trans (agreeR_after _ _ _ _ _)).le (by omega)
  · exact AfterR.refl _ _
section
variable {W : World} {L : Nat} {p : RgL} {s : RgS}
set_option maxRecDepth 100000 in
set_option maxHeartbeats 6400000 in
theorem reg_Swap (h : RgAt W L p s) (hpr : s.room (25 * s.acs.length)) (key idn ver : Int) (v : Value) (l : List UInt8) (hv : Bs W v l) (hvo : ∀ g, obk v = some g → ¬ p.all L g ∧ g < W.heap.size) :
    Calls Tryz.prog 12 #[.pointer (some ⟨L, 0, none⟩), .int .i64 key, .int .i64 idn, .int .i64 ver, v] W (SwapPost W L p (swapR s key idn ver l)) := by
  obtain ⟨va, vc, hvf⟩ := hv.form
  have hll := hv.len
  subst hvf
  obtain ⟨W1, hW1⟩ : ∃ W1, W.alloc (.cells #[.slice va l.length vc] 30) = W1 := ⟨_, rfl⟩
  have b1 : Below W.heap.size W W1 := by rw [← hW1]; exact (Below.refl _ W).alloc (Nat.le_refl _) _
  have q1 : Blk W1 W.heap.size #[.slice va l.length vc] 30 := by rw [← hW1]; exact Blk.new W _ _
  have h1 := h.keep b1
  have hM := reg_may h1 key idn
  have hN : s.acs.length ≤ 1000 := h.few
  obtain ⟨mb, hmb⟩ : ∃ mb, mayR s key idn = mb := ⟨_, rfl⟩
  rw [hmb] at hM
  have HM := Go.Proofs.YtcdcjoofcbdilaaGreat.hid hM
  obtain ⟨R, hR⟩ : ∃ R, swapR s key idn ver l = R := ⟨_, rfl⟩
  rw [hR]
  have hs1 := b1.size
  have c0 : W1.cell? ⟨W.heap.size, 0, none⟩ = some (.slice va l.length vc) := q1.cell (o := 0) rfl
  have c0f := q1.free 0
  have HR := Go.Proofs.YtcdcjoofcbdilaaGreat.hid (And.intro hR hmb)
  have HH := Go.Proofs.YtcdcjoofcbdilaaGreat.hid (And.intro h1 (And.intro hpr (And.intro b1 (And.intro q1 (And.intro (hv.keep b1) hvo)))))
  have HPL := Go.Proofs.YtcdcjoofcbdilaaGreat.hid (fun b (hb : p.all L b) => h.size hb)
  clear hR hmb hM h1 h hpr b1 q1 hv hvo
  have HB := Go.Proofs.YtcdcjoofcbdilaaGreat.hid (show (mb = false ∨ ver < 0 ∨ 281474976710654 < ver ∨ 4000 < l.length) → R = (1, s) from by
    intro hc
    rw [← HR.out.1]
    unfold swapR
    rw [HR.out.2, if_neg (by rcases hc with h9 | h9 | h9 | h9 <;> rintro ⟨g1, g2, g3, g4⟩ <;> first | omega | (rw [h9] at g1; cases g1))])
  obtain ⟨vb, hvb⟩ : ∃ vb, decide (ver < 0) = vb := ⟨_, rfl⟩
  obtain ⟨xb, hxb⟩ : ∃ xb, decide (ver > 281474976710654) = xb := ⟨_, rfl⟩
  obtain ⟨lb, hlb⟩ : ∃ lb, decide ((l.length : Int) > 4000) = lb := ⟨_, rfl⟩
  go_enter Tryz.func12, Tryz.ntmps12
  go_upto_region 1 with fail
  have hlb2 : decide (4000 < l.length) = lb := by rw [← hlb]; exact decide_eq_decide.2 (by omega)
  have hxb2 : decide (281474976710654 < ver) = xb := hxb
  have HDB := Go.Proofs.YtcdcjoofcbdilaaGreat.hid (And.intro hvb (And.intro hxb2 hlb2))
  go_cut [32] from 15 (fun s32 wx => s32 = .bool (!mb || vb || xb || lb) ∧ W1 = wx)
  case first =>
    cases mb
    · go_wp2_with (refine HM.out.mono ?_; rintro e0 w0 ⟨rfl, rfl⟩)
      go_meet
      case rel => exact ⟨rfl, rfl⟩
    · cases vb
      · cases xb
        · go_wp2_with (refine HM.out.mono ?_; rintro e0 w0 ⟨rfl, rfl⟩)
          go_meet
          case rel => exact ⟨rfl, rfl⟩
        · go_wp2_with (refine HM.out.mono ?_; rintro e0 w0 ⟨rfl, rfl⟩)
          go_meet
          case rel => exact ⟨rfl, rfl⟩
      · go_wp2_with (refine HM.out.mono ?_; rintro e0 w0 ⟨rfl, rfl⟩)
        go_meet
        case rel => exact ⟨rfl, rfl⟩
  case rest =>
    obtain ⟨rfl, rfl⟩ := hcut
    obtain ⟨bb, hbb⟩ : ∃ bb, (!mb || vb || xb || lb) = bb := ⟨_, rfl⟩
    rw [hbb]
    clear hvb hxb hlb hlb2 hxb2
    cases bb
    case true =>
      have hRe : R = (1, s) := HB.out (by
        obtain ⟨d1, d2, d3⟩ := HDB.out
        cases mb
        · exact .inl rfl
        · cases vb
          · cases xb
            · cases lb
              · cases hbb
              · exact .inr (.inr (.inr (of_decide_eq_true d3)))
            · exact .inr (.inr (.inl (of_decide_eq_true d2)))
          · exact .inr (.inl (of_decide_eq_true d1)))
      have HRE := Go.Proofs.YtcdcjoofcbdilaaGreat.hid hRe
      clear hRe hbb
      go_wp2_with fail
      go_ret
      rw [HRE.out]
      obtain ⟨h1, -, b1, -⟩ := HH.out
      exact ⟨p, rfl, h1, fun b hb => .inl hb, Ext.ofBelow b1⟩
    case false =>
      have hall : mb = true ∧ 0 ≤ ver ∧ ver ≤ 281474976710654 ∧ l.length ≤ 4000 := by
        obtain ⟨d1, d2, d3⟩ := HDB.out
        cases mb
        · cases hbb
        · cases vb
          · cases xb
            · cases lb
              · have := of_decide_eq_false d1; have := of_decide_eq_false d2; have := of_decide_eq_false d3
                exact ⟨rfl, by omega, by omega, by omega⟩
              · cases hbb
            · cases hbb
          · cases hbb
      obtain ⟨rfl, hv0, hv1, hl4⟩ := hall
      have hRe : R = if (readR s key idn).1.2.2 ≠ 0 then ((readR s key idn).1.2.2, (readR s key idn).2) else if (readR s key idn).1.1 ≠ ver then (34, (readR s key idn).2)
          else (if (agreeR (readR s key idn).2 key idn (ver + 1) (some l)).1.2 = 0 ∧ (agreeR (readR s key idn).2 key idn (ver + 1) (some l)).1.1 ≠ l then 34 else (agreeR (readR s key idn).2 key idn (ver + 1) (some l)).1.2, (agreeR (readR s key idn).2 key idn (ver + 1) (some l)).2) := by
        rw [← HR.out.1]
        unfold swapR
        rw [if_pos ⟨HR.out.2, hv0, hv1, hl4⟩]
      obtain ⟨h1, hpr, b1, q1, hv, hvo⟩ := HH.out
      have hC := reg_Read h1 (hpr.le (by omega)) key idn
      have hAf := readR_after s key idn
      have hAr : (readR s key idn).2.room (12 * (readR s key idn).2.acs.length) := hAf.2 _ (by rw [hAf.1]; exact hpr.le (by omega))
      obtain ⟨P, hP⟩ : ∃ P, readR s key idn = P := ⟨_, rfl⟩
      rw [hP] at hC hRe hAr
      have hidn : 0 ≤ idn ∧ idn < 16 := by
        have h9 := of_decide_eq_true HR.out.2
        omega
      have w1 : wrap64 (ver + 1) = ver + 1 := by unfold wrap64; omega
      have HC := Go.Proofs.YtcdcjoofcbdilaaGreat.hid hC
      have HRE := Go.Proofs.YtcdcjoofcbdilaaGreat.hid hRe
      have HAR := Go.Proofs.YtcdcjoofcbdilaaGreat.hid (And.intro hAr hidn)
      clear hC hRe hAr hAf hP hidn h1 hpr b1 q1 hv hvo hbb HDB HB
      go_upto_region 4 with (go_at_call 11; refine HC.out.mono ?_; rintro e3 W3 ⟨p2, v3, rfl, h3, hgr, hx3, hv3, hg3⟩; obtain ⟨a3, c3, hvf3⟩ := hv3.form; subst hvf3; have HX3 := Go.Proofs.YtcdcjoofcbdilaaGreat.hid (And.intro h3 (And.intro hgr hx3)); clear h3 hgr hx3 hv3 hg3)
      obtain ⟨h3, hgr, hx3⟩ := HX3.out
      have hxb : Ext (p.all L) W W3 := (Ext.ofBelow HH.out.2.2.1 : Ext (p.all L) W W1).trans hx3 (fun b hb => .inl hb)
      have hgb : ∀ b, p2.all L b → p.all L b ∨ W.heap.size ≤ b := fun b hb => (hgr b hb).imp id (fun h => by omega)
      have HX4 := Go.Proofs.YtcdcjoofcbdilaaGreat.hid (And.intro hxb hgb)
      clear hxb hgb h3 hgr hx3 c0 c0f
      by_cases hz : P.1.2.2 = 0
      · have hzb : (P.1.2.2 != 0) = false := by rw [hz]; rfl
        by_cases hy : P.1.1 = ver
        · have hyb : (P.1.1 != ver) = false := by rw [hy]; simp
          have hRe : R = (if (agreeR P.2 key idn (ver + 1) (some l)).1.2 = 0 ∧ (agreeR P.2 key idn (ver + 1) (some l)).1.1 ≠ l then 34 else (agreeR P.2 key idn (ver + 1) (some l)).1.2, (agreeR P.2 key idn (ver + 1) (some l)).2) := by
            rw [HRE.out, if_neg (fun hn => hn hz), if_neg (fun hn => hn hy)]
          clear hy hz
          obtain ⟨h3, hgr, hx3⟩ := HX3.out
          obtain ⟨-, -, -, q1, hv, hvo⟩ := HH.out
          have hnb : ¬ p.all L W.heap.size := fun hc => by have := HPL.out _ hc; omega
          have hs13 := hx3.size
          have hgw : ∀ g, obk (.slice va l.length vc) = some g → ¬ p2.all L g ∧ g < W3.heap.size := fun g hg => by
            have h9 := hvo g hg
            exact ⟨fun hc => by rcases hgr g hc with h8 | h8; exact h9.1 h8; omega, by omega⟩
          have hA := reg_agree h3 HAR.out.1 key idn (ver + 1) HAR.out.2 (.pointer (some ⟨W.heap.size, 0, none⟩)) (some l) ⟨W.heap.size, .slice va l.length vc, rfl, q1.ext hx3 hnb, hv.extO hx3 (fun g hg _ => (hvo g hg).1), fun hc => by rcases HX4.out.2 _ hc with h8 | h8; exact hnb h8; rcases hgr _ hc with h7 | h7; exact hnb h7; have := q1.lt; omega, by have := q1.lt; omega, hgw⟩
          obtain ⟨A, hAe⟩ : ∃ A, agreeR P.2 key idn (ver + 1) (some l) = A := ⟨_, rfl⟩
          rw [hAe] at hA hRe
          have HA := Go.Proofs.YtcdcjoofcbdilaaGreat.hid hA
          have HRR := Go.Proofs.YtcdcjoofcbdilaaGreat.hid hRe
          have HG2 := Go.Proofs.YtcdcjoofcbdilaaGreat.hid (And.intro hgw (And.intro hnb (And.intro (q1.ext hx3 hnb) (hv.extO hx3 (fun g hg _ => (hvo g hg).1)))))
          clear hA hRe hAe hgw h3 hgr hx3 q1 hv hvo hnb
          go_upto_region 9 with (go_at_call 29; refine HA.out.mono ?_; rintro e9 W9 ⟨p9, v9, rfl, h9, hgr9, hx9, hv9, hg9⟩; obtain ⟨a9, c9, hvf9⟩ := hv9.form; subst hvf9; have HX9 := Go.Proofs.YtcdcjoofcbdilaaGreat.hid (And.intro h9 (And.intro hgr9 (And.intro hx9 hv9))); clear h9 hgr9 hx9 hv9 hg9)
          obtain ⟨h9, hgr9, hx9, hv9⟩ := HX9.out
          obtain ⟨hgw, hnb, q3, hv3⟩ := HG2.out
          have hnb2 : ¬ p2.all L W.heap.size := fun hc => by rcases HX4.out.2 _ hc with h8 | h8; exact hnb h8; rcases HX3.out.2.1 _ hc with h7 | h7; exact hnb h7; have := HH.out.2.2.2.1.lt; omega
          have c0 : W9.cell? ⟨W.heap.size, 0, none⟩ = some (.slice va l.length vc) := (q3.ext hx9 hnb2).cell (o := 0) rfl
          have hv4 := hv3.extO hx9 (fun g hg _ => (hgw g hg).1)
          have hc1 := run_bytes_string (P := Tryz.prog) Tryz.underlying30 Tryz.underlying5 Tryz.underlying9 hv9
          have hc2 := run_bytes_string (P := Tryz.prog) Tryz.underlying30 Tryz.underlying5 Tryz.underlying9 hv4
          have HF := Go.Proofs.YtcdcjoofcbdilaaGreat.hid (show RgAt W9 L p9 A.2 ∧ (∀ b, p9.all L b → p.all L b ∨ W.heap.size ≤ b) ∧ Ext (p.all L) W W9 from ⟨h9, fun b hb => (hgr9 b hb).elim (HX4.out.2 b) (fun h => .inr (by omega)), HX4.out.1.trans hx9 HX4.out.2⟩)
          obtain ⟨eb, heb⟩ : ∃ eb, (A.1.2 == 0) = eb := ⟨_, rfl⟩
          obtain ⟨lb2, hlb2⟩ : ∃ lb2, (A.1.1 == l) = lb2 := ⟨_, rfl⟩
          have HEB := Go.Proofs.YtcdcjoofcbdilaaGreat.hid (And.intro heb hlb2)
          clear h9 hgr9 hx9 hv9 hgw hnb q3 hv3 hnb2 hv4
          cases eb
          · go_wp2_with fail
            go_ret
            have hz9 : ¬ A.1.2 = 0 := by have := HEB.out.1; simpa using this
            rw [HRR.out, if_neg (fun hc => hz9 hc.1)]
            exact ⟨p9, rfl, HF.out⟩
          · have hz9 : A.1.2 = 0 := by have := HEB.out.1; simpa using this
            have HZ9 := Go.Proofs.YtcdcjoofcbdilaaGreat.hid hz9
            clear hz9
            cases lb2
            · go_wp2_with fail
              go_ret
              have hl9 : ¬ A.1.1 = l := by have := HEB.out.2; simpa using this
              rw [HRR.out, if_pos ⟨HZ9.out, hl9⟩]
              exact ⟨p9, rfl, HF.out⟩
            · go_wp2_with fail
              go_ret
              have hl9 : A.1.1 = l := by have := HEB.out.2; simpa using this
              rw [HRR.out, if_neg (fun hc => hc.2 hl9)]
              exact ⟨p9, rfl, HF.out⟩
        · have hyb : (P.1.1 != ver) = true := by simpa using hy
          have HRR := Go.Proofs.YtcdcjoofcbdilaaGreat.hid (show R = (34, P.2) from by rw [HRE.out, if_neg (fun hn => hn hz), if_pos hy])
          clear hy hz
          go_wp2_with fail
          go_ret
          rw [HRR.out]
          exact ⟨p2, rfl, HX3.out.1, HX4.out.2, HX4.out.1⟩
      · have hzb : (P.1.2.2 != 0) = true := by simpa using hz
        have HRR := Go.Proofs.YtcdcjoofcbdilaaGreat.hid (show R = (P.1.2.2, P.2) from by rw [HRE.out, if_pos hz])
        clear hz
        go_wp2_with fail
        go_ret
        rw [HRR.out]
        exact ⟨p2, rfl, HX3.out.1, HX4.out.2, HX4.out.1⟩
end
end Go.Proofs.YtcdcjoofcbdilaaGreat
