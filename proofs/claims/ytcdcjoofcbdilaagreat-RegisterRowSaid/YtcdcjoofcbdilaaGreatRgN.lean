import Derived.Test.YtcdcjoofcbdilaaGreatMRgV
import Derived.Deep.CutRange
import Derived.BigQuiet
import Derived.WalkMore
/-! Package register: agree. -/
namespace Go.Proofs.YtcdcjoofcbdilaaGreat
open Go.RowKit

/-- What agree is to write, if it is to write a thing at all. -/
def WantAt (W : World) (L : Nat) (p : RgL) (n0 : Nat) (wv : Value) : Option (List UInt8) → Prop
  | none => wv = .pointer none
  | some l => ∃ wb v, wv = .pointer (some ⟨wb, 0, none⟩) ∧ Blk W wb #[v] 30 ∧ Bs W v l ∧ ¬ p.all L wb ∧ wb < n0 ∧ ∀ g, obk v = some g → ¬ p.all L g ∧ g < n0
/-- What agree leaves. -/
def AgDone (W : World) (L : Nat) (p : RgL) (n0 : Nat) (key ver : Int) (R : (List UInt8 × Int) × RgS) (wx : World) : Prop :=
  ∃ p' v0, AgAt W L p n0 key ver wx p' R.2 v0 R.1.2 ∧ Bs wx v0 R.1.1 ∧ ∀ g, obk v0 = some g → ¬ p'.all L g ∧ g < wx.heap.size ∧ g ≠ n0 + 3 ∧ g ≠ n0 + 4
def AgreePost (W : World) (L : Nat) (p : RgL) (R : (List UInt8 × Int) × RgS) (e : Ending) (w' : World) : Prop :=
  ∃ p' v, e = .returned (.tuple #[v, .int .i64 R.1.2]) ∧ RgAt w' L p' R.2 ∧ (∀ b, p'.all L b → p.all L b ∨ W.heap.size ≤ b) ∧ Ext (p.all L) W w' ∧ Bs w' v R.1.1 ∧ ∀ g, obk v = some g → ¬ p'.all L g ∧ g < w'.heap.size
theorem LearnAt.form {W : World} {al : Nat → Prop} {M : Nat} {gv lp : Value} {lo : Option An} (h : LearnAt W al M gv lp lo) : ∃ a, lp = .pointer a ∧ (lo = none ∧ a = none ∨ ∃ r, lo = some r ∧ a.isSome = true) := by
  cases lo with
  | none => exact ⟨none, h, .inl ⟨rfl, rfl⟩⟩
  | some r => obtain ⟨X, v, e, _⟩ := h; exact ⟨_, e, .inr ⟨r, rfl, rfl⟩⟩
section
variable {W : World} {L : Nat} {p : RgL} {s : RgS}
set_option maxRecDepth 100000 in
set_option maxHeartbeats 6400000 in
theorem reg_agree (h : RgAt W L p s) (hpr : s.room (12 * s.acs.length)) (key idn ver : Int) (hid : 0 ≤ idn ∧ idn < 16) (wv : Value) (want : Option (List UInt8)) (hw : WantAt W L p W.heap.size wv want) :
    Calls Tryz.prog 29 #[.pointer (some ⟨L, 0, none⟩), .int .i64 key, .int .i64 idn, .int .i64 ver, wv] W (AgreePost W L p (agreeR s key idn ver want)) := by
  obtain ⟨wa, hwv⟩ : ∃ a, wv = .pointer a := by
    cases want with
    | none => exact ⟨_, hw⟩
    | some l => obtain ⟨wb, v, e, _⟩ := hw; exact ⟨_, e⟩
  have HW := Go.Proofs.YtcdcjoofcbdilaaGreat.hid hw
  have HID := Go.Proofs.YtcdcjoofcbdilaaGreat.hid hid
  clear hw hid
  subst hwv
  obtain ⟨W1, hW1⟩ : ∃ W1, ((((W.alloc (.cells #[.pointer (some ⟨L, 0, none⟩)] 23)).alloc (.cells #[.int .i64 key] 3)).alloc (.cells #[.int .i64 ver] 3)).alloc (.cells #[.slice none 0 0] 30)).alloc (.cells #[.int .i64 0] 31) = W1 := ⟨_, rfl⟩
  have s1 : W1.heap.size = W.heap.size + 5 := by rw [← hW1]; simp
  have b1 : Below W.heap.size W W1 := by rw [← hW1]; exact (((((Below.refl _ W).alloc (Nat.le_refl _) _).alloc (by simp) _).alloc (by simp; omega) _).alloc (by simp; omega) _).alloc (by simp; omega) _
  have A1 : AgAt W L p W.heap.size key ver W1 p s (.slice none 0 0) 0 := by
    refine ⟨h.keep b1, ?_, ?_, ?_, ?_, ?_, fun b hb => .inl hb, Ext.ofBelow b1, by omega, Nat.le_refl _, fun b hb => h.size hb⟩
    · rw [← hW1]; exact ((((Blk.new W _ _).alloc _).alloc _).alloc _).alloc _
    · rw [← hW1]; exact (((Blk.new' _ _ (by simp) _ _).alloc _).alloc _).alloc _
    · rw [← hW1]; exact ((Blk.new' _ _ (by simp) _ _).alloc _).alloc _
    · rw [← hW1]; exact (Blk.new' _ _ (by simp) _ _).alloc _
    · rw [← hW1]; exact Blk.new' _ _ (by simp) _ _
  obtain ⟨R, hR⟩ : ∃ R, agreeR s key idn ver want = R := ⟨_, rfl⟩
  rw [hR]
  have HR := Go.Proofs.YtcdcjoofcbdilaaGreat.hid hR
  have HA1 := Go.Proofs.YtcdcjoofcbdilaaGreat.hid A1
  have HPR := Go.Proofs.YtcdcjoofcbdilaaGreat.hid hpr
  have hN : s.acs.length ≤ 1000 := h.few
  clear h hR A1 hpr b1
  go_enter Tryz.func29, Tryz.ntmps29
  go_wp2_with fail
  go_step3
  go_wp2_with fail
  go_step3
  go_upto_region 3 with fail
  clear hW1
  iterate 7 go_step
  go_cut [] from 13 (fun wx => AgDone W L p W.heap.size key ver R wx)
  case first =>
    go_upto_region 4 with fail
    go_loopw [13, 22] (fun s13 i wr => ∃ (t : Nat) (rd e : Int) (pr : RgL) (st : RgS), t ≤ 4 ∧ i = .int .i64 (t : Int) ∧ s13 = .int .i64 rd ∧ AgAt W L p W.heap.size key ver wr pr st (.slice none 0 0) e ∧ R = agreeGo key idn ver want (4 - t) st rd e ∧ (0 ≤ rd ∧ rd ≤ 17592186044416 + (t : Int)) ∧ st.acs.length = s.acs.length ∧ st.room (3 * (4 - t) * s.acs.length)) (fun _ i _ => 4 - (intOf i).toNat)
    case atStart => exact ⟨0, 0, 0, p, s, by omega, rfl, rfl, HA1.out, HR.out.symm, ⟨by omega, by omega⟩, rfl, HPR.out⟩
    case round =>
      obtain ⟨t, rd, e, pr, st, ht, rfl, rfl, hA, hgo, hrd, hacs, hroom⟩ := hrel
      by_cases hlt : t < 4
      · have hd1 : decide ((t : Int) < 4) = true := decide_eq_true (by omega)
        have w1 : wrap64 (16 * rd) = 16 * rd := by have := HID.out; unfold wrap64; omega
        have w2 : wrap64 (16 * rd + idn) = 16 * rd + idn := by have := HID.out; unfold wrap64; omega
        have w3 : wrap64 (16 * rd + idn + 1) = 16 * rd + idn + 1 := by have := HID.out; unfold wrap64; omega
        obtain ⟨W2, hW2⟩ : ∃ W2, wr.alloc (.cells #[.int .i64 1, .int .i64 key, .int .i64 ver, .int .i64 (16 * rd + idn + 1), .slice none 0 0] 48) = W2 := ⟨_, rfl⟩
        have b2 : Below wr.heap.size wr W2 := by rw [← hW2]; exact (Below.refl _ _).alloc (Nat.le_refl _) _
        have q2 : Blk W2 wr.heap.size #[.int .i64 1, .int .i64 key, .int .i64 ver, .int .i64 (16 * rd + idn + 1), .slice none 0 0] 48 := by rw [← hW2]; exact Blk.new wr _ _
        have s2 : W2.heap.size = wr.heap.size + 1 := by rw [← hW2]; simp
        have hA2 := hA.keep b2
        have m4 := q2.cell (o := 4) rfl
        have mf4 := q2.free 4
        -- the last cell's store is laid on a world that is folded already
        obtain ⟨W2b, hW2b⟩ : ∃ W2b, W2.setCell ⟨wr.heap.size, 4, none⟩ (.slice none 0 0) = W2b := ⟨_, rfl⟩
        have hno9 : ¬ pr.all L wr.heap.size := fun hc => by have := hA.rg.size hc; omega
        have hA2 : AgAt W L p W.heap.size key ver W2b pr st (.slice none 0 0) e := hA2.move (fp := fun b => b = wr.heap.size) (by rw [← hW2b]; exact (Ext.refl (fun b => b = wr.heap.size) W2).setCell (a := ⟨wr.heap.size, 4, none⟩) (.inl rfl) _) (fun b hb => by rw [hb]; exact ⟨hA.size, hno9⟩)
        have q2 : Blk W2b wr.heap.size #[.int .i64 1, .int .i64 key, .int .i64 ver, .int .i64 (16 * rd + idn + 1), .slice none 0 0] 48 := by rw [← hW2b]; exact q2.set (o := 4) _
        have s2 : W2b.heap.size = wr.heap.size + 1 := by rw [← hW2b]; simp [s2]
        have l1 : wr.cell? ⟨W.heap.size + 1, 0, none⟩ = some (.int .i64 key) := hA.bk.cell (o := 0) rfl
        have l2 : wr.cell? ⟨W.heap.size + 2, 0, none⟩ = some (.int .i64 ver) := hA.bv.cell (o := 0) rfl
        have l0 : W2b.cell? ⟨W.heap.size, 0, none⟩ = some (.pointer (some ⟨L, 0, none⟩)) := hA2.bL.cell (o := 0) rfl
        have m0 := q2.cell (o := 0) rfl
        have m1 := q2.cell (o := 1) rfl
        have m2 := q2.cell (o := 2) rfl
        have m3 := q2.cell (o := 3) rfl
        have m5 := q2.cell (o := 4) rfl
        have hst : st.room (st.acs.length + (3 * (4 - (t + 1)) * s.acs.length + 2 * s.acs.length)) := by
          refine hroom.le ?_
          rw [hacs]
          have h9 : 3 * (4 - t) = 3 * (4 - (t + 1)) + 3 := by omega
          rw [h9, Nat.add_mul]
          omega
        have HC := Go.Proofs.YtcdcjoofcbdilaaGreat.hid (reg_hear hA2.rg (hst.le (by omega)) 1 key ver (16 * rd + idn + 1) (.slice none 0 0) [] (Bs.nil _) (fun g hg => by cases hg))
        have HG := Go.Proofs.YtcdcjoofcbdilaaGreat.hid (And.intro hgo (And.intro hrd (And.intro hacs hst)))
        have HA2 := Go.Proofs.YtcdcjoofcbdilaaGreat.hid (And.intro hA2 (And.intro q2 (And.intro s2 hA)))
        clear hgo hrd hacs hst hroom hA2 q2 s2 hA b2 hno9
        obtain ⟨H1, hH1⟩ : ∃ H1, hearR st 1 key ver (16 * rd + idn + 1) [] = H1 := ⟨_, rfl⟩
        have HC := Go.Proofs.YtcdcjoofcbdilaaGreat.hid (show Calls Tryz.prog 25 _ _ (HearPost _ _ _ H1) from by rw [← hH1]; exact HC.out)
        have HH1 := Go.Proofs.YtcdcjoofcbdilaaGreat.hid hH1
        clear hH1
        go_upto_region 7 with (go_at_call 25; refine HC.out.mono ?_; rintro e3 W3 ⟨p2, gv, lp, rfl, h3, hgr, hx3, hgood, hlrn⟩; obtain ⟨ga, gc, hgf⟩ := hgood.form; obtain ⟨la, hlp, hla⟩ := hlrn.form; subst hgf hlp; obtain ⟨W4, hW4⟩ : ∃ W4, W3.alloc (.cells #[.slice ga (goodR H1.1).length gc, .pointer la, .int .i64 (promR H1.1), .bool (accR H1.1), .bool (fullR H1.1)] 84) = W4 := ⟨_, rfl⟩; have b4 : Below W3.heap.size W3 W4 := (by rw [← hW4]; exact (Below.refl _ _).alloc (Nat.le_refl _) _); have q4 : Blk W4 W3.heap.size #[.slice ga (goodR H1.1).length gc, .pointer la, .int .i64 (promR H1.1), .bool (accR H1.1), .bool (fullR H1.1)] 84 := (by rw [← hW4]; exact Blk.new W3 _ _); have k0 := q4.cell (o := 0) rfl; have k1 := q4.cell (o := 1) rfl; have k2 := q4.cell (o := 2) rfl; have k3 := q4.cell (o := 3) rfl; have k4 := q4.cell (o := 4) rfl; have f0 := q4.free 0; have f1 := q4.free 1; have f2 := q4.free 2; have f3 := q4.free 3; have f4 := q4.free 4; have HQ4 := Go.Proofs.YtcdcjoofcbdilaaGreat.hid (And.intro b4 (And.intro q4 (And.intro h3 (And.intro hgr (And.intro hx3 (And.intro hgood (And.intro hlrn hla))))))); clear b4 q4 h3 hgr hx3 hgood hlrn hla)
        obtain ⟨hA2b, qa, s2b, -⟩ := HA2.out
        obtain ⟨b4, q4, h3, hgr, hx3, hgood, hlrn, hla⟩ := HQ4.out
        have hAa := ((hA2b.heard h3 hgr hx3).keep b4)
        have hmo : ¬ pr.all L wr.heap.size := fun hc => by have := (hA2b.rg.size hc); have := HA2.out.2.2.2.rg.size hc; omega
        have qa4 := (qa.ext hx3 hmo).keep b4
        have hgood4 := hgood.move (Ext.ofBelow b4 : Ext nofp W3 W4) (fun b h => h.elim) (fun b h => .inl h)
        have hlrn4 := hlrn.move hgood.typed (Ext.ofBelow b4 : Ext nofp W3 W4) (fun b h => h.elim) (fun b h => .inl h) (fun b h => .inl h)
        have HS4 := Go.Proofs.YtcdcjoofcbdilaaGreat.hid (And.intro hAa (And.intro qa4 (And.intro q4 (And.intro hgood4 (And.intro hlrn4 hla)))))
        have hsz := HA2.out.2.2.2.size
        rw [s2b] at hgood4 hlrn4
        clear hW2 q2 s2 m4 mf4 hW2b l1 l2 l0 m0 m1 m2 m3 m5 hW4 k0 k2 k3 k4 f0 f1 f2 f3 f4 b4 q4 h3 hgr hx3 hgood hlrn hA2b qa s2b hmo qa4 hgood4 w1 w2 w3 HC
        rcases hla with ⟨hln, rfl⟩ | ⟨x, hln, hls⟩
        · have HLN := Go.Proofs.YtcdcjoofcbdilaaGreat.hid hln
          have k2 : W4.cell? ⟨W3.heap.size, 2, none⟩ = some (.int .i64 (promR H1.1)) := HS4.out.2.2.1.cell (o := 2) rfl
          have k4 : W4.cell? ⟨W3.heap.size, 4, none⟩ = some (.bool (fullR H1.1)) := HS4.out.2.2.1.cell (o := 4) rfl
          have z0 : W4.cell? ⟨W.heap.size + 4, 0, none⟩ = some (.int .i64 e) := hAa.ce.cell (o := 0) rfl
          have z1 := hAa.ce.free 0
          have h3s : W.heap.size + 5 ≤ W3.heap.size := Nat.le_trans (Nat.le_trans HA2.out.1.size (HQ4.out.2.2.2.2.1.size)) (Nat.le_refl _)
          obtain ⟨W5, hW5⟩ : ∃ W5, W4.setCell ⟨W.heap.size + 4, 0, none⟩ (.int .i64 33) = W5 := ⟨_, rfl⟩
          have x5 : Ext (fun b => b = W.heap.size + 4) W4 W5 := by rw [← hW5]; exact (Ext.refl (fun b => b = W.heap.size + 4) W4).setCell (a := ⟨W.heap.size + 4, 0, none⟩) (.inl rfl) _
          have hA5 : AgAt W L p W.heap.size key ver W5 p2 H1.2 (.slice none 0 0) 33 := by rw [← hW5]; exact hAa.err 33
          have z2 := hA5.ce.free 0
          have z3 : W5.cell? ⟨W.heap.size + 4, 0, none⟩ = some (.int .i64 33) := hA5.ce.cell (o := 0) rfl
          have k5 : W5.cell? ⟨W3.heap.size, 4, none⟩ = some (.bool (fullR H1.1)) := (HS4.out.2.2.1.ext x5 (by omega)).cell (o := 4) rfl
          have HA5 := Go.Proofs.YtcdcjoofcbdilaaGreat.hid (And.intro hA5 x5)
          obtain ⟨fb, hfb⟩ : ∃ fb, fullR H1.1 = fb := ⟨_, rfl⟩
          rw [hfb] at k5 k4
          have HFB := Go.Proofs.YtcdcjoofcbdilaaGreat.hid hfb
          clear hfb
          clear hln hlrn4 hAa hA5 x5
          go_upto_if 48 with fail
          go_cut [] from 35 to 112 (fun wx => AgAt W L p W.heap.size key ver wx p2 H1.2 (.slice none 0 0) (if fb = true then 7 else 33) ∧ Ext (fun b => b = W.heap.size + 4) W4 wx)
          case first =>
            cases fb
            case true =>
              have HA6 := Go.Proofs.YtcdcjoofcbdilaaGreat.hid (And.intro (HA5.out.1.err 7) (HA5.out.2.trans' ((Ext.refl (fun b => b = W.heap.size + 4) W5).setCell (a := ⟨W.heap.size + 4, 0, none⟩) (.inl rfl) (.int .i64 7))))
              go_wp2_with fail
              go_meet
              case rel => exact HA6.out
            case false =>
              go_wp2_with fail
              go_meet
              case rel => exact HA5.out
          case rest =>
            obtain ⟨hAc, hxc⟩ := hcut
            obtain ⟨e0, he0⟩ : ∃ e0, (if fb = true then (7 : Int) else 33) = e0 := ⟨_, rfl⟩
            rw [he0] at hAc
            obtain ⟨-, qa4, q4, hgood4, -, -⟩ := HS4.out
            have hbox : ¬ wr.heap.size = W.heap.size + 4 := by omega
            have qac := qa4.ext hxc hbox
            have qc := q4.ext hxc (by omega)
            have hgc := hgood4.move hxc (fun b hb => .inr (.inl (by rw [HA2.out.2.2.1, show b = W.heap.size + 4 from hb]; omega))) (fun b h => .inl h)
            rw [HA2.out.2.2.1] at hgc
            have lL : wc.cell? ⟨W.heap.size, 0, none⟩ = some (.pointer (some ⟨L, 0, none⟩)) := hAc.bL.cell (o := 0) rfl
            have j0 : wc.cell? ⟨W3.heap.size, 0, none⟩ = some (.slice ga (goodR H1.1).length gc) := qc.cell (o := 0) rfl
            have HM := Go.Proofs.YtcdcjoofcbdilaaGreat.hid (fun k => reg_most (hAc.rg.keep (below_of_drewN wc.heap.size wc k)))
            obtain ⟨tb, htb⟩ : ∃ tb, decide (H1.2.most ≤ (goodR H1.1).length) = tb := ⟨_, rfl⟩
            have HC := Go.Proofs.YtcdcjoofcbdilaaGreat.hid (And.intro hAc (And.intro qac (And.intro qc (And.intro hgc (And.intro he0 htb)))))
            clear hAc qac qc hgc he0 qa4 q4 hgood4 hxc HA5 z0 z1 z2 z3 k2 k4 k5 hW5
            go_upto_region 13 with fail
            go_quiet ((go_at_call 26; exact Calls.quiet_of_same (HM.out _)))
            go_upto_if 54 with fail
            have hk5 := below_of_drewN wc.heap.size wc nq
            obtain ⟨hAc, qac, qc, hgc, he0, -⟩ := HC.out
            have hA5 := hAc.keep hk5
            have qa5 := qac.keep hk5
            have q5 := qc.keep hk5
            have hg5 := hgc.move (Ext.ofBelow hk5 : Ext nofp wc (wc.drewN nq)) (fun b h => h.elim) (fun b h => .inl h)
            have HFE := Go.Proofs.YtcdcjoofcbdilaaGreat.hid (show (if fullR H1.1 = true then (7 : Int) else 33) = e0 from by rw [HFB.out]; exact he0)
            clear HC HM lL j0 hk5 hAc qac qc hgc he0
            generalize wc.drewN nq = w5 at *
            have HP := Go.Proofs.YtcdcjoofcbdilaaGreat.hid (show (0 ≤ promR H1.1 ∧ promR H1.1 ≤ 281474976710655) ∧ H1.2.acs.length = s.acs.length ∧ H1.2.room (3 * (4 - (t + 1)) * s.acs.length + 2 * s.acs.length) ∧ st.most = H1.2.most ∧ (goodR H1.1).length ≤ 1000 from by
              have h9 := HG.out.2.2
              have a1 := hearR_acs st 1 key ver (16 * rd + idn + 1) []
              have a2 := hearR_prom st 1 key ver (16 * rd + idn + 1) []
              have a3 := hearR_room st 1 key ver (16 * rd + idn + 1) [] _ h9.2
              have a4 : (goodR (hearR st 1 key ver (16 * rd + idn + 1) []).1).length ≤ 1000 := by
                unfold goodR
                refine Nat.le_trans (List.length_filter_le _ _) ?_
                unfold hearR
                refine Nat.le_trans (allR_length _ _) ?_
                rw [idxR_length, h9.1]
                exact hN
              rw [HH1.out] at a1 a2 a3 a4
              refine ⟨a2, a1.trans h9.1, a3, ?_, a4⟩
              unfold RgS.most
              rw [a1])
            have HA5 := Go.Proofs.YtcdcjoofcbdilaaGreat.hid (And.intro hA5 (And.intro qa5 (And.intro q5 hg5)))
            have hs5 := hA5.size
            clear hA5 qa5 q5 hg5
            go_cut [16, 17, 18, 19] from 49 to 112 (fun s16 s17 s18 s19 wx => ∃ top pz sz ez, s16 = .int .i64 top ∧ AgAt W L p W.heap.size key ver wx pz sz (.slice none 0 0) ez ∧ R = agreeGo key idn ver want (3 - t) sz (nextR rd top) ez ∧ (0 ≤ top ∧ top ≤ 281474976710655) ∧ sz.acs.length = s.acs.length ∧ sz.room (3 * (4 - (t + 1)) * s.acs.length))
            case first =>
              have h43 : 4 - t = (3 - t) + 1 := by omega
              cases tb
              case false =>
                go_wp2_with fail
                go_meet
                case rel =>
                  have hm : ¬ st.most ≤ (goodR H1.1).length := by
                    have := of_decide_eq_false htb
                    rw [HP.out.2.2.2.1]
                    omega
                  refine ⟨_, p2, H1.2, e0, rfl, HA5.out.1, ?_, HP.out.1, HP.out.2.1, HP.out.2.2.1.le (by omega)⟩
                  rw [HG.out.1, h43, agree_less HH1.out HLN.out HFE.out hm, agreeV_none]
              case true =>
                have hm : st.most ≤ (goodR H1.1).length := by
                  have := of_decide_eq_true htb
                  rw [HP.out.2.2.2.1]
                  omega
                have HMM := Go.Proofs.YtcdcjoofcbdilaaGreat.hid (And.intro hm h43)
                clear hm h43 htb
                obtain ⟨hA5, qa5, q5, ps, hps, hown, hvals, hgal⟩ := HA5.out
                have hvf : ∀ q ∈ ps, ∃ a n c, q.2 = .slice a n c := fun q hq => by
                  obtain ⟨a, c, e⟩ := (hvals q hq).1.form
                  exact ⟨a, _, c, e⟩
                have hB := reg_best 55 (·.ba) ranks_ba (fun args w => rfl) _ (.slice ga (goodR H1.1).length gc) ps hown hvf (by have h9 := HP.out.2.2.2.2; rw [← hps] at h9; simpa using h9)
                obtain ⟨bo, hbo⟩ : ∃ bo, (bestP (·.ba) ps).1 = bo := ⟨_, rfl⟩
                rw [hbo] at hB
                have HB := Go.Proofs.YtcdcjoofcbdilaaGreat.hid hB
                have HPS := Go.Proofs.YtcdcjoofcbdilaaGreat.hid (And.intro hps (And.intro hvals (And.intro hvf hbo)))
                have j0 : w5.cell? ⟨W3.heap.size, 0, none⟩ = some (.slice ga (goodR H1.1).length gc) := q5.cell (o := 0) rfl
                clear hB hA5 qa5 q5 hps hown hvals hgal hvf hbo
                go_upto_region 14 with fail
                go_cut [17, 18] from 55 to 112 (fun s17 s18 wx => ∃ X, s17 = .pointer (some ⟨X, 0, none⟩) ∧ s18 = .bool bo.isSome ∧ Blk wx X (bcell bo) 44 ∧ w5.heap.size ≤ X ∧ Below w5.heap.size w5 wx)
                case first =>
                  rcases bo with _ | q
                  · have HB0 := Go.Proofs.YtcdcjoofcbdilaaGreat.hid (show Calls Tryz.prog 27 #[.slice ga (goodR H1.1).length gc, .func (.func 55) #[] #[]] w5 (fun e w' => e = .returned (.tuple #[.agg #[.int .i64 0, .int .i64 0, .int .i64 0, .int .i64 0, .bool false, .slice none 0 0], .bool false]) ∧ Below w5.heap.size w5 w') from HB.out)
                    clear HB HPS
                    go_wp2_with (go_at_call 27; refine HB0.out.mono ?_; rintro e6 W6 ⟨rfl, b6⟩)
                    go_meet
                    case rel =>
                      exact ⟨_, rfl, rfl, Blk.new W6 _ _, b6.size, b6.alloc b6.size _⟩
                  · obtain ⟨va, vn, vc, hqf⟩ := HPS.out.2.2.1 q ((bestP_get (·.ba) _ ps rfl).2.2.2 q HPS.out.2.2.2)
                    have HB0 := Go.Proofs.YtcdcjoofcbdilaaGreat.hid (show Calls Tryz.prog 27 #[.slice ga (goodR H1.1).length gc, .func (.func 55) #[] #[]] w5 (fun e w' => e = .returned (.tuple #[.agg #[.int .i64 q.1.e, .int .i64 q.1.ver, .int .i64 q.1.pr, .int .i64 q.1.ba, .bool q.1.le, .slice va vn vc], .bool true]) ∧ Below w5.heap.size w5 w') from by rw [← hqf]; exact HB.out)
                    have HQF := Go.Proofs.YtcdcjoofcbdilaaGreat.hid hqf
                    clear HB HPS hqf
                    go_wp2_with (go_at_call 27; refine HB0.out.mono ?_; rintro e6 W6 ⟨rfl, b6⟩)
                    go_meet
                    case rel =>
                      refine ⟨_, rfl, rfl, ?_, b6.size, b6.alloc b6.size _⟩
                      show Blk _ _ (acell q.1 q.2).toArray _
                      unfold acell
                      rw [HQF.out]
                      exact Blk.new W6 _ _
                case rest =>
                  obtain ⟨X, rfl, rfl, qX, hX, b6⟩ := hcut
                  obtain ⟨hA5, qa5, q5, -⟩ := HA5.out
                  have hA6 := hA5.keep b6
                  have qa6 := qa5.keep b6
                  have q6 := q5.keep b6
                  obtain ⟨hps, hvals, hvf, hbo⟩ := HPS.out
                  obtain ⟨hb1, -, -, hbm⟩ := bestP_get (·.ba) _ ps rfl
                  rw [hps, hbo] at hb1
                  rw [hbo] at hbm
                  have hval6 : ∀ q, bo = some q → ValAt wc (p2.all L) (wr.heap.size + 1) q.1 q.2 ∧ ∃ a n c, q.2 = .slice a n c := fun q hq => ⟨(hvals q (hbm q hq)).move (Ext.ofBelow b6 : Ext nofp w5 wc) (fun b h => h.elim) (fun b h => .inl h), hvf q (hbm q hq)⟩
                  have y4 : wc.cell? ⟨wr.heap.size, 4, none⟩ = some (.slice none 0 0) := qa6.cell (o := 4) rfl
                  have y4f := qa6.free 4
                  have l3 : wc.cell? ⟨W3.heap.size, 3, none⟩ = some (.bool (accR H1.1)) := q6.cell (o := 3) rfl
                  have HV6 := Go.Proofs.YtcdcjoofcbdilaaGreat.hid (And.intro hA6 (And.intro qa6 (And.intro hval6 hb1)))
                  have hs6 := hA6.size
                  have hbs := qa6.lt
                  have hXs := qX.lt
                  clear hps hvals hvf hbo hbm hb1 hval6 hA6 qa6 q6 hA5 qa5 q5 HB HPS j0 b6 hs5
                  go_step
                  go_step
                  go_cut [] from 61 to 112 (fun wx => ∃ vo vv, R = agreeV key idn ver want (3 - t) H1 rd e0 vo ∧ AgAt W L p W.heap.size key ver wx p2 H1.2 (.slice none 0 0) e0 ∧ Blk wx wr.heap.size #[.int .i64 1, .int .i64 key, .int .i64 ver, .int .i64 (16 * rd + idn + 1), vv] 48 ∧ vo.isSome = (bo.isSome || wa.isSome) ∧ ∀ l, vo = some l → Bs wx vv l ∧ ∀ g, obk vv = some g → ¬ p2.all L g ∧ g < wx.heap.size ∧ g ≠ W.heap.size + 3 ∧ g ≠ W.heap.size + 4 ∧ g ≠ wr.heap.size)
                  case first =>
                    have hmv : ∀ (v : Value) (l : List UInt8), Bs wc v l → (∀ g, obk v = some g → ¬ p2.all L g ∧ g < wc.heap.size ∧ g ≠ W.heap.size + 3 ∧ g ≠ W.heap.size + 4 ∧ g ≠ wr.heap.size) → AgAt W L p W.heap.size key ver (wc.setCell ⟨wr.heap.size, 4, none⟩ v) p2 H1.2 (.slice none 0 0) e0 ∧ Blk (wc.setCell ⟨wr.heap.size, 4, none⟩ v) wr.heap.size #[.int .i64 1, .int .i64 key, .int .i64 ver, .int .i64 (16 * rd + idn + 1), v] 48 ∧ Bs (wc.setCell ⟨wr.heap.size, 4, none⟩ v) v l := fun v l hv hg => by
                      obtain ⟨hA6, qa6, -, -⟩ := HV6.out
                      have x9 : Ext (fun b => b = wr.heap.size) wc (wc.setCell ⟨wr.heap.size, 4, none⟩ v) := (Ext.refl (fun b => b = wr.heap.size) wc).setCell (a := ⟨wr.heap.size, 4, none⟩) (.inl rfl) _
                      refine ⟨hA6.move x9 (fun b hb => ?_), qa6.set (o := 4) v, hv.extO x9 (fun g hgo _ e => (hg g hgo).2.2.2.2 e)⟩
                      rw [show b = wr.heap.size from hb]
                      refine ⟨by omega, fun hc => ?_⟩
                      rcases HQ4.out.2.2.2.1 _ hc with h9 | h9
                      · have := HA2.out.2.2.2.rg.size h9; omega
                      · have := HA2.out.2.2.1; omega
                    have HMV := Go.Proofs.YtcdcjoofcbdilaaGreat.hid hmv
                    clear hmv
                    rcases bo with _ | q
                    · have hb1 := HV6.out.2.2.2
                      have hb1 : bestR (·.ba) (goodR H1.1) = none := hb1.symm
                      have HB1 := Go.Proofs.YtcdcjoofcbdilaaGreat.hid hb1
                      clear hb1
                      obtain ⟨wo, hwo⟩ : ∃ wo, want = wo := ⟨_, rfl⟩
                      have hw9 := HW.out
                      rw [hwo] at hw9
                      rcases wo with _ | l
                      · have hwn : Value.pointer wa = .pointer none := hw9
                        cases hwn
                        have HWO := Go.Proofs.YtcdcjoofcbdilaaGreat.hid hwo
                        clear hwo hw9
                        obtain ⟨ab, hab⟩ : ∃ ab, accR H1.1 = ab := ⟨_, rfl⟩
                        rw [hab] at l3
                        have HAB := Go.Proofs.YtcdcjoofcbdilaaGreat.hid hab
                        clear hab
                        cases ab
                        case true =>
                          go_wp2_with fail
                          go_meet
                          case rel =>
                            refine ⟨none, _, ?_, HV6.out.1, HV6.out.2.1, rfl, fun l hl => by cases hl⟩
                            rw [HG.out.1, HMM.out.2, agree_none HH1.out HLN.out HFE.out HMM.out.1 HB1.out HWO.out HAB.out]
                        case false =>
                          have c3 : wc.cell? ⟨W.heap.size + 3, 0, none⟩ = some (.slice none 0 0) := HV6.out.1.cv.cell (o := 0) rfl
                          have c3f := HV6.out.1.cv.free 0
                          have h4 := (HV6.out.1.val (.slice none 0 0)).ce
                          have c4 : (wc.setCell ⟨W.heap.size + 3, 0, none⟩ (.slice none 0 0)).cell? ⟨W.heap.size + 4, 0, none⟩ = some (.int .i64 e0) := h4.cell (o := 0) rfl
                          have c4f := h4.free 0
                          clear h4
                          go_wp2_with fail
                          have hZ := (HV6.out.1.val (.slice none 0 0)).err 33
                          have z3 := hZ.cv.cell (o := 0) rfl
                          have z4 := hZ.ce.cell (o := 0) rfl
                          have HZ := Go.Proofs.YtcdcjoofcbdilaaGreat.hid hZ
                          have HRZ := Go.Proofs.YtcdcjoofcbdilaaGreat.hid (show R = (([], 33), H1.2) from by
                            rw [HG.out.1, HMM.out.2, agree_stop HH1.out HLN.out HMM.out.1 HB1.out HWO.out HAB.out])
                          clear hZ
                          refine bodyPost_ret (v := .tuple #[.slice none 0 0, .int .i64 33]) ?_ rfl ?_
                          · simp [results, Tryz.results29, go_sem, asAddr, z3, z4]
                          · rw [HRZ.out]
                            exact ⟨p2, _, rfl, HZ.out.rg, fun b hb => (HZ.out.gr b hb).imp id (fun h => by omega), HZ.out.ext, Bs.nil _, fun g hg => by cases hg⟩
                      · obtain ⟨wb, v, hwe, hwq, hwl, hwp, hwb, hwg⟩ := hw9
                        cases hwe
                        have HWO := Go.Proofs.YtcdcjoofcbdilaaGreat.hid hwo
                        obtain ⟨va, vc, hvf⟩ := hwl.form
                        have hA6 := HV6.out.1
                        have c9 : wc.cell? ⟨wb, 0, none⟩ = some v := (hwq.ext hA6.ext hwp).cell (o := 0) rfl
                        have hgg : ∀ g, obk v = some g → ¬ p2.all L g ∧ g < wc.heap.size ∧ g ≠ W.heap.size + 3 ∧ g ≠ W.heap.size + 4 ∧ g ≠ wr.heap.size := fun g hg => by
                          obtain ⟨g1, g2⟩ := hwg g hg
                          refine ⟨fun hc => ?_, by omega, by omega, by omega, by omega⟩
                          rcases hA6.gr g hc with h9 | h9
                          · exact g1 h9
                          · omega
                        have hm9 := HMV.out v l (hwl.extO hA6.ext (fun g hg _ hc => (hwg g hg).1 hc)) hgg
                        have HM9 := Go.Proofs.YtcdcjoofcbdilaaGreat.hid (And.intro hm9 hgg)
                        clear hwo hwq hwl hwp hwb hwg hA6 hgg hm9 HMV
                        subst hvf
                        go_wp2_with fail
                        go_meet
                        case rel =>
                          obtain ⟨⟨m1, m2, m3⟩, hgg⟩ := HM9.out
                          refine ⟨some l, _, ?_, m1, m2, rfl, fun l2 hl => ?_⟩
                          · rw [HG.out.1, HMM.out.2, agree_want HH1.out HLN.out HFE.out HMM.out.1 HP.out.2.2.2.1 HB1.out HWO.out]
                          · cases hl
                            exact ⟨m3, fun g hg => by obtain ⟨g1, g2, g3⟩ := hgg g hg; exact ⟨g1, by simpa using g2, g3⟩⟩
                    · obtain ⟨hvq, va, vn, vc, hqf⟩ := HV6.out.2.2.1 q rfl
                      have hb1 : bestR (·.ba) (goodR H1.1) = some q.1 := HV6.out.2.2.2.symm
                      have c5 : wc.cell? ⟨X, 5, none⟩ = some q.2 := qX.cell (o := 5) rfl
                      have hgg : ∀ g, obk q.2 = some g → ¬ p2.all L g ∧ g < wc.heap.size ∧ g ≠ W.heap.size + 3 ∧ g ≠ W.heap.size + 4 ∧ g ≠ wr.heap.size := fun g hg => by
                        have hg := obk_own hg
                        have h9 := hvq.1.blk g hg
                        exact ⟨hvq.2 g hg, h9.2, by omega, by omega, by omega⟩
                      have hm9 := HMV.out q.2 q.1.b hvq.1.bs hgg
                      have HM9 := Go.Proofs.YtcdcjoofcbdilaaGreat.hid (And.intro hm9 (And.intro hgg hb1))
                      clear hvq hb1 hgg hm9 HMV
                      rw [hqf] at c5
                      have HQF := Go.Proofs.YtcdcjoofcbdilaaGreat.hid hqf
                      clear hqf
                      go_wp2_with fail
                      go_meet
                      case rel =>
                        obtain ⟨⟨m1, m2, m3⟩, hgg, hb1⟩ := HM9.out
                        rw [HQF.out] at m1 m2 m3 hgg
                        refine ⟨some q.1.b, _, ?_, m1, m2, rfl, fun l2 hl => ?_⟩
                        · rw [HG.out.1, HMM.out.2, agree_best HH1.out HLN.out HFE.out HMM.out.1 HP.out.2.2.2.1 hb1]
                        · cases hl
                          exact ⟨m3, fun g hg => by obtain ⟨g1, g2, g3⟩ := hgg g hg; exact ⟨g1, by simpa using g2, g3⟩⟩
                  case rest =>
                    obtain ⟨vo, vv, hRv, hA7, qa7, hvi, hvv⟩ := hcut
                    generalize bo.isSome = sb at *
                    clear qX hX y4 y4f l3 HV6 hs6 hbs hXs HA5
                    cases vo with
                    | none =>
                      have hsw : sb = false ∧ wa = none := by
                        cases sb
                        · cases wa
                          · exact ⟨rfl, rfl⟩
                          · cases hvi
                        · cases hvi
                      obtain ⟨rfl, rfl⟩ := hsw
                      have HA7 := Go.Proofs.YtcdcjoofcbdilaaGreat.hid (And.intro hA7 hRv)
                      clear hA7 hRv qa7 hvv hvi
                      go_wp2_with fail
                      go_meet
                      case rel => exact ⟨_, p2, H1.2, e0, rfl, HA7.out.1, by rw [HA7.out.2, agreeV_none], HP.out.1, HP.out.2.1, HP.out.2.2.1.le (by omega)⟩
                    | some l =>
                      obtain ⟨hv7, hg7⟩ := hvv l rfl
                      have HVI := Go.Proofs.YtcdcjoofcbdilaaGreat.hid hvi
                      clear hvv hvi
                      go_upto_region 21 with fail
                      go_cut [81] from 77 to 112 (fun s81 wx => s81 = .bool true ∧ wc = wx)
                      case first =>
                        have hvi := HVI.out
                        clear HVI hA7 qa7 hRv hv7 hg7
                        cases sb
                        · cases wa with
                          | none => cases hvi
                          | some wa =>
                            clear hvi
                            go_wp2_with fail
                            go_meet
                            case rel => exact ⟨rfl, rfl⟩
                        · clear hvi
                          go_wp2_with fail
                          go_meet
                          case rel => exact ⟨rfl, rfl⟩
                      case rest =>
                        obtain ⟨rfl, hww⟩ := hcut
                        subst hww
                        have y0 : wc.cell? ⟨wr.heap.size, 0, none⟩ = some (.int .i64 1) := qa7.cell (o := 0) rfl
                        have y0f := qa7.free 0
                        obtain ⟨W8, hW8⟩ : ∃ W8, wc.setCell ⟨wr.heap.size, 0, none⟩ (.int .i64 2) = W8 := ⟨_, rfl⟩
                        have x8 : Ext (fun b => b = wr.heap.size) wc W8 := by rw [← hW8]; exact (Ext.refl (fun b => b = wr.heap.size) wc).setCell (a := ⟨wr.heap.size, 0, none⟩) (.inl rfl) _
                        have hA8 := hA7.move x8 (fun b hb => by
                          rw [show b = wr.heap.size from hb]
                          refine ⟨by omega, fun hc => ?_⟩
                          rcases HQ4.out.2.2.2.1 _ hc with h9 | h9
                          · have := HA2.out.2.2.2.rg.size h9; omega
                          · have := HA2.out.2.2.1; omega)
                        have qa8 : Blk W8 wr.heap.size #[.int .i64 2, .int .i64 key, .int .i64 ver, .int .i64 (16 * rd + idn + 1), vv] 48 := by rw [← hW8]; exact qa7.set (o := 0) _
                        have hv8 := hv7.extO x8 (fun g hgo _ e => (hg7 g hgo).2.2.2.2 e)
                        have hg8 : ∀ g, obk vv = some g → ¬ p2.all L g ∧ g < W8.heap.size ∧ g ≠ W.heap.size + 3 ∧ g ≠ W.heap.size + 4 ∧ g ≠ wr.heap.size := fun g hg => ⟨(hg7 g hg).1, Nat.lt_of_lt_of_le (hg7 g hg).2.1 x8.size, (hg7 g hg).2.2⟩
                        obtain ⟨G, hG⟩ : ∃ G, hearR H1.2 2 key ver (16 * rd + idn + 1) l = G := ⟨_, rfl⟩
                        have hr8 : H1.2.room H1.2.acs.length := HP.out.2.2.1.le (by rw [HP.out.2.1]; omega)
                        have hC := reg_hear hA8.rg hr8 2 key ver (16 * rd + idn + 1) vv l hv8 (fun g hg => ⟨(hg8 g hg).1, (hg8 g hg).2.1⟩)
                        rw [hG] at hC
                        have HC := Go.Proofs.YtcdcjoofcbdilaaGreat.hid hC
                        have HGG := Go.Proofs.YtcdcjoofcbdilaaGreat.hid hG
                        have lL : W8.cell? ⟨W.heap.size, 0, none⟩ = some (.pointer (some ⟨L, 0, none⟩)) := hA8.bL.cell (o := 0) rfl
                        have m0 := qa8.cell (o := 0) rfl
                        have m1 := qa8.cell (o := 1) rfl
                        have m2 := qa8.cell (o := 2) rfl
                        have m3 := qa8.cell (o := 3) rfl
                        have m4 := qa8.cell (o := 4) rfl
                        have HA8 := Go.Proofs.YtcdcjoofcbdilaaGreat.hid (And.intro hA8 (And.intro qa8 (And.intro hv8 (And.intro hg8 hRv))))
                        have hs8 := hA8.size
                        obtain ⟨va, vc, hvf⟩ := hv8.form
                        clear hA8 qa8 hv8 hg8 hRv hr8 hC hG x8 hA7 qa7 hv7 hg7
                        subst hvf
                        go_upto_region 24 with (go_at_call 25; refine HC.out.mono ?_; rintro e9 W9 ⟨p3, gv9, lp9, rfl, h9, hgr9, hx9, hgood9, hlrn9⟩; obtain ⟨ga9, gc9, hgf9⟩ := hgood9.form; obtain ⟨la9, hlp9, -⟩ := hlrn9.form; subst hgf9 hlp9; obtain ⟨W10, hW10⟩ : ∃ W10, W9.alloc (.cells #[.slice ga9 (goodR G.1).length gc9, .pointer la9, .int .i64 (promR G.1), .bool (accR G.1), .bool (fullR G.1)] 84) = W10 := ⟨_, rfl⟩; have b10 : Below W9.heap.size W9 W10 := (by rw [← hW10]; exact (Below.refl _ _).alloc (Nat.le_refl _) _); have q10 : Blk W10 W9.heap.size #[.slice ga9 (goodR G.1).length gc9, .pointer la9, .int .i64 (promR G.1), .bool (accR G.1), .bool (fullR G.1)] 84 := (by rw [← hW10]; exact Blk.new W9 _ _); have k0 := q10.cell (o := 0) rfl; have k1 := q10.cell (o := 1) rfl; have k2 := q10.cell (o := 2) rfl; have k3 := q10.cell (o := 3) rfl; have k4 := q10.cell (o := 4) rfl; have f0 := q10.free 0; have f1 := q10.free 1; have f2 := q10.free 2; have f3 := q10.free 3; have f4 := q10.free 4; have HQ10 := Go.Proofs.YtcdcjoofcbdilaaGreat.hid (And.intro b10 (And.intro q10 (And.intro h9 (And.intro hgr9 hx9)))); clear b10 q10 h9 hgr9 hx9 hgood9 hlrn9)
                        obtain ⟨hA8, qa8, hv8, hg8, hRv⟩ := HA8.out
                        obtain ⟨b10, q10, h9, hgr9, hx9⟩ := HQ10.out
                        have hmo8 : ∀ b, b < W8.heap.size → ¬ p2.all L b → ¬ p3.all L b := fun b hb hn hc => (hgr9 b hc).elim hn (fun h => by omega)
                        have hbxl := qa8.lt
                        have hbx8 : ¬ p2.all L wr.heap.size := fun hc => by
                          rcases HQ4.out.2.2.2.1 _ hc with h9 | h9
                          · have := HA2.out.2.2.2.rg.size h9; omega
                          · have := HA2.out.2.2.1; omega
                        have hA10 := (hA8.heard h9 hgr9 hx9).keep b10
                        have qa10 := (qa8.ext hx9 hbx8).keep b10
                        have hv10 := (hv8.extO hx9 (fun g hg _ hc => (hg8 g hg).1 hc)).keep b10
                        have hg10 : ∀ g, obk (.slice va l.length vc) = some g → ¬ p3.all L g ∧ g < W10.heap.size ∧ g ≠ W.heap.size + 3 ∧ g ≠ W.heap.size + 4 := fun g hg => ⟨hmo8 g (hg8 g hg).2.1 (hg8 g hg).1, Nat.lt_of_lt_of_le (hg8 g hg).2.1 (Nat.le_trans hx9.size b10.size), (hg8 g hg).2.2.1, (hg8 g hg).2.2.2.1⟩
                        have HA10 := Go.Proofs.YtcdcjoofcbdilaaGreat.hid (And.intro hA10 (And.intro qa10 (And.intro q10 (And.intro hv10 (And.intro hg10 hRv)))))
                        have HM := Go.Proofs.YtcdcjoofcbdilaaGreat.hid (fun k => reg_most (hA10.rg.keep (below_of_drewN W10.heap.size W10 k)))
                        have lL : W10.cell? ⟨W.heap.size, 0, none⟩ = some (.pointer (some ⟨L, 0, none⟩)) := hA10.bL.cell (o := 0) rfl
                        obtain ⟨tb, htb⟩ : ∃ tb, decide (G.2.most ≤ (goodR G.1).length) = tb := ⟨_, rfl⟩
                        clear hA8 qa8 hv8 hg8 hRv b10 q10 h9 hgr9 hx9 hmo8 hbx8 hA10 qa10 hv10 hg10 m0 m1 m2 m3 m4 k1 k2 k3 k4 f0 f1 f2 f3 f4 hW10 hW8 y0 y0f
                        go_quiet ((go_at_call 26; exact Calls.quiet_of_same (HM.out _)))
                        have hk := below_of_drewN W10.heap.size W10 nq
                        obtain ⟨hA10, qa10, q10, hv10, hg10, hRv⟩ := HA10.out
                        have hA11 := hA10.keep hk
                        have qa11 := qa10.keep hk
                        have q11 := q10.keep hk
                        have hv11 := hv10.keep hk
                        have hg11 : ∀ g, obk (.slice va l.length vc) = some g → ¬ p3.all L g ∧ g < (W10.drewN nq).heap.size ∧ g ≠ W.heap.size + 3 ∧ g ≠ W.heap.size + 4 := fun g hg => ⟨(hg10 g hg).1, Nat.lt_of_lt_of_le (hg10 g hg).2.1 hk.size, (hg10 g hg).2.2⟩
                        have HRV := Go.Proofs.YtcdcjoofcbdilaaGreat.hid hRv
                        clear hA10 qa10 q10 hv10 hg10 hRv HA10 HM hk k0 lL
                        generalize W10.drewN nq = w11 at *
                        have HPG := Go.Proofs.YtcdcjoofcbdilaaGreat.hid (show (0 ≤ promR G.1 ∧ promR G.1 ≤ 281474976710655) ∧ G.2.acs.length = s.acs.length ∧ G.2.room (3 * (4 - (t + 1)) * s.acs.length + s.acs.length) ∧ G.2.most = H1.2.most from by
                          have a1 := hearR_acs H1.2 2 key ver (16 * rd + idn + 1) l
                          have a2 := hearR_prom H1.2 2 key ver (16 * rd + idn + 1) l
                          have a3 := hearR_room H1.2 2 key ver (16 * rd + idn + 1) l (3 * (4 - (t + 1)) * s.acs.length + s.acs.length) (HP.out.2.2.1.le (by rw [HP.out.2.1]; omega))
                          rw [HGG.out] at a1 a2 a3
                          refine ⟨a2, a1.trans HP.out.2.1, a3, ?_⟩
                          unfold RgS.most
                          rw [a1])
                        have HT := Go.Proofs.YtcdcjoofcbdilaaGreat.hid (hA11.tell (HPG.out.2.2.1.le (by rw [HPG.out.2.1]; omega)) _ l hv11 hg11)
                        have y4 : w11.cell? ⟨wr.heap.size, 4, none⟩ = some (.slice va l.length vc) := qa11.cell (o := 4) rfl
                        have i2 : w11.cell? ⟨W9.heap.size, 2, none⟩ = some (.int .i64 (promR G.1)) := q11.cell (o := 2) rfl
                        have i4 : w11.cell? ⟨W9.heap.size, 4, none⟩ = some (.bool (fullR G.1)) := q11.cell (o := 4) rfl
                        have z0 : w11.cell? ⟨W.heap.size + 4, 0, none⟩ = some (.int .i64 e0) := hA11.ce.cell (o := 0) rfl
                        have z0f := hA11.ce.free 0
                        have HA11 := Go.Proofs.YtcdcjoofcbdilaaGreat.hid (And.intro hA11 (And.intro hv11 hg11))
                        clear hA11 qa11 q11 hv11 hg11
                        go_upto_if 91 with fail
                        cases tb
                        case true =>
                          have hRe : R = ((l, 0), (hearR G.2 3 key ver 0 l).2) := by
                            have hm := of_decide_eq_true htb
                            rw [HRV.out, agreeV_told HGG.out (by rw [← HPG.out.2.2.2]; exact hm)]
                          have HRE := Go.Proofs.YtcdcjoofcbdilaaGreat.hid hRe
                          clear hRe
                          go_wp2_with (go_at_call 54; refine HT.out.mono ?_; rintro e5 W5 ⟨⟨x5, rfl⟩, p5, h5, hg5, hx5⟩)
                          go_meet
                          case rel =>
                            rw [HRE.out]
                            obtain ⟨-, hv11, hg11⟩ := HA11.out
                            refine ⟨p5, _, h5, hv11.extO hx5 (fun g hg _ hc => ?_), fun g hg => ⟨fun hc => ?_, Nat.lt_of_lt_of_le (hg11 g hg).2.1 hx5.size, (hg11 g hg).2.2⟩⟩
                            · obtain ⟨g1, g2, g3, g4⟩ := hg11 g hg
                              rcases hc with hc | hc | hc
                              · exact g1 hc
                              · exact g3 hc
                              · exact g4 hc
                            · obtain ⟨g1, g2, g3, g4⟩ := hg11 g hg
                              rcases hg5 g hc with h9 | h9
                              · exact g1 h9
                              · omega
                        case false =>
                          have hRe : R = agreeGo key idn ver want (3 - t) G.2 (nextR rd (max (promR H1.1) (promR G.1))) (if fullR G.1 = true then 7 else e0) := by
                            have hm := of_decide_eq_false htb
                            rw [HRV.out, agreeV_next HGG.out (by rw [← HPG.out.2.2.2]; exact hm)]
                          obtain ⟨gb, hgb⟩ : ∃ gb, fullR G.1 = gb := ⟨_, rfl⟩
                          rw [hgb] at i4 hRe
                          have HGB := Go.Proofs.YtcdcjoofcbdilaaGreat.hid (And.intro hgb hRe)
                          clear hgb hRe
                          cases gb
                          case true =>
                            have HA6 := Go.Proofs.YtcdcjoofcbdilaaGreat.hid (HA11.out.1.err 7)
                            go_wp2_with fail
                            all_goals go_meet
                            all_goals refine ⟨_, p3, G.2, 7, rfl, HA6.out, ?_, by have := HP.out.1; have := HPG.out.1; omega, HPG.out.2.1, HPG.out.2.2.1.le (by omega)⟩
                            all_goals (rw [HGB.out.2]; first | (rw [show max (promR H1.1) (promR G.1) = promR H1.1 from by omega]; rfl) | (rw [show max (promR H1.1) (promR G.1) = promR G.1 from by omega]; rfl))
                          case false =>
                            go_wp2_with fail
                            all_goals go_meet
                            all_goals refine ⟨_, p3, G.2, e0, rfl, HA11.out.1, ?_, by have := HP.out.1; have := HPG.out.1; omega, HPG.out.2.1, HPG.out.2.2.1.le (by omega)⟩
                            all_goals (rw [HGB.out.2]; first | (rw [show max (promR H1.1) (promR G.1) = promR H1.1 from by omega]; rfl) | (rw [show max (promR H1.1) (promR G.1) = promR G.1 from by omega]; rfl))
            case rest =>
              obtain ⟨top, pz, sz, ez, rfl, hAz, hRz, htop, hacz, hrz⟩ := hcut
              have hnx := nextR_low (t := t) HG.out.2.1.1 HG.out.2.1.2 htop.1 htop.2
              have HZ := Go.Proofs.YtcdcjoofcbdilaaGreat.hid (And.intro hAz (And.intro hRz (And.intro hacz (And.intro hrz hnx))))
              have hrd := HG.out.2.1
              have w1 : wrap64 (rd + 1) = rd + 1 := by unfold wrap64; omega
              have wt : wrap64 ((t : Int) + 1) = (t : Int) + 1 := by unfold wrap64; omega
              clear hAz hRz hacz hrz hnx HA5 HP
              by_cases hpos : 0 < top
              · have hd3 : decide (top > 0) = true := decide_eq_true hpos
                have hq1 : Int.tdiv (top - 1) 16 = (top - 1) / 16 := Int.tdiv_eq_ediv_of_nonneg (by omega)
                have hq2 : 0 ≤ (top - 1) / 16 ∧ (top - 1) / 16 ≤ 17592186044416 := by omega
                have w2 : wrap64 (top - 1) = top - 1 := by unfold wrap64; omega
                obtain ⟨qq, hqq⟩ : ∃ qq, (top - 1) / 16 = qq := ⟨_, rfl⟩
                rw [hqq] at hq1 hq2
                have w3 : wrap64 qq = qq := by unfold wrap64; omega
                have w4 : wrap64 (qq + 1) = qq + 1 := by unfold wrap64; omega
                have HNX := Go.Proofs.YtcdcjoofcbdilaaGreat.hid (show nextR rd top = max (rd + 1) (qq + 1) from by unfold nextR; rw [if_pos hpos, hqq])
                clear hqq hq2 hrd htop hpos
                go_wp2_with fail
                go_roundw
                case rel =>
                  have hX : (if rd < qq then qq + 1 else rd + 1) = nextR rd top := by rw [HNX.out]; split <;> omega
                  refine ⟨t + 1, nextR rd top, ez, pz, sz, by omega, by go_num, by rw [hX], HZ.out.1, ?_, HZ.out.2.2.2.2, HZ.out.2.2.1, HZ.out.2.2.2.1⟩
                  rw [show 4 - (t + 1) = 3 - t from by omega]
                  exact HZ.out.2.1
                case measure => simp [intOf]; omega
              · have hd3 : decide (top > 0) = false := decide_eq_false hpos
                have HNX := Go.Proofs.YtcdcjoofcbdilaaGreat.hid (show nextR rd top = max (rd + 1) 1 ∧ 0 ≤ rd from by unfold nextR; rw [if_neg hpos]; exact ⟨rfl, hrd.1⟩)
                clear hrd htop hpos
                go_wp2_with fail
                go_roundw
                case rel =>
                  have hX : (if rd + 1 < 1 then 1 else rd + 1) = nextR rd top := by have := HNX.out.2; rw [HNX.out.1]; split <;> omega
                  refine ⟨t + 1, nextR rd top, ez, pz, sz, by omega, by go_num, by rw [hX], HZ.out.1, ?_, HZ.out.2.2.2.2, HZ.out.2.2.1, HZ.out.2.2.2.1⟩
                  rw [show 4 - (t + 1) = 3 - t from by omega]
                  exact HZ.out.2.1
                case measure => simp [intOf]; omega
        · -- learned: it is told
          rw [hln] at hlrn4
          obtain ⟨X, v, hxp, hX, hXa, hXM, hXg, hXv⟩ := hlrn4
          cases hxp
          obtain ⟨va, vc, hvf⟩ := hXv.1.form
          have c5 : W4.cell? ⟨X, 5, none⟩ = some v := hX.cell (o := 5) rfl
          have HV := Go.Proofs.YtcdcjoofcbdilaaGreat.hid (And.intro hXv hln)
          have HT := Go.Proofs.YtcdcjoofcbdilaaGreat.hid (hAa.tell (by
            have h9 := HG.out.2.2.2
            have h8 := hearR_room st 1 key ver (16 * rd + idn + 1) [] _ h9
            rw [HH1.out] at h8
            have h7 := hearR_acs st 1 key ver (16 * rd + idn + 1) []
            rw [HH1.out] at h7
            rw [h7, HG.out.2.2.1]
            exact h8.le (by omega)) v x.b hXv.1.bs (fun g hg => by have hg := obk_own hg; exact ⟨hXv.2 g hg, (hXv.1.blk g hg).2, by have := (hXv.1.blk g hg).1; omega, by have := (hXv.1.blk g hg).1; omega⟩))
          have HR2 := Go.Proofs.YtcdcjoofcbdilaaGreat.hid (show R = ((x.b, 0), (hearR H1.2 3 key ver 0 x.b).2) from by
            rw [HG.out.1, show 4 - t = (3 - t) + 1 from by omega]
            simp only [agreeGo, turnR, HH1.out, hln])
          clear hX hXa hXM hXg hXv hAa hln hls
          subst hvf
          go_wp2_with (go_at_call 54; refine HT.out.mono ?_; rintro e5 W5 ⟨⟨x5, rfl⟩, p5, h5, hg5, hx5⟩)
          go_meet
          case rel =>
            rw [HR2.out]
            obtain ⟨hXv, hln⟩ := HV.out
            refine ⟨p5, _, h5, hXv.1.bs.extO hx5 (fun g hg _ hc => ?_), fun g hg => ⟨fun hc => ?_, Nat.lt_of_lt_of_le (hXv.1.blk g (obk_own hg)).2 hx5.size, by have := (hXv.1.blk g (obk_own hg)).1; omega, by have := (hXv.1.blk g (obk_own hg)).1; omega⟩⟩
            · have hg := obk_own hg
              have := (hXv.1.blk g hg).1
              rcases hc with hc | hc | hc
              · exact hXv.2 g hg hc
              · omega
              · omega
            · have hg := obk_own hg
              rcases hg5 g hc with h9 | h9
              · exact hXv.2 g hg h9
              · have := (hXv.1.blk g hg).2; omega
      · obtain rfl : t = 4 := by omega
        have hd1 : decide (((4 : Nat) : Int) < 4) = false := rfl
        have HG := Go.Proofs.YtcdcjoofcbdilaaGreat.hid (And.intro hA hgo)
        clear hA hgo hroom
        go_wp2_with fail
        go_meet
        case rel =>
          obtain ⟨hA, hgo⟩ := HG.out
          rw [hgo]
          exact ⟨pr, _, hA, Bs.nil _, fun g hg => by cases hg⟩
  case rest =>
    obtain ⟨p', v0, hA, hb, hg⟩ := hcut
    obtain ⟨va, vc, hvf⟩ := hb.form
    have hEnd : ∀ wz, Ext (fun b => b = W.heap.size + 3 ∨ b = W.heap.size + 4) wc wz → AgreePost W L p R (.returned (.tuple #[v0, .int .i64 R.1.2])) wz := fun wz hx => by
      have hno := hA.off
      have hp : ∀ b, (b = W.heap.size + 3 ∨ b = W.heap.size + 4) → ¬ p'.all L b := fun b hb => hb.elim (fun e => hno b (by omega) (by omega)) (fun e => hno b (by omega) (by omega))
      exact ⟨p', v0, rfl, hA.rg.ext hx hp, fun b hb => (hA.gr b hb).imp id (fun h => by omega), hA.ext.trans hx (fun b hb => .inr (by omega)), hb.extO hx (fun g hg1 _ e => by
        obtain ⟨_, _, g3, g4⟩ := hg g hg1
        exact e.elim g3 g4), fun g hg1 => ⟨(hg g hg1).1, Nat.lt_of_lt_of_le (hg g hg1).2.1 hx.size⟩⟩
    have HE := Go.Proofs.YtcdcjoofcbdilaaGreat.hid hEnd
    have c0 : wc.cell? ⟨W.heap.size + 3, 0, none⟩ = some v0 := hA.cv.cell (o := 0) rfl
    have f0 := hA.cv.free 0
    have c1 : wc.cell? ⟨W.heap.size + 4, 0, none⟩ = some (.int .i64 R.1.2) := hA.ce.cell (o := 0) rfl
    have f1 := hA.ce.free 0
    subst hvf
    clear hEnd hA hb hg
    go_upto_region 34 with fail
    go_region
    all_goals (go_wp2_with fail; try rw [Exit.noGoto_ret])
    all_goals (refine bodyPost_ret (v := .tuple #[.slice va R.1.1.length vc, .int .i64 R.1.2]) ?_ rfl ?_)
    all_goals (try (simp [results, Tryz.results29, go_sem, asAddr, c0, c1]; done))
    all_goals (first
      | exact HE.out _ ((((Ext.refl (fun b => b = W.heap.size + 3 ∨ b = W.heap.size + 4) wc).setCell (a := ⟨W.heap.size + 3, 0, none⟩) (.inl (.inl rfl)) _).setCell (a := ⟨W.heap.size + 4, 0, none⟩) (.inl (.inr rfl)) _).drew)
      | exact HE.out _ ((((Ext.refl (fun b => b = W.heap.size + 3 ∨ b = W.heap.size + 4) wc).setCell (a := ⟨W.heap.size + 4, 0, none⟩) (.inl (.inr rfl)) _).setCell (a := ⟨W.heap.size + 3, 0, none⟩) (.inl (.inl rfl)) _).drew))
end
end Go.Proofs.YtcdcjoofcbdilaaGreat
