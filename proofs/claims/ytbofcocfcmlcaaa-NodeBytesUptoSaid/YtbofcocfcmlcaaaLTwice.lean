import Derived.Test.YtbofcocfcmlcaaaMLKnow
import Derived.Test.YtbofcocfcmlcaaaMWLaw
import Derived.Test.YtbofcocfcmlcaaaTwiceP
import Derived.Test.YtbofcocfcmlcaaaMLArgs
/-! gazettelaw05.NodeTwice: the walk. -/
namespace Go.Proofs.Ytbofcocfcmlcaaa
open Go.RowKit

def putReqB (k lo po : Int) (l : List UInt8) : List UInt8 := if rightB k lo po l.length then frameB 1 (reqB k lo po l) else []
theorem putReq_len (k lo po : Int) (l : List UInt8) : (putReqB k lo po l).length ≤ 65600 := by
  unfold putReqB
  split
  · rename_i h
    have := of_decide_eq_true h
    rw [frame_length]
    simp [reqB, lowB_length]
    omega
  · simp
theorem put_request_any (k lo po : Int) (v : Value) (l : List UInt8) (W : World) (hv : Bs W v l) :
    Calls Try.prog 23 #[.agg #[.int .i64 k, .int .i64 lo, .int .i64 po, v]] W fun e w' => ∃ v' c, e = .returned (.tuple #[v', .int .i64 c]) ∧ Own8 w' W.heap.size 5 v' (putReqB k lo po l) ∧ Below W.heap.size W w' := by
  unfold putReqB
  cases ht : rightB k lo po l.length
  · obtain ⟨a0, c0, rfl⟩ := hv.form
    refine (put_request_no k lo po a0 l.length c0 W (by have := hv.len; unfold maxLen at this; omega) ht).mono ?_
    rintro e w' ⟨rfl, hb⟩
    exact ⟨_, _, rfl, Own8.nil _ _ _, hb⟩
  · refine (put_request k lo po v l W hv ht).mono ?_
    rintro e w' ⟨v', rfl, ho, hb⟩
    exact ⟨v', _, rfl, ho, hb⟩

theorem RqAt.open2 {w w' : World} {g f : Nat} {r : Rq} (h : RqAt w g f r) (hb : Below w.heap.size w w') : ∃ v, w'.cell? ⟨g, f, none⟩ = some (.int .i64 r.k) ∧ w'.cell? ⟨g, f + 1, none⟩ = some (.int .i64 r.lo) ∧ w'.cell? ⟨g, f + 2, none⟩ = some (.int .i64 r.po) ∧ w'.cell? ⟨g, f + 3, none⟩ = some v ∧ BsW w' v r.b := by
  obtain ⟨v, h1, h2⟩ := h.keep hb
  exact ⟨v, h1 0 _ rfl, h1 1 _ rfl, h1 2 _ rfl, h1 3 _ rfl, h2⟩
section
variable {B n : Nat} {W W' : World} {pv : Value} {q : StP} {S : St} {D : Dk}
theorem run_Ask2 (r : NRun B W n pv q S D) (hB : B ≤ W.heap.size) (v : Value) (b : List UInt8) (hv : Bs W v b) (hl : b.length ≤ 1073741824) :
    Calls Try.prog 38 #[.pointer (some ⟨n, 0, none⟩), v] W fun e w' => ∃ v', e = .returned v' ∧ Own8 w' W.heap.size 5 v' (askF S D b).1 ∧ (∃ q', NRun B w' n pv q' (askF S D b).2.1 (askF S D b).2.2 ∧ q'.s = q.s ∧ (∀ T c t, Blk W T c t → ¬ q.all T → Blk w' T c t ∧ ¬ q'.all T) ∧ ∀ c, q'.all c → q.all c ∨ W.heap.size ≤ c) ∧ Below B W w' ∧ Ext q.own W w' := by
  refine (node_Ask r.at_ v b hv hl).mono ?_
  rintro e w' ⟨v', rfl, ho, ⟨q', h1, h2⟩, hx⟩
  exact ⟨v', rfl, ho, ⟨q', ⟨h1, fun c hc => (h2.2.2.2.2 c hc).elim (r.new c) (fun h => by omega)⟩, h2.1, fun T c t hb hq => ⟨hb.ext hx (fun h => hq (.inl h)), fun h => (h2.2.2.2.2 T h).elim hq (fun h => by have := hb.lt; omega)⟩, h2.2.2.2.2⟩, hx.belowOf hB (fun c hc ho => by have := r.new c (.inl ho); omega), hx⟩
end

set_option maxRecDepth 100000 in
set_option maxHeartbeats 12800000 in
theorem law_twice (v : Value) (l : List Rq) (r : Rq) (rv vb : Value) (b : List UInt8) (W : World) (hv : Rqs W v l) (hl : l.length ≤ 9223372036854775807) (hi : ∀ x ∈ l, RqOk x) (hr : RqOk r) (hrv : BsW W rv r.b) (hb : Bs W vb b) (hbl : b.length ≤ 1073741824) :
    Calls Try.prog 8 #[v, .agg (r.cells rv), vb] W fun e W' => e = .returned (.bool true) ∧ Below W.heap.size W W' := by
  unfold Rq.cells
  obtain ⟨av, cv, rfl, hr9⟩ := id hv
  clear hr9
  obtain ⟨ra, rc, rfl⟩ := hrv.form
  obtain ⟨va, vc, rfl⟩ := hb.form
  obtain ⟨W1, hW1⟩ : ∃ W1, W.alloc (.cells #[.int .i64 r.k, .int .i64 r.lo, .int .i64 r.po, .slice ra r.b.length rc] 54) = W1 := ⟨_, rfl⟩
  have b0 : Below W.heap.size W W1 := by rw [← hW1]; exact (Below.refl _ W).alloc (Nat.le_refl _) _
  have k0 : Blk W1 W.heap.size #[.int .i64 r.k, .int .i64 r.lo, .int .i64 r.po, .slice ra r.b.length rc] 54 := by rw [← hW1]; exact Blk.new W _ _
  have hv1 := hv.keep b0
  have H0 := hid (And.intro (hrv.keep b0) (And.intro (hb.keep b0) (And.intro b0 k0)))
  clear hrv hb b0 k0 hv
  go_enter Try.func8, Try.ntmps8
  go_wp2_with fail
  clear hW1
  refine (node_New 60 W1 (by omega) (by omega)).mono ?_
  rintro e W2 ⟨n, pv, q, rfl, h0, b2, hn, hnew⟩
  have r0 : NRun W1.heap.size W2 n pv q St.fresh (Dk.fresh 60) := ⟨h0, hnew⟩
  clear h0 hnew hn
  go_wp2_with fail
  refine (law5_num _ _).mono ?_
  rintro e Wx ⟨rfl, hw⟩
  rw [hw]
  clear hw Wx
  go_wp2_with fail
  refine (law5_knows _).mono ?_
  rintro e W3 ⟨rfl, b3⟩
  have r1 := r0.keep b3
  have b13 : Below W1.heap.size W1 W3 := b2.trans (b3.mono b2.size)
  clear r0 b2 b3
  go_wp2_with fail
  go_loopw [9] (fun i wr => ∃ (k : Nat) (q : StP) (S : St) (D : Dk), k ≤ l.length ∧ i = .int .i64 (k : Int) ∧ NRun W1.heap.size wr n pv q S D ∧ StInv S ∧ Below W1.heap.size W1 wr) (fun i _ => l.length - (intOf i).toNat)
  case atStart => exact ⟨0, q, St.fresh, Dk.fresh 60, by omega, rfl, r1, StInv.fresh, b13⟩
  case round =>
    obtain ⟨k, q', S, D, hk, rfl, hR, hI, hB⟩ := hrel
    clear r1 b13
    by_cases hlt : k < l.length
    · have hd1 : decide ((k : Int) < (l.length : Int)) = true := decide_eq_true (by omega)
      obtain ⟨o, ho⟩ : ∃ o, l[k]? = some o := ⟨l[k], by simp⟩
      have hoo := hi o (List.mem_of_getElem? ho)
      obtain ⟨_, _, e0, hr9⟩ := id hv1
      obtain ⟨g, f, e1, hop⟩ := hr9 k o ho
      injection e0 with e0 e02 e03
      clear e02 hr9 ho
      subst e03
      rw [e1] at e0
      clear e1
      subst e0
      obtain ⟨bv, c0, c1, c2, c3, hbv⟩ := hop.open2 hB
      obtain ⟨bg, bc, rfl⟩ := hbv.form
      have HR := hid (And.intro hR (And.intro hI (And.intro hB (And.intro hbv hoo))))
      have HV := hid hv1
      clear hR hI hB hbv hoo hop hv1
      go_wp2_with fail
      refine (law_Request o.k o.lo o.po _ o.b wr HR.out.2.2.2.1 (by have := HR.out.2.2.2.2.b; omega)).mono ?_
      rintro e Wa ⟨v1, rfl, o1, ba⟩
      have HA := hid (And.intro o1 ba)
      clear c0 c1 c2 c3 o1 ba
      go_wp2_with fail
      refine (put_request_any _ _ _ v1 _ Wa HA.out.1.bs).mono ?_
      rintro e Wb ⟨v2, c9, rfl, o2, bb⟩
      have HA2 := hid (And.intro o2 bb)
      clear o2 bb
      go_wp2_with fail
      have hs1 := HR.out.2.2.1.size
      have hs2 := HA.out.2.size
      have hs3 := HA2.out.2.size
      refine (run_Ask2 ((HR.out.1.keep HA.out.2).keep HA2.out.2) (by omega) v2 _ HA2.out.1.bs (by have := putReq_len o.k o.lo o.po o.b; omega)).mono ?_
      rintro e Wc ⟨v3, rfl, o3, ⟨q3, r3, _⟩, b3, _⟩
      have H3 := hid (And.intro r3 b3)
      clear o3 r3 b3
      go_wp2_with fail
      go_roundw
      case rel => exact ⟨k + 1, q3, _, _, by omega, by go_num, H3.out.1, (askF_inv D HR.out.2.1 _).1, ((HR.out.2.2.1.trans (HA.out.2.mono hs1)).trans (HA2.out.2.mono (by omega))).trans H3.out.2⟩
      case measure => simp [intOf]; omega
    · have hd1 : decide ((k : Int) < (l.length : Int)) = false := decide_eq_false (by omega)
      have kT := H0.out.2.2.2.keep hB
      have t0 := kT.cell (o := 0) rfl
      have t1 := kT.cell (o := 1) rfl
      have t2 := kT.cell (o := 2) rfl
      have t3 := kT.cell (o := 3) rfl
      have HR := hid (And.intro hR (And.intro hI hB))
      clear hR hI hB kT hv1
      go_wp2_with fail
      refine (law_Request r.k r.lo r.po _ r.b wr (H0.out.1.keep HR.out.2.2) (by have := hr.b; omega)).mono ?_
      rintro e Wa ⟨v1, rfl, o1, ba⟩
      have HA := hid (And.intro o1 ba)
      clear t0 t1 t2 t3 o1 ba
      go_wp2_with fail
      have hs1 := HR.out.2.2.size
      have hs2 := HA.out.2.size
      cases ht : rightB r.k r.lo r.po r.b.length
      · obtain ⟨a9, c9, rfl⟩ := HA.out.1.form
        refine (put_request_no r.k r.lo r.po a9 r.b.length c9 Wa (by have := hr.b; omega) ht).mono ?_
        rintro e Wb ⟨rfl, bb⟩
        have hs3 := bb.size
        have HD := hid (And.intro ((HR.out.1.keep HA.out.2).keep bb) (And.intro HR.out.2.1 ((HR.out.2.2.trans (HA.out.2.mono hs1)).trans (bb.mono (by omega)))))
        clear bb HR HA
        go_wp2_with fail
        refine (law5_num _ _).mono ?_
        rintro e Wx ⟨rfl, hw⟩
        rw [hw]
        clear hw Wx
        go_wp2_with fail
        have hsL := HD.out.2.2.size
        refine (run_Ask2 HD.out.1 hsL _ b (H0.out.2.1.keep HD.out.2.2) hbl).mono ?_
        rintro e WE ⟨v8, rfl, o8, ⟨q8, r8, _⟩, b8, _⟩
        obtain ⟨hI8, er8, tl8, sl8, dd8, hget8, hRl8⟩ := askF_inv D HD.out.2.1 b
        clear hI8
        have HE := hid (And.intro r8 (And.intro (HD.out.2.2.trans b8) o8))
        clear r8 b8 o8 HD
        go_wp2_with fail
        refine (get_reply v8 _ WE HE.out.2.2.bs (by omega)).mono ?_
        intro e WF hpost
        unfold RepPost at hpost
        rw [hget8] at hpost
        obtain ⟨vd8, rfl, od8, bd8⟩ := hpost
        obtain ⟨ad8, cd8, rfl⟩ := od8.form
        have bf8 : Below WF.heap.size WF (WF.alloc (.cells #[.int .i64 (er8 : Int), .int .i64 (tl8 : Int), .bool sl8, .slice ad8 dd8.length cd8] 60)) := (Below.refl _ WF).alloc (Nat.le_refl _) _
        have rF := (HE.out.1.keep bd8).keep bf8
        have hszE := HE.out.2.1.size
        have bF := (HE.out.2.1.trans (bd8.mono hszE)).trans (bf8.mono (Nat.le_trans hszE bd8.size))
        have HF := hid (And.intro rF bF)
        clear od8 bd8 bf8 rF bF HE hget8
        go_wp2_with fail
        refine (law5_num _ _).mono ?_
        rintro e Wx ⟨rfl, hw⟩
        rw [hw]
        clear hw Wx
        go_wp2_with fail
        refine (node_Up HF.out.1.at_).mono ?_
        rintro e Wx ⟨rfl, hw⟩
        rw [hw]
        clear hw Wx
        go_wp2_with fail
        go_ret
        exact ⟨rfl, H0.out.2.2.1.trans (HF.out.2.mono H0.out.2.2.1.size)⟩
      · refine (put_request r.k r.lo r.po v1 r.b Wa HA.out.1.bs ht).mono ?_
        rintro e Wb ⟨v2, rfl, o2, bb⟩
        obtain ⟨X, hX⟩ : ∃ X, frameB 1 (reqB r.k r.lo r.po r.b) = X := ⟨_, rfl⟩
        have hXl : X.length ≤ 1073741824 := by
          have := putReq_len r.k r.lo r.po r.b
          unfold putReqB at this
          rw [if_pos ht, hX] at this
          omega
        rw [hX] at o2
        clear hX
        have hs3 := bb.size
        have rB := (HR.out.1.keep HA.out.2).keep bb
        have bB : Below W1.heap.size W1 Wb := (HR.out.2.2.trans (HA.out.2.mono hs1)).trans (bb.mono (by omega))
        have hxo : ∀ g, v2.ownBlock = some g → ¬ q'.all g ∧ g < Wb.heap.size := fun g hg => ⟨fun hq => by have := (o2.blk g hg).1; have := HR.out.1.at_.st.size hq; omega, (o2.blk g hg).2⟩
        have HD := hid (And.intro rB (And.intro HR.out.2.1 (And.intro bB (And.intro o2.bs hxo))))
        clear rB bB o2 bb HA HR hxo
        go_wp2_with fail
        refine (law5_num _ _).mono ?_
        rintro e Wx ⟨rfl, hw⟩
        rw [hw]
        clear hw Wx
        go_wp2_with fail
        -- asked once
        have hsB := HD.out.2.2.1.size
        refine (run_Ask2 HD.out.1 hsB v2 X HD.out.2.2.2.1 hXl).mono ?_
        rintro e Wc ⟨v3, rfl, o3, ⟨q3, r3, hq3, kp3, hw3⟩, b3, x3⟩
        have hinv := askF_inv D HD.out.2.1 X
        have htw := askF_twice S D X
        generalize askF S D X = R at *
        obtain ⟨RB, S1, D1⟩ := R
        simp only at hinv htw o3 r3
        obtain ⟨hI1, er, tl, sl, dd, hget, hRl⟩ := hinv
        have hx3 := HD.out.2.2.2.1.ext x3 (fun g hg _ hq => (HD.out.2.2.2.2 g hg).1 (.inl hq))
        have hx3o : ∀ g, v2.ownBlock = some g → ¬ q3.all g := fun g hg hq => (hw3 g hq).elim (HD.out.2.2.2.2 g hg).1 (fun h => by have := (HD.out.2.2.2.2 g hg).2; omega)
        have bC := HD.out.2.2.1.trans b3
        have HC := hid (And.intro r3 (And.intro hI1 (And.intro bC (And.intro hx3 (And.intro o3 hx3o)))))
        clear r3 hI1 bC hx3 o3 b3 x3 HD
        go_wp2_with fail
        refine (get_reply v3 RB Wc HC.out.2.2.2.2.1.bs (by omega)).mono ?_
        intro e Wd hpost
        unfold RepPost at hpost
        rw [hget] at hpost
        obtain ⟨vd, rfl, od, bd⟩ := hpost
        obtain ⟨ad, cd, rfl⟩ := od.form
        have be : Below Wd.heap.size Wd (Wd.alloc (.cells #[.int .i64 (er : Int), .int .i64 (tl : Int), .bool sl, .slice ad dd.length cd] 60)) := (Below.refl _ Wd).alloc (Nat.le_refl _) _
        have k14 := Blk.new Wd #[.int .i64 (er : Int), .int .i64 (tl : Int), .bool sl, .slice ad dd.length cd] 60
        have rD := (HC.out.1.keep bd).keep be
        have hszC := HC.out.2.2.1.size
        have bD := (HC.out.2.2.1.trans (bd.mono hszC)).trans (be.mono (Nat.le_trans hszC bd.size))
        have hxD := (HC.out.2.2.2.1.keep bd).keep be
        have hqT : ¬ q3.all Wd.heap.size := fun hq => by have := (HC.out.1.keep bd).at_.st.size hq; omega
        have hdo : ∀ g, (Value.slice ad dd.length cd).ownBlock = some g → ¬ q3.all g := fun g hg hq => by have := (od.blk g hg).1; have := HC.out.1.at_.st.size hq; omega
        have hdD := od.bs.keep be
        have HD := hid (And.intro rD (And.intro HC.out.2.1 (And.intro bD (And.intro hxD (And.intro HC.out.2.2.2.2.2 (And.intro k14 (And.intro hqT (And.intro hdo hdD))))))))
        clear rD bD hxD k14 hqT hdo hdD od bd be HC
        go_wp2_with fail
        generalize (Wd.alloc (.cells #[.int .i64 (er : Int), .int .i64 (tl : Int), .bool sl, .slice ad dd.length cd] 60)) = W5a at *
        go_wp2_with fail
        refine (node_Store HD.out.1.at_).mono ?_
        rintro e Wx ⟨rfl, hw⟩
        rw [hw]
        clear hw Wx
        go_wp2_with fail
        refine (law5_num _ _).mono ?_
        rintro e Wx ⟨rfl, hw⟩
        rw [hw]
        clear hw Wx
        go_wp2_with fail
        have hFr1 := store_Free HD.out.1.at_.st
        rw [hq3] at hFr1
        refine hFr1.mono ?_
        clear hFr1
        rintro e WE ⟨rfl, be⟩
        have hszD := HD.out.2.2.1.size
        have HE := hid (And.intro (HD.out.1.keep be) (And.intro HD.out.2.1 (And.intro (HD.out.2.2.1.trans (be.mono hszD)) (And.intro (HD.out.2.2.2.1.keep be) (And.intro HD.out.2.2.2.2.1 (And.intro (HD.out.2.2.2.2.2.1.keep be) (And.intro HD.out.2.2.2.2.2.2.1 (And.intro HD.out.2.2.2.2.2.2.2.1 (HD.out.2.2.2.2.2.2.2.2.keep be)))))))))
        clear be HD hszD
        go_wp2_with fail
        have hsE := HE.out.2.2.1.size
        refine (run_Ask2 HE.out.1 hsE v2 X HE.out.2.2.2.1 hXl).mono ?_
        rintro e WF ⟨v4, rfl, o4, ⟨q4, r4, hq4, kp4, _⟩, b4, x4⟩
        rw [htw] at o4 r4
        obtain ⟨k14, hqT⟩ := kp4 _ _ _ HE.out.2.2.2.2.2.1 HE.out.2.2.2.2.2.2.1
        have hdF := HE.out.2.2.2.2.2.2.2.2.ext x4 (fun g hg _ hq => HE.out.2.2.2.2.2.2.2.1 g hg (.inl hq))
        have HF := hid (And.intro r4 (And.intro HE.out.2.1 (And.intro (HE.out.2.2.1.trans b4) (And.intro o4 (And.intro k14 hdF)))))
        clear r4 o4 k14 hdF b4 x4 HE hqT kp4 hx3o kp3
        go_wp2_with fail
        refine (get_reply v4 RB WF HF.out.2.2.2.1.bs (by omega)).mono ?_
        intro e WG hpost
        unfold RepPost at hpost
        rw [hget] at hpost
        obtain ⟨vd4, rfl, od4, bd4⟩ := hpost
        obtain ⟨ad4, cd4, rfl⟩ := od4.form
        have be4 : Below WG.heap.size WG (WG.alloc (.cells #[.int .i64 (er : Int), .int .i64 (tl : Int), .bool sl, .slice ad4 dd.length cd4] 60)) := (Below.refl _ WG).alloc (Nat.le_refl _) _
        have k18 := Blk.new WG #[.int .i64 (er : Int), .int .i64 (tl : Int), .bool sl, .slice ad4 dd.length cd4] 60
        have hszF := HF.out.2.2.1.size
        have rG := (HF.out.1.keep bd4).keep be4
        have bG := (HF.out.2.2.1.trans (bd4.mono hszF)).trans (be4.mono (Nat.le_trans hszF bd4.size))
        have m14 := (HF.out.2.2.2.2.1.keep bd4).keep be4
        have d14 := (HF.out.2.2.2.2.2.keep bd4).keep be4
        have d18 := od4.bs.keep be4
        have hc1 := run_bytes_string (P := Try.prog) Try.underlying34 Try.underlying5 Try.underlying9 d14
        have hc2 := run_bytes_string (P := Try.prog) Try.underlying34 Try.underlying5 Try.underlying9 d18
        have x0 := m14.cell (o := 0) rfl
        have x1 := m14.cell (o := 1) rfl
        have x2 := m14.cell (o := 2) rfl
        have x3 := m14.cell (o := 3) rfl
        have y0 := k18.cell (o := 0) rfl
        have y1 := k18.cell (o := 1) rfl
        have y2 := k18.cell (o := 2) rfl
        have y3 := k18.cell (o := 3) rfl
        have hFr := store_Free rG.at_.st
        rw [hq4, hq3] at hFr
        have HFr := hid hFr
        have HG := hid (And.intro rG (And.intro HF.out.2.1 (And.intro bG (And.intro m14 k18))))
        clear rG bG m14 d14 d18 k18 hFr HF od4 bd4 be4
        go_wp2_with fail
        refine (law5_num _ _).mono ?_
        rintro e Wx ⟨rfl, hw⟩
        rw [hw]
        clear hw Wx
        go_wp2_with fail
        refine HFr.out.mono ?_
        rintro e WH ⟨rfl, bh⟩
        have m14 := HG.out.2.2.2.1.keep bh
        have m18 := HG.out.2.2.2.2.keep bh
        have x0 := m14.cell (o := 0) rfl
        have y0 := m18.cell (o := 0) rfl
        have hszG := HG.out.2.2.1.size
        have HD := hid (And.intro (HG.out.1.keep bh) (And.intro HG.out.2.1 (HG.out.2.2.1.trans (bh.mono hszG))))
        clear HFr m14 m18 hc1 hc2 x1 x2 x3 y1 y2 y3 bh HG
        go_wp2_with fail
        have hsL := HD.out.2.2.size
        refine (run_Ask2 HD.out.1 hsL _ b (H0.out.2.1.keep HD.out.2.2) hbl).mono ?_
        rintro e WE ⟨v8, rfl, o8, ⟨q8, r8, _⟩, b8, _⟩
        obtain ⟨hI8, er8, tl8, sl8, dd8, hget8, hRl8⟩ := askF_inv D1 HD.out.2.1 b
        clear hI8
        have HE := hid (And.intro r8 (And.intro (HD.out.2.2.trans b8) o8))
        clear r8 b8 o8 HD
        go_wp2_with fail
        refine (get_reply v8 _ WE HE.out.2.2.bs (by omega)).mono ?_
        intro e WF hpost
        unfold RepPost at hpost
        rw [hget8] at hpost
        obtain ⟨vd8, rfl, od8, bd8⟩ := hpost
        obtain ⟨ad8, cd8, rfl⟩ := od8.form
        have bf8 : Below WF.heap.size WF (WF.alloc (.cells #[.int .i64 (er8 : Int), .int .i64 (tl8 : Int), .bool sl8, .slice ad8 dd8.length cd8] 60)) := (Below.refl _ WF).alloc (Nat.le_refl _) _
        have rF := (HE.out.1.keep bd8).keep bf8
        have hszE := HE.out.2.1.size
        have bF := (HE.out.2.1.trans (bd8.mono hszE)).trans (bf8.mono (Nat.le_trans hszE bd8.size))
        have HF := hid (And.intro rF bF)
        clear od8 bd8 bf8 rF bF HE hget8
        go_wp2_with fail
        refine (law5_num _ _).mono ?_
        rintro e Wx ⟨rfl, hw⟩
        rw [hw]
        clear hw Wx
        go_wp2_with fail
        refine (node_Up HF.out.1.at_).mono ?_
        rintro e Wx ⟨rfl, hw⟩
        rw [hw]
        clear hw Wx
        go_wp2_with fail
        go_ret
        exact ⟨rfl, H0.out.2.2.1.trans (HF.out.2.mono H0.out.2.2.1.size)⟩
end Go.Proofs.Ytbofcocfcmlcaaa
