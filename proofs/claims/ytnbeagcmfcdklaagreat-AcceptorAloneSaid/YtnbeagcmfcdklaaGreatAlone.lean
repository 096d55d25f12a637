import Derived.Test.YtnbeagcmfcdklaaGreatAlonA
/-! gazettelaw08.AcceptorAlone: the walk. -/
namespace Go.Proofs.YtnbeagcmfcdklaaGreat
open Go.RowKit

/-- Two acceptors beside each other. -/
structure ATwo (B : Nat) (W : World) (n mf : Nat) (pv : Value) (q : StP) (F : Fs) (S : St) (D : Dk) (n2 mf2 : Nat) (pv2 : Value) (q2 : StP) (F2 : Fs) (S2 : St) (D2 : Dk) : Prop where
  a : ARun B W n mf pv q F S D
  c : ARun B W n2 mf2 pv2 q2 F2 S2 D2
  dis : ∀ b, q.all b → ¬ q2.all b
  o1 : ¬ q.all n2 ∧ ¬ q.all mf2
  o2 : ¬ q2.all n ∧ ¬ q2.all mf
  ne : mf ≠ n2 ∧ mf ≠ mf2 ∧ mf2 ≠ n
section
variable {B n mf n2 mf2 : Nat} {W W' : World} {pv pv2 : Value} {q q2 : StP} {F F2 : Fs} {S S2 : St} {D D2 : Dk}
theorem ATwo.symm (r : ATwo B W n mf pv q F S D n2 mf2 pv2 q2 F2 S2 D2) : ATwo B W n2 mf2 pv2 q2 F2 S2 D2 n mf pv q F S D :=
  ⟨r.c, r.a, fun b h2 h1 => r.dis b h1 h2, r.o2, r.o1, ⟨r.ne.2.2, fun e => r.ne.2.1 e.symm, r.ne.1⟩⟩
theorem ATwo.keep (r : ATwo B W n mf pv q F S D n2 mf2 pv2 q2 F2 S2 D2) (h : Below W.heap.size W W') : ATwo B W' n mf pv q F S D n2 mf2 pv2 q2 F2 S2 D2 :=
  ⟨r.a.keep h, r.c.keep h, r.dis, r.o1, r.o2, r.ne⟩
theorem two_asked (r : ATwo B W n mf pv q F S D n2 mf2 pv2 q2 F2 S2 D2) (hB : B ≤ W.heap.size) (k key ver bal : Int) (v : Value) (m : List UInt8) (hv : BsW W v m) (hok : askOk k key ver bal m.length = true) {A : List UInt8 × Fs × St × Dk} (hA : askA F S D (frameB 3 (askB k key ver bal m)) = A)
    {er vr pr ba : Nat} {le : Bool} {d : List UInt8} (hg : getAns A.1 = some (er, vr, pr, ba, le, d)) :
    Calls Tryz.prog 26 #[.pointer (some ⟨n, 0, none⟩), .agg #[.int .i64 k, .int .i64 key, .int .i64 ver, .int .i64 bal, v]] W fun e w' => ∃ a c, e = .returned (.tuple #[.agg #[.int .i64 (er : Int), .int .i64 (vr : Int), .int .i64 (pr : Int), .int .i64 (ba : Int), .bool le, .slice a d.length c], .bool true]) ∧ Bs w' (.slice a d.length c) d ∧ (∃ q', ATwo B w' n mf pv q' A.2.1 A.2.2.1 A.2.2.2 n2 mf2 pv2 q2 F2 S2 D2 ∧ ∀ T c t, Blk W T c t → T ≠ mf → ¬ q.all T → Blk w' T c t ∧ ¬ q'.all T) ∧ Below B W w' ∧ (∀ g, (Value.slice a d.length c).ownBlock = some g → W.heap.size ≤ g) ∧ (∀ v l, Bs W v l → (∀ g, v.ownBlock = some g → g ≠ mf ∧ ¬ q.all g) → Bs w' v l) := by
  have hlen := askA_len F S D (frameB 3 (askB k key ver bal m))
  refine (law8_asked r.a.at_ k key ver bal v m hv hok hlen).mono ?_
  rw [hA]
  rintro e w' ⟨ht, ⟨q', h1, h2⟩, hx⟩
  unfold ToldPost at ht
  rw [hg] at ht
  obtain ⟨v', rfl, hbs, ho⟩ := ht
  obtain ⟨a, c, rfl⟩ := hbs.form
  have hw : ∀ b, b < W.heap.size → ¬ q.all b → ¬ q'.all b := fun b hb hn hc => (h2.2.2.2.2 b hc).elim hn (fun h => by omega)
  refine ⟨a, c, rfl, hbs, ⟨q', ⟨⟨h1, fun c hc => (h2.2.2.2.2 c hc).elim (r.a.new c) (fun h => by omega), r.a.nmf⟩, ⟨r.c.at_.ext2 hx ?_ ?_ ?_, r.c.new, r.c.nmf⟩, ?_, ⟨hw _ r.c.at_.cell.lt r.o1.1, hw _ r.c.at_.mlt r.o1.2⟩, r.o2, r.ne⟩, fun T c t hb hm hq => ⟨hb.ext hx (fun h => h.elim hm (fun h => hq (.inl h))), hw _ hb.lt hq⟩⟩, hx.belowOf hB (fun c hc ho => ?_), ho, fun v l hv hn => hv.ext hx (fun g hg _ hf => hf.elim (hn g hg).1 (fun h => (hn g hg).2 (.inl h)))⟩
  · rintro b (rfl | hb) hc
    · exact r.o2.2 hc
    · exact r.dis b (.inl hb) hc
  · rintro (h | h)
    · exact r.ne.1 h.symm
    · exact r.o1.1 (.inl h)
  · rintro (h | h)
    · exact r.ne.2.1 h.symm
    · exact r.o1.2 (.inl h)
  · intro b hb hc
    exact hw b (r.c.at_.st.size hc) (fun h => r.dis b h hc) hb
  · rcases ho with ho | ho
    · have := r.a.nmf; omega
    · have := r.a.new c (.inl ho); omega
end
theorem two_start {W W0 W1 : World} {n mf n2 mf2 : Nat} {pv pv2 : Value} {q q2 : StP} (h : AccAt W0 n mf pv q [] St.fresh (Dk.fresh 300)) (b0 : Below W.heap.size W W0) (hn : W.heap.size ≤ n) (hmf : W.heap.size ≤ mf) (hnew : ∀ b, q.all b → W.heap.size ≤ b)
    (h2 : AccAt W1 n2 mf2 pv2 q2 [] St.fresh (Dk.fresh 300)) (b1 : Below W0.heap.size W0 W1) (hn2 : W0.heap.size ≤ n2) (hmf2 : W0.heap.size ≤ mf2) (hnew2 : ∀ b, q2.all b → W0.heap.size ≤ b) :
    ATwo W.heap.size W1 n mf pv q [] St.fresh (Dk.fresh 300) n2 mf2 pv2 q2 [] St.fresh (Dk.fresh 300) := by
  have hs := b0.size
  have l1 := h.cell.lt
  have l2 := h.mlt
  refine ⟨⟨h.keep b1, hnew, hmf⟩, ⟨h2, fun b hb => Nat.le_trans hs (hnew2 b hb), by omega⟩, fun b hb hc => ?_, ⟨fun hc => ?_, fun hc => ?_⟩, ⟨fun hc => ?_, fun hc => ?_⟩, ⟨by omega, by omega, by omega⟩⟩
  · have := h.st.size hb; have := hnew2 b hc; omega
  · have := h.st.size hc; omega
  · have := h.st.size hc; omega
  · have := hnew2 _ hc; omega
  · have := hnew2 _ hc; omega

/-- The asks in Ops. -/
structure Aop where
  k : Int
  key : Int
  ver : Int
  bal : Int
  b : List UInt8
def AopAt (w : World) (g f : Nat) (o : Aop) : Prop := ∃ v, w.cell? ⟨g, f + 2, none⟩ = some (.int .i64 o.k) ∧ w.cell? ⟨g, f + 3, none⟩ = some (.int .i64 o.key) ∧ w.cell? ⟨g, f + 4, none⟩ = some (.int .i64 o.ver) ∧ w.cell? ⟨g, f + 5, none⟩ = some (.int .i64 o.bal) ∧ w.cell? ⟨g, f + 6, none⟩ = some v ∧ BsW w v o.b
def Aops (w : World) (v : Value) (l : List Aop) : Prop := ∃ a c, v = .slice a l.length c ∧ ∀ (i : Nat) o, l[i]? = some o → ∃ g f, a = some ⟨g, f, none⟩ ∧ AopAt w g (f + i * 9) o
theorem AopAt.keep {w w' : World} {g f : Nat} {o : Aop} (h : AopAt w g f o) (hb : Below w.heap.size w w') : AopAt w' g f o := by
  obtain ⟨v, h1, h2, h3, h4, h5, h6⟩ := h
  have kp : ∀ {a : Addr} {u : Value}, w.cell? a = some u → w'.cell? a = some u := fun hc => by rw [hb.cell (World.block_lt_of_cell? w _ hc)]; exact hc
  exact ⟨v, kp h1, kp h2, kp h3, kp h4, kp h5, h6.keep hb⟩

/-- al_ask, of Ints. -/
theorem al_ask_int {j : Nat} {F : Fs} {S : St} {D : Dk} (h : AlInv j F S D) (hj : j < 300) (k key ver bal : Int) (v : List UInt8) (hk : k ≠ 4) (hok : askOk k key ver bal v.length = true) (hb : bal ≤ 20) (hv : v.length ≤ 100)
    {R : Fa × Int} (hR : doA k (F.get (key, ver)) bal v = R) :
    ∃ A vr, askA F S D (frameB 3 (askB k key ver bal v)) = A ∧ getAns A.1 = some (R.2.toNat, vr, R.1.pr.toNat, R.1.ba.toNat, R.1.le, R.1.va) ∧ (∀ x, A.2.1.get x = if x = (key, ver) then R.1 else F.get x) ∧ AlInv (j + 1) A.2.1 A.2.2.1 A.2.2.2 := by
  have h0 := of_decide_eq_true hok
  obtain ⟨kn, rfl⟩ := Int.eq_ofNat_of_zero_le (show 0 ≤ k by omega)
  obtain ⟨yn, rfl⟩ := Int.eq_ofNat_of_zero_le (show 0 ≤ key by omega)
  obtain ⟨rn, rfl⟩ := Int.eq_ofNat_of_zero_le (show 0 ≤ ver by omega)
  obtain ⟨bn, rfl⟩ := Int.eq_ofNat_of_zero_le (show 0 ≤ bal by omega)
  obtain ⟨A, h1, h2, h3, h4⟩ := al_ask h hj kn yn rn bn v (by omega) hok (by omega) hv hR
  exact ⟨A, rn, h1, h2, h3, h4⟩

set_option maxRecDepth 100000 in
set_option maxHeartbeats 12800000 in
theorem law_accAlone (lv : Value) (l : List Aop) (W : World) (hv : Aops W lv l) (hl : l.length ≤ 9223372036854775807) (hbl : ∀ o ∈ l, o.b.length ≤ 9223372036854775807) :
    Calls Tryz.prog 5 #[lv] W fun e W' => e = .returned (.bool true) ∧ Below W.heap.size W W' := by
  have HV := hid hv
  obtain ⟨la, lc, hle⟩ : ∃ a c, lv = .slice a l.length c := by obtain ⟨a, c, e, _⟩ := hv; exact ⟨a, c, e⟩
  subst hle
  clear hv
  go_enter Tryz.func5, Tryz.ntmps5
  go_wp2_with fail
  refine (acc_New 300 W (by omega) (by omega)).mono ?_
  rintro e W0 ⟨n, mf, pv, q0, rfl, h0, b0, hn, hmf, hnew⟩
  have H0 := hid (And.intro h0 (And.intro b0 (And.intro hn (And.intro hmf hnew))))
  clear h0 b0 hn hmf hnew
  go_wp2_with fail
  refine (acc_New 300 W0 (by omega) (by omega)).mono ?_
  rintro e W1 ⟨n2, mf2, pv2, q2, rfl, h2, b2, hn2, hmf2, hnew2⟩
  have HR0 := hid (And.intro (two_start H0.out.1 H0.out.2.1 H0.out.2.2.1 H0.out.2.2.2.1 H0.out.2.2.2.2 h2 b2 hn2 hmf2 hnew2) (H0.out.2.1.trans (b2.mono H0.out.2.1.size)))
  clear H0 h2 b2 hn2 hmf2 hnew2
  go_wp2_with fail
  refine (law8_num _ _).mono ?_
  rintro e Wx ⟨rfl, hw⟩
  rw [hw]
  clear hw Wx
  go_wp2_with fail
  refine (law8_num _ _).mono ?_
  rintro e Wx ⟨rfl, hw⟩
  rw [hw]
  clear hw Wx
  go_wp2_with fail
  refine (law8_knows W1).mono ?_
  rintro e W3 ⟨rfl, b3⟩
  have r3 := HR0.out.1.keep b3
  have b13 := HR0.out.2.trans (b3.mono HR0.out.2.size)
  clear HR0 b3
  go_wp2_with fail
  go_loopw [7] (fun i wr => ∃ k : Nat, k ≤ l.length ∧ k ≤ 60 ∧ i = .int .i64 (k : Int) ∧ ∃ qa F S D qc F2 S2 D2, ATwo W.heap.size wr n mf pv qa F S D n2 mf2 pv2 qc F2 S2 D2 ∧ AlInv k F S D ∧ AlInv k F2 S2 D2 ∧ F.get (0, 1) = F2.get (0, 1) ∧ Below W.heap.size W wr) (fun i _ => 60 - (intOf i).toNat)
  case atStart => exact ⟨0, by omega, by omega, rfl, _, _, _, _, _, _, _, _, r3, AlInv.start, AlInv.start, rfl, b13⟩
  case round =>
    obtain ⟨k, hk, hk60, rfl, qa, F, S, D, qc, F2, S2, D2, r, i1, i2, hf, bW⟩ := hrel
    clear r3 b13
    by_cases hlt : k < l.length ∧ k < 60
    · obtain ⟨hlt, hlt2⟩ := hlt
      have hd1 : decide ((k : Int) < (l.length : Int)) = true := decide_eq_true (by omega)
      have hd2 : decide ((k : Int) < 60) = true := decide_eq_true (by omega)
      obtain ⟨o, ho⟩ : ∃ o, l[k]? = some o := ⟨l[k], by simp⟩
      have hob := hbl o (List.mem_of_getElem? ho)
      obtain ⟨_, _, e0, hr⟩ := HV.out
      obtain ⟨g, f, e1, hop⟩ := hr k o ho
      injection e0 with e0 e02 e03
      clear e02 hr ho
      subst e03
      rw [e1] at e0
      clear e1
      subst e0
      obtain ⟨bv9, c0, c1, c2, c3, c4, hb⟩ := hop
      have kp : ∀ {a : Addr} {u : Value}, W.cell? a = some u → wr.cell? a = some u := fun hc => by rw [bW.cell (World.block_lt_of_cell? W _ hc)]; exact hc
      have c0 := kp c0
      have c1 := kp c1
      have c2 := kp c2
      have c3 := kp c3
      have c4 := kp c4
      clear kp
      obtain ⟨od, oy, ov, ol, ob⟩ := o
      simp only at c0 c1 c2 c3 c4 hb hob
      obtain ⟨ga, gc, rfl⟩ := hb.form
      have HI := hid (And.intro i1 (And.intro i2 (And.intro hf hb)))
      have HR := hid (And.intro r bW)
      clear i1 i2 hf hb r bW hk hk60
      go_wp2_with fail
      clear c0 c1 c2 c3 c4
      refine (law8_small od oy ov ol _ ob wr (HI.out.2.2.2.keep HR.out.2) hob).mono ?_
      rintro e W6 ⟨kn, yn, rn, bn, v6, m, rfl, hv6, hk4, hok, hbn, hml, hy, hv, b6⟩
      obtain ⟨a6, c6, rfl⟩ := (hv6 _ HI.out.2.2.2).form
      obtain ⟨W7, hW7⟩ : ∃ V, W6.alloc (.cells #[.int .i64 kn, .int .i64 yn, .int .i64 rn, .int .i64 bn, .slice a6 m.length c6] 24) = V := ⟨_, rfl⟩
      have b7 : Below W6.heap.size W6 W7 := by rw [← hW7]; exact (Below.refl _ W6).alloc (Nat.le_refl _) _
      have k7 : Blk W7 W6.heap.size #[.int .i64 kn, .int .i64 yn, .int .i64 rn, .int .i64 bn, .slice a6 m.length c6] 24 := by rw [← hW7]; exact Blk.new W6 _ _
      have b67 := b6.trans (b7.mono b6.size)
      have r7 := HR.out.1.keep b67
      have bW7 := HR.out.2.trans (b67.mono HR.out.2.size)
      have n7 : ¬ qa.all W6.heap.size := fun hc => by have := HR.out.1.a.at_.st.size hc; have := b6.size; omega
      have n7c : ¬ qc.all W6.heap.size := fun hc => by have := HR.out.1.c.at_.st.size hc; have := b6.size; omega
      have m7 : W6.heap.size ≠ mf := by have := HR.out.1.a.at_.mlt; have := b6.size; omega
      have HZ := hid (show mf2 < W7.heap.size ∧ ∀ b, qc.all b → b < W7.heap.size from ⟨r7.c.at_.mlt, fun b hb => r7.c.at_.st.size hb⟩)
      have m7c : W6.heap.size ≠ mf2 := by have := HR.out.1.c.at_.mlt; have := b6.size; omega
      obtain ⟨R, hR⟩ : ∃ R, doA kn (F.get (yn, rn)) bn m = R := ⟨_, rfl⟩
      obtain ⟨A, vr, hA, hg, hget, hinv⟩ := al_ask_int HI.out.1 (by omega) kn yn rn bn m hk4 hok hbn hml hR
      have hC := two_asked r7 bW7.size kn yn rn bn (.slice a6 m.length c6) m (hv6 _ (HI.out.2.2.2.keep bW7)) hok hA hg
      generalize hqe : R.2.toNat = er at *
      generalize hqp : R.1.pr.toNat = pr at *
      generalize hqb : R.1.ba.toNat = ba at *
      generalize hql : R.1.le = le at *
      generalize hqv : R.1.va = d at *
      have HC := hid hC
      have HQ := hid (And.intro hqe (And.intro hqp (And.intro hqb (And.intro hql hqv))))
      have HG := hid (And.intro hR (And.intro hget hinv))
      have HK := hid (And.intro k7 bW7)
      have HVV := hid hv6
      have HO := hid (And.intro hk4 (And.intro hok (And.intro hbn hml)))
      clear hC hqe hqp hqb hql hqv hR hget hinv hA hg r7 bW7 b67 b6 b7 hv6 HR hk4 hok hbn hml
      have x0 := k7.cell (o := 0) rfl
      have x1 := k7.cell (o := 1) rfl
      have x2 := k7.cell (o := 2) rfl
      have x3 := k7.cell (o := 3) rfl
      have x4 := k7.cell (o := 4) rfl
      clear k7
      go_wp2_with fail
      clear hW7 x0 x1 x2 x3 x4
      refine HC.out.mono ?_
      rintro e W8 ⟨a8, c8, rfl, bs8, ⟨qa8, r8, kp8⟩, b8, w8, _⟩
      clear HC
      obtain ⟨k8, n8⟩ := kp8 _ _ _ HK.out.1 m7 n7
      have bW8 := HK.out.2.trans b8
      obtain ⟨W9, hW9⟩ : ∃ V, W8.alloc (.cells #[.int .i64 (er : Int), .int .i64 (vr : Int), .int .i64 (pr : Int), .int .i64 (ba : Int), .bool le, .slice a8 d.length c8] 36) = V := ⟨_, rfl⟩
      have b9 : Below W8.heap.size W8 W9 := by rw [← hW9]; exact (Below.refl _ W8).alloc (Nat.le_refl _) _
      have k9 : Blk W9 W8.heap.size #[.int .i64 (er : Int), .int .i64 (vr : Int), .int .i64 (pr : Int), .int .i64 (ba : Int), .bool le, .slice a8 d.length c8] 36 := by rw [← hW9]; exact Blk.new W8 _ _
      have r9 := r8.keep b9
      have bW9 := bW8.trans (b9.mono bW8.size)
      have bs9 := bs8.keep b9
      have k8 := k8.keep b9
      have n9c : ¬ qc.all W8.heap.size := fun hc => by have := r8.c.at_.st.size hc; omega
      have m9c : W8.heap.size ≠ mf2 := by have := r8.c.at_.mlt; omega
      have H9 := hid (And.intro r9 (And.intro bW9 (And.intro bs9 (And.intro k8 k9))))
      have HW8 := hid w8
      have y1 := k8.cell (o := 1) rfl
      have y2 := k8.cell (o := 2) rfl
      clear b8 bW8 r8 bs8 b9 r9 bW9 bs9 k8 k9 w8 kp8 n8 n7 m7
      by_cases h01 : yn = 0 ∧ rn = 1
      · obtain ⟨rfl, rfl⟩ := h01
        clear hy hv
        have x0 := H9.out.2.2.2.1.cell (o := 0) rfl
        have x1 := H9.out.2.2.2.1.cell (o := 1) rfl
        have x2 := H9.out.2.2.2.1.cell (o := 2) rfl
        have x3 := H9.out.2.2.2.1.cell (o := 3) rfl
        have x4 := H9.out.2.2.2.1.cell (o := 4) rfl
        obtain ⟨A2, vr2, hA2, hg2, hget2, hinv2⟩ := al_ask_int HI.out.2.1 (by omega) kn 0 1 bn m HO.out.1 HO.out.2.1 HO.out.2.2.1 HO.out.2.2.2 (R := R) (by rw [← HI.out.2.2.1]; exact HG.out.1)
        rw [HQ.out.1, HQ.out.2.1, HQ.out.2.2.1, HQ.out.2.2.2.1, HQ.out.2.2.2.2] at hg2
        have HC := hid (two_asked H9.out.1.symm H9.out.2.1.size kn 0 1 bn (.slice a6 m.length c6) m (HVV.out _ (HI.out.2.2.2.keep H9.out.2.1)) HO.out.2.1 hA2 hg2)
        have HG2 := hid (And.intro hget2 hinv2)
        clear hA2 hg2 hget2 hinv2
        go_wp2_with fail
        clear hW9 x0 x1 x2 x3 x4 y1 y2
        refine HC.out.mono ?_
        rintro e W10 ⟨a10, c10, rfl, bs10, ⟨qc8, r10, kp10⟩, b10, _, kb10⟩
        clear HC
        obtain ⟨k10, _⟩ := kp10 _ _ _ H9.out.2.2.2.2 m9c n9c
        have bs9 := kb10 _ _ H9.out.2.2.1 (fun g hg => by have h1 := HW8.out g hg; have h2 := HZ.out.1; exact ⟨by omega, fun hc => by have := HZ.out.2 g hc; omega⟩)
        have bW10 := H9.out.2.1.trans b10
        obtain ⟨W11, hW11⟩ : ∃ V, W10.alloc (.cells #[.int .i64 (er : Int), .int .i64 (vr2 : Int), .int .i64 (pr : Int), .int .i64 (ba : Int), .bool le, .slice a10 d.length c10] 36) = V := ⟨_, rfl⟩
        have b11 : Below W10.heap.size W10 W11 := by rw [← hW11]; exact (Below.refl _ W10).alloc (Nat.le_refl _) _
        have k11 : Blk W11 W10.heap.size #[.int .i64 (er : Int), .int .i64 (vr2 : Int), .int .i64 (pr : Int), .int .i64 (ba : Int), .bool le, .slice a10 d.length c10] 36 := by rw [← hW11]; exact Blk.new W10 _ _
        have r11 := (r10.keep b11).symm
        have bW11 := bW10.trans (b11.mono bW10.size)
        have bs11 := bs10.keep b11
        have bs9 := bs9.keep b11
        have k10 := k10.keep b11
        have x0 := k10.cell (o := 0) rfl
        have x1 := k10.cell (o := 1) rfl
        have x2 := k10.cell (o := 2) rfl
        have x3 := k10.cell (o := 3) rfl
        have x4 := k10.cell (o := 4) rfl
        have x5 := k10.cell (o := 5) rfl
        have y0 := k11.cell (o := 0) rfl
        have y1 := k11.cell (o := 1) rfl
        have y2 := k11.cell (o := 2) rfl
        have y3 := k11.cell (o := 3) rfl
        have y4 := k11.cell (o := 4) rfl
        have y5 := k11.cell (o := 5) rfl
        have hcv1 : ∀ k, (convert 22 9 (.slice a8 d.length c8)).run Tryz.prog (W11.drewN k) = .ok (.string ⟨d.toArray⟩) (W11.drewN k) := fun k => run_bytes_string (P := Tryz.prog) Tryz.underlying22 Tryz.underlying5 Tryz.underlying9 (bs9.keep (below_of_drewN _ _ _))
        have hcv2 : ∀ k, (convert 22 9 (.slice a10 d.length c10)).run Tryz.prog (W11.drewN k) = .ok (.string ⟨d.toArray⟩) (W11.drewN k) := fun k => run_bytes_string (P := Tryz.prog) Tryz.underlying22 Tryz.underlying5 Tryz.underlying9 (bs11.keep (below_of_drewN _ _ _))
        have H11 := hid (And.intro r11 bW11)
        clear b10 bW10 r10 bs10 b11 r11 bW11 bs9 bs11 k10 k11 kp10 kb10
        generalize (⟨d.toArray⟩ : ByteArray) = s1 at *
        go_wp2_with fail
        clear hW11
        go_quiet ((go_at_call 19; exact Calls.quiet_of_same (law8_num _ _)))
        clear hcv1 hcv2 x0 x1 x2 x3 x4 x5 y0 y1 y2 y3 y4 y5
        go_wp2_with fail
        go_roundw
        case rel => exact ⟨k + 1, by omega, by omega, by go_num, qa8, _, _, _, qc8, _, _, _, H11.out.1.keep (below_of_drewN _ _ _), HG.out.2.2, HG2.out.2, by rw [HG.out.2.1, HG2.out.1, if_pos rfl, if_pos rfl], H11.out.2.trans ((below_of_drewN _ _ _).mono H11.out.2.size)⟩
        case measure => simp [intOf]; omega
      · have hne : ((0 : Int), (1 : Int)) ≠ (yn, rn) := by
          intro e
          injection e with e1 e2
          exact h01 ⟨e1.symm, e2.symm⟩
        have hget := (HG.out.2.1 (0, 1)).trans (if_neg hne)
        have HF := hid (hget.trans HI.out.2.2.1)
        have HI2 := hid (HI.out.2.1.mono (Nat.le_succ k))
        clear hget hne
        rcases hy with rfl | rfl
        · rcases hv with rfl | rfl
          · exact absurd ⟨rfl, rfl⟩ h01
          · skip
            clear h01
            go_wp2_with fail
            go_roundw
            case rel => exact ⟨k + 1, by omega, by omega, by go_num, qa8, _, _, _, qc, _, _, _, H9.out.1, HG.out.2.2, HI2.out, HF.out, H9.out.2.1⟩
            case measure => simp [intOf]; omega
        · skip
          clear h01
          go_wp2_with fail
          go_roundw
          case rel => exact ⟨k + 1, by omega, by omega, by go_num, qa8, _, _, _, qc, _, _, _, H9.out.1, HG.out.2.2, HI2.out, HF.out, H9.out.2.1⟩
          case measure => simp [intOf]; omega
    · have HB := hid bW
      clear hf i1 i2 r bW
      by_cases h1 : k < l.length
      · have hd1 : decide ((k : Int) < (l.length : Int)) = true := decide_eq_true (by omega)
        have hd2 : decide ((k : Int) < 60) = false := decide_eq_false (by omega)
        go_wp2_with fail
        go_ret
        exact ⟨rfl, HB.out⟩
      · have hd1 : decide ((k : Int) < (l.length : Int)) = false := decide_eq_false (by omega)
        go_wp2_with fail
        go_ret
        exact ⟨rfl, HB.out⟩
end Go.Proofs.YtnbeagcmfcdklaaGreat
