import Derived.Test.YtnbeagcmfcdklaaGreatMSameB8
import Derived.Test.YtnbeagcmfcdklaaGreatMGen
/-! gazettelaw08.AcceptorAsks: the walk. -/
namespace Go.Proofs.YtnbeagcmfcdklaaGreat
open Go.RowKit

/-- What bytes say as an ask; its error. -/
def askV (l : List UInt8) : Int × Int × Int × Int × List UInt8 × Int := match getAsk l with
  | none => (0, 0, 0, 0, [], 22)
  | some (k, key, ver, bal, d) => (k, key, ver, bal, d, 0)
theorem AskPost.vals {W w' : World} {l : List UInt8} {e : Ending} (h : AskPost W l e w') {k key ver bal c : Int} {d : List UInt8} (hq : askV l = (k, key, ver, bal, d, c)) : ∃ v, e = .returned (.tuple #[.agg #[.int .i64 k, .int .i64 key, .int .i64 ver, .int .i64 bal, v], .int .i64 c]) ∧ Own8 w' W.heap.size 5 v d ∧ Below W.heap.size W w' := by
  unfold AskPost at h
  unfold askV at hq
  cases hg : getAsk l with
  | none =>
    rw [hg] at h hq
    cases hq
    obtain ⟨rfl, hb⟩ := h
    exact ⟨_, rfl, Own8.nil _ _ _, hb⟩
  | some z =>
    obtain ⟨k', key', ver', bal', d'⟩ := z
    rw [hg] at h hq
    cases hq
    exact h

theorem askV_some {b : List UInt8} {k key ver bal : Nat} {d : List UInt8} (h : getAsk b = some (k, key, ver, bal, d)) : askV b = ((k : Int), (key : Int), (ver : Int), (bal : Int), d, 0) := by
  unfold askV
  rw [h]
theorem putAskB_eq {k key ver bal : Int} {l : List UInt8} (h : askOk k key ver bal l.length = true) : putAskB k key ver bal l = frameB 3 (askB k key ver bal l) := by
  unfold putAskB
  rw [h]
  rfl
theorem askV_put (k key ver bal : Nat) (l : List UInt8) (h : askOk (k : Int) (key : Int) (ver : Int) (bal : Int) l.length = true) : askV (putAskB (k : Int) (key : Int) (ver : Int) (bal : Int) l) = ((k : Int), (key : Int), (ver : Int), (bal : Int), l, 0) := by
  rw [putAskB_eq h]
  exact askV_some (getAsk_put k key ver bal l h)
theorem putAskB_few (k key ver bal : Int) (l : List UInt8) : (putAskB k key ver bal l).length ≤ 1073741824 := by
  have := putAskB_length k key ver bal l
  omega

set_option maxRecDepth 100000 in
set_option maxHeartbeats 12800000 in
theorem law_accAsks (k key ver bal : Int) (rv vb : Value) (m b : List UInt8) (W : World) (hrv : BsW W rv m) (hm : m.length ≤ 1073741824) (hb : Bs W vb b) (hbl : b.length ≤ 1073741824) :
    Calls Tryz.prog 4 #[.agg #[.int .i64 k, .int .i64 key, .int .i64 ver, .int .i64 bal, rv], vb] W fun e W' => e = .returned (.bool true) ∧ Below W.heap.size W W' := by
  obtain ⟨ra, rc, rfl⟩ := hrv.form
  obtain ⟨va, vc, rfl⟩ := hb.form
  obtain ⟨W1, hW1⟩ : ∃ W1, W.alloc (.cells #[.int .i64 k, .int .i64 key, .int .i64 ver, .int .i64 bal, .slice ra m.length rc] 24) = W1 := ⟨_, rfl⟩
  have b1 : Below W.heap.size W W1 := by rw [← hW1]; exact (Below.refl _ W).alloc (Nat.le_refl _) _
  have k1 : Blk W1 W.heap.size #[.int .i64 k, .int .i64 key, .int .i64 ver, .int .i64 bal, .slice ra m.length rc] 24 := by rw [← hW1]; exact Blk.new W _ _
  have x0 := k1.cell (o := 0) rfl
  have x1 := k1.cell (o := 1) rfl
  have x2 := k1.cell (o := 2) rfl
  have x3 := k1.cell (o := 3) rfl
  have x4 := k1.cell (o := 4) rfl
  have H0 := hid (And.intro (hrv.keep b1) (And.intro (hb.keep b1) (And.intro k1 b1)))
  clear hrv hb k1 b1
  go_enter Tryz.func4, Tryz.ntmps4
  go_wp2_with fail
  clear hW1
  refine (law8_Own k key ver bal _ m W1 H0.out.1 (by omega)).mono ?_
  rintro e Wa ⟨v1, rfl, o1, ba⟩
  have HA := hid (And.intro o1 ba)
  clear x0 x1 x2 x3 x4 o1 ba
  go_wp2_with fail
  refine (acc_PutAsk _ _ _ _ v1 _ Wa HA.out.1.bs).mono ?_
  obtain ⟨cc, hcc⟩ : ∃ cc : Int, (if askOk k key ver bal m.length = true then (0 : Int) else 1) = cc := ⟨_, rfl⟩
  have HC := hid hcc
  rintro e W2 ⟨v5, rfl, o5, b2⟩
  rw [hcc]
  clear hcc
  have b12 := HA.out.2.trans (b2.mono HA.out.2.size)
  have k2 := H0.out.2.2.1.keep b12
  have x0 := k2.cell (o := 0) rfl
  have x1 := k2.cell (o := 1) rfl
  have x2 := k2.cell (o := 2) rfl
  have x3 := k2.cell (o := 3) rfl
  have x4 := k2.cell (o := 4) rfl
  obtain ⟨a5, c5, e5⟩ := o5.form
  subst e5
  have H2 := hid (And.intro (H0.out.1.keep b12) (And.intro (H0.out.2.1.keep b12) (And.intro (H0.out.2.2.2.trans (b12.mono H0.out.2.2.2.size)) (And.intro o5.bs k2))))
  clear H0 HA b2 b12 k2 o5
  go_wp2_with fail
  clear x0 x1 x2 x3 x4
  refine (ref8_PutAsk _ _ _ _ _ m W2 H2.out.1 hm).mono ?_
  rintro e Wb ⟨v7, rfl, o7, bb⟩
  rw [HC.out]
  obtain ⟨a7, c7, e7⟩ := o7.form
  subst e7
  have HY := hid (H2.out.2.1.keep bb)
  have H5 := hid (And.intro (H2.out.2.2.2.1.keep bb) (And.intro o7.bs (And.intro (H2.out.2.2.1.trans (bb.mono H2.out.2.2.1.size)) (And.intro (H2.out.2.2.2.2.keep bb) (H2.out.1.keep bb)))))
  clear H2 o7 bb
  as_aux_lemma =>
    obtain ⟨k9, y9, r9, b9, d9, c9, hqv⟩ : ∃ k y r q d c, askV b = (k, y, r, q, d, c) := ⟨_, _, _, _, _, _, rfl⟩
    have HQ := hid hqv
    clear hqv
    obtain ⟨i0, hi, hz0, hz1, hz2⟩ := info_parts info_u8
    obtain ⟨Wc, hWc⟩ : ∃ Wc, Wb.alloc (.cells #[] 5) = Wc := ⟨_, rfl⟩
    have bc : Below Wb.heap.size Wb Wc := by rw [← hWc]; exact (Below.refl _ Wb).alloc (Nat.le_refl _) _
    have oc : Own8 Wc Wb.heap.size 5 (.slice (some ⟨Wb.heap.size, 0, none⟩) 0 0) [] := by rw [← hWc]; exact own8_mk (Nat.le_refl _) (Blk.new _ _ _) rfl (Nat.le_refl _) (by simp [maxLen]) rfl (by simp)
    have sc := HY.out.keep bc
    have hsz := bc.size
    go_wp2_with (at_builtin; refine wpList_append8 Tryz.underlying22 hi hz0 hz1 hz2 rfl _ _ rfl Wb.heap.size rfl rfl oc sc (by simp; omega) hsz ?_; intro vd Wd od gd _; rw [List.nil_append] at od; have bd : Below Wb.heap.size Wb Wd := bc.grown gd hsz (fun k hk => (oc.blk k hk).1); obtain ⟨ad, cd, ed⟩ := od.form; subst ed; clear oc sc gd)
    clear hWc hsz bc
    refine (acc_GetAsk _ b Wd od.bs hbl).mono ?_
    intro e We hpost
    obtain ⟨ve, rfl, oe, be⟩ := AskPost.vals hpost HQ.out
    clear hpost od
    obtain ⟨ae, ce, rfl⟩ := oe.form
    obtain ⟨Wf, hWf⟩ : ∃ V, We.alloc (.cells #[.int .i64 k9, .int .i64 y9, .int .i64 r9, .int .i64 b9, .slice ae d9.length ce] 30) = V := ⟨_, rfl⟩
    have bf : Below We.heap.size We Wf := by rw [← hWf]; exact (Below.refl _ We).alloc (Nat.le_refl _) _
    have kf : Blk Wf We.heap.size #[.int .i64 k9, .int .i64 y9, .int .i64 r9, .int .i64 b9, .slice ae d9.length ce] 30 := by rw [← hWf]; exact Blk.new We _ _
    have bbf := bd.trans ((be.trans (bf.mono be.size)).mono bd.size)
    have HF := hid (And.intro kf (And.intro (oe.bs.keep bf) (HY.out.keep bbf)))
    have HB5 := hid (And.intro (H5.out.1.keep bbf) (And.intro (H5.out.2.1.keep bbf) (And.intro (H5.out.2.2.1.trans (bbf.mono H5.out.2.2.1.size)) (And.intro (H5.out.2.2.2.1.keep bbf) (H5.out.2.2.2.2.keep bbf)))))
    clear bd be bf kf oe bbf HY H5
    go_wp2_with fail
    clear hWf
    refine (ref8_GetAsk _ b Wf HF.out.2.2 hbl).mono ?_
    intro e Wg hpost
    obtain ⟨vg, rfl, og, bg⟩ := AskPost.vals hpost HQ.out
    clear hpost
    obtain ⟨ag, cg, rfl⟩ := og.form
    obtain ⟨Wh, hWh⟩ : ∃ V, Wg.alloc (.cells #[.int .i64 k9, .int .i64 y9, .int .i64 r9, .int .i64 b9, .slice ag d9.length cg] 24) = V := ⟨_, rfl⟩
    have bh : Below Wg.heap.size Wg Wh := by rw [← hWh]; exact (Below.refl _ Wg).alloc (Nat.le_refl _) _
    have kh : Blk Wh Wg.heap.size #[.int .i64 k9, .int .i64 y9, .int .i64 r9, .int .i64 b9, .slice ag d9.length cg] 24 := by rw [← hWh]; exact Blk.new Wg _ _
    have bgh := bg.trans (bh.mono bg.size)
    have HS := hid (And.intro (HF.out.2.1.keep bgh) (And.intro (og.bs.keep bh) (HB5.out.2.2.1.trans (bgh.mono HB5.out.2.2.1.size))))
    have HP := hid (And.intro (HB5.out.1.keep bgh) (And.intro (HB5.out.2.1.keep bgh) (And.intro (HB5.out.2.2.2.1.keep bgh) (And.intro (HB5.out.2.2.2.2.keep bgh) (And.intro (HF.out.1.keep bgh) kh)))))
    clear bg bh kh og bgh HF HB5 HQ
    go_wp2_with fail
    clear hWh
    cases hok : askOk k key ver bal m.length
    · as_aux_lemma =>
      obtain rfl : (1 : Int) = cc := by have := HC.out; rw [hok] at this; exact this
      refine (law8_num _ _).mono ?_
      rintro e Wx ⟨rfl, hw⟩
      rw [hw]
      clear hw Wx hok
      have hcv1 := run_bytes_string (P := Tryz.prog) Tryz.underlying22 Tryz.underlying5 Tryz.underlying9 HP.out.1
      have hcv2 := run_bytes_string (P := Tryz.prog) Tryz.underlying22 Tryz.underlying5 Tryz.underlying9 HP.out.2.1
      have kj := HP.out.2.2.2.2.1
      have kl := HP.out.2.2.2.2.2
      have x0 := kj.cell (o := 0) rfl
      have x1 := kj.cell (o := 1) rfl
      have x2 := kj.cell (o := 2) rfl
      have x3 := kj.cell (o := 3) rfl
      have x4 := kj.cell (o := 4) rfl
      have y0 := kl.cell (o := 0) rfl
      have y1 := kl.cell (o := 1) rfl
      have y2 := kl.cell (o := 2) rfl
      have y3 := kl.cell (o := 3) rfl
      have y4 := kl.cell (o := 4) rfl
      clear kj kl
      go_wp2_with fail
      clear hcv1 hcv2
      refine (law8_num _ _).mono ?_
      rintro e Wx ⟨rfl, hw⟩
      rw [hw]
      clear hw Wx
      go_wp2_with fail
      clear x0 x1 x2 x3 x4
      clear y0 y1 y2 y3 y4
      refine (law8_sameAsk _ _ _ _ _ _ d9 Wh (.inl HS.out.1) (.inl HS.out.2.1)).mono ?_
      rintro e Wz ⟨rfl, bz⟩
      have HB6 := hid (HS.out.2.2.trans (bz.mono HS.out.2.2.size))
      clear bz
      go_wp2_with fail
      refine (law8_num _ _).mono ?_
      rintro e Wx ⟨rfl, hw⟩
      rw [hw]
      clear hw Wx
      go_wp2_with fail
      refine (law8_knows _).mono ?_
      rintro e Wy ⟨rfl, by9⟩
      go_wp2_with fail
      go_ret
      exact ⟨rfl, HB6.out.trans (by9.mono HB6.out.size)⟩
    · as_aux_lemma =>
      obtain rfl : (0 : Int) = cc := by have := HC.out; rw [hok] at this; exact this
      have hrr := of_decide_eq_true hok
      obtain ⟨kn, rfl⟩ := Int.eq_ofNat_of_zero_le (show 0 ≤ k by omega)
      obtain ⟨yn, rfl⟩ := Int.eq_ofNat_of_zero_le (show 0 ≤ key by omega)
      obtain ⟨rn, rfl⟩ := Int.eq_ofNat_of_zero_le (show 0 ≤ ver by omega)
      obtain ⟨bn, rfl⟩ := Int.eq_ofNat_of_zero_le (show 0 ≤ bal by omega)
      have hgv := askV_put kn yn rn bn m hok
      have hpl2 := putAskB_few (kn : Int) (yn : Int) (rn : Int) (bn : Int) m
      clear hrr hok
      generalize putAskB (kn : Int) (yn : Int) (rn : Int) (bn : Int) m = pb at *
      have HGP := hid hgv
      clear hgv
      refine (law8_num _ _).mono ?_
      rintro e Wx ⟨rfl, hw⟩
      rw [hw]
      clear hw Wx
      go_wp2_with fail
      refine (acc_GetAsk _ pb Wh HP.out.1 hpl2).mono ?_
      intro e Wi hpost
      obtain ⟨vi, rfl, oi, bi⟩ := AskPost.vals hpost HGP.out
      clear hpost
      obtain ⟨ai, ci, rfl⟩ := oi.form
      obtain ⟨Wj, hWj⟩ : ∃ V, Wi.alloc (.cells #[.int .i64 (kn : Int), .int .i64 (yn : Int), .int .i64 (rn : Int), .int .i64 (bn : Int), .slice ai m.length ci] 30) = V := ⟨_, rfl⟩
      have bj : Below Wi.heap.size Wi Wj := by rw [← hWj]; exact (Below.refl _ Wi).alloc (Nat.le_refl _) _
      have kj : Blk Wj Wi.heap.size #[.int .i64 (kn : Int), .int .i64 (yn : Int), .int .i64 (rn : Int), .int .i64 (bn : Int), .slice ai m.length ci] 30 := by rw [← hWj]; exact Blk.new Wi _ _
      have bij := bi.trans (bj.mono bi.size)
      have kt := HP.out.2.2.1.keep bij
      have x0 := kj.cell (o := 0) rfl
      have x1 := kj.cell (o := 1) rfl
      have x2 := kj.cell (o := 2) rfl
      have x3 := kj.cell (o := 3) rfl
      have x4 := kj.cell (o := 4) rfl
      have y0 := kt.cell (o := 0) rfl
      have y1 := kt.cell (o := 1) rfl
      have y2 := kt.cell (o := 2) rfl
      have y3 := kt.cell (o := 3) rfl
      have y4 := kt.cell (o := 4) rfl
      have HT := hid (And.intro (oi.bs.keep bj) (HP.out.2.2.2.1.keep bij))
      have HS2 := hid (And.intro (HS.out.1.keep bij) (And.intro (HS.out.2.1.keep bij) (HS.out.2.2.trans (bij.mono HS.out.2.2.size))))
      have HP2 := hid (And.intro (HP.out.1.keep bij) (And.intro (HP.out.2.1.keep bij) (And.intro (HP.out.2.2.1.keep bij) (And.intro (HP.out.2.2.2.1.keep bij) (And.intro (HP.out.2.2.2.2.1.keep bij) (HP.out.2.2.2.2.2.keep bij))))))
      clear bi bj bij kj kt oi HS HP
      go_wp2_with fail
      clear hWj
      refine (law8_num _ _).mono ?_
      rintro e Wx ⟨rfl, hw⟩
      rw [hw]
      clear hw Wx
      go_wp2_with fail
      clear x0 x1 x2 x3 x4
      clear y0 y1 y2 y3 y4
      refine (law8_sameAsk _ _ _ _ _ _ m Wj (.inl HT.out.1) HT.out.2).mono ?_
      rintro e Wk ⟨rfl, bk⟩
      have HS := hid (And.intro (HS2.out.1.keep bk) (And.intro (HS2.out.2.1.keep bk) (HS2.out.2.2.trans (bk.mono HS2.out.2.2.size))))
      have HP := hid (And.intro (HP2.out.1.keep bk) (And.intro (HP2.out.2.1.keep bk) (And.intro (HP2.out.2.2.1.keep bk) (And.intro (HP2.out.2.2.2.1.keep bk) (And.intro (HP2.out.2.2.2.2.1.keep bk) (HP2.out.2.2.2.2.2.keep bk))))))
      clear bk HS2 HP2 HT
      have hcv1 := run_bytes_string (P := Tryz.prog) Tryz.underlying22 Tryz.underlying5 Tryz.underlying9 HP.out.1
      have hcv2 := run_bytes_string (P := Tryz.prog) Tryz.underlying22 Tryz.underlying5 Tryz.underlying9 HP.out.2.1
      have kj := HP.out.2.2.2.2.1
      have kl := HP.out.2.2.2.2.2
      have x0 := kj.cell (o := 0) rfl
      have x1 := kj.cell (o := 1) rfl
      have x2 := kj.cell (o := 2) rfl
      have x3 := kj.cell (o := 3) rfl
      have x4 := kj.cell (o := 4) rfl
      have y0 := kl.cell (o := 0) rfl
      have y1 := kl.cell (o := 1) rfl
      have y2 := kl.cell (o := 2) rfl
      have y3 := kl.cell (o := 3) rfl
      have y4 := kl.cell (o := 4) rfl
      clear kj kl
      go_wp2_with fail
      clear hcv1 hcv2
      refine (law8_num _ _).mono ?_
      rintro e Wx ⟨rfl, hw⟩
      rw [hw]
      clear hw Wx
      go_wp2_with fail
      clear x0 x1 x2 x3 x4
      clear y0 y1 y2 y3 y4
      refine (law8_sameAsk _ _ _ _ _ _ d9 Wk (.inl HS.out.1) (.inl HS.out.2.1)).mono ?_
      rintro e Wz ⟨rfl, bz⟩
      have HB6 := hid (HS.out.2.2.trans (bz.mono HS.out.2.2.size))
      clear bz
      go_wp2_with fail
      refine (law8_num _ _).mono ?_
      rintro e Wx ⟨rfl, hw⟩
      rw [hw]
      clear hw Wx
      go_wp2_with fail
      refine (law8_knows _).mono ?_
      rintro e Wy ⟨rfl, by9⟩
      go_wp2_with fail
      go_ret
      exact ⟨rfl, HB6.out.trans (by9.mono HB6.out.size)⟩
end Go.Proofs.YtnbeagcmfcdklaaGreat

/-! gazettelaw01: Lent, Stays. -/
namespace Go.Proofs.YtnbeagcmfcdklaaGreat
open Go.RowKit

theorem own8_some {w : World} {base : Nat} {t : TypeId} {v : Value} {l : List UInt8} (h : Own8 w base t v l) (hne : l ≠ []) : ∃ g c, v = .slice (some ⟨g, 0, none⟩) l.length c ∧ l.length ≤ c ∧ c ≤ maxLen := by
  obtain ⟨_, h2⟩ := h
  rcases h2 with ⟨_, h0⟩ | ⟨g, cap, cur, e, _, _, hc, hm, _⟩
  · exact absurd (List.eq_nil_of_length_eq_zero h0) hne
  · exact ⟨g, cap, e, hc, hm⟩

set_option maxRecDepth 100000 in
set_option maxHeartbeats 1600000 in
theorem law_Lent (v : Value) (l : List UInt8) (W : World) (hv : Bs W v l) (hl : l.length ≤ 1073741824) :
    Calls Tryz.prog 14 #[v] W fun e w' => ∃ g c, e = .returned (.slice (some ⟨g, 0, none⟩) l.length c) ∧ Own8 w' W.heap.size 5 (.slice (some ⟨g, 0, none⟩) (l.length + 2) c) (l ++ [201, 202]) ∧ Below W.heap.size W w' := by
  obtain ⟨i0, hi, hz0, hz1, hz2⟩ := info_parts info_u8
  obtain ⟨a0, c0, rfl⟩ := hv.form
  obtain ⟨W1, hW1⟩ : ∃ W1, W.alloc (.cells #[] 5) = W1 := ⟨_, rfl⟩
  have b1 : Below W.heap.size W W1 := by rw [← hW1]; exact (Below.refl _ W).alloc (Nat.le_refl _) _
  have o1 : Own8 W1 W.heap.size 5 (.slice (some ⟨W.heap.size, 0, none⟩) 0 0) [] := by rw [← hW1]; exact own8_mk (Nat.le_refl _) (Blk.new _ _ _) rfl (Nat.le_refl _) (by simp [maxLen]) rfl (by simp)
  have s1 := hv.keep b1
  clear hv
  go_enter Tryz.func14, Tryz.ntmps14
  go_wp2_with (first
    | (at_builtin; refine wpList_append8 Tryz.underlying22 hi hz0 hz1 hz2 rfl _ _ rfl W.heap.size rfl rfl o1 s1 (by simp; omega) b1.size ?_; intro v2 W2 o2 g2 _; rw [List.nil_append] at o2; have b2 : Below W.heap.size W W2 := b1.grown g2 b1.size (fun k hk => (o1.blk k hk).1); obtain ⟨a2, c2, e2⟩ := o2.form; subst e2; clear o1 s1 g2 b1 hW1; obtain ⟨W3, hW3⟩ : ∃ W3, W2.alloc (.cells #[.int .u8 201, .int .u8 202] 5) = W3 := ⟨_, rfl⟩; have b3 : Below W2.heap.size W2 W3 := (by rw [← hW3]; exact (Below.refl _ W2).alloc (Nat.le_refl _) _); have s3 : Bs W3 (.slice (some ⟨W2.heap.size, 0, none⟩) 2 2) [201, 202] := (by rw [← hW3]; exact (own8_mk (base := W2.heap.size) (l := [201, 202]) (Nat.le_refl _) (Blk.new _ _ _) rfl (Nat.le_refl _) (by simp [maxLen]) rfl (fun i u h => match i, h with | 0, h => by simp at h; subst h; rfl | 1, h => by simp at h; subst h; rfl)).bs); have o3 := o2.keep b3; have b3W := b2.trans (b3.mono b2.size); clear o2 b2 b3)
    | (at_builtin; refine wpList_append8 Tryz.underlying22 hi hz0 hz1 hz2 rfl _ _ rfl W.heap.size rfl rfl o3 s3 (by simp; omega) b3W.size ?_; intro v4 W4 o4 g4 _; have b4 : Below W.heap.size W W4 := b3W.grown g4 b3W.size (fun k hk => (o3.blk k hk).1); obtain ⟨g, c, e4, hc4, hm4⟩ := own8_some o4 (by simp); subst e4; clear o3 s3 g4 b3W hW3; have hsl := fun (w : World) => run_slice_to (P := Tryz.prog) Tryz.underlying22 szu8 (some ⟨g, 0, none⟩) (l ++ [201, 202]).length c (l.length : Int) (by omega) (by simp at hc4; omega) w; have hlc : l.length ≤ c := by simp at hc4; omega))
  go_ret
  refine ⟨g, c, rfl, ?_, b4⟩
  simpa using o4

set_option maxRecDepth 100000 in
set_option maxHeartbeats 1600000 in
theorem law_Stays (g c : Nat) (v : Value) (l : List UInt8) (W : World) (hl : l.length ≤ 1073741824) (hx : Bs W (.slice (some ⟨g, 0, none⟩) (l.length + 2) c) (l ++ [201, 202])) (hv : Bs W v l) :
    Calls Tryz.prog 22 #[.slice (some ⟨g, 0, none⟩) l.length c, v] W fun e w' => e = .returned (.bool true) ∧ Below W.heap.size W w' := by
  obtain ⟨a0, c0, rfl⟩ := hv.form
  have hcc : l.length + 2 ≤ c ∧ c ≤ maxLen := by
    obtain ⟨_, _, e, h1, h2, _⟩ := id hx
    injection e with _ _ e
    subst e
    simp at h1
    exact ⟨h1, h2⟩
  have hcl : W.cell? ⟨g, l.length, none⟩ = some (.int .u8 201) ∧ W.cell? ⟨g, l.length + 1, none⟩ = some (.int .u8 202) := by
    obtain ⟨_, _, e, _, _, _, _, h⟩ := id hx
    injection e with e _ _
    subst e
    obtain ⟨_, e1, h1⟩ := h l.length 201 (by simp)
    obtain ⟨_, e2, h2⟩ := h (l.length + 1) 202 (by rw [List.getElem?_append_right (by omega)]; simp)
    cases e1
    cases e2
    simp only [Nat.zero_add] at h1 h2
    exact ⟨h1, h2⟩
  obtain ⟨c1, c2⟩ := hcl
  have hmx := hcc.2
  unfold maxLen at hmx
  have hc := hcc.1
  have hx0 : Bs W (.slice (some ⟨g, 0, none⟩) l.length c) l := by
    have := hx.slice (lo := 0) (hi := l.length) (by omega) (by omega)
    simpa [sla, Addr.add] using this
  have hcv1 : ∀ k, (convert 22 9 (.slice (some ⟨g, 0, none⟩) l.length c)).run Tryz.prog (W.drewN k) = .ok (.string ⟨l.toArray⟩) (W.drewN k) := fun k => run_bytes_string (P := Tryz.prog) Tryz.underlying22 Tryz.underlying5 Tryz.underlying9 (hx0.keep (below_of_drewN _ _ _))
  have hcv2 : ∀ k, (convert 22 9 (.slice a0 l.length c0)).run Tryz.prog (W.drewN k) = .ok (.string ⟨l.toArray⟩) (W.drewN k) := fun k => run_bytes_string (P := Tryz.prog) Tryz.underlying22 Tryz.underlying5 Tryz.underlying9 (hv.keep (below_of_drewN _ _ _))
  have hsl1 := fun (w : World) => run_slice_to (P := Tryz.prog) Tryz.underlying22 szu8 (some ⟨g, 0, none⟩) l.length c ((l.length : Int) + 2) (by omega) (by omega) w
  have hsl2 := fun (w : World) => run_slice_to (P := Tryz.prog) Tryz.underlying22 szu8 (some ⟨g, 0, none⟩) (l.length + 2) c (l.length : Int) (by omega) (by omega) w
  rw [show ((l.length : Int) + 2).toNat = l.length + 2 from by omega] at hsl1
  rw [Int.toNat_natCast] at hsl2
  generalize (⟨l.toArray⟩ : ByteArray) = s1 at *
  clear hx hv hx0 hcc
  have hb1 : (l.length : Int) < ((l.length + 2 : Nat) : Int) := by omega
  have hb2 : (l.length : Int) + 1 < ((l.length + 2 : Nat) : Int) := by omega
  go_enter Tryz.func22, Tryz.ntmps22
  go_wp2_with fail
  go_quiet (fail)
  go_wp2_with fail
  go_ret
  exact ⟨rfl, below_of_drewN _ _ _⟩
end Go.Proofs.YtnbeagcmfcdklaaGreat
