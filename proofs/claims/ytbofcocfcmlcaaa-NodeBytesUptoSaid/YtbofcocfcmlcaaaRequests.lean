import Derived.Test.YtbofcocfcmlcaaaRefD
import Derived.Test.YtbofcocfcmlcaaaBack
/-! gazettelaw05.NodeRequests: the walk. -/
namespace Go.Proofs.Ytbofcocfcmlcaaa
open Go.RowKit

theorem put_request_x (k lo po : Int) (v : Value) (l : List UInt8) (W : World) (hv : Bs W v l) :
    Calls Try.prog 23 #[.agg #[.int .i64 k, .int .i64 lo, .int .i64 po, v]] W fun e w' => ∃ v', e = .returned (.tuple #[v', .int .i64 (if rightB k lo po l.length then 0 else 1)]) ∧ Own8 w' W.heap.size 5 v' (putReqB k lo po l) ∧ Below W.heap.size W w' := by
  unfold putReqB
  cases ht : rightB k lo po l.length
  · obtain ⟨a0, c0, rfl⟩ := hv.form
    refine (put_request_no k lo po a0 l.length c0 W (by have := hv.len; unfold maxLen at this; omega) ht).mono ?_
    rintro e w' ⟨rfl, hb⟩
    exact ⟨_, rfl, Own8.nil _ _ _, hb⟩
  · refine (put_request k lo po v l W hv ht).mono ?_
    rintro e w' ⟨v', rfl, ho, hb⟩
    exact ⟨v', rfl, ho, hb⟩
theorem put_reply_x (er tl : Int) (sl : Bool) (v : Value) (l : List UInt8) (W : World) (hv : Bs W v l) :
    Calls Try.prog 25 #[.agg #[.int .i64 er, .int .i64 tl, .bool sl, v]] W fun e w' => ∃ v', e = .returned (.tuple #[v', .int .i64 (if tellsB er tl l.length then 0 else 1)]) ∧ Own8 w' W.heap.size 5 v' (putRepB er tl sl l) ∧ Below W.heap.size W w' := by
  cases ht : tellsB er tl l.length
  · obtain ⟨a0, c0, rfl⟩ := hv.form
    refine (put_reply_no er tl sl a0 l.length c0 W (by have := hv.len; unfold maxLen at this; omega) ht).mono ?_
    rintro e w' ⟨rfl, hb⟩
    refine ⟨_, rfl, ?_, hb⟩
    unfold putRepB
    rw [ht]
    exact Own8.nil _ _ _
  · refine (put_reply er tl sl v l W hv).mono ?_
    rintro e w' ⟨v', c, rfl, ho, hb, hc⟩
    obtain rfl := hc.2 ht
    exact ⟨v', rfl, ho, hb⟩

/-- What bytes say as a request; its error. -/
def reqV (l : List UInt8) : Int × Int × Int × List UInt8 × Int := match getReq l with
  | none => (0, 0, 0, [], 22)
  | some (k, lo, po, d) => (k, lo, po, d, 0)
def repV (l : List UInt8) : Int × Int × Bool × List UInt8 × Int := match getRep l with
  | none => (0, 0, false, [], 22)
  | some (k, lo, po, d) => (k, lo, po, d, 0)
theorem ReqPost.vals {W w' : World} {l : List UInt8} {e : Ending} (h : ReqPost W l e w') {k lo po c : Int} {d : List UInt8} (hq : reqV l = (k, lo, po, d, c)) : ∃ v, e = .returned (.tuple #[.agg #[.int .i64 k, .int .i64 lo, .int .i64 po, v], .int .i64 c]) ∧ Own8 w' W.heap.size 5 v d ∧ Below W.heap.size W w' := by
  unfold ReqPost at h
  unfold reqV at hq
  cases hg : getReq l with
  | none =>
    rw [hg] at h hq
    cases hq
    obtain ⟨rfl, hb⟩ := h
    exact ⟨_, rfl, Own8.nil _ _ _, hb⟩
  | some z =>
    obtain ⟨k', lo', po', d'⟩ := z
    rw [hg] at h hq
    cases hq
    exact h
theorem RepPost.vals {W w' : World} {l : List UInt8} {e : Ending} (h : RepPost W l e w') {k lo c : Int} {po : Bool} {d : List UInt8} (hq : repV l = (k, lo, po, d, c)) : ∃ v, e = .returned (.tuple #[.agg #[.int .i64 k, .int .i64 lo, .bool po, v], .int .i64 c]) ∧ Own8 w' W.heap.size 5 v d ∧ Below W.heap.size W w' := by
  unfold RepPost at h
  unfold repV at hq
  cases hg : getRep l with
  | none =>
    rw [hg] at h hq
    cases hq
    obtain ⟨rfl, hb⟩ := h
    exact ⟨_, rfl, Own8.nil _ _ _, hb⟩
  | some z =>
    obtain ⟨k', lo', po', d'⟩ := z
    rw [hg] at h hq
    cases hq
    exact h

set_option maxRecDepth 100000 in
set_option maxHeartbeats 12800000 in
theorem law_requests (r : Rq) (rv vb : Value) (b : List UInt8) (W : World) (hr : RqOk r) (hrv : BsW W rv r.b) (hb : Bs W vb b) (hbl : b.length ≤ 1073741824) :
    Calls Try.prog 9 #[.agg (r.cells rv), vb] W fun e W' => e = .returned (.bool true) ∧ Below W.heap.size W W' := by
  unfold Rq.cells
  obtain ⟨ra, rc, rfl⟩ := hrv.form
  obtain ⟨va, vc, rfl⟩ := hb.form
  obtain ⟨W1, hW1⟩ : ∃ W1, W.alloc (.cells #[.int .i64 r.k, .int .i64 r.lo, .int .i64 r.po, .slice ra r.b.length rc] 54) = W1 := ⟨_, rfl⟩
  have b1 : Below W.heap.size W W1 := by rw [← hW1]; exact (Below.refl _ W).alloc (Nat.le_refl _) _
  have k1 : Blk W1 W.heap.size #[.int .i64 r.k, .int .i64 r.lo, .int .i64 r.po, .slice ra r.b.length rc] 54 := by rw [← hW1]; exact Blk.new W _ _
  have x0 := k1.cell (o := 0) rfl
  have x1 := k1.cell (o := 1) rfl
  have x2 := k1.cell (o := 2) rfl
  have x3 := k1.cell (o := 3) rfl
  have H0 := hid (And.intro (hrv.keep b1) (And.intro (hb.keep b1) (And.intro k1 b1)))
  clear hrv hb k1 b1
  go_enter Try.func9, Try.ntmps9
  go_wp2_with fail
  clear hW1
  refine (law_Request r.k r.lo r.po _ r.b W1 H0.out.1 (by have := hr.b; omega)).mono ?_
  rintro e Wa ⟨v1, rfl, o1, ba⟩
  have HA := hid (And.intro o1 ba)
  clear x0 x1 x2 x3 o1 ba
  go_wp2_with fail
  refine (put_request_x _ _ _ v1 _ Wa HA.out.1.bs).mono ?_
  obtain ⟨cc, hcc⟩ : ∃ cc : Int, (if rightB r.k r.lo r.po r.b.length = true then (0 : Int) else 1) = cc := ⟨_, rfl⟩
  have HC := hid hcc
  rintro e W2 ⟨v5, rfl, o5, b2⟩
  rw [hcc]
  clear hcc
  have b12 := HA.out.2.trans (b2.mono HA.out.2.size)
  have k2 := H0.out.2.2.1.keep b12
  have x0 := k2.cell (o := 0) rfl
  have x1 := k2.cell (o := 1) rfl
  have x2 := k2.cell (o := 2) rfl
  have x3 := k2.cell (o := 3) rfl
  have H2 := hid (And.intro (H0.out.1.keep b12) (And.intro (H0.out.2.1.keep b12) (And.intro (H0.out.2.2.2.trans (b12.mono H0.out.2.2.2.size)) o5)))
  clear H0 HA b2 b12 k2 o5
  go_wp2_with fail
  clear x0 x1 x2 x3
  refine (ref_PutRequest _ _ _ _ r.b W2 H2.out.1 hr.b).mono ?_
  rintro e Wb ⟨v7, rfl, o7, bb⟩
  rw [HC.out]
  have HY := hid (H2.out.2.1.keep bb)
  have H5 := hid (And.intro (H2.out.2.2.2.bs.keep bb) (And.intro o7.bs (H2.out.2.2.1.trans (bb.mono H2.out.2.2.1.size))))
  clear H2 o7 bb
  obtain ⟨k9, l9, p9, d9, c9, hqv⟩ : ∃ k l p d c, reqV b = (k, l, p, d, c) := ⟨_, _, _, _, _, rfl⟩
  have HQ := hid hqv
  clear hqv
  obtain ⟨i0, hi, hz0, hz1, hz2⟩ := info_parts info_u8
  obtain ⟨Wc, hWc⟩ : ∃ Wc, Wb.alloc (.cells #[] 5) = Wc := ⟨_, rfl⟩
  have bc : Below Wb.heap.size Wb Wc := by rw [← hWc]; exact (Below.refl _ Wb).alloc (Nat.le_refl _) _
  have oc : Own8 Wc Wb.heap.size 5 (.slice (some ⟨Wb.heap.size, 0, none⟩) 0 0) [] := by rw [← hWc]; exact own8_mk (Nat.le_refl _) (Blk.new _ _ _) rfl (Nat.le_refl _) (by simp [maxLen]) rfl (by simp)
  have sc := HY.out.keep bc
  have hsz := bc.size
  go_wp2_with (at_builtin; refine wpList_append8 Try.underlying34 hi hz0 hz1 hz2 rfl _ _ rfl Wb.heap.size rfl rfl oc sc (by simp; omega) hsz ?_; intro vd Wd od gd _; rw [List.nil_append] at od; have bd : Below Wb.heap.size Wb Wd := bc.grown gd hsz (fun k hk => (oc.blk k hk).1); obtain ⟨ad, cd, ed⟩ := od.form; subst ed; clear oc sc gd)
  clear hWc hsz bc
  refine (get_request _ b Wd od.bs hbl).mono ?_
  intro e We hpost
  obtain ⟨ve, rfl, oe, be⟩ := ReqPost.vals hpost HQ.out
  clear hpost od
  obtain ⟨ae, ce, rfl⟩ := oe.form
  obtain ⟨Wf, hWf⟩ : ∃ Wf, We.alloc (.cells #[.int .i64 k9, .int .i64 l9, .int .i64 p9, .slice ae d9.length ce] 57) = Wf := ⟨_, rfl⟩
  have bf : Below We.heap.size We Wf := by rw [← hWf]; exact (Below.refl _ We).alloc (Nat.le_refl _) _
  have kf : Blk Wf We.heap.size #[.int .i64 k9, .int .i64 l9, .int .i64 p9, .slice ae d9.length ce] 57 := by rw [← hWf]; exact Blk.new We _ _
  have bbf := bd.trans ((be.trans (bf.mono be.size)).mono bd.size)
  have HF := hid (And.intro kf (And.intro (oe.bs.keep bf) (HY.out.keep bbf)))
  have HB5 := hid (And.intro (H5.out.1.keep bbf) (And.intro (H5.out.2.1.keep bbf) (H5.out.2.2.trans (bbf.mono H5.out.2.2.size))))
  clear bd be bf kf oe bbf HY H5
  go_wp2_with fail
  clear hWf
  refine (ref_GetRequest _ b Wf HF.out.2.2 hbl).mono ?_
  intro e Wg hpost
  obtain ⟨vg, rfl, og, bg⟩ := ReqPost.vals hpost HQ.out
  clear hpost
  obtain ⟨ag, cg, rfl⟩ := og.form
  obtain ⟨Wh, hWh⟩ : ∃ Wh, Wg.alloc (.cells #[.int .i64 k9, .int .i64 l9, .int .i64 p9, .slice ag d9.length cg] 54) = Wh := ⟨_, rfl⟩
  have bh : Below Wg.heap.size Wg Wh := by rw [← hWh]; exact (Below.refl _ Wg).alloc (Nat.le_refl _) _
  have kh : Blk Wh Wg.heap.size #[.int .i64 k9, .int .i64 l9, .int .i64 p9, .slice ag d9.length cg] 54 := by rw [← hWh]; exact Blk.new Wg _ _
  have bgh := bg.trans (bh.mono bg.size)
  have kf := HF.out.1.keep bgh
  have hcv1 := run_bytes_string (P := Try.prog) Try.underlying34 Try.underlying5 Try.underlying9 (HB5.out.1.keep bgh)
  have hcv2 := run_bytes_string (P := Try.prog) Try.underlying34 Try.underlying5 Try.underlying9 (HB5.out.2.1.keep bgh)
  have x0 := kf.cell (o := 0) rfl
  have x1 := kf.cell (o := 1) rfl
  have x2 := kf.cell (o := 2) rfl
  have x3 := kf.cell (o := 3) rfl
  have y0 := kh.cell (o := 0) rfl
  have y1 := kh.cell (o := 1) rfl
  have y2 := kh.cell (o := 2) rfl
  have y3 := kh.cell (o := 3) rfl
  have HS := hid (And.intro (HF.out.2.1.keep bgh) (And.intro (og.bs.keep bh) (HB5.out.2.2.trans (bgh.mono HB5.out.2.2.size))))
  clear bg bh kh kf og bgh HF HB5 HQ
  go_wp2_with fail
  clear hWh hcv1 hcv2
  refine (law5_num _ _).mono ?_
  rintro e Wx ⟨rfl, hw⟩
  rw [hw]
  clear hw Wx
  go_wp2_with fail
  clear x0 x1 x2 x3 y0 y1 y2 y3
  refine (law_sameRequest _ _ _ _ _ d9 Wh (.inl HS.out.1) (.inl HS.out.2.1)).mono ?_
  rintro e Wi ⟨rfl, bi⟩
  have HB6 := hid (HS.out.2.2.trans (bi.mono HS.out.2.2.size))
  clear HS bi
  go_wp2_with fail
  refine (law5_num _ _).mono ?_
  rintro e Wx ⟨rfl, hw⟩
  rw [hw]
  clear hw Wx
  go_wp2_with fail
  refine (law5_knows _).mono ?_
  rintro e Wz ⟨rfl, bz⟩
  go_wp2_with fail
  go_ret
  exact ⟨rfl, HB6.out.trans (bz.mono HB6.out.size)⟩
end Go.Proofs.Ytbofcocfcmlcaaa
