import Derived.Test.YtbofcocfcmlcaaaRefC
/-! The document's answer for node: GetRequest, GetReply. -/
namespace Go.Proofs.Ytbofcocfcmlcaaa
open Go.RowKit

theorem size_rq5 : (Try.prog.info? 54).map (·.size) = some 4 := by kernel_rfl
theorem size_rp5 : (Try.prog.info? 56).map (·.size) = some 4 := by kernel_rfl

set_option maxRecDepth 100000 in
set_option maxHeartbeats 3200000 in
theorem ref_GetRequest (v : Value) (l : List UInt8) (W : World) (hv : Bs W v l) (hl : l.length ≤ 1073741824) :
    Calls Try.prog 29 #[v] W (ReqPost W l) := by
  obtain ⟨a0, c0, rfl⟩ := hv.form
  have b1 : Below W.heap.size W (W.alloc (.cells #[.int .i64 0, .int .i64 0, .int .i64 0, .slice none 0 0] 54)) := (Below.refl _ W).alloc (Nat.le_refl _) _
  have kR := Blk.new W #[.int .i64 0, .int .i64 0, .int .i64 0, .slice none 0 0] 54
  have hbd := ref_framed _ l (W.alloc (.cells #[.int .i64 0, .int .i64 0, .int .i64 0, .slice none 0 0] 54)) (hv.keep b1) hl 1 9 (by omega) (by omega)
  have HB := hid hbd
  clear hbd hv
  go_enter Try.func29, Try.ntmps29
  go_wp2_with fail
  refine HB.out.mono ?_
  intro e W2 hpost
  clear HB
  unfold BodyPost at hpost
  cases hb : bodyF l 1 9 with
  | none =>
    rw [hb] at hpost
    obtain ⟨v2, rfl, b2⟩ := hpost
    have HP := hid (show ∀ e w', ReqPost W l e w' = (e = .returned (.tuple #[.agg #[.int .i64 0, .int .i64 0, .int .i64 0, .slice none 0 0], .int .i64 22]) ∧ Below W.heap.size W w') from fun e w' => by unfold ReqPost getReq; rw [hb])
    have kR := kR.keep b2
    have bW := b1.trans (b2.mono b1.size)
    clear hb b1 b2
    have m0 := kR.cell (o := 0) rfl
    have m1 := kR.cell (o := 1) rfl
    have m2 := kR.cell (o := 2) rfl
    have m3 := kR.cell (o := 3) rfl
    have f0 := kR.free 0
    have f1 := kR.free 1
    have f2 := kR.free 2
    have f3 := kR.free 3
    obtain ⟨W5, hW5⟩ : ∃ W5, (((W2.setCell ⟨W.heap.size, 0, none⟩ (.int .i64 0)).setCell ⟨W.heap.size, 1, none⟩ (.int .i64 0)).setCell ⟨W.heap.size, 2, none⟩ (.int .i64 0)).setCell ⟨W.heap.size, 3, none⟩ (.slice none 0 0) = W5 := ⟨_, rfl⟩
    have k5 := (((kR.set (o := 0) (.int .i64 0)).set (o := 1) (.int .i64 0)).set (o := 2) (.int .i64 0)).set (o := 3) (.slice none 0 0)
    rw [hW5] at k5
    simp only [List.setIfInBounds_toArray, List.set_cons_zero, List.set_cons_succ] at k5
    have b5 : Below W.heap.size W W5 := by rw [← hW5]; exact (((bW.setCell (p := ⟨W.heap.size, 0, none⟩) (by simp) _).setCell (p := ⟨W.heap.size, 1, none⟩) (by simp) _).setCell (p := ⟨W.heap.size, 2, none⟩) (by simp) _).setCell (p := ⟨W.heap.size, 3, none⟩) (by simp) _
    have HH := hid (And.intro k5 b5)
    have HW := hid hW5
    clear k5 b5 kR bW hW5
    go_wp2_with fail
    rw [HW.out]
    have hld := run_loadVar_row (P := Try.prog) W5 W.heap.size 54 54 _ (0, 0) _ HH.out.1 Try.underlying54 rfl size_rq5
    refine bodyPost_ret (v := .tuple #[.agg #[.int .i64 0, .int .i64 0, .int .i64 0, .slice none 0 0], .int .i64 22]) ?_ rfl ?_
    · simp [results, Try.results29, hld, asAddr]
    · rw [HP.out]; exact ⟨rfl, HH.out.2⟩
  | some bd =>
    rw [hb] at hpost
    obtain ⟨v2, rfl, o2, b2⟩ := hpost
    have hbl := bodyF_len hb
    have kR := kR.keep b2
    have bW := b1.trans (b2.mono b1.size)
    obtain ⟨ax, cx, rfl⟩ := o2.form
    have hbs := o2.bs
    obtain ⟨_, _, e0, hcx, hmx, _, hsp, hr⟩ := id hbs
    injection e0 with e01 e02 e03
    subst e01 e03
    clear e02
    unfold maxLen at hmx
    obtain ⟨u0, hu0⟩ : ∃ u, bd[0]? = some u := ⟨bd[0]'(by omega), by simp⟩
    obtain ⟨ad, rfl, hcell⟩ := hr 0 u0 hu0
    obtain ⟨gx, ox, sx⟩ := ad
    obtain rfl := hsp _ rfl
    have hcell : W2.cell? ⟨gx, ox, none⟩ = some (.int .u8 (u0.toNat : Int)) := by simpa using hcell
    have hn1 : numOf (bd.take 1) = u0.toNat := by
      have := num_one (i := 0) hu0
      simpa using this
    have hut := u0.toNat_lt
    have hL : (1 : Int) ≤ (bd.length : Int) := by omega
    have H1 := hid hn1
    have HV := hid hbs
    have Hb := hid hb
    have hlen := hid hbl
    obtain ⟨dd, hdd⟩ : ∃ dd, bd.drop 9 = dd := ⟨_, rfl⟩
    have HSV := hid (hdd ▸ bs_from o2.bs 9 hbl.1)
    have hdl : dd.length ≤ 65536 := by rw [← hdd]; simp; omega
    have Hdd := hid hdd
    have hsl := fun (w : World) => run_slice_from (P := Try.prog) Try.underlying34 szu8 (some ⟨gx, ox, none⟩) bd.length cx 9 (by omega) (by omega) w
    have b3 : Below W2.heap.size W2 (W2.alloc (.cells #[.int .i64 (u0.toNat : Int), .int .i64 0, .int .i64 0, .slice none 0 0] 54)) := (Below.refl _ W2).alloc (Nat.le_refl _) _
    have k3 := Blk.new W2 #[.int .i64 (u0.toNat : Int), .int .i64 0, .int .i64 0, .slice none 0 0] 54
    have hs3 := k3.lt
    clear hb hbs hr hu0 hn1 hdd hbl b1 b2 o2 hsp
    have hgx : gx < W2.heap.size := World.block_lt_of_cell? W2 _ hcell
    go_wp2_with fail
    generalize W2.alloc (.cells #[.int .i64 (u0.toNat : Int), .int .i64 0, .int .i64 0, .slice none 0 0] 54) = W3 at *
    refine (ref_Get _ bd 1 6 W3 (HV.out.keep b3) (by omega) (by omega) (by have := hlen.out; omega)).mono ?_
    rintro e Wx ⟨rfl, hw⟩
    rw [hw]
    clear hw Wx hcell
    obtain ⟨n2, h2⟩ : ∃ n, numOf ((bd.drop 1).take 6) = n := ⟨_, rfl⟩
    rw [h2]
    have H2 := hid h2
    have c1 := k3.cell (o := 1) rfl
    have f1 := k3.free 1
    clear h2
    go_wp2_with fail
    have x4 : Ext (fun b => b = W2.heap.size) W3 (W3.setCell ⟨W2.heap.size, 1, none⟩ (.int .i64 (n2 : Int))) := (Ext.refl (fun b => b = W2.heap.size) W3).setCell (a := ⟨W2.heap.size, 1, none⟩) (.inl rfl) _
    have k4 := k3.set (o := 1) (.int .i64 (n2 : Int))
    simp only [List.setIfInBounds_toArray, List.set_cons_zero, List.set_cons_succ] at k4
    clear c1 f1
    generalize W3.setCell ⟨W2.heap.size, 1, none⟩ (.int .i64 (n2 : Int)) = W4 at *
    have hne : ∀ b, b = W2.heap.size → ¬ b < W2.heap.size := fun b h => by omega
    have b4 : Below W2.heap.size W2 W4 := b3.trans (x4.belowOf (Nat.le_of_lt hs3) (fun b hb e => by omega))
    refine (ref_Get _ bd 7 2 W4 (HV.out.keep b4) (by omega) (by omega) (by have := hlen.out; omega)).mono ?_
    rintro e Wx ⟨rfl, hw⟩
    rw [hw]
    clear hw Wx
    obtain ⟨n3, h3⟩ : ∃ n, numOf ((bd.drop 7).take 2) = n := ⟨_, rfl⟩
    rw [h3]
    have H3 := hid h3
    have c2 := k4.cell (o := 2) rfl
    have f2 := k4.free 2
    have hsz4 : W2.heap.size < W4.heap.size := Nat.lt_of_lt_of_le hs3 x4.size
    obtain ⟨W5, hW5⟩ : ∃ W5, W4.setCell ⟨W2.heap.size, 2, none⟩ (.int .i64 (n3 : Int)) = W5 := ⟨_, rfl⟩
    have x5 : Ext (fun b => b = W2.heap.size) W4 W5 := by rw [← hW5]; exact (Ext.refl (fun b => b = W2.heap.size) W4).setCell (a := ⟨W2.heap.size, 2, none⟩) (.inl rfl) _
    have k5 := k4.set (o := 2) (.int .i64 (n3 : Int))
    rw [hW5] at k5
    simp only [List.setIfInBounds_toArray, List.set_cons_zero, List.set_cons_succ] at k5
    have b5 : Below W2.heap.size W2 W5 := b4.trans (x5.belowOf (Nat.le_of_lt hsz4) (fun b hb e => by omega))
    have hsz5 : W2.heap.size < W5.heap.size := Nat.lt_of_lt_of_le hsz4 x5.size
    obtain ⟨W6, hW6⟩ : ∃ W6, W5.alloc (.cells #[] 5) = W6 := ⟨_, rfl⟩
    have b6 : Below W5.heap.size W5 W6 := by rw [← hW6]; exact (Below.refl _ W5).alloc (Nat.le_refl _) _
    have o6 : Own8 W6 W5.heap.size 5 (.slice (some ⟨W5.heap.size, 0, none⟩) 0 0) [] := by rw [← hW6]; exact own8_mk (Nat.le_refl _) (Blk.new _ _ _) rfl (Nat.le_refl _) (by simp [maxLen]) rfl (by simp)
    have s6 := (HSV.out.keep b5).keep b6
    have k6 := k5.keep b6
    clear h3 b3 k3 hs3 x4 k4 b4 x5 hsz4 k5
    obtain ⟨i0, hi, hz0, hz1, hz2⟩ := info_parts info_u8
    have hs65 := b6.size
    go_wp2_with (at_builtin; refine wpList_append8 Try.underlying34 hi hz0 hz1 hz2 rfl _ _ rfl W5.heap.size rfl rfl o6 s6 (by simp; omega) hs65 ?_; intro v7 W7 o7 g7 _; have b7 : Below W5.heap.size W6 W7 := (Below.refl _ W6).grown g7 hs65 (fun k hk => (o6.blk k hk).1); have c3 := (k6.below b7 hsz5).cell (o := 3) rfl; have f3 := (k6.below b7 hsz5).free 3; clear o6 s6 g7; rw [List.nil_append] at o7; obtain ⟨a7, c7, e7⟩ := o7.form; subst e7; obtain ⟨W8, hW8⟩ : ∃ W8, W7.setCell ⟨W2.heap.size, 3, none⟩ (.slice a7 dd.length c7) = W8 := ⟨_, rfl⟩; have k8 : Blk W8 W2.heap.size #[.int .i64 (u0.toNat : Int), .int .i64 (n2 : Int), .int .i64 (n3 : Int), .slice a7 dd.length c7] 54 := (by have := (k6.below b7 hsz5).set (o := 3) (.slice a7 dd.length c7); rw [hW8] at this; simpa using this); have x8 : Ext (fun b => b = W2.heap.size) W7 W8 := (by rw [← hW8]; exact (Ext.refl (fun b => b = W2.heap.size) W7).setCell (a := ⟨W2.heap.size, 3, none⟩) (.inl rfl) _); have m0 := k8.cell (o := 0) rfl; have m1 := k8.cell (o := 1) rfl; have m2 := k8.cell (o := 2) rfl; have m3 := k8.cell (o := 3) rfl)
    clear hW5 hW6 hW8 c2 f2 c3 f3 m0 m1 m2 m3 k6
    have hltR := kR.lt
    have kR := (((kR.below b5 hltR).keep b6).below b7 (by omega)).ext x8 (by omega)
    have bW := (((bW.trans (b5.mono bW.size)).trans (b6.mono (by have := bW.size; omega))).trans (b7.mono (by have := bW.size; omega))).trans (x8.belowOf (by have := b7.size; have := bW.size; omega) (fun b hb e => by have := bW.size; omega))
    have o8 : Own8 W8 W.heap.size 5 (.slice a7 dd.length c7) dd := (o7.mono (by have := bW.size; omega : W2.heap.size + 1 ≤ W5.heap.size)).ext x8 (fun k hk e => by omega) |>.mono (by have := hltR; omega)
    clear b5 b6 b7 x8 o7 hs65 hsz5 HSV HV hsl
    refine (ref_asks _ _ _ a7 dd.length c7 W8 (by omega)).mono ?_
    rintro e W9 ⟨rfl, b9⟩
    have kR := kR.keep b9
    have bW := bW.trans (b9.mono bW.size)
    have o9 := o8.keep b9
    have k9 := k8.keep b9
    clear b9 o8 k8
    cases hrb : rightB (u0.toNat : Int) (n2 : Int) (n3 : Int) dd.length
    · have HP := hid (show ∀ e w', ReqPost W l e w' = (e = .returned (.tuple #[.agg #[.int .i64 0, .int .i64 0, .int .i64 0, .slice none 0 0], .int .i64 22]) ∧ Below W.heap.size W w') from fun e w' => by
        unfold ReqPost getReq; rw [Hb.out]; simp only [H1.out, H2.out, H3.out, Hdd.out, hrb]; rfl)
      clear hrb k9 o9
      have m0 := kR.cell (o := 0) rfl
      have m1 := kR.cell (o := 1) rfl
      have m2 := kR.cell (o := 2) rfl
      have m3 := kR.cell (o := 3) rfl
      have f0 := kR.free 0
      have f1 := kR.free 1
      have f2 := kR.free 2
      have f3 := kR.free 3
      obtain ⟨W5, hW5⟩ : ∃ W5, (((W9.setCell ⟨W.heap.size, 0, none⟩ (.int .i64 0)).setCell ⟨W.heap.size, 1, none⟩ (.int .i64 0)).setCell ⟨W.heap.size, 2, none⟩ (.int .i64 0)).setCell ⟨W.heap.size, 3, none⟩ (.slice none 0 0) = W5 := ⟨_, rfl⟩
      have k5 := (((kR.set (o := 0) (.int .i64 0)).set (o := 1) (.int .i64 0)).set (o := 2) (.int .i64 0)).set (o := 3) (.slice none 0 0)
      rw [hW5] at k5
      simp only [List.setIfInBounds_toArray, List.set_cons_zero, List.set_cons_succ] at k5
      have b5 : Below W.heap.size W W5 := by rw [← hW5]; exact (((bW.setCell (p := ⟨W.heap.size, 0, none⟩) (by simp) _).setCell (p := ⟨W.heap.size, 1, none⟩) (by simp) _).setCell (p := ⟨W.heap.size, 2, none⟩) (by simp) _).setCell (p := ⟨W.heap.size, 3, none⟩) (by simp) _
      have HH := hid (And.intro k5 b5)
      have HW := hid hW5
      clear k5 b5 kR bW hW5
      go_wp2_with fail
      rw [HW.out]
      have hld := run_loadVar_row (P := Try.prog) W5 W.heap.size 54 54 _ (0, 0) _ HH.out.1 Try.underlying54 rfl size_rq5
      refine bodyPost_ret (v := .tuple #[.agg #[.int .i64 0, .int .i64 0, .int .i64 0, .slice none 0 0], .int .i64 22]) ?_ rfl ?_
      · simp [results, Try.results29, hld, asAddr]
      · rw [HP.out]; exact ⟨rfl, HH.out.2⟩
    · have HP := hid (show ∀ e w', ReqPost W l e w' = (∃ v, e = .returned (.tuple #[.agg #[.int .i64 (u0.toNat : Int), .int .i64 (n2 : Int), .int .i64 (n3 : Int), v], .int .i64 0]) ∧ Own8 w' W.heap.size 5 v dd ∧ Below W.heap.size W w') from fun e w' => by
        unfold ReqPost getReq; rw [Hb.out]; simp only [H1.out, H2.out, H3.out, Hdd.out, hrb]; rfl)
      clear hrb
      have m0 := k9.cell (o := 0) rfl
      have m1 := k9.cell (o := 1) rfl
      have m2 := k9.cell (o := 2) rfl
      have m3 := k9.cell (o := 3) rfl
      have r0 := kR.cell (o := 0) rfl
      have f0 := kR.free 0
      have r1 := kR.cell (o := 1) rfl
      have f1 := kR.free 1
      have r2 := kR.cell (o := 2) rfl
      have f2 := kR.free 2
      have r3 := kR.cell (o := 3) rfl
      have f3 := kR.free 3
      obtain ⟨W7, hW7⟩ : ∃ W7, (((W9.setCell ⟨W.heap.size, 0, none⟩ (.int .i64 (u0.toNat : Int))).setCell ⟨W.heap.size, 1, none⟩ (.int .i64 (n2 : Int))).setCell ⟨W.heap.size, 2, none⟩ (.int .i64 (n3 : Int))).setCell ⟨W.heap.size, 3, none⟩ (.slice a7 dd.length c7) = W7 := ⟨_, rfl⟩
      have k7 := ((((kR.set (o := 0) (.int .i64 (u0.toNat : Int))).set (o := 1) (.int .i64 (n2 : Int))).set (o := 2) (.int .i64 (n3 : Int))).set (o := 3) (.slice a7 dd.length c7))
      rw [hW7] at k7
      simp only [List.setIfInBounds_toArray, List.set_cons_zero, List.set_cons_succ] at k7
      have x7 : Ext (fun b => b = W.heap.size) W9 W7 := by rw [← hW7]; exact ((((Ext.refl (fun b => b = W.heap.size) W9).setCell (.inl rfl) _).setCell (.inl rfl) _).setCell (.inl rfl) _).setCell (.inl rfl) _
      have o7 := own_set W9 W7 W.heap.size _ o9 kR x7 (by decide)
      have b7 : Below W.heap.size W W7 := bW.trans (x7.belowOf bW.size (fun b hb e => by omega))
      have HH := hid (And.intro k7 (And.intro o7 b7))
      have HW7 := hid hW7
      clear k7 o7 b7 x7 o9 k9 kR bW hW7
      go_wp2_with fail
      rw [HW7.out]
      have hld := run_loadVar_row (P := Try.prog) W7 W.heap.size 54 54 _ (0, 0) _ HH.out.1 Try.underlying54 rfl size_rq5
      refine bodyPost_ret (v := .tuple #[.agg #[.int .i64 (u0.toNat : Int), .int .i64 (n2 : Int), .int .i64 (n3 : Int), .slice a7 dd.length c7], .int .i64 0]) ?_ rfl ?_
      · simp [results, Try.results29, hld, asAddr]
      · rw [HP.out]; exact ⟨_, rfl, HH.out.2.1, HH.out.2.2⟩

set_option maxRecDepth 100000 in
set_option maxHeartbeats 3200000 in
theorem ref_GetReply (v : Value) (l : List UInt8) (W : World) (hv : Bs W v l) (hl : l.length ≤ 1073741824) :
    Calls Try.prog 31 #[v] W (RepPost W l) := by
  obtain ⟨a0, c0, rfl⟩ := hv.form
  have b1 : Below W.heap.size W (W.alloc (.cells #[.int .i64 0, .int .i64 0, .bool false, .slice none 0 0] 56)) := (Below.refl _ W).alloc (Nat.le_refl _) _
  have kR := Blk.new W #[.int .i64 0, .int .i64 0, .bool false, .slice none 0 0] 56
  have hbd := ref_framed _ l (W.alloc (.cells #[.int .i64 0, .int .i64 0, .bool false, .slice none 0 0] 56)) (hv.keep b1) hl 2 4 (by omega) (by omega)
  have HB := hid hbd
  clear hbd hv
  go_enter Try.func31, Try.ntmps31
  go_wp2_with fail
  refine HB.out.mono ?_
  intro e W2 hpost
  clear HB
  unfold BodyPost at hpost
  cases hb : bodyF l 2 4 with
  | none =>
    rw [hb] at hpost
    obtain ⟨v2, rfl, b2⟩ := hpost
    have HP := hid (show ∀ e w', RepPost W l e w' = (e = .returned (.tuple #[.agg #[.int .i64 0, .int .i64 0, .bool false, .slice none 0 0], .int .i64 22]) ∧ Below W.heap.size W w') from fun e w' => by unfold RepPost getRep; rw [hb])
    have kR := kR.keep b2
    have bW := b1.trans (b2.mono b1.size)
    clear hb b1 b2
    have m0 := kR.cell (o := 0) rfl
    have m1 := kR.cell (o := 1) rfl
    have m2 := kR.cell (o := 2) rfl
    have m3 := kR.cell (o := 3) rfl
    have f0 := kR.free 0
    have f1 := kR.free 1
    have f2 := kR.free 2
    have f3 := kR.free 3
    obtain ⟨W5, hW5⟩ : ∃ W5, (((W2.setCell ⟨W.heap.size, 0, none⟩ (.int .i64 0)).setCell ⟨W.heap.size, 1, none⟩ (.int .i64 0)).setCell ⟨W.heap.size, 2, none⟩ (.bool false)).setCell ⟨W.heap.size, 3, none⟩ (.slice none 0 0) = W5 := ⟨_, rfl⟩
    have k5 := (((kR.set (o := 0) (.int .i64 0)).set (o := 1) (.int .i64 0)).set (o := 2) (.bool false)).set (o := 3) (.slice none 0 0)
    rw [hW5] at k5
    simp only [List.setIfInBounds_toArray, List.set_cons_zero, List.set_cons_succ] at k5
    have b5 : Below W.heap.size W W5 := by rw [← hW5]; exact (((bW.setCell (p := ⟨W.heap.size, 0, none⟩) (by simp) _).setCell (p := ⟨W.heap.size, 1, none⟩) (by simp) _).setCell (p := ⟨W.heap.size, 2, none⟩) (by simp) _).setCell (p := ⟨W.heap.size, 3, none⟩) (by simp) _
    have HH := hid (And.intro k5 b5)
    have HW := hid hW5
    clear k5 b5 kR bW hW5
    go_wp2_with fail
    rw [HW.out]
    have hld := run_loadVar_row (P := Try.prog) W5 W.heap.size 56 56 _ (0, 0) _ HH.out.1 Try.underlying56 rfl size_rp5
    refine bodyPost_ret (v := .tuple #[.agg #[.int .i64 0, .int .i64 0, .bool false, .slice none 0 0], .int .i64 22]) ?_ rfl ?_
    · simp [results, Try.results31, hld, asAddr]
    · rw [HP.out]; exact ⟨rfl, HH.out.2⟩
  | some bd =>
    rw [hb] at hpost
    obtain ⟨v2, rfl, o2, b2⟩ := hpost
    have hbl := bodyF_len hb
    have bW := b1.trans (b2.mono b1.size)
    have kR := kR.keep b2
    rcases o2.bs.cases with ⟨_, h0⟩ | ⟨gx, ox, cx, rfl, hcx, hmx, hrx⟩
    · rw [h0] at hbl; simp at hbl
    have hlen := hid hbl
    obtain ⟨y0, hy0⟩ : ∃ y, bd[0]? = some y := ⟨bd[0], by simp⟩
    obtain ⟨y3, hy3⟩ : ∃ y, bd[3]? = some y := ⟨bd[3], by simp⟩
    have hc0 := hrx 0 _ hy0
    have hc3 := hrx 3 _ hy3
    have hn1 := num_one hy0
    have hn3 := num_one hy3
    have hlt0 := y0.toNat_lt
    have hlt3 := y3.toNat_lt
    unfold bv at hc0 hc3
    generalize y0.toNat = u0 at *
    generalize y3.toNat = u3 at *
    rw [Nat.add_zero] at hc0
    clear hy0 hy3 hrx b1 b2
    have hl3 : (3 : Int) < (bd.length : Int) := by omega
    by_cases hle : u3 ≤ 1
    · have hd9 : decide ((u3 : Int) > 1) = false := decide_eq_false (by omega)
      obtain ⟨slb, hsd⟩ : ∃ b, decide (u3 = 1) = b := ⟨_, rfl⟩
      have HSB := hid (show ((u3 : Int) == 1) = slb by rw [← hsd]; by_cases h : u3 = 1 <;> simp [h] <;> omega)
      have HSD := hid hsd
      have HLE := hid hle
      have hu0 := hid hlt0
      have HC0 := hid hc0
      have HC3 := hid hc3
      have H1 := hid hn1
      have H3 := hid hn3
      have HBW := hid bW
      have HR := hid kR
      have HV := hid o2.bs
      have Hb := hid hb
      have HSL := hid (fun (w : World) => run_slice_from (P := Try.prog) Try.underlying34 szu8 (some ⟨gx, ox, none⟩) bd.length cx 4 (by omega) (by omega) w)
      obtain ⟨dd, hdd⟩ : ∃ dd, bd.drop 4 = dd := ⟨_, rfl⟩
      have HSV := hid (hdd ▸ bs_from o2.bs 4 hbl.1)
      have hdl := hid (show dd.length ≤ 65536 by rw [← hdd]; simp; omega)
      have Hdd := hid hdd
      clear hdd hsd hn1 hn3 hc0 hlt0 bW kR o2 hb hle hbl
      go_wp2_with fail
      clear hc3 hd9 hl3
      refine wp_region_tail 14 rfl Grows (fun i v x => match i with
          | 0 => v = .slice (some ⟨gx, ox, none⟩) bd.length cx
          | 1 => v = .pointer (some ⟨gx, ox, none⟩)
          | 2 => v = .int .u8 (u0 : Int)
          | 3 => v = .int .i64 (u0 : Int)
          | 4 => v = .slice (some ⟨gx, ox, none⟩) bd.length cx
          | 5 => v = .pointer (some ⟨gx, ox + 3, none⟩)
          | 6 => v = .int .u8 (u3 : Int)
          | 7 => v = .bool slb
          | 8 => ∃ g, v = .slice (some ⟨g, 0, none⟩) 0 0 ∧ Own8 x W.heap.size 5 (.slice (some ⟨g, 0, none⟩) 0 0) []
          | 9 => v = .slice (some ⟨gx, ox, none⟩) bd.length cx
          | 10 => v = .slice (sla (some ⟨gx, ox, none⟩) cx 4) (bd.length - 4) (cx - 4)
          | 11 => Own8 x W.heap.size 5 v dd
          | 12 => ∃ a9 c9, v = .agg #[.int .i64 (u0 : Int), .int .i64 0, .bool slb, .slice a9 dd.length c9] ∧ Own8 x W.heap.size 5 (.slice a9 dd.length c9) dd
          | 13 => ∃ g, v = .pointer (some ⟨g, 0, none⟩) ∧ Blk x g #[.int .i64 0, .int .i64 0, .bool false, .slice none 0 0] 56 ∧ W2.heap.size ≤ g
          | _ => True) (by kernel_rfl) (Grows.refl _) Grows.trans ?rstab ?rsteps ?rfin
      case rstab =>
        intro i v x y hg h
        match i with
        | 0 | 1 | 2 | 3 | 4 | 5 | 6 | 7 | 9 | 10 => exact h
        | 8 => exact (by obtain ⟨g9, e9, h9⟩ := h; exact ⟨g9, e9, h9.keep hg⟩)
        | 11 => exact Own8.keep h hg
        | 12 => exact (by obtain ⟨a9, c9, e9, h9⟩ := h; exact ⟨a9, c9, e9, h9.keep hg⟩)
        | 13 => exact (by obtain ⟨g9, e9, h9, h10⟩ := h; exact ⟨g9, e9, h9.keep hg, h10⟩)
        | n + 14 => trivial
      case rsteps =>
        simp only [List.take_succ_cons, List.take_zero]
        refine ⟨?_, ?_, ?_, ?_, ?_, ?_, ?_, ?_, ?_, ?_, ?_, ?_, ?_, ?_, trivial⟩
        · intro a x hA
          have t4 := hA.at_ 4 (by first | rfl | kernel_rfl) rfl
          refine step_value (w' := x) (v := .slice (some ⟨gx, ox, none⟩) bd.length cx) ?_ (Grows.refl _) ?_
          · go_simp
          · rfl
        · intro a x hA
          have t21 : a.tmps[21]?.getD undef = .slice (some ⟨gx, ox, none⟩) bd.length cx := hA.dep_ ⟨0, .data⟩ (by simp) _ 21 rfl rfl
          have hlx := hlen.out
          have hlx3 : (3 : Int) < (bd.length : Int) := by omega
          have hne : ¬ bd = [] := by rintro rfl; simp at hlx
          refine step_value (w' := x) (v := .pointer (some ⟨gx, ox, none⟩)) ?_ (Grows.refl _) rfl
          go_simp
        · intro a x hA
          have t22 : a.tmps[22]?.getD undef = .pointer (some ⟨gx, ox, none⟩) := hA.dep_ ⟨1, .data⟩ (by simp) _ 22 rfl rfl
          have g0 : x.cell? ⟨gx, ox, none⟩ = some (.int .u8 (u0 : Int)) := by rw [hA.grown.cell (World.block_lt_of_cell? W2 _ HC0.out)]; exact HC0.out
          refine step_value (w' := x) (v := .int .u8 (u0 : Int)) ?_ (Grows.refl _) rfl
          go_simp
        · intro a x hA
          have t23 : a.tmps[23]?.getD undef = .int .u8 (u0 : Int) := hA.dep_ ⟨2, .data⟩ (by simp) _ 23 rfl rfl
          have hu := hu0.out
          have hw : IntKind.i64.wrap (u0 : Int) = (u0 : Int) := IntWalk.i64_in _ (by omega)
          refine step_value (w' := x) (v := .int .i64 (u0 : Int)) ?_ (Grows.refl _) rfl
          go_simp
        · intro a x hA
          have t4 := hA.at_ 4 (by first | rfl | kernel_rfl) rfl
          refine step_value (w' := x) (v := .slice (some ⟨gx, ox, none⟩) bd.length cx) ?_ (Grows.refl _) ?_
          · go_simp
          · rfl
        · intro a x hA
          have t25 : a.tmps[25]?.getD undef = .slice (some ⟨gx, ox, none⟩) bd.length cx := hA.dep_ ⟨4, .data⟩ (by simp) _ 25 rfl rfl
          have hlx := hlen.out
          have hlx3 : (3 : Int) < (bd.length : Int) := by omega
          have hne : ¬ bd = [] := by rintro rfl; simp at hlx
          refine step_value (w' := x) (v := .pointer (some ⟨gx, ox + 3, none⟩)) ?_ (Grows.refl _) rfl
          go_simp
        · intro a x hA
          have t26 : a.tmps[26]?.getD undef = .pointer (some ⟨gx, ox + 3, none⟩) := hA.dep_ ⟨5, .data⟩ (by simp) _ 26 rfl rfl
          have g0 : x.cell? ⟨gx, ox + 3, none⟩ = some (.int .u8 (u3 : Int)) := by rw [hA.grown.cell (World.block_lt_of_cell? W2 _ HC3.out)]; exact HC3.out
          refine step_value (w' := x) (v := .int .u8 (u3 : Int)) ?_ (Grows.refl _) rfl
          go_simp
        · intro a x hA
          have t27 : a.tmps[27]?.getD undef = .int .u8 (u3 : Int) := hA.dep_ ⟨6, .data⟩ (by simp) _ 27 rfl rfl
          have hsb := HSB.out
          refine step_value (w' := x) (v := .bool slb) ?_ (Grows.refl _) rfl
          go_simp
        · intro a x hA
          have hsx : W.heap.size ≤ x.heap.size := Nat.le_trans HBW.out.size hA.grow.size
          refine step_value (w' := x.alloc (.cells #[] 5)) (v := .slice (some ⟨x.heap.size, 0, none⟩) 0 0) (by go_simp) (Grows.alloc _ _) ?_
          exact ⟨_, rfl, own8_mk hsx (Blk.new x _ _) rfl (Nat.le_refl _) (by simp [maxLen]) rfl (by simp)⟩
        · intro a x hA
          have t4 := hA.at_ 4 (by first | rfl | kernel_rfl) rfl
          refine step_value (w' := x) (v := .slice (some ⟨gx, ox, none⟩) bd.length cx) ?_ (Grows.refl _) ?_
          · go_simp
          · rfl
        · intro a x hA
          have t30 : a.tmps[30]?.getD undef = .slice (some ⟨gx, ox, none⟩) bd.length cx := hA.dep_ ⟨9, .data⟩ (by simp) _ 30 rfl rfl
          have hsl := HSL.out x
          refine step_value (w' := x) (v := .slice (sla (some ⟨gx, ox, none⟩) cx 4) (bd.length - 4) (cx - 4)) ?_ (Grows.refl _) rfl
          go_simp
        · intro a x hA
          have t29 : ∃ g, (a.tmps[29]?.getD undef) = .slice (some ⟨g, 0, none⟩) 0 0 ∧ Own8 x W.heap.size 5 (.slice (some ⟨g, 0, none⟩) 0 0) [] := hA.dep_ ⟨8, .data⟩ (by simp) _ 29 rfl rfl
          have t31 : a.tmps[31]?.getD undef = .slice (sla (some ⟨gx, ox, none⟩) cx 4) (bd.length - 4) (cx - 4) := hA.dep_ ⟨10, .data⟩ (by simp) _ 31 rfl rfl
          obtain ⟨g1, e9, ho9⟩ := t29
          obtain ⟨i0, hi, hz0, hz1, hz2⟩ := info_parts info_u8
          have hsx : W.heap.size ≤ x.heap.size := Nat.le_trans HBW.out.size hA.grow.size
          have hvx := HSV.out.keep hA.grown
          obtain ⟨v', w', hr, q1, q2⟩ := run_append_empty (P := Try.prog) Try.underlying34 hi hz0 hz1 hz2 34 ho9 (.inl hvx) (by have := hdl.out; omega) hsx
          refine step_value (w' := w') (v := v') (exec_append rfl (by
            have e1 : a.eval (.tmp 29) = .slice (some ⟨g1, 0, none⟩) 0 0 := by simp [go_sem, e9]
            have e2 : a.eval (.tmp 31) = .slice (sla (some ⟨gx, ox, none⟩) cx 4) (bd.length - 4) (cx - 4) := by simp [go_sem, t31]
            rw [e1, e2]; exact hr)) q2 ?_
          exact q1
        · intro a x hA
          have t24 : a.tmps[24]?.getD undef = .int .i64 (u0 : Int) := hA.dep_ ⟨3, .data⟩ (by simp) _ 24 rfl rfl
          have t28 : a.tmps[28]?.getD undef = .bool slb := hA.dep_ ⟨7, .data⟩ (by simp) _ 28 rfl rfl
          have t32 : Own8 x W.heap.size 5 (a.tmps[32]?.getD undef) dd := hA.dep_ ⟨11, .data⟩ (by simp) _ 32 rfl rfl
          obtain ⟨a9, c9, e9⟩ := t32.form
          rw [e9] at t32
          refine step_value (w' := x) (v := .agg #[.int .i64 (u0 : Int), .int .i64 0, .bool slb, .slice a9 dd.length c9]) ?_ (Grows.refl _) ⟨a9, c9, rfl, t32⟩
          clear t32
          go_simp
        · intro a x hA
          have hs := hA.grow.size
          refine step_value (w' := x.alloc (.cells #[.int .i64 0, .int .i64 0, .bool false, .slice none 0 0] 56)) (v := .pointer (some ⟨x.heap.size, 0, none⟩)) ?_ (Grows.alloc _ _) ⟨_, rfl, Blk.new _ _ _, hs⟩
          go_simp
      case rfin =>
        intro y W' hg hV
        simp only [List.take_succ_cons, List.take_zero, AllVals] at hV
        obtain ⟨_, _, _, _, _, _, _, _, _, _, _, _, ub, ua, _⟩ := hV
        simp only [List.take_succ_cons, List.take_zero, List.drop_succ_cons, List.drop_zero, putAll, Act.put, List.setIfInBounds_toArray, List.set_cons_zero, List.set_cons_succ]
        obtain ⟨a9, c9, e9, o9⟩ := ub
        obtain ⟨g9, e10, k9, l9⟩ := ua
        rw [e9, e10]
        clear e9 e10
        have b2W : Below W2.heap.size W2 W' := Below.trans (below_of_drewN _ W2 1) hg
        have kR := HR.out.keep b2W
        clear hg
        have m0 := k9.cell (o := 0) rfl
        have f0 := k9.free 0
        have m1 := k9.cell (o := 1) rfl
        have f1 := k9.free 1
        have m2 := k9.cell (o := 2) rfl
        have f2 := k9.free 2
        have m3 := k9.cell (o := 3) rfl
        have f3 := k9.free 3
        obtain ⟨W5, hW5⟩ : ∃ W5, (((W'.setCell ⟨g9, 0, none⟩ (.int .i64 (u0 : Int))).setCell ⟨g9, 1, none⟩ (.int .i64 0)).setCell ⟨g9, 2, none⟩ (.bool slb)).setCell ⟨g9, 3, none⟩ (.slice a9 dd.length c9) = W5 := ⟨_, rfl⟩
        have x5 : Ext (fun b => b = g9) W' W5 := by rw [← hW5]; exact ((((Ext.refl (fun b => b = g9) W').setCell (.inl rfl) _).setCell (.inl rfl) _).setCell (.inl rfl) _).setCell (.inl rfl) _
        have k5 := ((((k9.set (o := 0) (.int .i64 (u0 : Int))).set (o := 1) (.int .i64 0)).set (o := 2) (.bool slb)).set (o := 3) (.slice a9 dd.length c9))
        rw [hW5] at k5
        simp only [List.setIfInBounds_toArray, List.set_cons_zero, List.set_cons_succ] at k5
        have hRg : W.heap.size ≠ g9 := by have := HR.out.lt; omega
        have hgW : W.heap.size ≤ g9 := by have := HBW.out.size; omega
        have kR := kR.ext x5 hRg
        have o5 : Own8 W5 W.heap.size 5 (.slice a9 dd.length c9) dd := own_set W' W5 g9 _ o9 k9 x5 (by decide)
        have b25 : Below W2.heap.size W2 W5 := b2W.trans (x5.belowOf b2W.size (fun b hb e => by have e2 : b = g9 := e; omega))
        have bs5 := HV.out.keep b25
        have HW5 := hid hW5
        clear hW5 o9 k9 x5 b2W
        go_wp2_with fail
        rw [HW5.out]
        clear HW5 m0 m1 m2 m3 f0 f1 f2 f3
        refine (ref_Get _ bd 1 2 W5 bs5 (by omega) (by omega) (by have := hlen.out; omega)).mono ?_
        rintro e Wx ⟨rfl, hw⟩
        rw [hw]
        clear hw Wx
        obtain ⟨n2, h2⟩ : ∃ n, numOf ((bd.drop 1).take 2) = n := ⟨_, rfl⟩
        rw [h2]
        have H2 := hid h2
        have c1 := k5.cell (o := 1) rfl
        have f1 := k5.free 1
        obtain ⟨W8, hW8⟩ : ∃ W8, W5.setCell ⟨g9, 1, none⟩ (.int .i64 (n2 : Int)) = W8 := ⟨_, rfl⟩
        have x8 : Ext (fun b => b = g9) W5 W8 := by rw [← hW8]; exact (Ext.refl (fun b => b = g9) W5).setCell (a := ⟨g9, 1, none⟩) (.inl rfl) _
        have k8 := k5.set (o := 1) (.int .i64 (n2 : Int))
        rw [hW8] at k8
        simp only [List.setIfInBounds_toArray, List.set_cons_zero, List.set_cons_succ] at k8
        have o8 := own_set W5 W8 g9 _ o5 k5 x8 (by decide)
        have kR := kR.ext x8 hRg
        have bW := (HBW.out.trans (b25.mono HBW.out.size)).trans (x8.belowOf (Nat.le_trans HBW.out.size b25.size) (fun b hb e => by have := HBW.out.size; have e2 : b = g9 := e; omega))
        have m0 := k8.cell (o := 0) rfl
        have m1 := k8.cell (o := 1) rfl
        have m2 := k8.cell (o := 2) rfl
        have m3 := k8.cell (o := 3) rfl
        have hdl := hdl.out
        clear h2 k5 o5 b25 bs5 x8
        go_wp2_with fail
        clear hW8 c1 f1 m0 m1 m2 m3
        refine (ref_tells _ _ _ a9 dd.length c9 W8 (by omega)).mono ?_
        rintro e W9 ⟨rfl, b9⟩
        have kR := kR.keep b9
        have bW := bW.trans (b9.mono bW.size)
        have o9 := o8.keep b9
        have k9 := k8.keep b9
        clear b9 o8 k8
        cases hrb : tellsB (u0 : Int) (n2 : Int) dd.length
        · have HP := hid (show ∀ e w', RepPost W l e w' = (e = .returned (.tuple #[.agg #[.int .i64 0, .int .i64 0, .bool false, .slice none 0 0], .int .i64 22]) ∧ Below W.heap.size W w') from fun e w' => by
            have h1 : numOf (bd.take 1) = u0 := H1.out
            have h2 : numOf ((bd.drop 1).take 2) = n2 := H2.out
            have h3 : numOf ((bd.drop 3).take 1) = u3 := H3.out
            unfold RepPost getRep; rw [Hb.out]; simp only [h1, h2, h3, Hdd.out, hrb, Bool.false_eq_true, and_false, if_false])
          clear hrb k9 o9
          have m0 := kR.cell (o := 0) rfl
          have m1 := kR.cell (o := 1) rfl
          have m2 := kR.cell (o := 2) rfl
          have m3 := kR.cell (o := 3) rfl
          have f0 := kR.free 0
          have f1 := kR.free 1
          have f2 := kR.free 2
          have f3 := kR.free 3
          obtain ⟨W5, hW5⟩ : ∃ W5, (((W9.setCell ⟨W.heap.size, 0, none⟩ (.int .i64 0)).setCell ⟨W.heap.size, 1, none⟩ (.int .i64 0)).setCell ⟨W.heap.size, 2, none⟩ (.bool false)).setCell ⟨W.heap.size, 3, none⟩ (.slice none 0 0) = W5 := ⟨_, rfl⟩
          have k5 := (((kR.set (o := 0) (.int .i64 0)).set (o := 1) (.int .i64 0)).set (o := 2) (.bool false)).set (o := 3) (.slice none 0 0)
          rw [hW5] at k5
          simp only [List.setIfInBounds_toArray, List.set_cons_zero, List.set_cons_succ] at k5
          have b5 : Below W.heap.size W W5 := by rw [← hW5]; exact (((bW.setCell (p := ⟨W.heap.size, 0, none⟩) (by simp) _).setCell (p := ⟨W.heap.size, 1, none⟩) (by simp) _).setCell (p := ⟨W.heap.size, 2, none⟩) (by simp) _).setCell (p := ⟨W.heap.size, 3, none⟩) (by simp) _
          have HH := hid (And.intro k5 b5)
          have HW := hid hW5
          clear k5 b5 kR bW hW5
          go_wp2_with fail
          rw [HW.out]
          have hld := run_loadVar_row (P := Try.prog) W5 W.heap.size 56 56 _ (0, 0) _ HH.out.1 Try.underlying56 rfl size_rp5
          refine bodyPost_ret (v := .tuple #[.agg #[.int .i64 0, .int .i64 0, .bool false, .slice none 0 0], .int .i64 22]) ?_ rfl ?_
          · simp [results, Try.results31, hld, asAddr]
          · rw [HP.out]; exact ⟨rfl, HH.out.2⟩
        · have HP := hid (show ∀ e w', RepPost W l e w' = (∃ v, e = .returned (.tuple #[.agg #[.int .i64 (u0 : Int), .int .i64 (n2 : Int), .bool slb, v], .int .i64 0]) ∧ Own8 w' W.heap.size 5 v dd ∧ Below W.heap.size W w') from fun e w' => by
            have h1 : numOf (bd.take 1) = u0 := H1.out
            have h2 : numOf ((bd.drop 1).take 2) = n2 := H2.out
            have h3 : numOf ((bd.drop 3).take 1) = u3 := H3.out
            have h4 : decide (u3 = 1) = slb := HSD.out
            unfold RepPost getRep; rw [Hb.out]; simp only [h1, h2, h3, Hdd.out, hrb, h4, HLE.out, and_self, if_true])
          clear hrb
          have m0 := k9.cell (o := 0) rfl
          have m1 := k9.cell (o := 1) rfl
          have m2 := k9.cell (o := 2) rfl
          have m3 := k9.cell (o := 3) rfl
          have r0 := kR.cell (o := 0) rfl
          have f0 := kR.free 0
          have r1 := kR.cell (o := 1) rfl
          have f1 := kR.free 1
          have r2 := kR.cell (o := 2) rfl
          have f2 := kR.free 2
          have r3 := kR.cell (o := 3) rfl
          have f3 := kR.free 3
          obtain ⟨W7, hW7⟩ : ∃ W7, (((W9.setCell ⟨W.heap.size, 0, none⟩ (.int .i64 (u0 : Int))).setCell ⟨W.heap.size, 1, none⟩ (.int .i64 (n2 : Int))).setCell ⟨W.heap.size, 2, none⟩ (.bool slb)).setCell ⟨W.heap.size, 3, none⟩ (.slice a9 dd.length c9) = W7 := ⟨_, rfl⟩
          have k7 := ((((kR.set (o := 0) (.int .i64 (u0 : Int))).set (o := 1) (.int .i64 (n2 : Int))).set (o := 2) (.bool slb)).set (o := 3) (.slice a9 dd.length c9))
          rw [hW7] at k7
          simp only [List.setIfInBounds_toArray, List.set_cons_zero, List.set_cons_succ] at k7
          have x7 : Ext (fun b => b = W.heap.size) W9 W7 := by rw [← hW7]; exact ((((Ext.refl (fun b => b = W.heap.size) W9).setCell (.inl rfl) _).setCell (.inl rfl) _).setCell (.inl rfl) _).setCell (.inl rfl) _
          have o7 := own_set W9 W7 W.heap.size _ o9 kR x7 (by decide)
          have b7 : Below W.heap.size W W7 := bW.trans (x7.belowOf bW.size (fun b hb e => by omega))
          have HH := hid (And.intro k7 (And.intro o7 b7))
          have HW7 := hid hW7
          clear k7 o7 b7 x7 o9 k9 kR bW hW7
          go_wp2_with fail
          rw [HW7.out]
          have hld := run_loadVar_row (P := Try.prog) W7 W.heap.size 56 56 _ (0, 0) _ HH.out.1 Try.underlying56 rfl size_rp5
          refine bodyPost_ret (v := .tuple #[.agg #[.int .i64 (u0 : Int), .int .i64 (n2 : Int), .bool slb, .slice a9 dd.length c9], .int .i64 0]) ?_ rfl ?_
          · simp [results, Try.results31, hld, asAddr]
          · rw [HP.out]; exact ⟨_, rfl, HH.out.2.1, HH.out.2.2⟩
    · have hd9 : decide ((u3 : Int) > 1) = true := decide_eq_true (by omega)
      have HP := hid (show ∀ e w', RepPost W l e w' = (e = .returned (.tuple #[.agg #[.int .i64 0, .int .i64 0, .bool false, .slice none 0 0], .int .i64 22]) ∧ Below W.heap.size W w') from fun e w' => by unfold RepPost getRep; rw [hb]; simp only [hn3, hle, false_and, if_false])
      clear hb hn1 hn3 o2 hc0
      have m0 := kR.cell (o := 0) rfl
      have m1 := kR.cell (o := 1) rfl
      have m2 := kR.cell (o := 2) rfl
      have m3 := kR.cell (o := 3) rfl
      have f0 := kR.free 0
      have f1 := kR.free 1
      have f2 := kR.free 2
      have f3 := kR.free 3
      obtain ⟨W5, hW5⟩ : ∃ W5, (((W2.setCell ⟨W.heap.size, 0, none⟩ (.int .i64 0)).setCell ⟨W.heap.size, 1, none⟩ (.int .i64 0)).setCell ⟨W.heap.size, 2, none⟩ (.bool false)).setCell ⟨W.heap.size, 3, none⟩ (.slice none 0 0) = W5 := ⟨_, rfl⟩
      have k5 := (((kR.set (o := 0) (.int .i64 0)).set (o := 1) (.int .i64 0)).set (o := 2) (.bool false)).set (o := 3) (.slice none 0 0)
      rw [hW5] at k5
      simp only [List.setIfInBounds_toArray, List.set_cons_zero, List.set_cons_succ] at k5
      have b5 : Below W.heap.size W W5 := by rw [← hW5]; exact (((bW.setCell (p := ⟨W.heap.size, 0, none⟩) (by simp) _).setCell (p := ⟨W.heap.size, 1, none⟩) (by simp) _).setCell (p := ⟨W.heap.size, 2, none⟩) (by simp) _).setCell (p := ⟨W.heap.size, 3, none⟩) (by simp) _
      have HH := hid (And.intro k5 b5)
      have HW := hid hW5
      clear k5 b5 kR bW hW5
      go_wp2_with fail
      rw [HW.out]
      have hld := run_loadVar_row (P := Try.prog) W5 W.heap.size 56 56 _ (0, 0) _ HH.out.1 Try.underlying56 rfl size_rp5
      refine bodyPost_ret (v := .tuple #[.agg #[.int .i64 0, .int .i64 0, .bool false, .slice none 0 0], .int .i64 22]) ?_ rfl ?_
      · simp [results, Try.results31, hld, asAddr]
      · rw [HP.out]; exact ⟨rfl, HH.out.2⟩
end Go.Proofs.Ytbofcocfcmlcaaa
