import Derived.Test.YtbahjinlcbjikaaGreatQLog3
/-! Package loglet: Append, Trim. -/
namespace Go.Proofs.YtbahjinlcbjikaaGreat
open Go.RowKit

/-- What a call leaves: the link holds s', its blocks are its own ones and new ones. -/
def LkPost (W : World) (L : Nat) (p : LkP) (s' : LkS) (w' : World) : Prop := ∃ p', LkAt w' L p' s' ∧ (∀ b, p'.all L b → p.all L b ∨ W.heap.size ≤ b) ∧ Ext (p.all L) W w'
theorem is_lit {W : World} {g c : Nat} {t : TypeId} {es : List Int} (h : Blk W g (es.map iv).toArray t) : Is W (.slice (some ⟨g, 0, none⟩) es.length c) es := by
  refine ⟨_, _, rfl, fun i x hi => ⟨g, 0, rfl, ?_⟩⟩
  refine h.cell (o := 0 + i) ?_
  simp [hi]

section
variable {W : World} {L : Nat} {p : LkP} {s : LkS}

set_option maxRecDepth 100000 in
set_option maxHeartbeats 6400000 in
theorem log_Append (h : LkAt W L p s) (hpr : s.room 1073741824) (iz : Int) (nv : Value) (nodes : List Int) (pos : Int) (dv : Value) (l : List UInt8) (hm : mayB s ⟨iz, nodes⟩ pos 4095 = true) (hl : l.length ≤ 65504) (hd : Bs W dv l) (k5 : ∀ g, dv.ownBlock = some g → ¬ p.all L g ∧ g < W.heap.size) (hn : Is W nv nodes) (hnl : nodes.length ≤ 1073741824) (k4 : ∀ g, nv.ownBlock = some g → ¬ p.all L g ∧ g < W.heap.size) :
    Calls Tryz.prog 18 #[.pointer (some ⟨L, 0, none⟩), .agg #[.int .i64 iz, nv], .int .i64 pos, dv] W fun e w' => e = .returned (.int .i64 (appendL s ⟨iz, nodes⟩ pos l).1) ∧ LkPost W L p (appendL s ⟨iz, nodes⟩ pos l).2 w' := by
  obtain ⟨R, hR⟩ : ∃ R, repliesL s 1 iz pos (l) nodes = R := ⟨_, rfl⟩
  obtain ⟨q, hq⟩ : ∃ q : Int, ((nodes.length / 2 + 1 : Nat) : Int) = q := ⟨_, rfl⟩
  obtain ⟨z, hz⟩ : ∃ z : Int, (cntE 0 R.1 : Int) = z := ⟨_, rfl⟩
  obtain ⟨bq, hbq⟩ : ∃ b, decide (z ≥ q) = b := ⟨_, rfl⟩
  have hS : appendL s ⟨iz, nodes⟩ pos l = (if bq = true then 0 else firstE [30, 31, 32, 7] R.1, R.2) := by
    unfold appendL
    rw [if_pos hm, if_neg (by omega), hR, ← hbq, ← hz, ← hq]
    unfold Cfg.quorum
    simp only [ge_iff_le, Int.ofNat_le, decide_eq_true_eq]
  rw [hS]
  clear hS
  obtain ⟨na, nc, hnv⟩ : ∃ a c, nv = .slice a nodes.length c := by obtain ⟨a, c, e, _⟩ := hn; exact ⟨a, c, e⟩
  subst hnv
  obtain ⟨da, dc, hdv⟩ := hd.form
  subst hdv
  have HD := hid (And.intro hd k5)
  clear hd k5
  have HZ := hid hz
  have HQ := hid hq
  obtain ⟨W1, hW1⟩ : ∃ W1, W.alloc (.cells #[.int .i64 iz, .slice na nodes.length nc] 24) = W1 := ⟨_, rfl⟩
  have B1 : Blk W1 W.heap.size #[.int .i64 iz, .slice na nodes.length nc] 24 := by rw [← hW1]; exact Blk.new _ _ _
  have b1 : Below W.heap.size W W1 := by rw [← hW1]; exact (Below.refl _ _).alloc (Nat.le_refl _) _
  have c0 := B1.cell (o := 0) rfl
  have c1 := B1.cell (o := 1) rfl
  have hs1 : W1.heap.size = W.heap.size + 1 := by rw [← hW1]; simp
  have HMAY := hid (link_may (h.keep b1) iz _ nodes pos 4095 (hn.keep b1) hnl hm)
  have HPL := hid (show ∀ b, p.all L b → b < W.heap.size from fun b hb => h.size hb)
  have HH := hid (And.intro h (And.intro hn k4))
  clear hn k4 h hz hq hm
  go_enter Tryz.func18, Tryz.ntmps18
  go_wp2_with fail
  refine HMAY.out.mono ?_
  rintro e W2 ⟨rfl, b2⟩
  clear HMAY hW1 c0 c1
  have B2 := B1.keep b2
  have b02 := b1.trans (b2.mono b1.size)
  have hs2 := b2.size
  have c0 := B2.cell (o := 0) rfl
  have c1 := B2.cell (o := 1) rfl
  have HB := hid (And.intro B2 b02)
  clear B1 b1 b2 B2 b02
  have hl9 : (l.length : Int) ≤ 65504 := by omega
  go_wp2_with fail
  refine (log_ask_nil (HH.out.1.keep HB.out.2) hpr iz 1 0 pos (.slice na nodes.length nc) (.slice da l.length dc) nodes (l) (HH.out.2.1.keep HB.out.2) (HD.out.1.keep HB.out.2) hnl (fun g hg => ⟨(HH.out.2.2 g hg).1, by have := (HH.out.2.2 g hg).2; omega⟩) (fun g hg => ⟨(HD.out.2 g hg).1, by have := (HD.out.2 g hg).2; omega⟩)).mono ?_
  rw [hR]
  rintro e W3 ⟨m, p', rfl, hmm, hT, hL, hgr, hnm, _, hx⟩
  have hx2 : Ext (p.all L) W W3 := (Ext.ofBelow HB.out.2).trans hx (fun b hb => .inl (hb.elim id False.elim))
  have HTB := hid hT
  have HBX := hid (HB.out.1.ext hx (fun hc => by have := HPL.out _ (hc.elim id False.elim); omega))
  have HL := hid (And.intro hL (And.intro (fun b hb => (hgr b hb).imp id (fun h9 : W2.heap.size ≤ b => (by omega : W.heap.size ≤ b)) : ∀ b, p'.all L b → p.all L b ∨ W.heap.size ≤ b) hx2))
  clear hT hL hgr hx hx2 hnm c0 c1
  go_wp2_with fail
  refine wp_region_inv rfl Grows (fun i v x => match i with
      | 0 => v = .map (some m)
      | 1 => v = .int .i64 z
      | 2 => v = .agg #[.int .i64 iz, .slice na nodes.length nc]
      | 3 => v = .int .i64 q
      | 4 => v = .bool bq
      | _ => True) (by kernel_rfl) (Grows.refl _) Grows.trans ?rstab ?rsteps ?rfin
  case rstab =>
    intro i v x y hg h
    match i with
    | 0 | 1 | 2 | 3 | 4 => exact h
    | n + 5 => trivial
  case rsteps =>
    refine ⟨?_, ?_, ?_, ?_, ?_, trivial⟩
    · intro a x hA
      have t9 := hA.at_ 9 (by first | rfl | kernel_rfl) rfl
      refine step_value (w' := x) (v := .map (some m)) ?_ (Grows.refl _) ?_
      · go_simp
      · rfl
    · intro a x hA
      have t26 : a.tmps[26]?.getD undef = .map (some m) := hA.dep_ ⟨0, .data⟩ (by simp) _ 26 rfl rfl
      have hBx := HBX.out.keep hA.grown
      have hc0 := hBx.cell (o := 0) rfl
      have hc1 := hBx.cell (o := 1) rfl
      clear hBx
      have hlk := (HTB.out.keep hA.grown).look (P := Tryz.prog) Tryz.underlying102 Tryz.underlying28 (fun w => by kernel_rfl) 0
      unfold cntF at hlk
      rw [HZ.out] at hlk
      refine step_value (w' := x) (v := .int .i64 z) ?_ (Grows.refl _) ?_
      · clear hc0 hc1
        go_simp
      · rfl
    · intro a x hA
      have t5 := hA.at_ 5 (by first | rfl | kernel_rfl) rfl
      have hBx := HBX.out.keep hA.grown
      have hc0 := hBx.cell (o := 0) rfl
      have hc1 := hBx.cell (o := 1) rfl
      clear hBx
      refine step_value (w' := x) (v := .agg #[.int .i64 iz, .slice na nodes.length nc]) ?_ (Grows.refl _) ?_
      · go_simp
      · rfl
    · intro a x hA
      have t28 : a.tmps[28]?.getD undef = .agg #[.int .i64 iz, .slice na nodes.length nc] := hA.dep_ ⟨2, .data⟩ (by simp) _ 28 rfl rfl
      have hBx := HBX.out.keep hA.grown
      have hc0 := hBx.cell (o := 0) rfl
      have hc1 := hBx.cell (o := 1) rfl
      clear hBx
      have hcq := log_Quorum (W := x) iz na nodes.length nc (by omega)
      rw [HQ.out] at hcq
      refine step_call (f := 9) (args := #[.agg #[.int .i64 iz, .slice na nodes.length nc]]) (by clear hc0 hc1 hcq; go_simp) (hcq.mono ?_)
      rintro e w' ⟨rfl, hb⟩
      exact ⟨_, rfl, grows_of_below hb, rfl⟩
    · intro a x hA
      have t27 : a.tmps[27]?.getD undef = .int .i64 z := hA.dep_ ⟨1, .data⟩ (by simp) _ 27 rfl rfl
      have t29 : a.tmps[29]?.getD undef = .int .i64 q := hA.dep_ ⟨3, .data⟩ (by simp) _ 29 rfl rfl
      refine step_value (w' := x) (v := .bool bq) ?_ (Grows.refl _) ?_
      · go_simp
      · rfl
  case rfin =>
    intro y W' hg hV
    simp only [AllVals] at hV
    obtain ⟨_, _, _, _, hA9, _⟩ := hV
    have hb := grows_below hg
    clear hg
    simp only [putAll, Act.put, List.setIfInBounds_toArray, List.set_cons_zero, List.set_cons_succ]
    rw [hA9]
    clear hA9
    have HB5 := hid hb
    clear hb
    cases bq
    · have hTs := HTB.out.keep HB5.out
      obtain ⟨W5, hW5⟩ : ∃ W5, W'.alloc (.cells #[.int .i64 30, .int .i64 31, .int .i64 32, .int .i64 7] 28) = W5 := ⟨_, rfl⟩
      have b5 : Below W'.heap.size W' W5 := by rw [← hW5]; exact (Below.refl _ _).alloc (Nat.le_refl _) _
      have k5 : Blk W5 W'.heap.size #[.int .i64 30, .int .i64 31, .int .i64 32, .int .i64 7] 28 := by rw [← hW5]; exact Blk.new _ _ _
      have HF := hid (tally_first m R.1 (.slice (some ⟨W'.heap.size, 0, none⟩) 4 4) [30, 31, 32, 7] (hTs.keep b5) (is_lit (es := [30, 31, 32, 7]) k5) (by simp))
      clear hTs k5
      go_wp2_with fail
      refine HF.out.mono ?_
      rintro e W6 ⟨rfl, hw6⟩
      subst hw6
      clear hW5
      go_wp2_with fail
      go_ret
      obtain ⟨g1, g2, g3⟩ := HL.out
      have b35 := HB5.out.trans (b5.mono HB5.out.size)
      exact ⟨rfl, p', g1.keep b35, g2, g3.trans (Ext.ofBelow b35 (fp := p.all L)) (fun b hb => .inl hb)⟩
    · go_wp2_with fail
      go_ret
      obtain ⟨g1, g2, g3⟩ := HL.out
      exact ⟨rfl, p', g1.keep HB5.out, g2, g3.trans (Ext.ofBelow HB5.out (fp := p.all L)) (fun b hb => .inl hb)⟩

set_option maxRecDepth 100000 in
set_option maxHeartbeats 6400000 in
theorem log_Trim (h : LkAt W L p s) (hpr : s.room 1073741824) (iz : Int) (nv : Value) (nodes : List Int) (pos : Int) (hm : mayB s ⟨iz, nodes⟩ pos 4096 = true) (hn : Is W nv nodes) (hnl : nodes.length ≤ 1073741824) (k4 : ∀ g, nv.ownBlock = some g → ¬ p.all L g ∧ g < W.heap.size) :
    Calls Tryz.prog 21 #[.pointer (some ⟨L, 0, none⟩), .agg #[.int .i64 iz, nv], .int .i64 pos] W fun e w' => e = .returned (.int .i64 (trimL s ⟨iz, nodes⟩ pos).1) ∧ LkPost W L p (trimL s ⟨iz, nodes⟩ pos).2 w' := by
  obtain ⟨R, hR⟩ : ∃ R, repliesL s 6 iz pos ([]) nodes = R := ⟨_, rfl⟩
  obtain ⟨q, hq⟩ : ∃ q : Int, ((nodes.length / 2 + 1 : Nat) : Int) = q := ⟨_, rfl⟩
  obtain ⟨z, hz⟩ : ∃ z : Int, (cntE 0 R.1 : Int) = z := ⟨_, rfl⟩
  obtain ⟨bq, hbq⟩ : ∃ b, decide (z ≥ q) = b := ⟨_, rfl⟩
  have hS : trimL s ⟨iz, nodes⟩ pos = (if bq = true then 0 else firstE [7] R.1, R.2) := by
    unfold trimL
    rw [if_pos hm, hR, ← hbq, ← hz, ← hq]
    unfold Cfg.quorum
    simp only [ge_iff_le, Int.ofNat_le, decide_eq_true_eq]
  rw [hS]
  clear hS
  obtain ⟨na, nc, hnv⟩ : ∃ a c, nv = .slice a nodes.length c := by obtain ⟨a, c, e, _⟩ := hn; exact ⟨a, c, e⟩
  subst hnv
  have HZ := hid hz
  have HQ := hid hq
  obtain ⟨W1, hW1⟩ : ∃ W1, W.alloc (.cells #[.int .i64 iz, .slice na nodes.length nc] 24) = W1 := ⟨_, rfl⟩
  have B1 : Blk W1 W.heap.size #[.int .i64 iz, .slice na nodes.length nc] 24 := by rw [← hW1]; exact Blk.new _ _ _
  have b1 : Below W.heap.size W W1 := by rw [← hW1]; exact (Below.refl _ _).alloc (Nat.le_refl _) _
  have c0 := B1.cell (o := 0) rfl
  have c1 := B1.cell (o := 1) rfl
  have hs1 : W1.heap.size = W.heap.size + 1 := by rw [← hW1]; simp
  have HMAY := hid (link_may (h.keep b1) iz _ nodes pos 4096 (hn.keep b1) hnl hm)
  have HPL := hid (show ∀ b, p.all L b → b < W.heap.size from fun b hb => h.size hb)
  have HH := hid (And.intro h (And.intro hn k4))
  clear hn k4 h hz hq hm
  go_enter Tryz.func21, Tryz.ntmps21
  go_wp2_with fail
  refine HMAY.out.mono ?_
  rintro e W2 ⟨rfl, b2⟩
  clear HMAY hW1 c0 c1
  have B2 := B1.keep b2
  have b02 := b1.trans (b2.mono b1.size)
  have hs2 := b2.size
  have c0 := B2.cell (o := 0) rfl
  have c1 := B2.cell (o := 1) rfl
  have HB := hid (And.intro B2 b02)
  clear B1 b1 b2 B2 b02
  go_wp2_with fail
  refine (log_ask_nil (HH.out.1.keep HB.out.2) hpr iz 6 0 pos (.slice na nodes.length nc) (.slice none 0 0) nodes ([]) (HH.out.2.1.keep HB.out.2) (Bs.nil _) hnl (fun g hg => ⟨(HH.out.2.2 g hg).1, by have := (HH.out.2.2 g hg).2; omega⟩) (fun g hg => by cases hg)).mono ?_
  rw [hR]
  rintro e W3 ⟨m, p', rfl, hmm, hT, hL, hgr, hnm, _, hx⟩
  have hx2 : Ext (p.all L) W W3 := (Ext.ofBelow HB.out.2).trans hx (fun b hb => .inl (hb.elim id False.elim))
  have HTB := hid hT
  have HBX := hid (HB.out.1.ext hx (fun hc => by have := HPL.out _ (hc.elim id False.elim); omega))
  have HL := hid (And.intro hL (And.intro (fun b hb => (hgr b hb).imp id (fun h9 : W2.heap.size ≤ b => (by omega : W.heap.size ≤ b)) : ∀ b, p'.all L b → p.all L b ∨ W.heap.size ≤ b) hx2))
  clear hT hL hgr hx hx2 hnm c0 c1
  go_wp2_with fail
  refine wp_region_inv rfl Grows (fun i v x => match i with
      | 0 => v = .map (some m)
      | 1 => v = .int .i64 z
      | 2 => v = .agg #[.int .i64 iz, .slice na nodes.length nc]
      | 3 => v = .int .i64 q
      | 4 => v = .bool bq
      | _ => True) (by kernel_rfl) (Grows.refl _) Grows.trans ?rstab ?rsteps ?rfin
  case rstab =>
    intro i v x y hg h
    match i with
    | 0 | 1 | 2 | 3 | 4 => exact h
    | n + 5 => trivial
  case rsteps =>
    refine ⟨?_, ?_, ?_, ?_, ?_, trivial⟩
    · intro a x hA
      have t7 := hA.at_ 7 (by first | rfl | kernel_rfl) rfl
      refine step_value (w' := x) (v := .map (some m)) ?_ (Grows.refl _) ?_
      · go_simp
      · rfl
    · intro a x hA
      have t18 : a.tmps[18]?.getD undef = .map (some m) := hA.dep_ ⟨0, .data⟩ (by simp) _ 18 rfl rfl
      have hBx := HBX.out.keep hA.grown
      have hc0 := hBx.cell (o := 0) rfl
      have hc1 := hBx.cell (o := 1) rfl
      clear hBx
      have hlk := (HTB.out.keep hA.grown).look (P := Tryz.prog) Tryz.underlying102 Tryz.underlying28 (fun w => by kernel_rfl) 0
      unfold cntF at hlk
      rw [HZ.out] at hlk
      refine step_value (w' := x) (v := .int .i64 z) ?_ (Grows.refl _) ?_
      · clear hc0 hc1
        go_simp
      · rfl
    · intro a x hA
      have t4 := hA.at_ 4 (by first | rfl | kernel_rfl) rfl
      have hBx := HBX.out.keep hA.grown
      have hc0 := hBx.cell (o := 0) rfl
      have hc1 := hBx.cell (o := 1) rfl
      clear hBx
      refine step_value (w' := x) (v := .agg #[.int .i64 iz, .slice na nodes.length nc]) ?_ (Grows.refl _) ?_
      · go_simp
      · rfl
    · intro a x hA
      have t20 : a.tmps[20]?.getD undef = .agg #[.int .i64 iz, .slice na nodes.length nc] := hA.dep_ ⟨2, .data⟩ (by simp) _ 20 rfl rfl
      have hBx := HBX.out.keep hA.grown
      have hc0 := hBx.cell (o := 0) rfl
      have hc1 := hBx.cell (o := 1) rfl
      clear hBx
      have hcq := log_Quorum (W := x) iz na nodes.length nc (by omega)
      rw [HQ.out] at hcq
      refine step_call (f := 9) (args := #[.agg #[.int .i64 iz, .slice na nodes.length nc]]) (by clear hc0 hc1 hcq; go_simp) (hcq.mono ?_)
      rintro e w' ⟨rfl, hb⟩
      exact ⟨_, rfl, grows_of_below hb, rfl⟩
    · intro a x hA
      have t19 : a.tmps[19]?.getD undef = .int .i64 z := hA.dep_ ⟨1, .data⟩ (by simp) _ 19 rfl rfl
      have t21 : a.tmps[21]?.getD undef = .int .i64 q := hA.dep_ ⟨3, .data⟩ (by simp) _ 21 rfl rfl
      refine step_value (w' := x) (v := .bool bq) ?_ (Grows.refl _) ?_
      · go_simp
      · rfl
  case rfin =>
    intro y W' hg hV
    simp only [AllVals] at hV
    obtain ⟨_, _, _, _, hA9, _⟩ := hV
    have hb := grows_below hg
    clear hg
    simp only [putAll, Act.put, List.setIfInBounds_toArray, List.set_cons_zero, List.set_cons_succ]
    rw [hA9]
    clear hA9
    have HB5 := hid hb
    clear hb
    cases bq
    · have hTs := HTB.out.keep HB5.out
      obtain ⟨W5, hW5⟩ : ∃ W5, W'.alloc (.cells #[.int .i64 7] 28) = W5 := ⟨_, rfl⟩
      have b5 : Below W'.heap.size W' W5 := by rw [← hW5]; exact (Below.refl _ _).alloc (Nat.le_refl _) _
      have k5 : Blk W5 W'.heap.size #[.int .i64 7] 28 := by rw [← hW5]; exact Blk.new _ _ _
      have HF := hid (tally_first m R.1 (.slice (some ⟨W'.heap.size, 0, none⟩) 1 1) [7] (hTs.keep b5) (is_lit (es := [7]) k5) (by simp))
      clear hTs k5
      go_wp2_with fail
      refine HF.out.mono ?_
      rintro e W6 ⟨rfl, hw6⟩
      subst hw6
      clear hW5
      go_wp2_with fail
      go_ret
      obtain ⟨g1, g2, g3⟩ := HL.out
      have b35 := HB5.out.trans (b5.mono HB5.out.size)
      exact ⟨rfl, p', g1.keep b35, g2, g3.trans (Ext.ofBelow b35 (fp := p.all L)) (fun b hb => .inl hb)⟩
    · go_wp2_with fail
      go_ret
      obtain ⟨g1, g2, g3⟩ := HL.out
      exact ⟨rfl, p', g1.keep HB5.out, g2, g3.trans (Ext.ofBelow HB5.out (fp := p.all L)) (fun b hb => .inl hb)⟩
end
end Go.Proofs.YtbahjinlcbjikaaGreat
