import Derived.Test.YtcdcjoofcbdilaaGreatMRgG
/-! Package register: hear, its walk. -/
namespace Go.Proofs.YtcdcjoofcbdilaaGreat
open Go.RowKit
attribute [local go_sem] Oper.semAt_some

section
variable {W : World} {L : Nat} {p : RgL} {s : RgS}
set_option maxRecDepth 100000 in
theorem reg_all (L : Nat) (k key ver bal : Int) (da : Option Addr) (dn dc : Nat) :
    Calls Tryz.prog 53 #[.pointer (some ⟨L, 0, none⟩), .agg #[.int .i64 k, .int .i64 key, .int .i64 ver, .int .i64 bal, .slice da dn dc]] W fun e w' => e = .returned (.func (.func 94) #[] #[.pointer (some ⟨W.heap.size, 0, none⟩), .pointer (some ⟨W.heap.size + 1, 0, none⟩)]) ∧
      w' = (W.alloc (.cells #[.pointer (some ⟨L, 0, none⟩)] 23)).alloc (.cells #[.int .i64 k, .int .i64 key, .int .i64 ver, .int .i64 bal, .slice da dn dc] 48) := by
  go_enter Tryz.func53, Tryz.ntmps53
  go_wp2_with fail
  go_ret
  exact ⟨rfl, rfl⟩

theorem allR_length {k key ver bal : Int} {l : List UInt8} : ∀ (ns : List Int) (s : RgS), (allR s k key ver bal l ns).1.length ≤ ns.length
  | [], s => by simp [allR]
  | n :: r, s => by
    have h2 := allR_length (k := k) (key := key) (ver := ver) (bal := bal) (l := l) r (askR s n k key ver bal l).2
    show ((askR s n k key ver bal l).1.toList ++ (allR (askR s n k key ver bal l).2 k key ver bal l r).1).length ≤ r.length + 1
    rw [List.length_append]
    have : (askR s n k key ver bal l).1.toList.length ≤ 1 := by cases (askR s n k key ver bal l).1 <;> simp
    omega
theorem size_heard : (Tryz.prog.info? 84).map (·.size) = some 5 := by kernel_rfl
/-- Hear, between two answers. -/
def HearI (W : World) (L : Nat) (p : RgL) (n0 : Nat) (rs : List An) (al : Nat → Prop) (WX : World) : Prop :=
  ∃ gv lp, Blk WX (n0 + 2) #[gv, lp, .int .i64 (promR rs), .bool (accR rs), .bool (fullR rs)] 84 ∧ GoodAt WX al (n0 + 7) gv (goodR rs) ∧ LearnAt WX al (n0 + 7) gv lp (learnR rs) ∧
    Blk WX (n0 + 1) #[.slice none 0 0, .pointer none, .int .i64 0, .bool false, .bool false] 84 ∧ (∀ b, al b → p.all L b ∨ n0 + 5 ≤ b) ∧ Ext (p.all L) W WX ∧ n0 + 5 ≤ WX.heap.size
theorem HearI.move {n0 : Nat} {rs : List An} {al al' : Nat → Prop} {A B : World} (h : HearI W L p n0 rs al A) (hn : W.heap.size ≤ n0) (hpl : ∀ b, p.all L b → b < W.heap.size) (he : Ext (fun b => al b ∨ (n0 + 5 ≤ b ∧ b < n0 + 7)) A B) (hg : ∀ b, al' b → al b ∨ A.heap.size ≤ b) : HearI W L p n0 rs al' B := by
  obtain ⟨gv, lp, h1, h2, h3, h4, h5, h6, h7⟩ := h
  have hno : ∀ b, n0 ≤ b → b < n0 + 5 → ¬ (al b ∨ (n0 + 5 ≤ b ∧ b < n0 + 7)) := fun b hb1 hb2 hc => by
    rcases hc with hc | hc
    · rcases h5 b hc with h9 | h9
      · have := hpl b h9; omega
      · omega
    · omega
  refine ⟨gv, lp, h1.ext he (hno _ (by omega) (by omega)), h2.move he (fun b hb => hb.imp id (fun h => .inl h.2)) hg, h3.move h2.typed he (fun b hb => hb.imp id (fun h => .inl h.2)) hg (fun b h => .inl h), h4.ext he (hno _ (by omega) (by omega)), fun b hb => (hg b hb).elim (h5 b) (fun h => .inr (by omega)), h6.trans he (fun b hb => ?_), Nat.le_trans h7 he.size⟩
  rcases hb with hb | hb
  · exact (h5 b hb).imp id (fun h => by omega)
  · exact .inr (by omega)
def HearPost (W : World) (L : Nat) (p : RgL) (R : List An × RgS) (e : Ending) (w' : World) : Prop :=
  ∃ p' gv lp, e = .returned (.agg #[gv, lp, .int .i64 (promR R.1), .bool (accR R.1), .bool (fullR R.1)]) ∧ RgAt w' L p' R.2 ∧ (∀ b, p'.all L b → p.all L b ∨ W.heap.size ≤ b) ∧ Ext (p.all L) W w' ∧ GoodAt w' (p'.all L) W.heap.size gv (goodR R.1) ∧ LearnAt w' (p'.all L) W.heap.size gv lp (learnR R.1)
theorem HMid.done {n0 X : Nat} {al : Nat → Prop} {A WX : World} {rs : List An} {r : An} {v gv lp dv : Value} (m : HMid n0 X al A (goodR rs) (learnR rs) (promR rs) (accR rs) (fullR rs) r v gv lp WX) (hn : n0 = W.heap.size) (hdv : ∀ g, obk dv = some g → g < W.heap.size)
    (hk : Blk A (n0 + 1) #[.slice none 0 0, .pointer none, .int .i64 0, .bool false, .bool false] 84) (hgr : ∀ b, al b → p.all L b ∨ n0 + 5 ≤ b) (hx : Ext (p.all L) W A) (hs : n0 + 5 ≤ A.heap.size) :
    Ext (fun b => ¬ al b ∧ ¬ ((n0 + 3 ≤ b ∧ b < n0 + 5) ∨ obk dv = some b) ∧ ¬ (n0 + 5 ≤ b ∧ b < n0 + 7)) A WX ∧ HearI W L p n0 rs al WX := by
  obtain ⟨f1, f2, f3, f4, f5⟩ := m.far
  refine ⟨m.ext.mono (fun b _ hb => ?_), gv, lp, m.h, m.good, m.lrn, hk.ext m.ext (fun hc => ?_), hgr, hx.trans m.ext (fun b hb => ?_), Nat.le_trans hs m.ext.size⟩
  · rcases hb with rfl | ⟨h1, h2⟩
    · exact ⟨f5, fun hc => hc.elim (fun h => by omega) (fun h => by have := hdv _ h; omega), by omega⟩
    · exact ⟨h2, fun hc => hc.elim (fun h => by omega) (fun h => by have := hdv _ h; omega), by omega⟩
  · rcases hc with hc | ⟨h1, _⟩
    · omega
    · omega
  · rcases hb with rfl | ⟨h1, _⟩
    · exact .inr (by omega)
    · exact .inr (by omega)
/-- The blocks that stay. -/
def keptH (n0 : Nat) (dv : Value) (b : Nat) : Prop := (n0 + 3 ≤ b ∧ b < n0 + 5) ∨ obk dv = some b
set_option maxRecDepth 100000 in
set_option maxHeartbeats 6400000 in
theorem reg_hear (h : RgAt W L p s) (hpr : s.room s.acs.length) (k key ver bal : Int) (dv : Value) (l : List UInt8) (hd : Bs W dv l) (k5 : ∀ g, obk dv = some g → ¬ p.all L g ∧ g < W.heap.size) :
    Calls Tryz.prog 25 #[.pointer (some ⟨L, 0, none⟩), .agg #[.int .i64 k, .int .i64 key, .int .i64 ver, .int .i64 bal, dv]] W (HearPost W L p (hearR s k key ver bal l)) := by
  obtain ⟨nodes, hnodes⟩ : ∃ nodes, idxR 0 s.acs.length = nodes := ⟨_, rfl⟩
  have hnl : nodes.length = s.acs.length := by rw [← hnodes]; exact idxR_length _ _
  have hfew := h.few
  obtain ⟨rs, hrs⟩ : ∃ rs, (allR s k key ver bal l nodes).1 = rs := ⟨_, rfl⟩
  have hrl : rs.length ≤ 1000 := by rw [← hrs]; exact Nat.le_trans (allR_length _ _) (by omega)
  have hH : hearR s k key ver bal l = (rs, (allR s k key ver bal l nodes).2) := by unfold hearR; rw [hnodes, ← hrs]
  rw [hH]
  have HRS := hid hrs
  have HND := hid (And.intro hnodes hnl)
  have HPR := hid (show s.room nodes.length by rw [hnl]; exact hpr)
  clear hH hnodes hnl hrs hfew hpr
  obtain ⟨da, dc, hdv⟩ := hd.form
  subst hdv
  obtain ⟨W3, hW3⟩ : ∃ W3, ((W.alloc (.cells #[.int .i64 k, .int .i64 key, .int .i64 ver, .int .i64 bal, .slice da l.length dc] 48)).alloc (.cells #[.slice none 0 0, .pointer none, .int .i64 0, .bool false, .bool false] 84)).alloc (.cells #[.slice none 0 0, .pointer none, .int .i64 0, .bool false, .bool false] 84) = W3 := ⟨_, rfl⟩
  have s3 : W3.heap.size = W.heap.size + 3 := by rw [← hW3]; simp
  have b3 : Below W.heap.size W W3 := by rw [← hW3]; exact (((Below.refl _ W).alloc (Nat.le_refl _) _).alloc (by simp) _).alloc (by simp; omega) _
  have q5 : Blk W3 W.heap.size #[.int .i64 k, .int .i64 key, .int .i64 ver, .int .i64 bal, .slice da l.length dc] 48 := by rw [← hW3]; exact ((Blk.new W _ _).alloc _).alloc _
  have q6 : Blk W3 (W.heap.size + 1) #[.slice none 0 0, .pointer none, .int .i64 0, .bool false, .bool false] 84 := by rw [← hW3]; exact (Blk.new' _ _ (by simp) _ _).alloc _
  have q7 : Blk W3 (W.heap.size + 2) #[.slice none 0 0, .pointer none, .int .i64 0, .bool false, .bool false] 84 := by rw [← hW3]; exact Blk.new' _ _ (by simp) _ _
  have e0 := q5.cell (o := 0) rfl
  have e1 := q5.cell (o := 1) rfl
  have e2 := q5.cell (o := 2) rfl
  have e3 := q5.cell (o := 3) rfl
  have e4 := q5.cell (o := 4) rfl
  refine callsIn_wide.1 (callsIn_of_wp_marks (n := 0) Tryz.func25 rfl trivial ?_)
  simp only [Tryz.ntmps25, List.size_toArray, List.length_cons, List.length_nil, Nat.reduceAdd, Nat.reduceSub, Array.replicate_succ, Array.replicate_zero, List.push_toArray, List.append_toArray, List.nil_append, List.cons_append]
  gi_wp2
  refine ⟨trivial, rfl, callsIn_wide.2 ((reg_all L k key ver bal da l.length dc).mono ?_)⟩
  rintro e W8 ⟨rfl, hW8⟩
  have s8 : W8.heap.size = W.heap.size + 5 := by rw [hW8]; simp [s3]
  have b38 : Below W3.heap.size W3 W8 := by rw [hW8]; exact ((Below.refl _ W3).alloc (Nat.le_refl _) _).alloc (by simp) _
  have kl : Blk W8 (W.heap.size + 3) #[.pointer (some ⟨L, 0, none⟩)] 23 := by rw [hW8]; exact (Blk.new' W3 _ (by omega) _ _).alloc _
  have kr : Blk W8 (W.heap.size + 4) #[.int .i64 k, .int .i64 key, .int .i64 ver, .int .i64 bal, .slice da l.length dc] 48 := by rw [hW8]; exact Blk.new' _ _ (by simp; omega) _ _
  have q6 := q6.keep b38
  have q7 := q7.keep b38
  have b8 := b3.trans (b38.mono b3.size)
  have HS := hid (And.intro h (And.intro hd (And.intro kl kr)))
  have HK := hid k5
  have HT := hid (And.intro q7 (And.intro q6 b8))
  have hpl : ∀ b, p.all L b → b < W.heap.size := fun b hb => h.size hb
  have HPL := hid hpl
  rw [s3]
  clear hW8 hW3 e0 e1 e2 e3 e4 q5 q6 q7 b3 b8 b38 kl kr h hd k5 hpl
  gi_wp2
  refine wpIn_rangeM (gf := 94) (lb := #[.pointer (some ⟨W.heap.size + 3, 0, none⟩), .pointer (some ⟨W.heap.size + 4, 0, none⟩)]) ?g ?eg (N := rs.length) (Y := AnY rs (W.heap.size + 7)) (kp := keptH W.heap.size (.slice da l.length dc)) (Fin := AnFin L (allR s k key ver bal l nodes).2) (FinX := fun j => AnFin L (afterR k key ver bal l s nodes j)) (al0 := p.all L) (M := W.heap.size + 7) ?hM ?hit
    (fun j al WX => HearI W L p W.heap.size (rs.take j) al WX)
    (fun _ _ _ _ => False) ?hI ?hIx ?hYs ?hFin ?hFinX ?hal ?hkp ?h0 (fun _ W0 t => t.setIfInBounds 6 (.pointer (some ⟨W0.heap.size, 0, none⟩))) (fun (args : Array Value) (W0 : World) => match args[0]? with | some (Value.agg cs) => W0.alloc (.cells cs 44) | _ => W0) ?hAW ?hassign ?hbody ?hdone ?hstop
  case g => rfl
  case eg => intro args w; rfl
  case hM => omega
  case hit =>
    intro W' hb hs
    obtain ⟨h, hd, kl, kr⟩ := HS.out
    have b9 := HT.out.2.2.trans (hb.mono (by omega))
    have hno : ∀ b, W.heap.size ≤ b → ¬ p.all L b := fun b hb hc => by have := HPL.out b hc; omega
    have := all_iter (W.heap.size + 3) (W.heap.size + 4) k key ver bal (.slice da l.length dc) nodes l (keptH W.heap.size (.slice da l.length dc)) (h.keep b9) HND.out.1.symm HPR.out (kl.keep hb) (kr.keep hb) (hd.keep b9)
      ⟨.inl ⟨by omega, by omega⟩, hno _ (by omega)⟩ ⟨.inl ⟨by omega, by omega⟩, hno _ (by omega)⟩ (fun g hg => ⟨.inr hg, (HK.out g hg).1⟩)
    rw [HRS.out, show W'.heap.size = W.heap.size + 7 from by omega] at this
    exact this
  case hI =>
    intro j al al' A B h1 he hg
    exact h1.move (Nat.le_refl _) HPL.out (he.mono (fun b _ h => h.imp id (fun h => by omega))) hg
  case hIx => rintro c j al al' A B h _ _; exact h
  case hYs => rintro j al A args ⟨r, v, _, rfl, _⟩; rfl
  case hFin => intro al A B h he; exact h.ext he
  case hFinX => intro j al A B h he; exact h.ext he
  case hal => intro b hb; have := HPL.out b hb; omega
  case hkp =>
    rintro b (hb | hb)
    · omega
    · have := (HK.out b hb).2; omega
  case h0 =>
    obtain ⟨h1, h2, h3⟩ := HT.out
    exact ⟨_, _, h1, ⟨[], rfl, World.ownsRow_nil _ _ _ _, (fun q hq => by cases hq), (fun g hg => by cases hg)⟩, rfl, h2, fun b hb => .inl hb, Ext.ofBelow h3, by omega⟩
  case hAW =>
    rintro j al A args ⟨r, v, _, rfl, _⟩
    exact (Below.refl _ A).alloc (Nat.le_refl _) _
  case hassign =>
    rintro m j al args A K ⟨r, v, _, rfl, hbv, _⟩ hK
    obtain ⟨va, vc, rfl⟩ := hbv.form
    rw [zip_one] at hK ⊢
    simp only [List.setIfInBounds_toArray, List.set_cons_zero, List.set_cons_succ] at hK ⊢
    gi_wp2
    exact hK
  case hstop => intro c j al A hf; exact hf.elim
  case hdone =>
    rintro al A ⟨gv, lp, h1, h2, h3, h4, h5, h6, h7⟩ ⟨p', rfl, hL⟩ hna hdf
    rw [List.take_length] at h1 h2 h3
    rw [s8] at hna hdf
    obtain ⟨ga, gc, hgv⟩ := h2.form
    obtain ⟨la, hlp⟩ : ∃ a, lp = .pointer a := by
      cases hlr : learnR rs with
      | none => rw [hlr] at h3; exact ⟨_, h3⟩
      | some r => rw [hlr] at h3; obtain ⟨X, v, e, _⟩ := h3; exact ⟨_, e⟩
    subst hgv hlp
    obtain ⟨B, hB⟩ : ∃ B, ((((A.setCell ⟨W.heap.size + 1, 0, none⟩ (.slice ga (goodR rs).length gc)).setCell ⟨W.heap.size + 1, 1, none⟩ (.pointer la)).setCell ⟨W.heap.size + 1, 2, none⟩ (.int .i64 (promR rs))).setCell ⟨W.heap.size + 1, 3, none⟩ (.bool (accR rs))).setCell ⟨W.heap.size + 1, 4, none⟩ (.bool (fullR rs)) = B := ⟨_, rfl⟩
    have g0 := h1.cell (o := 0) rfl
    have g1 := h1.cell (o := 1) rfl
    have g2 := h1.cell (o := 2) rfl
    have g3 := h1.cell (o := 3) rfl
    have g4 := h1.cell (o := 4) rfl
    have f0 := h4.free 0
    have f1 := h4.free 1
    have f2 := h4.free 2
    have f3 := h4.free 3
    have f4 := h4.free 4
    have k0 := h4.cell (o := 0) rfl
    have k1 := h4.cell (o := 1) rfl
    have k2 := h4.cell (o := 2) rfl
    have k3 := h4.cell (o := 3) rfl
    have k4 := h4.cell (o := 4) rfl
    have k7 := (((((h4.set (o := 0) (.slice ga (goodR rs).length gc)).set (o := 1) (.pointer la)).set (o := 2) (.int .i64 (promR rs))).set (o := 3) (.bool (accR rs))).set (o := 4) (.bool (fullR rs)))
    rw [hB] at k7
    simp only [List.setIfInBounds_toArray, List.set_cons_zero, List.set_cons_succ] at k7
    have hxB : Ext (fun b => b = W.heap.size + 1) A B := by rw [← hB]; exact (((((Ext.refl (fun b => b = W.heap.size + 1) A).setCell (.inl rfl) _).setCell (.inl rfl) _).setCell (.inl rfl) _).setCell (.inl rfl) _).setCell (.inl rfl) _
    have hdB : B.heap[W.heap.size + 5]? = some (.deferred (some [])) := (hxB.block _ (Array.getElem?_eq_some_iff.1 hdf).1 (by omega)).trans hdf
    have hxd : ∀ o, Ext (fun b => b = W.heap.size + 5) B (B.putObj (W.heap.size + 5) o) := fun o => ext_putObj _ _ _
    have hld : ∀ o, (loadVar 84 ⟨W.heap.size + 1, 0, none⟩).run Tryz.prog (B.putObj (W.heap.size + 5) o) = .ok (.agg #[.slice ga (goodR rs).length gc, .pointer la, .int .i64 (promR rs), .bool (accR rs), .bool (fullR rs)]) (B.putObj (W.heap.size + 5) o) := fun o => run_loadVar_row (P := Tryz.prog) _ (W.heap.size + 1) 84 84 _ (0, 0) _ (k7.ext (hxd o) (by omega)) Tryz.underlying84 rfl size_heard
    have hno : ∀ b, (b = W.heap.size + 1 ∨ b = W.heap.size + 5) → ¬ p'.all L b := fun b hb hc => by
      rcases hb with rfl | rfl
      · rcases h5 _ hc with h | h
        · have := HPL.out _ h; omega
        · omega
      · exact hna hc
    have hxA : ∀ o, Ext (fun b => b = W.heap.size + 1 ∨ b = W.heap.size + 5) A (B.putObj (W.heap.size + 5) o) := fun o => (hxB.mono (fun b _ e => .inl e)).trans' ((hxd o).mono (fun b _ e => .inr e))
    have hfin : ∀ o, HearPost W L p (rs, (allR s k key ver bal l nodes).2) (.returned (.agg #[.slice ga (goodR rs).length gc, .pointer la, .int .i64 (promR rs), .bool (accR rs), .bool (fullR rs)])) (B.putObj (W.heap.size + 5) o) := fun o =>
      ⟨p', _, _, rfl, hL.ext (hxA o) (fun b e hb => hno b e hb), fun b hb => (h5 b hb).imp id (fun h => by omega), h6.trans (hxA o) (fun b e => .inr (by omega)), (h2.move (hxA o) (fun b e => .inr (.inl (by omega))) (fun b h => .inl h)).low (by omega), (h3.move h2.typed (hxA o) (fun b e => .inr (.inl (by omega))) (fun b h => .inl h) (fun b h => .inl h)).low (by omega)⟩
    have HFN := hid hfin
    have HB := hid hB
    have hdb := hid hdB
    have HLD := hid hld
    clear hfin hxd h1 h2 h3 h4 h5 h6 h7 hL hno k7 hxB hB hdB hxA hld
    gi_wp2
    rw [HB.out]
    try rw [s8]
    have hld := HLD.out
    exact ⟨by simp, .inl ⟨_, _, rfl, run_takeDeferred hdb.out, _, by simp [results, Tryz.results25, hld, asAddr], HFN.out _⟩⟩
  case hbody =>
    rintro m j al A0 A args hj hna ⟨gv, lp, h1, h2, h3, h4, h5, h6, h7⟩ - ⟨r, v, hr, rfl, hbv, hvo, hal9⟩ hM hxA
    obtain ⟨va, vc, hvf⟩ := hbv.form
    rw [zip_one]
    simp only [List.setIfInBounds_toArray, List.set_cons_zero, List.set_cons_succ]
    have hxA' : Ext (fun b => b = W.heap.size + 6) (A0.alloc (.cells (acell r v).toArray 44)) A := hxA.mono (fun b _ e => by have e2 : b = W8.heap.size + 1 := e; omega)
    have bA0 : Below A0.heap.size A0 (A0.alloc (.cells (acell r v).toArray 44)) := (Below.refl _ A0).alloc (Nat.le_refl _) _
    have hA0 : Ext (fun b => b = W.heap.size + 6) A0 A := (Ext.ofBelow bA0 : Ext (fun b => b = W.heap.size + 6) A0 _).trans' hxA'
    have hX : Blk A A0.heap.size (acell r v).toArray 44 := (Blk.new A0 _ _).ext hxA' (by omega)
    have hf9 : ∀ b, (b = W.heap.size + 6) → al b ∨ b < W.heap.size + 7 ∨ A0.heap.size ≤ b := fun b e => .inr (.inl (by omega))
    have hsA := hA0.size
    have htk : rs.take (j + 1) = rs.take j ++ [r] := by rw [List.take_add_one, hr]; rfl
    have hM0 : HMid W.heap.size A0.heap.size al A (goodR (rs.take j)) (learnR (rs.take j)) (promR (rs.take j)) (accR (rs.take j)) (fullR (rs.take j)) r v gv lp A :=
      ⟨h1.ext hA0 (by omega), h2.move hA0 hf9 (fun b h => .inl h), h3.move h2.typed hA0 (fun b e => (hf9 b e).imp id (fun h => h.imp id .inl)) (fun b h => .inl h) (fun b h => .inl h), hX,
        ⟨hbv.extV hA0 (fun g hg e => by have := (hbv.blk g hg).1; omega), fun g hg => (hvo g hg).1⟩, fun hc => by have := (h2.lt _ hc).2; omega, Ext.refl _ _, hM, fun hc => by have := hal9 _ hc; omega, fun b hb => by have := hal9 b hb; omega, by omega, fun hc => by
          rcases h5 _ hc with h | h
          · have := HPL.out _ h; omega
          · omega⟩
    have hdone : ∀ (gv lp : Value) (WX : World), HMid W.heap.size A0.heap.size al A (goodR (rs.take j ++ [r])) (learnR (rs.take j ++ [r])) (promR (rs.take j ++ [r])) (accR (rs.take j ++ [r])) (fullR (rs.take j ++ [r])) r v gv lp WX →
        roundEndL al (keptH W.heap.size (.slice da l.length dc)) W8.heap.size (W.heap.size + 7) (fun j al WX => HearI W L p W.heap.size (rs.take j) al WX) (fun _ _ _ _ => False) j A .normal ⟨#[], []⟩ WX := fun gv lp WX hm => by
      have := HMid.done (L := L) (p := p) hm rfl (dv := .slice da l.length dc) (fun g hg => (HK.out g hg).2) (h4.ext hA0 (by omega)) h5 (h6.trans hA0 (fun b e => .inr (by omega))) (by omega)
      refine ⟨this.1.mono (fun b _ h => ⟨h.1, h.2.1, by omega⟩), ?_⟩
      show HearI W L p W.heap.size (rs.take (j + 1)) al WX
      rw [htk]
      exact this.2
    have hgl : (goodR (rs.take j)).length ≤ 1000 := Nat.le_trans (List.length_filter_le _ _) (by simp; omega)
    have HD := hid hdone
    have HM0 := hid hM0
    have HF := hid (h2.form)
    have HLF := hid (show ∃ a, lp = .pointer a ∧ ((learnR (rs.take j)) = none ∧ a = none ∨ (learnR (rs.take j)).isSome ∧ a.isSome) from by
      cases hlr : learnR (rs.take j) with
      | none => rw [hlr] at h3; exact ⟨none, h3, .inl ⟨rfl, rfl⟩⟩
      | some r => rw [hlr] at h3; obtain ⟨X, v, e, _⟩ := h3; exact ⟨_, e, .inr ⟨rfl, rfl⟩⟩)
    obtain ⟨X, hX0⟩ : ∃ X, A0.heap.size = X := ⟨_, rfl⟩
    obtain ⟨pre, hpre⟩ : ∃ pre, rs.take j = pre := ⟨_, rfl⟩
    rw [hX0, hpre] at HD HM0
    rw [hpre] at HF HLF
    rw [hX0]
    rw [hpre] at hgl
    clear hdone hM0 h1 h2 h3 h4 h5 h6 h7 hxA hxA' bA0 hA0 hX hf9 hsA htk hbv hvo hal9 hM hX0 hpre hr hj
    have HV := hid hvf
    clear hvf
    obtain ⟨x0, x1, x2, x3, x4, x5⟩ := HM0.out.xs
    obtain ⟨y0, y1, y2, y3, y4, y5⟩ := HM0.out.cells
    gi_upto_if 13 with fail
    gi_cut [] from 11 (fun wx => ∃ gv2, HMid W.heap.size X al A (goodR (pre ++ [r])) (learnR pre) (promR pre) (accR pre) (fullR pre) r v gv2 lp wx)
    case first =>
      by_cases hre : r.e = 0
      · have he : (r.e == 0) = true := beq_iff_eq.2 hre
        obtain ⟨ga, gc, hgf⟩ := HF.out
        subst hgf
        obtain ⟨gv', W', hrun, ⟨a9, c9, rfl⟩, hB, hm2⟩ := HM0.out.good_more (by omega) 1
        have HM2 := hid hm2
        have k0 := hB.cell (o := 0) rfl
        have kf := hB.free 0
        simp only [acell] at hrun
        rw [HV.out] at hrun x5
        have HRE := hid hre
        clear hm2 hB hre
        gi_wp2_with (gi_at_builtin; refine wpListIn_append_run _ rfl _ _ _ _ rfl _ _ rfl rfl _ _ hrun ?_)
        gi_meet
        case rel =>
          refine ⟨.slice a9 ((goodR pre).length + 1) c9, ?_⟩
          rw [goodR_snoc, if_pos HRE.out]
          exact HM2.out
      · have he : (r.e == 0) = false := beq_eq_false_iff_ne.2 hre
        have HRE := hid hre
        clear hre
        gi_wp2_with fail
        gi_meet
        case rel =>
          refine ⟨gv, ?_⟩
          rw [goodR_snoc, if_neg HRE.out, List.append_nil]
          exact HM0.out
    case rest =>
      obtain ⟨gv2, hM2⟩ := hcut
      have HM2 := hid hM2
      obtain ⟨a, hlp, hla⟩ := HLF.out
      subst hlp
      clear hM2 x0 x1 x2 x3 x4 x5 y0 y1 y2 y3 y4 y5
      obtain ⟨x0, x1, x2, x3, x4, x5⟩ := HM2.out.xs
      obtain ⟨y0, y1, y2, y3, y4, y5⟩ := HM2.out.cells
      gi_upto_region 6 with fail
      gi_cut [26] from 20 (fun s26 wx => s26 = .bool (r.le && a.isNone) ∧ wc = wx)
      case first =>
        have hle : r.le = false ∨ r.le = true := by cases r.le <;> simp
        rcases hle with hle | hle
        · rw [hle] at x4
          have HLE := hid hle
          clear hle
          gi_wp2_with fail
          gi_meet
          case rel => exact ⟨by rw [HLE.out]; rfl, rfl⟩
        · rw [hle] at x4
          have HLE := hid hle
          clear hle
          rcases a with _ | aa
          · gi_wp2_with fail
            gi_meet
            case rel => exact ⟨by rw [HLE.out]; rfl, rfl⟩
          · gi_wp2_with fail
            gi_meet
            case rel => exact ⟨by rw [HLE.out]; rfl, rfl⟩
      case rest =>
        obtain ⟨h26, hw⟩ := hcut
        obtain ⟨b26, hb26⟩ : ∃ b, (r.le && a.isNone) = b := ⟨_, rfl⟩
        rw [hb26] at h26
        have HB26 := hid (And.intro hb26 hla)
        clear hb26 hla
        subst h26
        subst hw
        gi_upto_if 26 with fail
        gi_cut [] from 20 (fun wx => ∃ lp2, HMid W.heap.size X al A (goodR (pre ++ [r])) (learnR (pre ++ [r])) (promR pre) (accR pre) (fullR pre) r v gv2 lp2 wx)
        case first =>
          cases b26
          case true =>
            have HM3 := hid HM2.out.learn
            have HL := hid (show learnR (pre ++ [r]) = some r from by
              obtain ⟨hb, hla⟩ := HB26.out
              rw [Bool.and_eq_true] at hb
              rcases hla with ⟨h1, h2⟩ | ⟨h1, h2⟩
              · rw [learnR_snoc, h1, if_pos hb.1]; rfl
              · rw [Option.isNone_iff_eq_none] at hb; rw [hb.2] at h2; cases h2)
            gi_wp2_with fail
            gi_meet
            case rel => exact ⟨_, by rw [HL.out]; exact HM3.out⟩
          case false =>
            have HL := hid (show learnR (pre ++ [r]) = learnR pre from by
              obtain ⟨hb, hla⟩ := HB26.out
              rw [learnR_snoc]
              rcases hla with ⟨h1, h2⟩ | ⟨h1, h2⟩
              · rw [h2] at hb
                have : r.le = false := by simpa using hb
                rw [this]
                simp
              · obtain ⟨z, hz⟩ := Option.isSome_iff_exists.1 h1
                rw [hz]; rfl)
            gi_wp2_with fail
            gi_meet
            case rel => exact ⟨_, by rw [HL.out]; exact HM2.out⟩
        case rest =>
          obtain ⟨lp2, hM3⟩ := hcut
          have HM3 := hid hM3
          clear hM3 x0 x1 x2 x3 x4 x5 y0 y1 y2 y3 y4 y5
          obtain ⟨x0, x1, x2, x3, x4, x5⟩ := HM3.out.xs
          obtain ⟨y0, y1, y2, y3, y4, y5⟩ := HM3.out.cells
          gi_upto_region 8 with fail
          gi_cut [] from 20 (fun wx => HMid W.heap.size X al A (goodR (pre ++ [r])) (learnR (pre ++ [r])) (promR (pre ++ [r])) (accR pre) (fullR pre) r v gv2 lp2 wx)
          case first =>
            by_cases hmx : promR pre < r.pr
            · have HM4 := hid (HM3.out.prom r.pr)
              have HE := hid (show promR (pre ++ [r]) = r.pr from by rw [promR_snoc]; omega)
              gi_wp2_with fail
              gi_meet
              case rel => rw [HE.out]; exact HM4.out
            · have HM4 := hid (HM3.out.prom (promR pre))
              have HE := hid (show promR (pre ++ [r]) = promR pre from by rw [promR_snoc]; omega)
              gi_wp2_with fail
              gi_meet
              case rel => rw [HE.out]; exact HM4.out
          case rest =>
            have HM4 := hid hcut
            clear hcut x0 x1 x2 x3 x4 x5 y0 y1 y2 y3 y4 y5
            obtain ⟨x0, x1, x2, x3, x4, x5⟩ := HM4.out.xs
            obtain ⟨y0, y1, y2, y3, y4, y5⟩ := HM4.out.cells
            gi_upto_region 9 with fail
            gi_cut [] from 20 (fun wx => HMid W.heap.size X al A (goodR (pre ++ [r])) (learnR (pre ++ [r])) (promR (pre ++ [r])) (accR (pre ++ [r])) (fullR pre) r v gv2 lp2 wx)
            case first =>
              have hac : accR pre = true ∨ accR pre = false := by cases accR pre <;> simp
              rcases hac with hac | hac
              · rw [hac] at y3
                have HM5 := hid (HM4.out.acc true)
                have HE := hid (show accR (pre ++ [r]) = true from by rw [accR_snoc, hac]; rfl)
                clear hac
                gi_wp2_with fail
                gi_meet
                case rel => rw [HE.out]; exact HM5.out
              · rw [hac] at y3
                obtain ⟨d, hd⟩ : ∃ d, decide (r.ba > 0) = d := ⟨_, rfl⟩
                have HM5 := hid (HM4.out.acc d)
                have HE := hid (show accR (pre ++ [r]) = d from by rw [accR_snoc, hac, ← hd]; rfl)
                clear hac
                gi_wp2_with fail
                gi_meet
                case rel => rw [HE.out]; exact HM5.out
            case rest =>
              have HM5 := hid hcut
              clear hcut x0 x1 x2 x3 x4 x5 y0 y1 y2 y3 y4 y5
              obtain ⟨x0, x1, x2, x3, x4, x5⟩ := HM5.out.xs
              obtain ⟨y0, y1, y2, y3, y4, y5⟩ := HM5.out.cells
              have hfu : fullR pre = true ∨ fullR pre = false := by cases fullR pre <;> simp
              rcases hfu with hfu | hfu
              · rw [hfu] at y4
                have HM6 := hid (show HMid W.heap.size X al A (goodR (pre ++ [r])) (learnR (pre ++ [r])) (promR (pre ++ [r])) (accR (pre ++ [r])) (fullR (pre ++ [r])) r v gv2 lp2 (wc.setCell ⟨W.heap.size + 2, 4, none⟩ (.bool true)) from by
                  rw [show fullR (pre ++ [r]) = true from by rw [fullR_snoc, hfu]; rfl]; exact HM5.out.full true)
                clear hfu
                gi_wp2_with fail
                exact HD.out _ _ _ HM6.out
              · rw [hfu] at y4
                obtain ⟨d, hd⟩ : ∃ d, (r.e == 7) = d := ⟨_, rfl⟩
                have HM6 := hid (show HMid W.heap.size X al A (goodR (pre ++ [r])) (learnR (pre ++ [r])) (promR (pre ++ [r])) (accR (pre ++ [r])) (fullR (pre ++ [r])) r v gv2 lp2 (wc.setCell ⟨W.heap.size + 2, 4, none⟩ (.bool d)) from by
                  rw [show fullR (pre ++ [r]) = d from by rw [fullR_snoc, hfu, ← hd]; rfl]; exact HM5.out.full d)
                clear hfu
                gi_wp2_with fail
                exact HD.out _ _ _ HM6.out
end
end Go.Proofs.YtcdcjoofcbdilaaGreat
