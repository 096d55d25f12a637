import Derived.Test.YtbahjinlcbjikaaGreatMQLinkB
/-! Package loglet: Ask, where a node is asked. -/
namespace Go.Proofs.YtbahjinlcbjikaaGreat
open Go.RowKit

section
variable {W : World} {L : Nat} {p : LkP} {s : LkS}
theorem reply_get {w : World} {r : LRp} (hr : r.ok) {e : Ending} {w' : World} (h : RepPost w (bytesR (some r)) e w') : ∃ v, e = .returned (.tuple #[.agg #[.int .i64 r.e, .int .i64 r.tl, .bool r.sl, v], .int .i64 0]) ∧ Own8 w' w.heap.size 5 v r.b ∧ Below w.heap.size w w' := by
  obtain ⟨e1, tl1, h1, h2, h3, _⟩ := bytesR_get hr
  unfold RepPost at h
  rw [h3] at h
  simp only [h1, h2] at h
  exact h
theorem timesF_le (c : Int) : timesF c ≤ 2 := by
  unfold timesF
  split
  · omega
  · split
    · omega
    · split <;> omega
theorem off_askN (k lo po : Int) (l : List UInt8) : ∀ t, askN k lo po l t none = (none, none)
  | 0 => rfl
  | t + 1 => by
    show askD (askN k lo po l t none).2 k lo po l = _
    rw [off_askN k lo po l t]
    rfl
/-- What holds between two rounds of Ask's loop. -/
structure AskLoop (W W2 : World) (L : Nat) (p : LkP) (s : LkS) (i : Nat) (d : Nds) (k lo po : Nat) (l fb : List UInt8) (v2 : Value) (t : Nat) (pr : LkP) (xv : Value) (wr : World) : Prop where
  at_ : LkAt wr L pr ⟨s.net.send (i : Int) fb, s.nds.set i (askN (k : Int) (lo : Int) (po : Int) l t d).2⟩
  grew : ∀ b, pr.all L b → p.all L b ∨ W2.heap.size ≤ b
  ext : Ext (p.all L) W wr
  cell : Blk wr (W.heap.size + 1) #[.int .i64 0, .int .i64 0, .bool false, .slice none 0 0] 51
  bs : Bs wr v2 fb
  x : Own8 wr W.heap.size 5 xv (bytesR (askN (k : Int) (lo : Int) (po : Int) l t d).1)
  sz : W2.heap.size ≤ wr.heap.size

theorem AskLoop.next {W W2 W' : World} {L i : Nat} {p pr : LkP} {s : LkS} {d : Nds} {k lo po t n : Nat} {l fb : List UInt8} {v2 xv v' : Value} {wr : World} {pv : Value} {q q' : StP} {S : St} {D : Dk} (h : AskLoop W W2 L p s i d k lo po l fb v2 t pr xv wr)
    (hi : i < s.nds.length) (hr : rightB (k : Int) (lo : Int) (po : Int) l.length = true) (hfb : frameB 1 (reqB (k : Int) (lo : Int) (po : Int) l) = fb) (hd : (askN (k : Int) (lo : Int) (po : Int) l t d).2 = some (S, D)) (hvs : pr.vs[i]? = some (.pointer (some ⟨n, 0, none⟩)))
    (hown : ∀ b, (b = n ∨ q.all b) → pr.ow i b) (o : Own8 W' wr.heap.size 5 v' (askF S D fb).1) (hn : NodeAt W' n pv q' (askF S D fb).2.1 (askF S D fb).2.2) (hw : Went q q' wr.heap.size) (hx : Ext q.own wr W')
    (hW2 : W.heap.size + 1 < W2.heap.size) (hv2 : ∀ g, v2.ownBlock = some g → W.heap.size ≤ g ∧ g < W2.heap.size) (hp : ∀ b, p.all L b → b < W.heap.size) : ∃ pr', AskLoop W W2 L p s i d k lo po l fb v2 (t + 1) pr' v' W' := by
  obtain ⟨p', h1, _, _, _, h2⟩ := h.at_.node (by simpa using hi) hvs hown hn hw hx
  have hq : ∀ b, q.own b → pr.all L b := fun b hb => .inr (.inr (.inr ⟨i, hown b (.inr (.inl hb))⟩))
  obtain ⟨a1, a2⟩ := askF_askD S D k lo po l hr
  rw [hfb] at a1
  have hstep : askN (k : Int) (lo : Int) (po : Int) l (t + 1) d = askD (some (S, D)) (k : Int) (lo : Int) (po : Int) l := by
    show askD (askN (k : Int) (lo : Int) (po : Int) l t d).2 k lo po l = _
    rw [hd]
  have hsz : W.heap.size ≤ wr.heap.size := h.ext.size
  refine ⟨p', ?_, fun b hb => (h2 b hb).elim (h.grew b) (fun hb => .inr (Nat.le_trans h.sz hb)), ?_, h.cell.ext hx (fun hc => ?_), h.bs.ext hx (fun g hg _ hc => ?_), ?_, Nat.le_trans h.sz hx.size⟩
  · rw [hstep, a2]
    simp only [List.set_set] at h1
    rw [a1] at h1
    exact h1
  · exact h.ext.trans hx (fun b hb => (h.grew b (hq b hb)).imp id (fun hb => by omega))
  · rcases h.grew _ (hq _ hc) with hc | hc
    · have := hp _ hc; omega
    · omega
  · have := hv2 g hg
    rcases h.grew _ (hq _ hc) with hc | hc
    · have := hp _ hc; omega
    · omega
  · rw [hstep]
    rw [a1] at o
    exact o.mono hsz

set_option maxRecDepth 100000 in
set_option maxHeartbeats 12800000 in
theorem link_Ask_yes (h : LkAt W L p s) (hroom : s.room 1) (i k lo po : Nat) (v : Value) (l : List UInt8) (hv : Bs W v l) (hr : rightB (k : Int) (lo : Int) (po : Int) l.length = true) (hi : i < s.nds.length) :
    Calls Tryz.prog 22 #[.pointer (some ⟨L, 0, none⟩), .int .i64 (i : Int), .agg #[.int .i64 (k : Int), .int .i64 (lo : Int), .int .i64 (po : Int), v]] W (LAskPost W L p (askL s (i : Int) (k : Int) (lo : Int) (po : Int) l)) := by
  obtain ⟨av, cv, rfl⟩ := hv.form
  obtain ⟨W0, hW0⟩ : ∃ W0, (W.alloc (.cells #[.int .i64 (k : Int), .int .i64 (lo : Int), .int .i64 (po : Int), .slice av l.length cv] 55)).alloc (.cells #[.int .i64 0, .int .i64 0, .bool false, .slice none 0 0] 51) = W0 := ⟨_, rfl⟩
  have b0 : Below W.heap.size W W0 := by rw [← hW0]; exact ((Below.refl _ W).alloc (Nat.le_refl _) _).alloc (by simp) _
  have k5 : Blk W0 W.heap.size #[.int .i64 (k : Int), .int .i64 (lo : Int), .int .i64 (po : Int), .slice av l.length cv] 55 := by rw [← hW0]; exact (Blk.new W _ _).alloc _
  have k6 : Blk W0 (W.heap.size + 1) #[.int .i64 0, .int .i64 0, .bool false, .slice none 0 0] 51 := by rw [← hW0]; exact Blk.new' _ _ (by simp) _ _
  have h0 := h.keep b0
  have hv0 := hv.keep b0
  have hls := h.link.lt
  have x0 := k5.cell (o := 0) rfl
  have x1 := k5.cell (o := 1) rfl
  have x2 := k5.cell (o := 2) rfl
  have x3 := k5.cell (o := 3) rfl
  obtain ⟨d, hd⟩ : ∃ d, s.nds[i]? = some d := ⟨s.nds[i], by simp⟩
  have HD := hid hd
  have HA := hid (show askL s (i : Int) (k : Int) (lo : Int) (po : Int) l = (if replyF s.fate then (askN (k : Int) (lo : Int) (po : Int) l (timesF s.fate) d).1 else none, ⟨s.net.send (i : Int) (frameB 1 (reqB (k : Int) (lo : Int) (po : Int) l)), s.nds.set i (askN (k : Int) (lo : Int) (po : Int) l (timesF s.fate) d).2⟩) by
    unfold askL
    rw [if_pos ⟨hr, by omega, by omega⟩, Int.toNat_natCast, List.getD_eq_getElem?_getD, hd]
    rfl)
  have HR := hid hr
  obtain ⟨ft, hft⟩ : ∃ ft, s.net.fate = ft := ⟨_, rfl⟩
  have HFT := hid (show s.fate = ft from hft)
  have HF5 := hid hft
  have HRO := hid hroom
  obtain ⟨fb, hfb⟩ : ∃ fb, frameB 1 (reqB (k : Int) (lo : Int) (po : Int) l) = fb := ⟨_, rfl⟩
  have hPR := put_request (k : Int) (lo : Int) (po : Int) _ l W0 hv0 hr
  rw [hfb] at hPR
  have HPR := hid hPR
  have HFB := hid hfb
  have HP := hid h
  have HL0 := hid h0
  have HK0 := hid k6
  have HB0 := hid b0
  have hs0 : W.heap.size + 1 < W0.heap.size := k6.lt
  have hfew := h.few
  have hd1 : decide ((i : Int) < 0) = false := decide_eq_false (by omega)
  have hd2 : decide ((i : Int) ≥ (s.nds.length : Int)) = false := decide_eq_false (by omega)
  clear hPR hfb hft hroom hr hd hv hv0 h h0 k6 b0 k5 hls
  go_enter Tryz.func22, Tryz.ntmps22
  go_wp2_with fail
  clear hW0
  refine HPR.out.mono ?_
  rintro e W2 ⟨v2, rfl, o2, b2⟩
  obtain ⟨a2, c2, rfl⟩ := o2.form
  have HL := hid (HL0.out.keep b2)
  have K6 := hid (HK0.out.keep b2)
  have HX := hid (HB0.out.trans (b2.mono HB0.out.size))
  have HO2 := hid o2
  have hs2 : W.heap.size + 1 < W2.heap.size := Nat.lt_of_lt_of_le hs0 b2.size
  clear b2 x0 x1 x2 x3 o2
  go_wp2_with fail
  refine (link_none HL.out).mono ?_
  rintro e Wx ⟨rfl, hw⟩
  rw [hw]
  clear hw Wx
  have y0 := HL.out.link.cell (o := 0) rfl
  have y1 := HL.out.link.cell (o := 1) rfl
  go_wp2_with fail
  clear y0 y1 hd1 hd2
  have hpl : ∀ b, p.all L b → b < W.heap.size := fun b hb => HP.out.size hb
  refine (net_Send HL.out.net (i : Int) (.slice a2 fb.length c2) fb HO2.out.bs (by rw [← HFB.out, frame_length]; simp [reqB, lowB_length]; have := of_decide_eq_true HR.out; omega) (fun g hg hc => by have h1 := (HO2.out.blk g hg).1; have h2 := hpl g (.inr (.inl hc)); have h3 := HB0.out.size; omega) (by have := HRO.out; unfold LkS.room at this; omega)).mono ?_
  rw [HF5.out]
  rintro e W3 ⟨rfl, q3, hn3, hN3, hq3, xN⟩
  obtain ⟨h3, g3⟩ := HL.out.netted hn3 hN3 hq3 xN
  clear hN3 hn3 hq3
  have hnN : ∀ b, W.heap.size ≤ b → ¬ p.q.all b := fun b hb hc => by
    have := hpl b (.inr (.inl hc))
    omega
  have hv2 : ∀ g, (Value.slice a2 fb.length c2).ownBlock = some g → W.heap.size ≤ g ∧ g < W2.heap.size := fun g hg => by
    have := HO2.out.blk g hg
    omega
  obtain ⟨T, hT⟩ : ∃ T, timesF ft = T := ⟨_, rfl⟩
  obtain ⟨rp, hrp⟩ : ∃ b, replyF ft = b := ⟨_, rfl⟩
  rw [hT, hrp]
  have HTR := hid (And.intro hT hrp)
  have L0 : AskLoop W W2 L p s i d k lo po l fb (.slice a2 fb.length c2) 0 ⟨q3, p.na, p.cap, p.vs, p.ow⟩ (.slice none 0 0) W3 := ⟨by
      show LkAt W3 L _ ⟨s.net.send (i : Int) fb, s.nds.set i d⟩
      rw [set_same HD.out]
      exact h3, fun b hb => g3 b hb, (Ext.ofBelow HX.out : Ext (p.all L) W W2).trans' (xN.mono (fun b _ hc => .inr (.inl hc))), K6.out.ext xN (hnN _ (by omega)), HO2.out.bs.ext xN (fun g hg _ => hnN g (hv2 g hg).1), Own8.nil _ _ _, xN.size⟩
  have hT2 : T ≤ 2 := by rw [← hT]; exact timesF_le ft
  clear hT hrp xN h3 g3 hnN
  go_wp2_with fail
  go_loopw [12, 50] (fun x j wr => ∃ t : Nat, t ≤ T ∧ j = .int .i64 (t : Int) ∧ ∃ pr, AskLoop W W2 L p s i d k lo po l fb (.slice a2 fb.length c2) t pr x wr) (fun _ j _ => T - (intOf j).toNat)
  case atStart => exact ⟨0, Nat.zero_le _, rfl, _, L0⟩
  case round =>
    obtain ⟨t, ht, rfl, pr, hL⟩ := hrel
    clear L0
    by_cases hlt : t < T
    · have hd1 : decide ((t : Int) < (T : Int)) = true := decide_eq_true (by omega)
      obtain ⟨dt, hdt⟩ : ∃ dt, (askN (k : Int) (lo : Int) (po : Int) l t d).2 = dt := ⟨_, rfl⟩
      obtain ⟨vn, hvs, hnd⟩ := hL.at_.nds i dt (by simp only [hdt]; exact List.getElem?_set_self hi)
      have y1 : wr.cell? ⟨L, 1, none⟩ = some (.slice (some ⟨pr.na, 0, none⟩) s.nds.length pr.cap) := by
        have := hL.at_.link.cell (o := 1) rfl
        simpa using this
      have hi2 : (i : Int) < (s.nds.length : Int) := by omega
      have n1 : wr.cell? ⟨pr.na, i, none⟩ = some vn := by
        obtain ⟨cs, hc, hcv⟩ := hL.at_.arr
        exact hc.cell (hcv i vn hvs)
      have HLL := hid hL
      have HDT := hid hdt
      have HVS := hid hvs
      clear hL hdt hvs
      cases dt with
      | none =>
        have HOF := hid (show OffAt wr vn by
          rcases hnd with h | ⟨n, pv, h1, h2, _⟩
          · exact .inl h
          · exact .inr ⟨n, pv, h1, h2⟩)
        have hvn : ∃ x, vn = .pointer x := by
          rcases hnd with h | ⟨n, pv, h1, h2, _⟩
          · exact ⟨_, h⟩
          · exact ⟨_, h1⟩
        obtain ⟨xn, rfl⟩ := hvn
        clear hnd
        go_wp2_with fail
        clear y1 n1
        refine (off_Ask HOF.out a2 fb.length c2).mono ?_
        rintro e Wx ⟨rfl, hw⟩
        rw [hw]
        clear hw Wx
        go_wp2_with fail
        go_roundw
        case rel =>
          have hst : askN (k : Int) (lo : Int) (po : Int) l (t + 1) d = (none, none) := by
            show askD (askN (k : Int) (lo : Int) (po : Int) l t d).2 k lo po l = _
            rw [HDT.out]
            rfl
          refine ⟨t + 1, by omega, by go_num, pr, ⟨?_, HLL.out.grew, HLL.out.ext, HLL.out.cell, HLL.out.bs, ?_, HLL.out.sz⟩⟩
          · rw [hst]
            have := HLL.out.at_
            rw [HDT.out] at this
            exact this
          · rw [hst]
            exact Own8.nil _ _ _
        case measure => simp [intOf]; omega
      | some SD =>
        obtain ⟨S, D⟩ := SD
        obtain ⟨n, pv, q, rfl, hN, hown⟩ := hnd
        have HN := hid hN
        have HOW := hid hown
        clear hN hown
        go_wp2_with fail
        clear y1 n1
        refine (node_Ask HN.out _ fb HLL.out.bs (by have := HLL.out.bs.len; rw [← HFB.out, frame_length]; simp [reqB, lowB_length]; have := of_decide_eq_true HR.out; omega)).mono ?_
        rintro e W5 ⟨v5, rfl, o5, ⟨q5, hN5, hw5⟩, hx5⟩
        have HNX := hid (HLL.out.next hi HR.out HFB.out HDT.out HVS.out HOW.out o5 hN5 hw5 hx5 hs2 hv2 hpl)
        clear o5 hN5 hw5 hx5
        go_wp2_with fail
        go_roundw
        case rel => exact ⟨t + 1, by omega, by go_num, HNX.out⟩
        case measure => simp [intOf]; omega
    · obtain rfl : t = T := by omega
      have hd1 : decide ((t : Int) < (t : Int)) = false := decide_eq_false (by omega)
      obtain ⟨a9, c9, hx9⟩ := hL.x.form
      subst hx9
      have HLL := hid hL
      have K6 := hid hL.cell
      have hfin : ∀ WZ : World, Ext (fun b => b = W.heap.size + 1) wr WZ → LkAt WZ L pr (askL s (i : Int) (k : Int) (lo : Int) (po : Int) l).2 ∧ (∀ b, pr.all L b → p.all L b ∨ W.heap.size ≤ b) ∧ Ext (p.all L) W WZ := fun WZ hx => ⟨by
          rw [HA.out, HFT.out, HTR.out.1, HFB.out]
          exact HLL.out.at_.ext hx (fun b e hb => by
            rcases HLL.out.grew b hb with h9 | h9
            · have := hpl b h9; omega
            · omega), fun b hb => (HLL.out.grew b hb).imp id (fun h => by omega), HLL.out.ext.trans hx (fun b e => .inr (by omega))⟩
      have HFN := hid hfin
      have hAR : (askL s (i : Int) (k : Int) (lo : Int) (po : Int) l).1 = if rp then (askN (k : Int) (lo : Int) (po : Int) l t d).1 else none := by rw [HA.out, HFT.out, HTR.out.1, HTR.out.2]
      have HAR := hid hAR
      clear hL hfin hAR
      have m0 := K6.out.cell (o := 0) rfl
      have mf0 := K6.out.free 0
      have m1 := K6.out.cell (o := 1) rfl
      have mf1 := K6.out.free 1
      have m2 := K6.out.cell (o := 2) rfl
      have mf2 := K6.out.free 2
      have m3 := K6.out.cell (o := 3) rfl
      have mf3 := K6.out.free 3
      cases rp
      · go_wp2_with fail
        obtain ⟨WZ, hWZ⟩ : ∃ WZ, ((((wr.setCell ⟨W.heap.size + 1, 0, none⟩ (.int .i64 0)).setCell ⟨W.heap.size + 1, 1, none⟩ (.int .i64 0)).setCell ⟨W.heap.size + 1, 2, none⟩ (.bool false)).setCell ⟨W.heap.size + 1, 3, none⟩ (.slice none 0 0)) = WZ := ⟨_, rfl⟩
        have kZ := ((((K6.out.set (o := 0) (.int .i64 0)).set (o := 1) (.int .i64 0)).set (o := 2) (.bool false)).set (o := 3) (.slice none 0 0))
        rw [hWZ] at kZ
        simp only [List.setIfInBounds_toArray, List.set_cons_zero, List.set_cons_succ] at kZ
        have xZ : Ext (fun b => b = W.heap.size + 1) wr WZ := by rw [← hWZ]; exact (((((Ext.refl (fun b => b = W.heap.size + 1) wr).setCell (a := ⟨W.heap.size + 1, 0, none⟩) (.inl rfl) _).setCell (a := ⟨W.heap.size + 1, 1, none⟩) (.inl rfl) _).setCell (a := ⟨W.heap.size + 1, 2, none⟩) (.inl rfl) _).setCell (a := ⟨W.heap.size + 1, 3, none⟩) (.inl rfl) _)
        rw [hWZ]
        have hld := run_loadVar_row (P := Tryz.prog) WZ (W.heap.size + 1) 51 51 _ (0, 0) _ kZ Tryz.underlying51 rfl size_reply
        refine bodyPost_ret (v := .tuple #[.agg #[.int .i64 0, .int .i64 0, .bool false, .slice none 0 0], .bool false]) ?_ rfl ?_
        · simp [results, Tryz.results22, hld, asAddr]
        · obtain ⟨z1, z2, z3⟩ := HFN.out _ xZ
          refine ⟨pr, z1, z2, z3, ?_⟩
          rw [HAR.out]
          exact ⟨_, _, _, _, _, _, rfl⟩
      · cases ho : (askN (k : Int) (lo : Int) (po : Int) l t d).1 with
        | none =>
          have hb0 : (bytesR none).length = 0 := rfl
          rw [hb0]
          have HHO := hid ho
          clear hb0 ho
          go_wp2_with fail
          obtain ⟨WZ, hWZ⟩ : ∃ WZ, ((((wr.setCell ⟨W.heap.size + 1, 0, none⟩ (.int .i64 0)).setCell ⟨W.heap.size + 1, 1, none⟩ (.int .i64 0)).setCell ⟨W.heap.size + 1, 2, none⟩ (.bool false)).setCell ⟨W.heap.size + 1, 3, none⟩ (.slice none 0 0)) = WZ := ⟨_, rfl⟩
          have kZ := ((((K6.out.set (o := 0) (.int .i64 0)).set (o := 1) (.int .i64 0)).set (o := 2) (.bool false)).set (o := 3) (.slice none 0 0))
          rw [hWZ] at kZ
          simp only [List.setIfInBounds_toArray, List.set_cons_zero, List.set_cons_succ] at kZ
          have xZ : Ext (fun b => b = W.heap.size + 1) wr WZ := by rw [← hWZ]; exact (((((Ext.refl (fun b => b = W.heap.size + 1) wr).setCell (a := ⟨W.heap.size + 1, 0, none⟩) (.inl rfl) _).setCell (a := ⟨W.heap.size + 1, 1, none⟩) (.inl rfl) _).setCell (a := ⟨W.heap.size + 1, 2, none⟩) (.inl rfl) _).setCell (a := ⟨W.heap.size + 1, 3, none⟩) (.inl rfl) _)
          rw [hWZ]
          have hld := run_loadVar_row (P := Tryz.prog) WZ (W.heap.size + 1) 51 51 _ (0, 0) _ kZ Tryz.underlying51 rfl size_reply
          refine bodyPost_ret (v := .tuple #[.agg #[.int .i64 0, .int .i64 0, .bool false, .slice none 0 0], .bool false]) ?_ rfl ?_
          · simp [results, Tryz.results22, hld, asAddr]
          · obtain ⟨z1, z2, z3⟩ := HFN.out _ xZ
            refine ⟨pr, z1, z2, z3, ?_⟩
            rw [HAR.out, HHO.out]
            exact ⟨_, _, _, _, _, _, rfl⟩
        | some r =>
          have hro := askN_ok ho
          have HHO := hid ho
          obtain ⟨_, _, _, _, _, hbl⟩ := bytesR_get hro
          have hx9 := HLL.out.x
          rw [ho] at hx9
          obtain ⟨bl, hbl2⟩ : ∃ n, (bytesR (some r)).length = n := ⟨_, rfl⟩
          rw [hbl2] at hx9 hbl ⊢
          have HGR := hid (get_reply _ (bytesR (some r)) wr (by have := hx9.bs; exact this) (bytesR_few _))
          have hne : ((bl : Int) == 0) = false := beq_eq_false_iff_ne.2 (by omega)
          have HRO := hid hro
          clear hbl2 hbl hx9 ho hro m0 m1 m2 m3 mf0 mf1 mf2 mf3
          go_wp2_with fail
          refine HGR.out.mono ?_
          intro e W6 hpost
          obtain ⟨v6, rfl, o6, b6⟩ := reply_get HRO.out hpost
          obtain ⟨a6, c6, rfl⟩ := o6.form
          obtain ⟨W7, hW7⟩ : ∃ W7, W6.alloc (.cells #[.int .i64 r.e, .int .i64 r.tl, .bool r.sl, .slice a6 r.b.length c6] 51) = W7 := ⟨_, rfl⟩
          have b7 : Below W6.heap.size W6 W7 := by rw [← hW7]; exact (Below.refl _ W6).alloc (Nat.le_refl _) _
          have k7 : Blk W7 W6.heap.size #[.int .i64 r.e, .int .i64 r.tl, .bool r.sl, .slice a6 r.b.length c6] 51 := by rw [← hW7]; exact Blk.new W6 _ _
          have b67 := b6.trans (b7.mono b6.size)
          have K7 := hid (K6.out.keep b67)
          have HB67 := hid b67
          have HO6 := hid (o6.keep b7)
          clear hpost b6 b7 b67 o6
          have z0 := k7.cell (o := 0) rfl
          have z1 := k7.cell (o := 1) rfl
          have z2 := k7.cell (o := 2) rfl
          have z3 := k7.cell (o := 3) rfl
          have m0 := K7.out.cell (o := 0) rfl
          have mf0 := K7.out.free 0
          have m1 := K7.out.cell (o := 1) rfl
          have mf1 := K7.out.free 1
          have m2 := K7.out.cell (o := 2) rfl
          have mf2 := K7.out.free 2
          have m3 := K7.out.cell (o := 3) rfl
          have mf3 := K7.out.free 3
          clear k7
          go_wp2_with fail
          clear hW7
          obtain ⟨WZ, hWZ⟩ : ∃ WZ, ((((W7.setCell ⟨W.heap.size + 1, 0, none⟩ (.int .i64 r.e)).setCell ⟨W.heap.size + 1, 1, none⟩ (.int .i64 r.tl)).setCell ⟨W.heap.size + 1, 2, none⟩ (.bool r.sl)).setCell ⟨W.heap.size + 1, 3, none⟩ (.slice a6 r.b.length c6)) = WZ := ⟨_, rfl⟩
          have kZ := ((((K7.out.set (o := 0) (.int .i64 r.e)).set (o := 1) (.int .i64 r.tl)).set (o := 2) (.bool r.sl)).set (o := 3) (.slice a6 r.b.length c6))
          rw [hWZ] at kZ
          simp only [List.setIfInBounds_toArray, List.set_cons_zero, List.set_cons_succ] at kZ
          have xZ : Ext (fun b => b = W.heap.size + 1) W7 WZ := by rw [← hWZ]; exact (((((Ext.refl (fun b => b = W.heap.size + 1) W7).setCell (a := ⟨W.heap.size + 1, 0, none⟩) (.inl rfl) _).setCell (a := ⟨W.heap.size + 1, 1, none⟩) (.inl rfl) _).setCell (a := ⟨W.heap.size + 1, 2, none⟩) (.inl rfl) _).setCell (a := ⟨W.heap.size + 1, 3, none⟩) (.inl rfl) _)
          rw [hWZ]
          have hld := run_loadVar_row (P := Tryz.prog) WZ (W.heap.size + 1) 51 51 _ (0, 0) _ kZ Tryz.underlying51 rfl size_reply
          refine bodyPost_ret (v := .tuple #[.agg #[.int .i64 r.e, .int .i64 r.tl, .bool r.sl, .slice a6 r.b.length c6], .bool true]) ?_ rfl ?_
          · simp [results, Tryz.results22, hld, asAddr]
          · have hxx : Ext (fun b => b = W.heap.size + 1) wr WZ := (Ext.ofBelow HB67.out : Ext (fun b => b = W.heap.size + 1) wr W7).trans' xZ
            obtain ⟨z1, z2, z3⟩ := HFN.out _ hxx
            refine ⟨pr, z1, z2, z3, ?_⟩
            rw [HAR.out, HHO.out]
            refine ⟨_, rfl, ?_, fun g hg hc => ?_⟩
            case refine_2 =>
              have h1 := (HO6.out.blk g hg).1
              have h2 := HLL.out.at_.size hc
              omega
            refine (HO6.out.extOwn xZ (fun g hg e => ?_)).mono (Nat.le_trans HX.out.size HLL.out.sz)
            have h1 := (HO6.out.blk g hg).1
            have h2 := HLL.out.sz
            omega
end
end Go.Proofs.YtbahjinlcbjikaaGreat
