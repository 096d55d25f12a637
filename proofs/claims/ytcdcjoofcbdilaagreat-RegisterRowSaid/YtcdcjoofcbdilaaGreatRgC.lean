import Derived.Test.YtcdcjoofcbdilaaGreatMRgB
/-! Package register: Ask, where an acceptor is asked. -/
namespace Go.Proofs.YtcdcjoofcbdilaaGreat
open Go.RowKit

section
variable {W : World} {L : Nat} {p : RgL} {s : RgS}
theorem answer_get {w : World} {r : An} (hr : r.ok) {e : Ending} {w' : World} (h : AnsPost w (bytesA (some r)) e w') : ∃ v, e = .returned (.tuple #[.agg #[.int .i64 r.e, .int .i64 r.ver, .int .i64 r.pr, .int .i64 r.ba, .bool r.le, v], .int .i64 0]) ∧ Own8 w' w.heap.size 5 v r.b ∧ Below w.heap.size w w' := by
  obtain ⟨e1, v1, p1, b1, h1, h2, h3, h4, h5, _⟩ := bytesA_get hr
  unfold AnsPost at h
  rw [h5] at h
  simp only [h1, h2, h3, h4]
  exact h
theorem timesR_le (c : Int) : timesF c ≤ 2 := by
  unfold timesF
  split
  · omega
  · split
    · omega
    · split <;> omega
/-- What holds between two rounds of Ask's loop. -/
structure RgLoop (W W2 : World) (L : Nat) (p : RgL) (s : RgS) (i : Nat) (d : Acs) (k key ver bal : Nat) (l fb : List UInt8) (v2 : Value) (t : Nat) (pr : RgL) (xv : Value) (wr : World) : Prop where
  at_ : RgAt wr L pr ⟨s.net.send (s.base + (i : Int)) fb, s.acs.set i (askAcN (k : Int) (key : Int) (ver : Int) (bal : Int) l t d).2, s.base⟩
  grew : ∀ b, pr.all L b → p.all L b ∨ W2.heap.size ≤ b
  ext : Ext (p.all L) W wr
  cell : Blk wr (W.heap.size + 1) #[.int .i64 0, .int .i64 0, .int .i64 0, .int .i64 0, .bool false, .slice none 0 0] 44
  bs : Bs wr v2 fb
  x : Own8 wr W.heap.size 5 xv (bytesA (askAcN (k : Int) (key : Int) (ver : Int) (bal : Int) l t d).1)
  sz : W2.heap.size ≤ wr.heap.size

theorem RgLoop.next {W W2 W' : World} {L i : Nat} {p pr : RgL} {s : RgS} {d : Acs} {k key ver bal t n mf : Nat} {l fb : List UInt8} {v2 xv v' : Value} {wr : World} {pv : Value} {q q' : StP} {F : Fs} {S : St} {D : Dk} (h : RgLoop W W2 L p s i d k key ver bal l fb v2 t pr xv wr)
    (hi : i < s.acs.length) (hr : askOk (k : Int) (key : Int) (ver : Int) (bal : Int) l.length = true) (hfb : frameB 3 (askB (k : Int) (key : Int) (ver : Int) (bal : Int) l) = fb) (hd : (askAcN (k : Int) (key : Int) (ver : Int) (bal : Int) l t d).2 = some (F, S, D)) (hvs : pr.vs[i]? = some (.pointer (some ⟨n, 0, none⟩)))
    (hown : ∀ b, (b = n ∨ b = mf ∨ q.all b) → pr.ow i b) (o : Own8 W' wr.heap.size 5 v' (askA F S D fb).1) (hn : AccAt W' n mf pv q' (askA F S D fb).2.1 (askA F S D fb).2.2.1 (askA F S D fb).2.2.2) (hw : Went q q' wr.heap.size) (hx : Ext (fun b => b = mf ∨ q.own b) wr W')
    (hW2 : W.heap.size + 1 < W2.heap.size) (hv2 : ∀ g, v2.ownBlock = some g → W.heap.size ≤ g ∧ g < W2.heap.size) (hp : ∀ b, p.all L b → b < W.heap.size) : ∃ pr', RgLoop W W2 L p s i d k key ver bal l fb v2 (t + 1) pr' v' W' := by
  obtain ⟨p', h1, _, _, _, h2⟩ := h.at_.acc (by simpa using hi) hvs hown hn hw hx
  have hq : ∀ b, (b = mf ∨ q.own b) → pr.all L b := fun b hb => .inr (.inr (.inr ⟨i, hown b (.inr (hb.imp id .inl))⟩))
  obtain ⟨a1, a2⟩ := askA_askAc F S D k key ver bal l hr
  rw [hfb] at a1
  have hstep : askAcN (k : Int) (key : Int) (ver : Int) (bal : Int) l (t + 1) d = askAc (some (F, S, D)) (k : Int) (key : Int) (ver : Int) (bal : Int) l := by
    show askAc (askAcN (k : Int) (key : Int) (ver : Int) (bal : Int) l t d).2 k key ver bal l = _
    rw [hd]
  have hsz : W.heap.size ≤ wr.heap.size := h.ext.size
  refine ⟨p', ?_, fun b hb => (h2 b hb).elim (h.grew b) (fun hb => .inr (Nat.le_trans h.sz hb)), ?_, h.cell.ext hx (fun hc => ?_), h.bs.ext hx (fun g hg _ hc => ?_), ?_, Nat.le_trans h.sz hx.size⟩
  · rw [hstep, a2]
    simp only [List.set_set] at h1
    rw [a1] at h1
    exact h1
  · exact h.ext.trans hx (fun b hb => (h.grew b (hq b hb)).imp id (fun hb => by omega))
  · rcases h.grew _ (hq _ hc) with hc | hc
    · have := hp _ hc; omega
    · omega
  · have := hv2 g hg
    rcases h.grew _ (hq _ hc) with hc | hc
    · have := hp _ hc; omega
    · omega
  · rw [hstep]
    rw [a1] at o
    exact o.mono hsz

set_option maxRecDepth 100000 in
set_option maxHeartbeats 12800000 in
theorem reg_Ask_yes (h : RgAt W L p s) (hroom : s.room 1) (i k key ver bal : Nat) (v : Value) (l : List UInt8) (hv : Bs W v l) (hr : askOk (k : Int) (key : Int) (ver : Int) (bal : Int) l.length = true) (hi : i < s.acs.length) :
    Calls Tryz.prog 15 #[.pointer (some ⟨L, 0, none⟩), .int .i64 (i : Int), .agg #[.int .i64 (k : Int), .int .i64 (key : Int), .int .i64 (ver : Int), .int .i64 (bal : Int), v]] W (RAskPost W L p (askR s (i : Int) (k : Int) (key : Int) (ver : Int) (bal : Int) l)) := by
  obtain ⟨av, cv, rfl⟩ := hv.form
  obtain ⟨W0, hW0⟩ : ∃ W0, (W.alloc (.cells #[.int .i64 (k : Int), .int .i64 (key : Int), .int .i64 (ver : Int), .int .i64 (bal : Int), .slice av l.length cv] 48)).alloc (.cells #[.int .i64 0, .int .i64 0, .int .i64 0, .int .i64 0, .bool false, .slice none 0 0] 44) = W0 := ⟨_, rfl⟩
  have b0 : Below W.heap.size W W0 := by rw [← hW0]; exact ((Below.refl _ W).alloc (Nat.le_refl _) _).alloc (by simp) _
  have k5 : Blk W0 W.heap.size #[.int .i64 (k : Int), .int .i64 (key : Int), .int .i64 (ver : Int), .int .i64 (bal : Int), .slice av l.length cv] 48 := by rw [← hW0]; exact (Blk.new W _ _).alloc _
  have k6 : Blk W0 (W.heap.size + 1) #[.int .i64 0, .int .i64 0, .int .i64 0, .int .i64 0, .bool false, .slice none 0 0] 44 := by rw [← hW0]; exact Blk.new' _ _ (by simp) _ _
  have h0 := h.keep b0
  have hv0 := hv.keep b0
  have hls := h.link.lt
  have x0 := k5.cell (o := 0) rfl
  have x1 := k5.cell (o := 1) rfl
  have x2 := k5.cell (o := 2) rfl
  have x3 := k5.cell (o := 3) rfl
  have x4 := k5.cell (o := 4) rfl
  obtain ⟨d, hd⟩ : ∃ d, s.acs[i]? = some d := ⟨s.acs[i], by simp⟩
  have HD := hid hd
  have HA := hid (show askR s (i : Int) (k : Int) (key : Int) (ver : Int) (bal : Int) l = (if replyF s.net.fate then (askAcN (k : Int) (key : Int) (ver : Int) (bal : Int) l (timesF s.net.fate) d).1 else none, ⟨s.net.send (s.base + (i : Int)) (frameB 3 (askB (k : Int) (key : Int) (ver : Int) (bal : Int) l)), s.acs.set i (askAcN (k : Int) (key : Int) (ver : Int) (bal : Int) l (timesF s.net.fate) d).2, s.base⟩) by
    unfold askR
    rw [if_pos ⟨hr, by omega, by omega⟩, Int.toNat_natCast, List.getD_eq_getElem?_getD, hd]
    rfl)
  have HR := hid hr
  obtain ⟨ft, hft⟩ : ∃ ft, s.net.fate = ft := ⟨_, rfl⟩
  have HFT := hid hft
  have  HF5 := hid hft
  have HRO := hid hroom
  obtain ⟨fb, hfb⟩ : ∃ fb, frameB 3 (askB (k : Int) (key : Int) (ver : Int) (bal : Int) l) = fb := ⟨_, rfl⟩
  have hPR := acc_PutAsk (k : Int) (key : Int) (ver : Int) (bal : Int) _ l W0 hv0
  rw [if_pos hr] at hPR
  unfold putAskB at hPR
  rw [if_pos hr, hfb] at hPR
  have HPR := hid hPR
  have HFB := hid hfb
  have HP := hid h
  have HL0 := hid h0
  have HK0 := hid k6
  have HB0 := hid b0
  have hs0 : W.heap.size + 1 < W0.heap.size := k6.lt
  have hfew := h.few
  have hd1 : decide ((i : Int) < 0) = false := decide_eq_false (by omega)
  have hd2 : decide ((i : Int) ≥ (s.acs.length : Int)) = false := decide_eq_false (by omega)
  clear hPR hfb hft hroom hr hd hv hv0 h h0 k6 b0 k5 hls
  go_enter Tryz.func15, Tryz.ntmps15
  go_wp2_with fail
  clear hW0
  refine HPR.out.mono ?_
  rintro e W2 ⟨v2, rfl, o2, b2⟩
  obtain ⟨a2, c2, rfl⟩ := o2.form
  have HL := hid (HL0.out.keep b2)
  have K6 := hid (HK0.out.keep b2)
  have HX := hid (HB0.out.trans (b2.mono HB0.out.size))
  have HO2 := hid o2
  have hs2 : W.heap.size + 1 < W2.heap.size := Nat.lt_of_lt_of_le hs0 b2.size
  clear b2 x0 x1 x2 x3 x4 o2
  go_wp2_with fail
  refine (reg_none HL.out).mono ?_
  rintro e Wx ⟨rfl, hw⟩
  rw [hw]
  clear hw Wx
  have y0 := HL.out.link.cell (o := 0) rfl
  have y1 := HL.out.link.cell (o := 1) rfl
  have y2 := HL.out.link.cell (o := 2) rfl
  have hwb : IntKind.i64.wrap (s.base + (i : Int)) = s.base + (i : Int) := by have h1 := HL.out.low; rw [IntKind.wrap_i64]; omega
  have hd3 : decide (s.acs.length ≤ i) = false := decide_eq_false (by omega)
  go_upto_region 4 with fail
  clear hd3 y0 y1 y2
  obtain ⟨WD, hWD⟩ : ∃ V, W2.drew = V := ⟨_, rfl⟩
  have bD : Below W2.heap.size W2 WD := by rw [← hWD]; exact below_of_drewN _ W2 1
  have HLD := hid (HL.out.keep bD)
  have HO2D := hid (HO2.out.keep bD)
  have K6D := hid (K6.out.keep bD)
  have HXD := hid (HX.out.trans (bD.mono HX.out.size))
  have hs2D : W.heap.size + 1 < WD.heap.size := Nat.lt_of_lt_of_le hs2 bD.size
  have HWD := hid hWD
  clear bD HL HO2 K6 HX hs2 hWD
  have HL := HLD
  have HO2 := HO2D
  have K6 := K6D
  have HX := HXD
  have hs2 := hs2D
  clear HLD HO2D K6D HXD hs2D
  refine wp_region_stage [11] rfl (fun i => match i with | _ => []) (fun i => match i with | _ => []) (fun sk ts w => match sk with
      | 0 => w = WD
      | 1 => NetPost WD p.q (s.net.send (s.base + (i : Int)) fb) w
      | _ => False) (fun iq ts v => match iq with
      | 0 => v = .pointer (some ⟨L, 0, none⟩)
      | 1 => v = .pointer (some ⟨L, 0, none⟩)
      | 2 => v = .pointer (some ⟨L, 0, none⟩)
      | 3 => v = .pointer (some ⟨p.q.N, 0, none⟩)
      | 4 => v = .pointer (some ⟨L, 0, none⟩)
      | 5 => v = .pointer (some ⟨L, 0, none⟩)
      | 6 => v = .pointer (some ⟨L, 2, none⟩)
      | 7 => v = .int .i64 s.base
      | 8 => v = .int .i64 (i : Int)
      | 9 => v = .int .i64 (s.base + (i : Int))
      | 10 => v = .slice a2 fb.length c2
      | 11 => v = .tuple #[.int .i64 (timesF ft : Int), .bool (replyF ft)]
      | 12 => v = .tuple #[.int .i64 (timesF ft : Int), .bool (replyF ft)]
      | 13 => v = .int .i64 (timesF ft : Int)
      | 14 => v = .bool (replyF ft)
      | 15 => v = .int .i64 (timesF ft : Int)
      | 16 => v = .bool (replyF ft)
      | _ => True) (by kernel_rfl) (by kernel_rfl) (by kernel_rfl) (HWD.out) ?rsteps ?rfin
  case rsteps =>
    refine ⟨?_, ?_, ?_, ?_, ?_, ?_, ?_, ?_, ?_, ?_, ?_, ?_, ?_, ?_, ?_, ?_, ?_, trivial⟩
    · intro sk a x hat hJ hA
      have t0 := hA.at_ 0 (by first | rfl | kernel_rfl) rfl
      clear hat hJ
      refine .inl ⟨rfl, stage_value (w' := x) (v := .pointer (some ⟨L, 0, none⟩)) ?_ ⟨_, rfl, rfl, rfl⟩⟩
      clear hA
      go_simp
    · intro sk a x hat hJ hA
      have t40 : a.tmps[40]?.getD undef = .pointer (some ⟨L, 0, none⟩) := hA.dep_ ⟨0, .data⟩ (by simp) rfl _ 40 rfl rfl
      clear hat hJ
      refine .inl ⟨rfl, stage_value (w' := x) (v := .pointer (some ⟨L, 0, none⟩)) ?_ ⟨_, rfl, rfl, rfl⟩⟩
      clear hA
      go_simp
    · intro sk a x hat hJ hA
      have t41 : a.tmps[41]?.getD undef = .pointer (some ⟨L, 0, none⟩) := hA.dep_ ⟨1, .data⟩ (by simp) rfl _ 41 rfl rfl
      clear hat hJ
      refine .inl ⟨rfl, stage_value (w' := x) (v := .pointer (some ⟨L, 0, none⟩)) ?_ ⟨_, rfl, rfl, rfl⟩⟩
      clear hA
      go_simp
    · intro sk a x hat hJ hA
      have t42 : a.tmps[42]?.getD undef = .pointer (some ⟨L, 0, none⟩) := hA.dep_ ⟨2, .data⟩ (by simp) rfl _ 42 rfl rfl
      match sk, hat, hJ with
      | 0, hat, hJ =>
        obtain rfl := hJ
        have hc := HL.out.link.cell (o := 0) rfl
        refine .inl ⟨rfl, stage_value (w' := x) (v := .pointer (some ⟨p.q.N, 0, none⟩)) ?_ ⟨_, rfl, rfl, rfl⟩⟩
        clear hA hat
        go_simp
      | 1, hat, _ => exact absurd (hat.symm.trans (by kernel_rfl : atStage _ _ _ _ = false)) (by decide)
      | sk + 2, _, hJ => exact hJ.elim
    · intro sk a x hat hJ hA
      have t0 := hA.at_ 0 (by first | rfl | kernel_rfl) rfl
      clear hat hJ
      refine .inl ⟨rfl, stage_value (w' := x) (v := .pointer (some ⟨L, 0, none⟩)) ?_ ⟨_, rfl, rfl, rfl⟩⟩
      clear hA
      go_simp
    · intro sk a x hat hJ hA
      have t44 : a.tmps[44]?.getD undef = .pointer (some ⟨L, 0, none⟩) := hA.dep_ ⟨4, .data⟩ (by simp) rfl _ 44 rfl rfl
      clear hat hJ
      refine .inl ⟨rfl, stage_value (w' := x) (v := .pointer (some ⟨L, 0, none⟩)) ?_ ⟨_, rfl, rfl, rfl⟩⟩
      clear hA
      go_simp
    · intro sk a x hat hJ hA
      have t45 : a.tmps[45]?.getD undef = .pointer (some ⟨L, 0, none⟩) := hA.dep_ ⟨5, .data⟩ (by simp) rfl _ 45 rfl rfl
      clear hat hJ
      refine .inl ⟨rfl, stage_value (w' := x) (v := .pointer (some ⟨L, 2, none⟩)) ?_ ⟨_, rfl, rfl, rfl⟩⟩
      clear hA
      go_simp
    · intro sk a x hat hJ hA
      have t46 : a.tmps[46]?.getD undef = .pointer (some ⟨L, 2, none⟩) := hA.dep_ ⟨6, .data⟩ (by simp) rfl _ 46 rfl rfl
      match sk, hat, hJ with
      | 0, hat, hJ =>
        obtain rfl := hJ
        have hc := HL.out.link.cell (o := 2) rfl
        refine .inl ⟨rfl, stage_value (w' := x) (v := .int .i64 s.base) ?_ ⟨_, rfl, rfl, rfl⟩⟩
        clear hA hat
        go_simp
      | 1, hat, _ => exact absurd (hat.symm.trans (by kernel_rfl : atStage _ _ _ _ = false)) (by decide)
      | sk + 2, _, hJ => exact hJ.elim
    · intro sk a x hat hJ hA
      have t1 := hA.at_ 1 (by first | rfl | kernel_rfl) rfl
      clear hat hJ
      refine .inl ⟨rfl, stage_value (w' := x) (v := .int .i64 (i : Int)) ?_ ⟨_, rfl, rfl, rfl⟩⟩
      clear hA
      go_simp
    · intro sk a x hat hJ hA
      have t47 : a.tmps[47]?.getD undef = .int .i64 s.base := hA.dep_ ⟨7, .data⟩ (by simp) rfl _ 47 rfl rfl
      have t48 : a.tmps[48]?.getD undef = .int .i64 (i : Int) := hA.dep_ ⟨8, .data⟩ (by simp) rfl _ 48 rfl rfl
      clear hat hJ
      refine .inl ⟨rfl, stage_value (w' := x) (v := .int .i64 (s.base + (i : Int))) ?_ ⟨_, rfl, rfl, rfl⟩⟩
      clear hA
      go_simp
    · intro sk a x hat hJ hA
      have t8 := hA.at_ 8 (by first | rfl | kernel_rfl) rfl
      clear hat hJ
      refine .inl ⟨rfl, stage_value (w' := x) (v := .slice a2 fb.length c2) ?_ ⟨_, rfl, rfl, rfl⟩⟩
      clear hA
      go_simp
    · intro a x hJ hA
      have t43 : a.tmps[43]?.getD undef = .pointer (some ⟨p.q.N, 0, none⟩) := hA.dep_ ⟨3, .data⟩ (by simp) rfl _ 43 rfl rfl
      have t49 : a.tmps[49]?.getD undef = .int .i64 (s.base + (i : Int)) := hA.dep_ ⟨9, .data⟩ (by simp) rfl _ 49 rfl rfl
      have t50 : a.tmps[50]?.getD undef = .slice a2 fb.length c2 := hA.dep_ ⟨10, .data⟩ (by simp) rfl _ 50 rfl rfl
      refine ⟨rfl, ?_⟩
      obtain rfl := hJ
      refine stage_call (f := 33) (args := #[.pointer (some ⟨p.q.N, 0, none⟩), .int .i64 (s.base + (i : Int)), .slice a2 fb.length c2]) (by clear hA; go_simp) ((net_Send HL.out.net (s.base + (i : Int)) (.slice a2 fb.length c2) fb HO2.out.bs (by rw [← HFB.out, frame_length, askB_length]; have := of_decide_eq_true HR.out; omega) (fun g hg hc => by have h1 := (HO2.out.blk g hg).1; have h2 := HP.out.size (.inr (.inl hc)); have h3 := HB0.out.size; omega) (by have := HRO.out; unfold RgS.room at this; omega)).mono ?_)
      rintro e w' ⟨rfl, hp⟩
      exact ⟨_, rfl, _, rfl, hp, by show Value.tuple #[.int .i64 (timesF s.net.fate : Int), .bool (replyF s.net.fate)] = .tuple #[.int .i64 (timesF ft : Int), .bool (replyF ft)]; rw [HF5.out]⟩
    · intro sk a x hat hJ hA
      have t51 : a.tmps[51]?.getD undef = .tuple #[.int .i64 (timesF ft : Int), .bool (replyF ft)] := hA.dep_ ⟨11, .data⟩ (by simp) rfl _ 51 rfl rfl
      clear hat hJ
      refine .inl ⟨rfl, stage_value (w' := x) (v := .tuple #[.int .i64 (timesF ft : Int), .bool (replyF ft)]) ?_ ⟨_, rfl, rfl, rfl⟩⟩
      clear hA
      go_simp
    · intro sk a x hat hJ hA
      have t39 : a.tmps[39]?.getD undef = .tuple #[.int .i64 (timesF ft : Int), .bool (replyF ft)] := hA.dep_ ⟨12, .data⟩ (by simp) rfl _ 39 rfl rfl
      clear hat hJ
      refine .inl ⟨rfl, stage_value (w' := x) (v := .int .i64 (timesF ft : Int)) ?_ ⟨_, rfl, rfl, rfl⟩⟩
      clear hA
      go_simp
    · intro sk a x hat hJ hA
      have t39 : a.tmps[39]?.getD undef = .tuple #[.int .i64 (timesF ft : Int), .bool (replyF ft)] := hA.dep_ ⟨12, .data⟩ (by simp) rfl _ 39 rfl rfl
      clear hat hJ
      refine .inl ⟨rfl, stage_value (w' := x) (v := .bool (replyF ft)) ?_ ⟨_, rfl, rfl, rfl⟩⟩
      clear hA
      go_simp
    · intro sk a x hat hJ hA
      have t52 : a.tmps[52]?.getD undef = .int .i64 (timesF ft : Int) := hA.dep_ ⟨13, .data⟩ (by simp) rfl _ 52 rfl rfl
      clear hat hJ
      refine .inl ⟨rfl, stage_value (w' := x) (v := .int .i64 (timesF ft : Int)) ?_ ⟨_, rfl, rfl, rfl⟩⟩
      clear hA
      go_simp
    · intro sk a x hat hJ hA
      have t53 : a.tmps[53]?.getD undef = .bool (replyF ft) := hA.dep_ ⟨14, .data⟩ (by simp) rfl _ 53 rfl rfl
      clear hat hJ
      refine .inl ⟨rfl, stage_value (w' := x) (v := .bool (replyF ft)) ?_ ⟨_, rfl, rfl, rfl⟩⟩
      clear hA
      go_simp
  case rfin =>
    intro y W3 hJ hV
    simp only [AllVals] at hV
    obtain ⟨-, -, -, -, -, -, -, -, -, -, -, -, -, -, -, e10, e11, -⟩ := hV
    simp only [putAll, Act.put, List.setIfInBounds_toArray, List.set_cons_zero, List.set_cons_succ]
    rw [e10, e11]
    clear e10 e11 hd1 hd2 hwb HWD
    obtain ⟨q3, hn3, hN3, hq3, xN⟩ := hJ
    have hpl : ∀ b, p.all L b → b < W.heap.size := fun b hb => HP.out.size hb
    obtain ⟨h3, g3⟩ := HL.out.netted hn3 hN3 hq3 xN
    clear hN3 hn3 hq3
    have hnN : ∀ b, W.heap.size ≤ b → ¬ p.q.all b := fun b hb hc => by
      have := hpl b (.inr (.inl hc))
      omega
    have hv2 : ∀ g, (Value.slice a2 fb.length c2).ownBlock = some g → W.heap.size ≤ g ∧ g < WD.heap.size := fun g hg => by
      have := HO2.out.blk g hg
      omega
    obtain ⟨T, hT⟩ : ∃ T, timesF ft = T := ⟨_, rfl⟩
    obtain ⟨rp, hrp⟩ : ∃ b, replyF ft = b := ⟨_, rfl⟩
    rw [hT, hrp]
    have HTR := hid (And.intro hT hrp)
    have L0 : RgLoop W WD L p s i d k key ver bal l fb (.slice a2 fb.length c2) 0 ⟨q3, p.na, p.cap, p.vs, p.ow⟩ (.slice none 0 0) W3 := ⟨by
        show RgAt W3 L _ ⟨s.net.send (s.base + (i : Int)) fb, s.acs.set i d, s.base⟩
        rw [set_sameR HD.out]
        exact h3, fun b hb => g3 b hb, (Ext.ofBelow HX.out : Ext (p.all L) W WD).trans' (xN.mono (fun b _ hc => .inr (.inl hc))), K6.out.ext xN (hnN _ (by omega)), HO2.out.bs.ext xN (fun g hg _ => hnN g (hv2 g hg).1), Own8.nil _ _ _, xN.size⟩
    have hT2 : T ≤ 2 := by rw [← hT]; exact timesR_le ft
    clear hT hrp xN h3 g3 hnN
    go_wp2_with fail
    go_loopw [12, 55] (fun x j wr => ∃ t : Nat, t ≤ T ∧ j = .int .i64 (t : Int) ∧ ∃ pr, RgLoop W WD L p s i d k key ver bal l fb (.slice a2 fb.length c2) t pr x wr) (fun _ j _ => T - (intOf j).toNat)
    case atStart => exact ⟨0, Nat.zero_le _, rfl, _, L0⟩
    case round =>
      obtain ⟨t, ht, rfl, pr, hL⟩ := hrel
      clear L0
      by_cases hlt : t < T
      · have hd1 : decide ((t : Int) < (T : Int)) = true := decide_eq_true (by omega)
        obtain ⟨dt, hdt⟩ : ∃ dt, (askAcN (k : Int) (key : Int) (ver : Int) (bal : Int) l t d).2 = dt := ⟨_, rfl⟩
        obtain ⟨vn, hvs, hnd⟩ := hL.at_.acs i dt (by simp only [hdt]; exact List.getElem?_set_self hi)
        have y1 : wr.cell? ⟨L, 1, none⟩ = some (.slice (some ⟨pr.na, 0, none⟩) s.acs.length pr.cap) := by
          have := hL.at_.link.cell (o := 1) rfl
          simpa using this
        have hi2 : (i : Int) < (s.acs.length : Int) := by omega
        have n1 : wr.cell? ⟨pr.na, i, none⟩ = some vn := by
          obtain ⟨cs, hc, hcv⟩ := hL.at_.arr
          exact hc.cell (hcv i vn hvs)
        have HLL := hid hL
        have HDT := hid hdt
        have HVS := hid hvs
        clear hL hdt hvs
        cases dt with
        | none =>
          have HOF := hid (show OffAc wr vn by
            rcases hnd with h | ⟨n, pv, mv, h1, h2, _⟩
            · exact .inl h
            · exact .inr ⟨n, pv, mv, h1, h2⟩)
          have hvn : ∃ x, vn = .pointer x := by
            rcases hnd with h | ⟨n, pv, mv, h1, h2, _⟩
            · exact ⟨_, h⟩
            · exact ⟨_, h1⟩
          obtain ⟨xn, rfl⟩ := hvn
          clear hnd
          go_wp2_with fail
          clear y1 n1
          refine (offac_Ask HOF.out a2 fb.length c2).mono ?_
          rintro e Wx ⟨rfl, hw⟩
          rw [hw]
          clear hw Wx
          go_wp2_with fail
          go_roundw
          case rel =>
            have hst : askAcN (k : Int) (key : Int) (ver : Int) (bal : Int) l (t + 1) d = (none, none) := by
              show askAc (askAcN (k : Int) (key : Int) (ver : Int) (bal : Int) l t d).2 k key ver bal l = _
              rw [HDT.out]
              rfl
            refine ⟨t + 1, by omega, by go_num, pr, ⟨?_, HLL.out.grew, HLL.out.ext, HLL.out.cell, HLL.out.bs, ?_, HLL.out.sz⟩⟩
            · rw [hst]
              have := HLL.out.at_
              rw [HDT.out] at this
              exact this
            · rw [hst]
              exact Own8.nil _ _ _
          case measure => simp [intOf]; omega
        | some SD =>
          obtain ⟨F, S, D⟩ := SD
          obtain ⟨n, mf, pv, q, rfl, hN, hown⟩ := hnd
          have HN := hid hN
          have HOW := hid hown
          clear hN hown
          go_wp2_with fail
          clear y1 n1
          refine (acc_Ask HN.out _ fb HLL.out.bs (by rw [← HFB.out, frame_length, askB_length]; have := of_decide_eq_true HR.out; omega)).mono ?_
          rintro e W5 ⟨v5, rfl, o5, ⟨q5, hN5, hw5⟩, hx5⟩
          have HNX := hid (HLL.out.next hi HR.out HFB.out HDT.out HVS.out HOW.out o5 hN5 hw5 hx5 hs2 hv2 hpl)
          clear o5 hN5 hw5 hx5
          go_wp2_with fail
          go_roundw
          case rel => exact ⟨t + 1, by omega, by go_num, HNX.out⟩
          case measure => simp [intOf]; omega
      · obtain rfl : t = T := by omega
        have hd1 : decide ((t : Int) < (t : Int)) = false := decide_eq_false (by omega)
        obtain ⟨a9, c9, hx9⟩ := hL.x.form
        subst hx9
        have HLL := hid hL
        have K6 := hid hL.cell
        have hfin : ∀ WZ : World, Ext (fun b => b = W.heap.size + 1) wr WZ → RgAt WZ L pr (askR s (i : Int) (k : Int) (key : Int) (ver : Int) (bal : Int) l).2 ∧ (∀ b, pr.all L b → p.all L b ∨ W.heap.size ≤ b) ∧ Ext (p.all L) W WZ := fun WZ hx => ⟨by
            rw [HA.out, HFT.out, HTR.out.1, HFB.out]
            exact HLL.out.at_.ext hx (fun b e hb => by
              rcases HLL.out.grew b hb with h9 | h9
              · have := hpl b h9; omega
              · omega), fun b hb => (HLL.out.grew b hb).imp id (fun h => by omega), HLL.out.ext.trans hx (fun b e => .inr (by omega))⟩
        have HFN := hid hfin
        have hAR : (askR s (i : Int) (k : Int) (key : Int) (ver : Int) (bal : Int) l).1 = if rp then (askAcN (k : Int) (key : Int) (ver : Int) (bal : Int) l t d).1 else none := by rw [HA.out, HFT.out, HTR.out.1, HTR.out.2]
        have HAR := hid hAR
        clear hL hfin hAR
        have m0 := K6.out.cell (o := 0) rfl
        have mf0 := K6.out.free 0
        have m1 := K6.out.cell (o := 1) rfl
        have mf1 := K6.out.free 1
        have m2 := K6.out.cell (o := 2) rfl
        have mf2 := K6.out.free 2
        have m3 := K6.out.cell (o := 3) rfl
        have mf3 := K6.out.free 3
        have m4 := K6.out.cell (o := 4) rfl
        have mf4 := K6.out.free 4
        have m5 := K6.out.cell (o := 5) rfl
        have mf5 := K6.out.free 5
        cases rp
        · go_wp2_with fail
          obtain ⟨WZ, hWZ⟩ : ∃ WZ, ((((((wr.setCell ⟨W.heap.size + 1, 0, none⟩ (.int .i64 0)).setCell ⟨W.heap.size + 1, 1, none⟩ (.int .i64 0)).setCell ⟨W.heap.size + 1, 2, none⟩ (.int .i64 0)).setCell ⟨W.heap.size + 1, 3, none⟩ (.int .i64 0)).setCell ⟨W.heap.size + 1, 4, none⟩ (.bool false)).setCell ⟨W.heap.size + 1, 5, none⟩ (.slice none 0 0)) = WZ := ⟨_, rfl⟩
          have kZ := ((((((K6.out.set (o := 0) (.int .i64 0)).set (o := 1) (.int .i64 0)).set (o := 2) (.int .i64 0)).set (o := 3) (.int .i64 0)).set (o := 4) (.bool false)).set (o := 5) (.slice none 0 0))
          rw [hWZ] at kZ
          simp only [List.setIfInBounds_toArray, List.set_cons_zero, List.set_cons_succ] at kZ
          have xZ : Ext (fun b => b = W.heap.size + 1) wr WZ := by rw [← hWZ]; exact (((((((Ext.refl (fun b => b = W.heap.size + 1) wr).setCell (a := ⟨W.heap.size + 1, 0, none⟩) (.inl rfl) _).setCell (a := ⟨W.heap.size + 1, 1, none⟩) (.inl rfl) _).setCell (a := ⟨W.heap.size + 1, 2, none⟩) (.inl rfl) _).setCell (a := ⟨W.heap.size + 1, 3, none⟩) (.inl rfl) _).setCell (a := ⟨W.heap.size + 1, 4, none⟩) (.inl rfl) _).setCell (a := ⟨W.heap.size + 1, 5, none⟩) (.inl rfl) _)
          rw [hWZ]
          have hld := run_loadVar_row (P := Tryz.prog) WZ (W.heap.size + 1) 44 44 _ (0, 0) _ kZ Tryz.underlying44 rfl size_answer
          refine bodyPost_ret (v := .tuple #[.agg #[.int .i64 0, .int .i64 0, .int .i64 0, .int .i64 0, .bool false, .slice none 0 0], .bool false]) ?_ rfl ?_
          · simp [results, Tryz.results15, hld, asAddr]
          · obtain ⟨z1, z2, z3⟩ := HFN.out _ xZ
            refine ⟨pr, z1, z2, z3, ?_⟩
            rw [HAR.out]
            exact ⟨_, _, _, _, _, _, _, _, rfl⟩
        · cases ho : (askAcN (k : Int) (key : Int) (ver : Int) (bal : Int) l t d).1 with
          | none =>
            have hb0 : (bytesA none).length = 0 := rfl
            rw [hb0]
            have HHO := hid ho
            clear hb0 ho
            go_wp2_with fail
            obtain ⟨WZ, hWZ⟩ : ∃ WZ, ((((((wr.setCell ⟨W.heap.size + 1, 0, none⟩ (.int .i64 0)).setCell ⟨W.heap.size + 1, 1, none⟩ (.int .i64 0)).setCell ⟨W.heap.size + 1, 2, none⟩ (.int .i64 0)).setCell ⟨W.heap.size + 1, 3, none⟩ (.int .i64 0)).setCell ⟨W.heap.size + 1, 4, none⟩ (.bool false)).setCell ⟨W.heap.size + 1, 5, none⟩ (.slice none 0 0)) = WZ := ⟨_, rfl⟩
            have kZ := ((((((K6.out.set (o := 0) (.int .i64 0)).set (o := 1) (.int .i64 0)).set (o := 2) (.int .i64 0)).set (o := 3) (.int .i64 0)).set (o := 4) (.bool false)).set (o := 5) (.slice none 0 0))
            rw [hWZ] at kZ
            simp only [List.setIfInBounds_toArray, List.set_cons_zero, List.set_cons_succ] at kZ
            have xZ : Ext (fun b => b = W.heap.size + 1) wr WZ := by rw [← hWZ]; exact (((((((Ext.refl (fun b => b = W.heap.size + 1) wr).setCell (a := ⟨W.heap.size + 1, 0, none⟩) (.inl rfl) _).setCell (a := ⟨W.heap.size + 1, 1, none⟩) (.inl rfl) _).setCell (a := ⟨W.heap.size + 1, 2, none⟩) (.inl rfl) _).setCell (a := ⟨W.heap.size + 1, 3, none⟩) (.inl rfl) _).setCell (a := ⟨W.heap.size + 1, 4, none⟩) (.inl rfl) _).setCell (a := ⟨W.heap.size + 1, 5, none⟩) (.inl rfl) _)
            rw [hWZ]
            have hld := run_loadVar_row (P := Tryz.prog) WZ (W.heap.size + 1) 44 44 _ (0, 0) _ kZ Tryz.underlying44 rfl size_answer
            refine bodyPost_ret (v := .tuple #[.agg #[.int .i64 0, .int .i64 0, .int .i64 0, .int .i64 0, .bool false, .slice none 0 0], .bool false]) ?_ rfl ?_
            · simp [results, Tryz.results15, hld, asAddr]
            · obtain ⟨z1, z2, z3⟩ := HFN.out _ xZ
              refine ⟨pr, z1, z2, z3, ?_⟩
              rw [HAR.out, HHO.out]
              exact ⟨_, _, _, _, _, _, _, _, rfl⟩
          | some r =>
            have hro := askAcN_ok ho
            have HHO := hid ho
            obtain ⟨_, _, _, _, -, -, -, -, -, hbl, hbm⟩ := bytesA_get hro
            have hx9 := HLL.out.x
            rw [ho] at hx9
            obtain ⟨bl, hbl2⟩ : ∃ n, (bytesA (some r)).length = n := ⟨_, rfl⟩
            have HGR0 := (show True from trivial)
            rw [hbl2] at hx9 hbl hbm ⊢
            have HGR := hid (acc_GetAnswer _ (bytesA (some r)) wr (by have := hx9.bs; exact this) (by rw [hbl2]; omega))
            have hne : ((bl : Int) == 0) = false := beq_eq_false_iff_ne.2 (by omega)
            have HRO := hid hro
            clear hbl2 hbl hbm HGR0 hx9 ho hro m0 mf0 m1 mf1 m2 mf2 m3 mf3 m4 mf4 m5 mf5
            go_wp2_with fail
            refine HGR.out.mono ?_
            intro e W6 hpost
            obtain ⟨v6, rfl, o6, b6⟩ := answer_get HRO.out hpost
            obtain ⟨a6, c6, rfl⟩ := o6.form
            obtain ⟨W7, hW7⟩ : ∃ W7, W6.alloc (.cells #[.int .i64 r.e, .int .i64 r.ver, .int .i64 r.pr, .int .i64 r.ba, .bool r.le, .slice a6 r.b.length c6] 44) = W7 := ⟨_, rfl⟩
            have b7 : Below W6.heap.size W6 W7 := by rw [← hW7]; exact (Below.refl _ W6).alloc (Nat.le_refl _) _
            have k7 : Blk W7 W6.heap.size #[.int .i64 r.e, .int .i64 r.ver, .int .i64 r.pr, .int .i64 r.ba, .bool r.le, .slice a6 r.b.length c6] 44 := by rw [← hW7]; exact Blk.new W6 _ _
            have b67 := b6.trans (b7.mono b6.size)
            have K7 := hid (K6.out.keep b67)
            have HB67 := hid b67
            have HO6 := hid (o6.keep b7)
            clear hpost b6 b7 b67 o6
            have z0 := k7.cell (o := 0) rfl
            have z1 := k7.cell (o := 1) rfl
            have z2 := k7.cell (o := 2) rfl
            have z3 := k7.cell (o := 3) rfl
            have z4 := k7.cell (o := 4) rfl
            have z5 := k7.cell (o := 5) rfl
            have m0 := K7.out.cell (o := 0) rfl
            have mf0 := K7.out.free 0
            have m1 := K7.out.cell (o := 1) rfl
            have mf1 := K7.out.free 1
            have m2 := K7.out.cell (o := 2) rfl
            have mf2 := K7.out.free 2
            have m3 := K7.out.cell (o := 3) rfl
            have mf3 := K7.out.free 3
            have m4 := K7.out.cell (o := 4) rfl
            have mf4 := K7.out.free 4
            have m5 := K7.out.cell (o := 5) rfl
            have mf5 := K7.out.free 5
            clear k7
            go_wp2_with fail
            clear hW7
            obtain ⟨WZ, hWZ⟩ : ∃ WZ, ((((((W7.setCell ⟨W.heap.size + 1, 0, none⟩ (.int .i64 r.e)).setCell ⟨W.heap.size + 1, 1, none⟩ (.int .i64 r.ver)).setCell ⟨W.heap.size + 1, 2, none⟩ (.int .i64 r.pr)).setCell ⟨W.heap.size + 1, 3, none⟩ (.int .i64 r.ba)).setCell ⟨W.heap.size + 1, 4, none⟩ (.bool r.le)).setCell ⟨W.heap.size + 1, 5, none⟩ (.slice a6 r.b.length c6)) = WZ := ⟨_, rfl⟩
            have kZ := ((((((K7.out.set (o := 0) (.int .i64 r.e)).set (o := 1) (.int .i64 r.ver)).set (o := 2) (.int .i64 r.pr)).set (o := 3) (.int .i64 r.ba)).set (o := 4) (.bool r.le)).set (o := 5) (.slice a6 r.b.length c6))
            rw [hWZ] at kZ
            simp only [List.setIfInBounds_toArray, List.set_cons_zero, List.set_cons_succ] at kZ
            have xZ : Ext (fun b => b = W.heap.size + 1) W7 WZ := by rw [← hWZ]; exact (((((((Ext.refl (fun b => b = W.heap.size + 1) W7).setCell (a := ⟨W.heap.size + 1, 0, none⟩) (.inl rfl) _).setCell (a := ⟨W.heap.size + 1, 1, none⟩) (.inl rfl) _).setCell (a := ⟨W.heap.size + 1, 2, none⟩) (.inl rfl) _).setCell (a := ⟨W.heap.size + 1, 3, none⟩) (.inl rfl) _).setCell (a := ⟨W.heap.size + 1, 4, none⟩) (.inl rfl) _).setCell (a := ⟨W.heap.size + 1, 5, none⟩) (.inl rfl) _)
            rw [hWZ]
            have hld := run_loadVar_row (P := Tryz.prog) WZ (W.heap.size + 1) 44 44 _ (0, 0) _ kZ Tryz.underlying44 rfl size_answer
            refine bodyPost_ret (v := .tuple #[.agg #[.int .i64 r.e, .int .i64 r.ver, .int .i64 r.pr, .int .i64 r.ba, .bool r.le, .slice a6 r.b.length c6], .bool true]) ?_ rfl ?_
            · simp [results, Tryz.results15, hld, asAddr]
            · have hxx : Ext (fun b => b = W.heap.size + 1) wr WZ := (Ext.ofBelow HB67.out : Ext (fun b => b = W.heap.size + 1) wr W7).trans' xZ
              obtain ⟨z1, z2, z3⟩ := HFN.out _ hxx
              refine ⟨pr, z1, z2, z3, ?_⟩
              rw [HAR.out, HHO.out]
              refine ⟨_, rfl, ?_, fun g hg hc => ?_⟩
              case refine_2 =>
                have h1 := (HO6.out.blk g hg).1
                have h2 := HLL.out.at_.size hc
                omega
              refine (HO6.out.extOwn xZ (fun g hg e => ?_)).mono (Nat.le_trans HX.out.size HLL.out.sz)
              have h1 := (HO6.out.blk g hg).1
              have h2 := HLL.out.sz
              omega
end
end Go.Proofs.YtcdcjoofcbdilaaGreat
