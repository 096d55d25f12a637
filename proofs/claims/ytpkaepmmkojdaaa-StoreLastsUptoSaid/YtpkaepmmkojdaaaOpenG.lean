import Derived.Test.YtpkaepmmkojdaaaNextC
import Derived.Test.YtpkaepmmkojdaaaMRangeG
/-! Package store, on: Open on any disk that has power. -/
namespace Go.Proofs.Ytpkaepmmkojdaaa
open Go.RowKit
section
variable {W : World} {q : StP} {S : St} {D : Dk}
/-- do of an entry of any kind. -/
theorem store_doF (h : StAt W q S D) (e : Entv) (v : Value) (hv : Bs W v e.2.2.2) (n : Nat) (hn : 1 ≤ n) (hfit : S.fin + n ≤ D.texts.length) (k1 : 1 ≤ e.1) (k3 : e.1 ≤ 3) (hpo : e.2.2.1 < 2 ^ 48) (hl : e.2.2.2.length ≤ 65536) :
    Calls Try.prog 16 #[.pointer (some ⟨q.s, 0, none⟩), .agg #[.int .i64 (e.1 : Int), .int .i64 (e.2.1 : Int), .int .i64 (e.2.2.1 : Int), v], .int .i64 (n : Int)] W fun r w' => (∃ v, r = .returned v) ∧ (∃ q', StAt w' q' (doF S e n) D ∧ Moves q q' W.heap.size) ∧ Ext (fun b => b = q.s ∨ b = q.ms ∨ b = q.mt) W w' := by
  obtain ⟨kd, lo, po, x⟩ := e
  simp only at hv k1 k3 hpo hl ⊢
  obtain rfl | rfl | rfl : kd = 1 ∨ kd = 2 ∨ kd = 3 := by omega
  · refine store_do_put h (lo : Int) (po : Int) v x hv n hn hfit (S1 := applyPut S lo po x) rfl rfl ?_
    intro W2 hS2 hv2
    refine (store_put hS2 1 lo po v x hv2 hl (by omega) (by omega)).mono ?_
    rintro e w' ⟨⟨v9, rfl⟩, ⟨q', h1, h2, h3, h4, h5, h6, _⟩, hx⟩
    exact ⟨⟨v9, rfl⟩, ⟨q', h1, h2, h3, h4, h5, h6⟩, hx⟩
  · refine store_do_seal h (lo : Int) (po : Int) v x hv n hn hfit (S1 := applySeal S lo) rfl rfl ?_
    intro W2 hS2 hv2
    refine (store_seal hS2 2 lo po v x hv2).mono ?_
    rintro e w' ⟨⟨v9, rfl⟩, h1, hx⟩
    exact ⟨⟨v9, rfl⟩, ⟨q, h1, Moves.refl _ _⟩, hx.mono (fun b _ hb => .inr hb)⟩
  · refine store_do_trim h (lo : Int) (po : Int) v x hv n hn hfit (S1 := applyTrim S lo po) rfl rfl ?_
    intro W2 hS2 hv2
    refine (store_trim hS2 3 lo po v x hv2 (by omega) (by omega)).mono ?_
    rintro e w' ⟨⟨v9, rfl⟩, h1, hx⟩
    exact ⟨⟨v9, rfl⟩, ⟨q, h1, Moves.refl _ _⟩, hx.mono (fun b _ hb => .inr hb)⟩
end
/-- What Open leaves in memory. -/
def OpenAt (W : World) (p : DkP) (D : Dk) (w' : World) (q : StP) : Prop := StAt w' q D.openS D.openD ∧ Ext p.own W w' ∧ q.p.own = p.own ∧ q.p.d = p.d ∧ W.heap.size ≤ q.s ∧ W.heap.size ≤ q.ms ∧ W.heap.size ≤ q.mt ∧ (∀ b, q.U b → W.heap.size ≤ b) ∧ (∀ b, q.p.V b → p.V b ∨ W.heap.size ≤ b)
theorem open_fin {W W6 w' : World} {p : DkP} {q : StP} {D : Dk} {V' : Nat → Prop} (h : StAt w' { q with p := { q.p with V := V' } } D.openS D.openD) (hx : Ext p.own W6 w') (hV : ∀ b, V' b → p.V b ∨ W6.heap.size ≤ b) (hb : Below W.heap.size W W6)
    (hq : q.p = p ∧ W.heap.size ≤ q.s ∧ W.heap.size ≤ q.ms ∧ W.heap.size ≤ q.mt ∧ ∀ b, q.U b → W.heap.size ≤ b) :
    ∃ q', Ending.returned (.tuple #[.pointer (some ⟨q.s, 0, none⟩), .int .i64 0]) = .returned (.tuple #[.pointer (some ⟨q'.s, 0, none⟩), .int .i64 0]) ∧ OpenAt W p D w' q' := by
  obtain ⟨h1, h2, h3, h4, h5⟩ := hq
  refine ⟨{ q with p := { q.p with V := V' } }, rfl, h, (Ext.ofBelow hb : Ext p.own W W6).trans' hx, by rw [← h1]; rfl, by rw [← h1], h2, h3, h4, h5, fun b hb' => ?_⟩
  rcases hV b hb' with h9 | h9
  · exact .inl h9
  · exact .inr (Nat.le_trans hb.size h9)
set_option maxRecDepth 100000 in
set_option maxHeartbeats 6400000 in
theorem store_Open {W : World} {p : DkP} {D : Dk} (h : DkAt W p D) (hoff : D.off = false) (hfu : D.fuse = -1) (hvs : ∀ i, D.vers i = none) (hsmall : D.small D.texts.length St.fresh) :
    Calls Try.prog 5 #[.pointer (some ⟨p.d, 0, none⟩)] W fun e w' => ∃ q, e = .returned (.tuple #[.pointer (some ⟨q.s, 0, none⟩), .int .i64 0]) ∧ OpenAt W p D w' q := by
  have hn := h.pos
  have hn2 := h.most
  obtain ⟨N, hN⟩ : ∃ N, D.texts.length = N := ⟨_, rfl⟩
  have hd0 : ((D.texts.length : Int) == 0) = false := beq_eq_false_iff_ne.2 (by omega)
  have hd1 : decide ((D.texts.length : Int) = 0) = false := decide_eq_false (by omega)
  have hS := StAt.begin h
  have hmm := @run_makeMap Try.prog
  have HMOST := hid hn2
  have HOFF := hid hoff
  have HFU := hid hfu
  have HVS := hid hvs
  have hbl := disk_Blocks h
  clear hN
  go_enter Try.func5, Try.ntmps5
  go_wp2_with fail
  refine hbl.mono ?_
  rintro e W1 ⟨rfl, rfl⟩
  go_wp2_with fail
  refine (disk_Down h).mono ?_
  rintro e W2 ⟨rfl, rfl⟩
  rw [hoff]
  have bS : Below W2.heap.size W2 (((W2.alloc (.map #[] 0)).alloc (.map #[] 0)).alloc (.cells #[.pointer (some ⟨p.d, 0, none⟩), .map (some W2.heap.size), .map (some (W2.heap.size + 1)), .int .i64 0, .int .i64 0, .bool false] 60)) := (((Below.refl _ W2).alloc (Nat.le_refl _) _).alloc (by simp) _).alloc (by simp; omega) _
  go_wp2_with fail
  obtain ⟨q, hq⟩ : ∃ q : StP, q = ⟨W2.heap.size + 2, W2.heap.size, W2.heap.size + 1, p, fun _ => False⟩ := ⟨_, rfl⟩
  rw [← hq] at hS
  have hqs : W2.heap.size + 1 + 1 = q.s := by rw [hq]
  have Hq := hid (show q.p = p ∧ W2.heap.size ≤ q.s ∧ W2.heap.size ≤ q.ms ∧ W2.heap.size ≤ q.mt ∧ ∀ b, q.U b → W2.heap.size ≤ b by rw [hq]; exact ⟨rfl, by simp, by simp, by simp, fun b hb => hb.elim⟩)
  rw [hqs]
  generalize ((W2.alloc (.map #[] 0)).alloc (.map #[] 0)).alloc (.cells #[.pointer (some ⟨p.d, 0, none⟩), .map (some W2.heap.size), .map (some (W2.heap.size + 1)), .int .i64 0, .int .i64 0, .bool false] 60) = WS at *
  obtain ⟨qs, hqs2⟩ : ∃ qs, q.s = qs := ⟨_, rfl⟩
  rw [hqs2]
  have H0 := hid (And.intro hS (And.intro bS (And.intro Hq.out (And.intro hqs2 hsmall))))
  clear hbl hmm hq hqs hS bS Hq hqs2 hsmall hoff hfu hvs
  go_loopw [7] (fun _ wr => ∃ (q : StP) (S : St) (f : Nat), StAt wr q S D ∧ Below W2.heap.size W2 wr ∧ (q.p = p ∧ W2.heap.size ≤ q.s ∧ W2.heap.size ≤ q.ms ∧ W2.heap.size ≤ q.mt ∧ ∀ b, q.U b → W2.heap.size ≤ b) ∧ q.s = qs ∧ D.openGo f S = D.openS ∧ D.small f S ∧ D.texts.length ≤ S.fin + f) (fun _ wr => D.texts.length - (intOf ((wr.cell? ⟨qs, 3, none⟩).getD undef)).toNat)
  case atStart => exact ⟨q, St.fresh, D.texts.length, H0.out.1, H0.out.2.1, H0.out.2.2.1, H0.out.2.2.2.1, rfl, H0.out.2.2.2.2, Nat.le_add_left _ _⟩
  case round =>
    clear H0
    obtain ⟨q, S, f, hS, bS, hq, hqs, hgo, hsm, hf⟩ := hrel
    subst hqs
    have hDk : DkAt wr p D := hq.1 ▸ hS.disk
    have hblk : ∀ k, Calls Try.prog 13 #[.pointer (some ⟨p.d, 0, none⟩)] (wr.drewN k) fun e w' => e = .returned (.int .i64 (D.texts.length : Int)) ∧ w' = wr.drewN k := fun k => disk_Blocks (hDk.keep (below_of_drewN _ wr k))
    have c3 : wr.cell? ⟨q.s, 3, none⟩ = some (.int .i64 (S.fin : Int)) := hS.cell.cell (o := 3) rfl
    have hfit := hS.bound.1
    have HQ := hid hq
    have HG := hid hgo
    have HSM := hid hsm
    have HF := hid hf
    have HD := hid (And.intro hS bS)
    clear hDk hq hgo hsm hf hS bS
    by_cases hlt : S.fin < D.texts.length
    · have hltd : decide ((S.fin : Int) < (D.texts.length : Int)) = true := decide_eq_true (by omega)
      go_wp2_with fail
      go_quiet ((go_at_call 13; exact Calls.quiet_of_same (hblk _)))
      have hS1 : StAt (wr.drewN nq) q S D := HD.out.1.keep (below_of_drewN _ _ _)
      have bS1 : Below W2.heap.size W2 (wr.drewN nq) := below_drewN (B := W2.heap.size) HD.out.2 nq
      have HC3 := hid c3
      clear HD hblk c3
      generalize wr.drewN nq = W3 at *
      go_wp2_with fail
      refine (store_next hS1 HOFF.out hlt HVS.out).mono ?_
      cases hnx : D.next S.num S.fin with
      | none =>
        rintro e W4 ⟨rfl, b4⟩
        have HMN := hid (show D.meet S = none by unfold Dk.meet; rw [if_pos hlt]; exact hnx)
        have hS2 := hS1.keep b4
        have bS2 := bS1.trans (b4.mono bS1.size)
        clear hS1 b4 bS1 hnx
        have b5 : Below W4.heap.size W4 (W4.alloc (.cells #[.int .i64 0, .int .i64 0, .int .i64 0, .slice none 0 0] 62)) := (Below.refl _ W4).alloc (Nat.le_refl _) _
        have HS := hid (hS2.keep b5)
        have HB := hid (bS2.trans (b5.mono bS2.size))
        clear hS2 bS2 b5 hlt hltd HC3 HSM HF
        go_upto_region 11 with fail
        generalize W4.alloc (.cells #[.int .i64 0, .int .i64 0, .int .i64 0, .slice none 0 0] 62) = WL at *
        have hop : D.openS = S := by rw [← HG.out]; exact Dk.openGo_none HMN.out _
        have HOP := hid hop
        have HDL := hid (show D.openD = (D.blanked S.fin D.texts.length).synced by unfold Dk.openD; rw [hop])
        clear hop HG HMN
        have hmk : (Instr.makeSlice 40 (.int .i64 256) (.int .i64 256)).run Try.prog WL = .ok (.slice (some ⟨WL.heap.size, 0, none⟩) 256 256) (WL.alloc (.cells (madeCells #[.int .u8 0] 256) 5)) := run_make_u8 256 (by decide) WL
        have hbk := bs_made WL 256 (by decide)
        have b6 : Below WL.heap.size WL (WL.alloc (.cells (madeCells #[.int .u8 0] 256) 5)) := (Below.refl _ WL).alloc (Nat.le_refl _) _
        have hS6 := HS.out.keep b6
        have bS6 := HB.out.trans (b6.mono HB.out.size)
        have hblk0 : WL.heap.size < (WL.alloc (.cells (madeCells #[.int .u8 0] 256) 5)).heap.size := by simp
        have hnew : ¬ q.all WL.heap.size := fun hc => by have := HS.out.size hc; omega
        obtain ⟨W6, hW6⟩ : ∃ W6, WL.alloc (.cells (madeCells #[.int .u8 0] 256) 5) = W6 := ⟨_, rfl⟩
        rw [hW6] at hmk hbk hS6 bS6 hblk0
        have c36 : W6.cell? ⟨q.s, 3, none⟩ = some (.int .i64 (S.fin : Int)) := hS6.cell.cell (o := 3) rfl
        have hfitS := hS6.bound.1
        have H6 := hid (And.intro hS6 (And.intro bS6 (And.intro hbk (And.intro hblk0 hnew))))
        clear hS6 bS6 hbk hblk0 hnew b6 hW6
        go_wp2_with fail
        clear hmk c36
        generalize hblank : (List.replicate 256 (0 : UInt8)) = blank at *
        have Hb := hid hblank
        clear hblank
        obtain ⟨bb, hbb⟩ : ∃ bb, WL.heap.size = bb := ⟨_, rfl⟩
        rw [hbb] at H6 ⊢
        clear hbb
        go_loopw [9, 10] (fun sm i wr => ∃ (k : Nat) (b : Bool) (V' : Nat → Prop), S.fin ≤ k ∧ k ≤ D.texts.length ∧ i = .int .i64 (k : Int) ∧ sm = .bool b ∧ (b = false → D.blanked S.fin k = D) ∧ DkAt wr { p with V := V' } (D.blanked S.fin k) ∧ (∀ b, V' b → p.V b ∨ W6.heap.size ≤ b) ∧ Ext (fun b => b = p.d ∨ b = p.mv) W6 wr) (fun _ i _ => D.texts.length - (intOf i).toNat)
        case atStart => exact ⟨S.fin, false, p.V, Nat.le_refl _, hfitS, rfl, rfl, fun _ => Dk.blanked_zero _ _, by rw [Dk.blanked_zero]; exact HQ.out.1 ▸ H6.out.1.disk, fun b hb => .inl hb, Ext.refl _ _⟩
        case round =>
          obtain ⟨k, b, V', hk1, hk2, rfl, rfl, hsm, hD, hV, hx⟩ := hrel
          have hbl := disk_Blocks hD
          rw [show (D.blanked S.fin k).texts.length = D.texts.length from rfl] at hbl
          have HBL := hid hbl
          have HK := hid (And.intro hD (And.intro hV (And.intro hx hsm)))
          have HK1 := hid hk1
          clear hbl hD hV hx hsm hk1
          by_cases hkn : k < D.texts.length
          · have hd : decide ((k : Int) < (D.texts.length : Int)) = true := decide_eq_true (by omega)
            have hbk := H6.out.2.2.1.ext HK.out.2.2.1 (fun g hg hl hc => by
              cases hg
              rcases hc with hc | hc
              · exact H6.out.2.2.2.2 (.inl (.inr (.inr (.inr (.inl (HQ.out.1 ▸ hc))))))
              · exact H6.out.2.2.2.2 (.inl (.inr (.inr (.inr (.inr (.inr (.inr (HQ.out.1 ▸ hc)))))))))
            have HBK := hid hbk
            have hvk : (D.blanked S.fin k).vers (k : Int) = none := by
              show (if (S.fin : Int) ≤ (k : Int) ∧ (k : Int) < (k : Int) ∧ D.blank (k : Int).toNat = false then _ else D.vers (k : Int)) = none
              rw [if_neg (by omega)]
              exact HVS.out _
            have HVK := hid hvk
            have hwr : ∀ WX, Below wr.heap.size wr WX → D.blank k = false → Calls Try.prog 19 #[.pointer (some ⟨p.d, 0, none⟩), .int .i64 (k : Int), .slice (some ⟨bb, 0, none⟩) 256 256] WX fun e w' => e = .returned (.int .i64 0) ∧ (∃ V2, DkAt w' { p with V := V2 } (D.blanked S.fin (k + 1)) ∧ ∀ b, V2 b → V' b ∨ WX.heap.size ≤ b) ∧ Ext (fun b => b = p.d ∨ b = p.mv) WX w' := by
              intro WX hbX hblk
              have hg : (D.blanked S.fin k).goes = true := by
                unfold Dk.goes
                rw [show (D.blanked S.fin k).off = D.off from rfl, HOFF.out, show (D.blanked S.fin k).fuse = D.fuse from rfl, HFU.out]
                rfl
              have := disk_Write (HK.out.1.keep hbX) hg (k : Int) _ _ (HBK.out.keep hbX) (fun hc => by
                injection hc with hc
                exact H6.out.2.2.2.2 (.inl (.inr (.inr (.inr (.inl (HQ.out.1 ▸ hc))))))) (by rw [← Hb.out]; simp) (by omega) (by show (k : Int) < (D.texts.length : Int); omega) HVK.out
              rw [Dk.spent_on _ (show (D.blanked S.fin k).fuse = -1 from HFU.out), show (D.blanked S.fin k).write (k : Int) blank = D.blanked S.fin (k + 1) from by rw [← Hb.out]; exact Dk.blanked_write D S.fin k HK1.out hblk] at this
              exact this
            have HWR := hid hwr
            clear hbk hvk hwr
            go_wp2_with fail
            refine HBL.out.mono ?_
            rintro e W7 ⟨rfl, rfl⟩
            go_wp2_with fail
            have hoffk : (D.blanked S.fin k).off = false := HOFF.out
            cases hbad : D.bad (k : Int) with
            | true =>
              have hrd := disk_Read_bad HK.out.1 hoffk k hkn HVK.out hbad
              have hbf : D.blank k = false := by unfold Dk.blank; rw [hbad]; rfl
              have HBF := hid hbf
              clear hbf hbad hoffk
              refine hrd.mono ?_
              rintro e W8 ⟨rfl, b8⟩
              have HW8 := hid (HWR.out W8 b8 HBF.out)
              have HB8 := hid b8
              clear hrd b8
              go_wp2_with fail
              refine HW8.out.mono ?_
              rintro e W9 ⟨rfl, ⟨V2, hD2, hV2⟩, hx2⟩
              have HZ := hid (And.intro hD2 (And.intro hV2 hx2))
              clear hD2 hV2 hx2
              go_wp2_with fail
              go_roundw
              case rel => exact ⟨k + 1, true, V2, by have := HK1.out; omega, by omega, by go_num, rfl, fun h => (by cases h), HZ.out.1, fun b hb => (HZ.out.2.1 b hb).elim (HK.out.2.1 b) (fun h => .inr (by have := HK.out.2.2.1.size; have := HB8.out.size; omega)), ((HK.out.2.2.1.then HB8.out).trans' HZ.out.2.2)⟩
              case measure => exact measure_step D.texts.length k hkn _ _ (by first | rfl | (rw [wrap_step k (by have := HMOST.out; omega)]; rfl)) rfl
            | false =>
              obtain ⟨t, ht⟩ : ∃ t, D.texts[k]? = some t := ⟨_, List.getElem?_eq_getElem hkn⟩
              have hrd := disk_Read_text HK.out.1 hoffk k t HVK.out hbad ht
              have hbf : D.blank k = (t == blank) := by unfold Dk.blank; rw [hbad, ht, Hb.out]; rfl
              have HBF := hid hbf
              clear hbf hbad hoffk ht
              refine hrd.mono ?_
              rintro e W8 ⟨g, rfl, hg, hbg, b8⟩
              have hbk8 := HBK.out.keep b8
              have heq := bytes_Equal _ _ t blank W8 hbg hbk8
              have HB8 := hid b8
              have HEQ := hid heq
              clear hrd hbg hbk8 b8 heq
              go_wp2_with fail
              refine HEQ.out.mono ?_
              rintro e W9 ⟨rfl, rfl⟩
              cases hcmp : (t == blank) with
              | true =>
                have hbt : D.blank k = true := by rw [HBF.out, hcmp]
                have HBT := hid hbt
                clear hcmp hbt
                go_wp2_with fail
                go_roundw
                case rel => exact ⟨k + 1, b, V', by have := HK1.out; omega, by omega, by go_num, rfl, fun h => (by rw [Dk.blanked_skip D S.fin k HBT.out]; exact HK.out.2.2.2 h), by rw [Dk.blanked_skip D S.fin k HBT.out]; exact HK.out.1.keep HB8.out, HK.out.2.1, HK.out.2.2.1.then HB8.out⟩
                case measure => exact measure_step D.texts.length k hkn _ _ (by first | rfl | (rw [wrap_step k (by have := HMOST.out; omega)]; rfl)) rfl
              | false =>
                have hbt : D.blank k = false := by rw [HBF.out, hcmp]
                have HW8 := hid (HWR.out _ HB8.out hbt)
                clear hcmp hbt
                go_wp2_with fail
                refine HW8.out.mono ?_
                rintro e W10 ⟨rfl, ⟨V2, hD2, hV2⟩, hx2⟩
                have HZ := hid (And.intro hD2 (And.intro hV2 hx2))
                clear hD2 hV2 hx2
                go_wp2_with fail
                go_roundw
                case rel => exact ⟨k + 1, true, V2, by have := HK1.out; omega, by omega, by go_num, rfl, fun h => (by cases h), HZ.out.1, fun b hb => (HZ.out.2.1 b hb).elim (HK.out.2.1 b) (fun h => .inr (by have := HK.out.2.2.1.size; have := HB8.out.size; omega)), ((HK.out.2.2.1.then HB8.out).trans' HZ.out.2.2)⟩
                case measure => exact measure_step D.texts.length k hkn _ _ (by first | rfl | (rw [wrap_step k (by have := HMOST.out; omega)]; rfl)) rfl
          · obtain rfl : D.texts.length = k := by omega
            have hd : decide ((D.texts.length : Int) < (D.texts.length : Int)) = false := decide_eq_false (by omega)
            obtain ⟨hD, hV, hx, hsm⟩ := HK.out
            cases b with
            | false =>
              have he : (D.blanked S.fin D.texts.length).synced = D.blanked S.fin D.texts.length := by
                rw [hsm rfl]
                exact Dk.synced_none D HVS.out
              have hxo : Ext p.own W6 wr := hx.mono (fun b _ hb => by
                rcases hb with hb | hb
                · exact .inl hb
                · exact .inr (.inr (.inr hb)))
              have hfin : StAt wr { q with p := { q.p with V := V' } } S (D.blanked S.fin D.texts.length) := by
                refine H6.out.1.disk_change V' ?_ ?_ rfl ?_
                · rw [HQ.out.1]; exact hxo
                · rw [HQ.out.1]; exact hD
                · rw [HQ.out.1]; exact hV
              have HF := hid (And.intro (show StAt wr { q with p := { q.p with V := V' } } D.openS D.openD by rw [HOP.out, HDL.out, he]; exact hfin) (And.intro hxo hV))
              clear he hxo hfin hD hV hx hsm
              go_wp2_with fail
              refine HBL.out.mono ?_
              rintro e W7 ⟨rfl, rfl⟩
              go_wp2_with fail
              go_ret2
              exact open_fin HF.out.1 HF.out.2.1 HF.out.2.2 H6.out.2.1 HQ.out
            | true =>
              have hg : (D.blanked S.fin D.texts.length).goes = true := by
                unfold Dk.goes
                rw [show (D.blanked S.fin D.texts.length).off = D.off from rfl, HOFF.out, show (D.blanked S.fin D.texts.length).fuse = D.fuse from rfl, HFU.out]
                rfl
              have hsy := disk_Sync hD hg
              rw [Dk.spent_on _ (show (D.blanked S.fin D.texts.length).fuse = -1 from HFU.out)] at hsy
              have HSY := hid hsy
              have HX := hid (And.intro hx hV)
              clear hg hsy hD hV hx hsm
              go_wp2_with fail
              refine HBL.out.mono ?_
              rintro e W7 ⟨rfl, rfl⟩
              go_wp2_with fail
              refine HSY.out.mono ?_
              rintro e W8 ⟨rfl, hD8, hx8⟩
              have hxo : Ext p.own W6 W8 := (HX.out.1.mono (fun b _ hb => by
                rcases hb with hb | hb
                · exact .inl hb
                · exact .inr (.inr (.inr hb)))).trans hx8 (fun b hb => .inl hb)
              have hfin : StAt W8 { q with p := { q.p with V := V' } } S (D.blanked S.fin D.texts.length).synced := by
                refine H6.out.1.disk_change V' ?_ ?_ (by show (List.mapIdx _ _).length = _; exact List.length_mapIdx) ?_
                · rw [HQ.out.1]; exact hxo
                · rw [HQ.out.1]; exact hD8
                · rw [HQ.out.1]; exact HX.out.2
              have HF := hid (And.intro (show StAt W8 { q with p := { q.p with V := V' } } D.openS D.openD by rw [HOP.out, HDL.out]; exact hfin) (And.intro hxo HX.out.2))
              clear hxo hfin hD8 hx8 HSY
              go_wp2_with fail
              go_ret2
              exact open_fin HF.out.1 HF.out.2.1 HF.out.2.2 H6.out.2.1 HQ.out
      | some r =>
        obtain ⟨⟨kd, lo, po, x⟩, n⟩ := r
        rintro e W4 ⟨v, rfl, hbv, b4⟩
        obtain ⟨va, vc, rfl⟩ := hbv.form
        have hm : D.meet S = some ((kd, lo, po, x), n) := by unfold Dk.meet; rw [if_pos hlt]; exact hnx
        obtain ⟨m1, m2, m3, m4, m5, m6, m7, m8⟩ := Dk.meet_bound hm
        obtain ⟨f', rfl⟩ : ∃ f', f = f' + 1 := ⟨f - 1, by have := HF.out; omega⟩
        obtain ⟨s1, s2⟩ := Dk.small_some hm f' HSM.out
        have hg2 := (Dk.openGo_some hm f').symm.trans HG.out
        have HG2 := hid (And.intro hg2 s2)
        obtain ⟨W5, hW5⟩ : ∃ W5, W4.alloc (.cells #[.int .i64 (kd : Int), .int .i64 (lo : Int), .int .i64 (po : Int), .slice va x.length vc] 62) = W5 := ⟨_, rfl⟩
        have b5 : Below W4.heap.size W4 W5 := by rw [← hW5]; exact (Below.refl _ W4).alloc (Nat.le_refl _) _
        have bE : Blk W5 W4.heap.size #[.int .i64 (kd : Int), .int .i64 (lo : Int), .int .i64 (po : Int), .slice va x.length vc] 62 := by rw [← hW5]; exact Blk.new W4 _ _
        have k0 := bE.cell (o := 0) rfl
        have k1 := bE.cell (o := 1) rfl
        have k2 := bE.cell (o := 2) rfl
        have k3 := bE.cell (o := 3) rfl
        have hS5 := (hS1.keep b4).keep b5
        have bS5 := (bS1.trans (b4.mono bS1.size)).trans (b5.mono (Nat.le_trans bS1.size b4.size))
        have hdo := store_doF hS5 (kd, lo, po, x) _ (hbv.keep b5) n m5 m6 m1 m2 m4 s1
        have HDO := hid hdo
        have HB5 := hid bS5
        have HM := hid (And.intro m5 (And.intro m6 (And.intro s1 m4)))
        clear hS1 bS1 b4 b5 bE hS5 bS5 hdo hbv hm hnx m1 m2 m3 m4 m5 m6 m7 m8 s1 s2 hg2
        go_wp2_with fail
        refine HDO.out.mono ?_
        rintro e W6 ⟨⟨v9, rfl⟩, ⟨q', hS6, hmv⟩, hx6⟩
        have HZ := hid (And.intro hS6 (And.intro hmv hx6))
        clear hS6 hmv hx6 HDO hW5 k0 k1 k2 k3
        go_wp2_with fail
        go_roundw
        case rel =>
          obtain ⟨hS6, hmv, hx6⟩ := HZ.out
          obtain ⟨q1, q2, q3, q4, q5⟩ := HQ.out
          refine ⟨q', doF S (kd, lo, po, x) n, f', hS6, HB5.out.trans (hx6.belowOf HB5.out.size (fun b hb hc => ?_)), ⟨hmv.p.trans q1, by rw [hmv.s]; exact q2, by rw [hmv.ms]; exact q3, by rw [hmv.mt]; exact q4, fun b hb => ?_⟩, hmv.s, HG2.out.1, HG2.out.2, ?_⟩
          · rcases hc with hc | hc | hc <;> omega
          · rcases hmv.U b hb with h9 | h9
            · exact q5 b h9
            · exact Nat.le_trans HB5.out.size h9
          · have h9 := HF.out
            have h8 := HM.out.1
            show D.texts.length ≤ S.fin + n + f'
            omega
        case measure =>
          obtain ⟨hS6, hmv, hx6⟩ := HZ.out
          have e6 : W6.cell? ⟨q.s, 3, none⟩ = some (.int .i64 ((S.fin + n : Nat) : Int)) := by
            have := hS6.cell.cell (o := 3) rfl
            rw [hmv.s] at this
            exact this
          rw [e6, HC3.out]
          have h8 := HM.out.1
          have h7 := HM.out.2.1
          show D.texts.length - (intOf (.int .i64 ((S.fin + n : Nat) : Int))).toNat < D.texts.length - (intOf (.int .i64 (S.fin : Int))).toNat
          simp only [intOf, Int.toNat_natCast]
          omega
    · have hltd : decide ((S.fin : Int) < (D.texts.length : Int)) = false := decide_eq_false (by omega)
      go_wp2_with fail
      go_quiet ((go_at_call 13; exact Calls.quiet_of_same (hblk _)))
      have HS := hid (show StAt (wr.drewN nq) q S D from HD.out.1.keep (below_of_drewN _ _ _))
      have HB := hid (show Below W2.heap.size W2 (wr.drewN nq) from below_drewN (B := W2.heap.size) HD.out.2 nq)
      have HMN := hid (show D.meet S = none by unfold Dk.meet; rw [if_neg hlt])
      clear HD hblk c3 hltd HSM HF
      go_upto_region 11 with fail
      generalize wr.drewN nq = WL at *
      have hop : D.openS = S := by rw [← HG.out]; exact Dk.openGo_none HMN.out _
      have HOP := hid hop
      have HDL := hid (show D.openD = (D.blanked S.fin D.texts.length).synced by unfold Dk.openD; rw [hop])
      clear hop HG HMN
      have hmk : (Instr.makeSlice 40 (.int .i64 256) (.int .i64 256)).run Try.prog WL = .ok (.slice (some ⟨WL.heap.size, 0, none⟩) 256 256) (WL.alloc (.cells (madeCells #[.int .u8 0] 256) 5)) := run_make_u8 256 (by decide) WL
      have hbk := bs_made WL 256 (by decide)
      have b6 : Below WL.heap.size WL (WL.alloc (.cells (madeCells #[.int .u8 0] 256) 5)) := (Below.refl _ WL).alloc (Nat.le_refl _) _
      have hS6 := HS.out.keep b6
      have bS6 := HB.out.trans (b6.mono HB.out.size)
      have hblk0 : WL.heap.size < (WL.alloc (.cells (madeCells #[.int .u8 0] 256) 5)).heap.size := by simp
      have hnew : ¬ q.all WL.heap.size := fun hc => by have := HS.out.size hc; omega
      obtain ⟨W6, hW6⟩ : ∃ W6, WL.alloc (.cells (madeCells #[.int .u8 0] 256) 5) = W6 := ⟨_, rfl⟩
      rw [hW6] at hmk hbk hS6 bS6 hblk0
      have c36 : W6.cell? ⟨q.s, 3, none⟩ = some (.int .i64 (S.fin : Int)) := hS6.cell.cell (o := 3) rfl
      have hfitS := hS6.bound.1
      have H6 := hid (And.intro hS6 (And.intro bS6 (And.intro hbk (And.intro hblk0 hnew))))
      clear hS6 bS6 hbk hblk0 hnew b6 hW6
      go_wp2_with fail
      clear hmk c36
      generalize hblank : (List.replicate 256 (0 : UInt8)) = blank at *
      have Hb := hid hblank
      clear hblank
      obtain ⟨bb, hbb⟩ : ∃ bb, WL.heap.size = bb := ⟨_, rfl⟩
      rw [hbb] at H6 ⊢
      clear hbb
      go_loopw [9, 10] (fun sm i wr => ∃ (k : Nat) (b : Bool) (V' : Nat → Prop), S.fin ≤ k ∧ k ≤ D.texts.length ∧ i = .int .i64 (k : Int) ∧ sm = .bool b ∧ (b = false → D.blanked S.fin k = D) ∧ DkAt wr { p with V := V' } (D.blanked S.fin k) ∧ (∀ b, V' b → p.V b ∨ W6.heap.size ≤ b) ∧ Ext (fun b => b = p.d ∨ b = p.mv) W6 wr) (fun _ i _ => D.texts.length - (intOf i).toNat)
      case atStart => exact ⟨S.fin, false, p.V, Nat.le_refl _, hfitS, rfl, rfl, fun _ => Dk.blanked_zero _ _, by rw [Dk.blanked_zero]; exact HQ.out.1 ▸ H6.out.1.disk, fun b hb => .inl hb, Ext.refl _ _⟩
      case round =>
        obtain ⟨k, b, V', hk1, hk2, rfl, rfl, hsm, hD, hV, hx⟩ := hrel
        have hbl := disk_Blocks hD
        rw [show (D.blanked S.fin k).texts.length = D.texts.length from rfl] at hbl
        have HBL := hid hbl
        have HK := hid (And.intro hD (And.intro hV (And.intro hx hsm)))
        have HK1 := hid hk1
        clear hbl hD hV hx hsm hk1
        by_cases hkn : k < D.texts.length
        · have hd : decide ((k : Int) < (D.texts.length : Int)) = true := decide_eq_true (by omega)
          have hbk := H6.out.2.2.1.ext HK.out.2.2.1 (fun g hg hl hc => by
            cases hg
            rcases hc with hc | hc
            · exact H6.out.2.2.2.2 (.inl (.inr (.inr (.inr (.inl (HQ.out.1 ▸ hc))))))
            · exact H6.out.2.2.2.2 (.inl (.inr (.inr (.inr (.inr (.inr (.inr (HQ.out.1 ▸ hc)))))))))
          have HBK := hid hbk
          have hvk : (D.blanked S.fin k).vers (k : Int) = none := by
            show (if (S.fin : Int) ≤ (k : Int) ∧ (k : Int) < (k : Int) ∧ D.blank (k : Int).toNat = false then _ else D.vers (k : Int)) = none
            rw [if_neg (by omega)]
            exact HVS.out _
          have HVK := hid hvk
          have hwr : ∀ WX, Below wr.heap.size wr WX → D.blank k = false → Calls Try.prog 19 #[.pointer (some ⟨p.d, 0, none⟩), .int .i64 (k : Int), .slice (some ⟨bb, 0, none⟩) 256 256] WX fun e w' => e = .returned (.int .i64 0) ∧ (∃ V2, DkAt w' { p with V := V2 } (D.blanked S.fin (k + 1)) ∧ ∀ b, V2 b → V' b ∨ WX.heap.size ≤ b) ∧ Ext (fun b => b = p.d ∨ b = p.mv) WX w' := by
            intro WX hbX hblk
            have hg : (D.blanked S.fin k).goes = true := by
              unfold Dk.goes
              rw [show (D.blanked S.fin k).off = D.off from rfl, HOFF.out, show (D.blanked S.fin k).fuse = D.fuse from rfl, HFU.out]
              rfl
            have := disk_Write (HK.out.1.keep hbX) hg (k : Int) _ _ (HBK.out.keep hbX) (fun hc => by
              injection hc with hc
              exact H6.out.2.2.2.2 (.inl (.inr (.inr (.inr (.inl (HQ.out.1 ▸ hc))))))) (by rw [← Hb.out]; simp) (by omega) (by show (k : Int) < (D.texts.length : Int); omega) HVK.out
            rw [Dk.spent_on _ (show (D.blanked S.fin k).fuse = -1 from HFU.out), show (D.blanked S.fin k).write (k : Int) blank = D.blanked S.fin (k + 1) from by rw [← Hb.out]; exact Dk.blanked_write D S.fin k HK1.out hblk] at this
            exact this
          have HWR := hid hwr
          clear hbk hvk hwr
          go_wp2_with fail
          refine HBL.out.mono ?_
          rintro e W7 ⟨rfl, rfl⟩
          go_wp2_with fail
          have hoffk : (D.blanked S.fin k).off = false := HOFF.out
          cases hbad : D.bad (k : Int) with
          | true =>
            have hrd := disk_Read_bad HK.out.1 hoffk k hkn HVK.out hbad
            have hbf : D.blank k = false := by unfold Dk.blank; rw [hbad]; rfl
            have HBF := hid hbf
            clear hbf hbad hoffk
            refine hrd.mono ?_
            rintro e W8 ⟨rfl, b8⟩
            have HW8 := hid (HWR.out W8 b8 HBF.out)
            have HB8 := hid b8
            clear hrd b8
            go_wp2_with fail
            refine HW8.out.mono ?_
            rintro e W9 ⟨rfl, ⟨V2, hD2, hV2⟩, hx2⟩
            have HZ := hid (And.intro hD2 (And.intro hV2 hx2))
            clear hD2 hV2 hx2
            go_wp2_with fail
            go_roundw
            case rel => exact ⟨k + 1, true, V2, by have := HK1.out; omega, by omega, by go_num, rfl, fun h => (by cases h), HZ.out.1, fun b hb => (HZ.out.2.1 b hb).elim (HK.out.2.1 b) (fun h => .inr (by have := HK.out.2.2.1.size; have := HB8.out.size; omega)), ((HK.out.2.2.1.then HB8.out).trans' HZ.out.2.2)⟩
            case measure => exact measure_step D.texts.length k hkn _ _ (by first | rfl | (rw [wrap_step k (by have := HMOST.out; omega)]; rfl)) rfl
          | false =>
            obtain ⟨t, ht⟩ : ∃ t, D.texts[k]? = some t := ⟨_, List.getElem?_eq_getElem hkn⟩
            have hrd := disk_Read_text HK.out.1 hoffk k t HVK.out hbad ht
            have hbf : D.blank k = (t == blank) := by unfold Dk.blank; rw [hbad, ht, Hb.out]; rfl
            have HBF := hid hbf
            clear hbf hbad hoffk ht
            refine hrd.mono ?_
            rintro e W8 ⟨g, rfl, hg, hbg, b8⟩
            have hbk8 := HBK.out.keep b8
            have heq := bytes_Equal _ _ t blank W8 hbg hbk8
            have HB8 := hid b8
            have HEQ := hid heq
            clear hrd hbg hbk8 b8 heq
            go_wp2_with fail
            refine HEQ.out.mono ?_
            rintro e W9 ⟨rfl, rfl⟩
            cases hcmp : (t == blank) with
            | true =>
              have hbt : D.blank k = true := by rw [HBF.out, hcmp]
              have HBT := hid hbt
              clear hcmp hbt
              go_wp2_with fail
              go_roundw
              case rel => exact ⟨k + 1, b, V', by have := HK1.out; omega, by omega, by go_num, rfl, fun h => (by rw [Dk.blanked_skip D S.fin k HBT.out]; exact HK.out.2.2.2 h), by rw [Dk.blanked_skip D S.fin k HBT.out]; exact HK.out.1.keep HB8.out, HK.out.2.1, HK.out.2.2.1.then HB8.out⟩
              case measure => exact measure_step D.texts.length k hkn _ _ (by first | rfl | (rw [wrap_step k (by have := HMOST.out; omega)]; rfl)) rfl
            | false =>
              have hbt : D.blank k = false := by rw [HBF.out, hcmp]
              have HW8 := hid (HWR.out _ HB8.out hbt)
              clear hcmp hbt
              go_wp2_with fail
              refine HW8.out.mono ?_
              rintro e W10 ⟨rfl, ⟨V2, hD2, hV2⟩, hx2⟩
              have HZ := hid (And.intro hD2 (And.intro hV2 hx2))
              clear hD2 hV2 hx2
              go_wp2_with fail
              go_roundw
              case rel => exact ⟨k + 1, true, V2, by have := HK1.out; omega, by omega, by go_num, rfl, fun h => (by cases h), HZ.out.1, fun b hb => (HZ.out.2.1 b hb).elim (HK.out.2.1 b) (fun h => .inr (by have := HK.out.2.2.1.size; have := HB8.out.size; omega)), ((HK.out.2.2.1.then HB8.out).trans' HZ.out.2.2)⟩
              case measure => exact measure_step D.texts.length k hkn _ _ (by first | rfl | (rw [wrap_step k (by have := HMOST.out; omega)]; rfl)) rfl
        · obtain rfl : D.texts.length = k := by omega
          have hd : decide ((D.texts.length : Int) < (D.texts.length : Int)) = false := decide_eq_false (by omega)
          obtain ⟨hD, hV, hx, hsm⟩ := HK.out
          cases b with
          | false =>
            have he : (D.blanked S.fin D.texts.length).synced = D.blanked S.fin D.texts.length := by
              rw [hsm rfl]
              exact Dk.synced_none D HVS.out
            have hxo : Ext p.own W6 wr := hx.mono (fun b _ hb => by
              rcases hb with hb | hb
              · exact .inl hb
              · exact .inr (.inr (.inr hb)))
            have hfin : StAt wr { q with p := { q.p with V := V' } } S (D.blanked S.fin D.texts.length) := by
              refine H6.out.1.disk_change V' ?_ ?_ rfl ?_
              · rw [HQ.out.1]; exact hxo
              · rw [HQ.out.1]; exact hD
              · rw [HQ.out.1]; exact hV
            have HF := hid (And.intro (show StAt wr { q with p := { q.p with V := V' } } D.openS D.openD by rw [HOP.out, HDL.out, he]; exact hfin) (And.intro hxo hV))
            clear he hxo hfin hD hV hx hsm
            go_wp2_with fail
            refine HBL.out.mono ?_
            rintro e W7 ⟨rfl, rfl⟩
            go_wp2_with fail
            go_ret2
            exact open_fin HF.out.1 HF.out.2.1 HF.out.2.2 H6.out.2.1 HQ.out
          | true =>
            have hg : (D.blanked S.fin D.texts.length).goes = true := by
              unfold Dk.goes
              rw [show (D.blanked S.fin D.texts.length).off = D.off from rfl, HOFF.out, show (D.blanked S.fin D.texts.length).fuse = D.fuse from rfl, HFU.out]
              rfl
            have hsy := disk_Sync hD hg
            rw [Dk.spent_on _ (show (D.blanked S.fin D.texts.length).fuse = -1 from HFU.out)] at hsy
            have HSY := hid hsy
            have HX := hid (And.intro hx hV)
            clear hg hsy hD hV hx hsm
            go_wp2_with fail
            refine HBL.out.mono ?_
            rintro e W7 ⟨rfl, rfl⟩
            go_wp2_with fail
            refine HSY.out.mono ?_
            rintro e W8 ⟨rfl, hD8, hx8⟩
            have hxo : Ext p.own W6 W8 := (HX.out.1.mono (fun b _ hb => by
              rcases hb with hb | hb
              · exact .inl hb
              · exact .inr (.inr (.inr hb)))).trans hx8 (fun b hb => .inl hb)
            have hfin : StAt W8 { q with p := { q.p with V := V' } } S (D.blanked S.fin D.texts.length).synced := by
              refine H6.out.1.disk_change V' ?_ ?_ (by show (List.mapIdx _ _).length = _; exact List.length_mapIdx) ?_
              · rw [HQ.out.1]; exact hxo
              · rw [HQ.out.1]; exact hD8
              · rw [HQ.out.1]; exact HX.out.2
            have HF := hid (And.intro (show StAt W8 { q with p := { q.p with V := V' } } D.openS D.openD by rw [HOP.out, HDL.out]; exact hfin) (And.intro hxo HX.out.2))
            clear hxo hfin hD8 hx8 HSY
            go_wp2_with fail
            go_ret2
            exact open_fin HF.out.1 HF.out.2.1 HF.out.2.2 H6.out.2.1 HQ.out
end Go.Proofs.Ytpkaepmmkojdaaa
