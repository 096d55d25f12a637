import Derived.Test.YtcdcjoofcbdilaaGreatMRgRA
import Derived.BigQuiet
/-! gazettelaw09.RegisterRow. -/
namespace Go.Proofs.YtcdcjoofcbdilaaGreat
open Go.RowKit

/-- A link with its first i acceptors stopped; of the others it is known where they lie. -/
def StI (W w : World) (L : Nat) (n i : Nat) (X : Fs × St × Dk) : Prop := ∃ p, RgAt w L p (rgM (dnR n i) X 100) ∧ Below W.heap.size W w ∧ (∀ b, p.all L b → W.heap.size ≤ b) ∧ ∀ k, i ≤ k → k < n → ∃ x dk u u2, p.vs[k]? = some (.pointer (some ⟨x, 0, none⟩)) ∧ Blk w x #[.pointer (some ⟨dk, 0, none⟩), u, u2] 95 ∧ p.ow k x
theorem StI.keep {W w w' : World} {L n i : Nat} {X : Fs × St × Dk} (h : StI W w L n i X) (hb : Below w.heap.size w w') : StI W w' L n i X := by
  obtain ⟨p, h1, h2, h3, h4⟩ := h
  refine ⟨p, h1.keep hb, h2.trans (hb.mono h2.size), h3, fun k hk hn => ?_⟩
  obtain ⟨x, dk, u, u2, e1, e2, e3⟩ := h4 k hk hn
  exact ⟨x, dk, u, u2, e1, e2.keep hb, e3⟩
theorem StI.made (W : World) (n k : Nat) (hn0 : 1 ≤ n) (hn9 : n ≤ 1000) (h1 : 1 ≤ k) (h2 : k ≤ 4096) :
    Calls Tryz.prog 8 #[.int .i64 (n : Int), .int .i64 (k : Int)] W fun e w' => ∃ L, e = .returned (.pointer (some ⟨L, 0, none⟩)) ∧ StI W w' L n 0 ([], St.fresh, Dk.fresh k) := by
  refine (law9_Acceptors_d n k hn0 hn9 h1 h2).mono ?_
  rintro e w' ⟨L, p, rfl, h3, hb, ha, hd⟩
  refine ⟨L, rfl, p, ?_, hb, ha, fun k _ hk => hd k hk⟩
  unfold rgM
  rw [show dnR n 0 = List.replicate n false from by simp [dnR], mixA_up]
  exact h3
theorem StI.net {W w : World} {L n i : Nat} {X : Fs × St × Dk} (h : StI W w L n i X) : ∃ N, w.cell? ⟨L, 0, none⟩ = some (.pointer (some ⟨N, 0, none⟩)) ∧ Calls Tryz.prog 9 #[.pointer (some ⟨N, 0, none⟩)] w fun e w' => e = .returned (.bool true) ∧ w' = w := by
  obtain ⟨p, h, _⟩ := h
  exact ⟨_, h.link.cell (o := 0) rfl, net_Made h.net.net⟩
/-- The next one is stopped. -/
theorem StI.stop {W w : World} {L n i : Nat} {X : Fs × St × Dk} (h : StI W w L n i X) (hi : i < n) : ∃ na c x, w.cell? ⟨L, 1, none⟩ = some (.slice (some ⟨na, 0, none⟩) n c) ∧ w.cell? ⟨na, i, none⟩ = some (.pointer (some ⟨x, 0, none⟩)) ∧
    Calls Tryz.prog 14 #[.pointer (some ⟨x, 0, none⟩)] w fun e w' => (∃ v, e = .returned v) ∧ StI W w' L n (i + 1) X := by
  obtain ⟨p, h1, h2, h3, h4⟩ := h
  obtain ⟨x, dk, u, u2, e1, e2, e3⟩ := h4 i (Nat.le_refl _) hi
  obtain ⟨cs, hcs, hvs⟩ := h1.arr
  have hln : (rgM (dnR n i) X 100).acs.length = n := by rw [rgM_len, dnR_len (by omega)]
  have hl1 := h1.link.cell (o := 1) rfl
  rw [hln] at hl1
  refine ⟨p.na, p.cap, x, hl1, hcs.cell (hvs i _ e1), ?_⟩
  refine (rg_Stop h1 (by rw [hln]; exact hi) e1 e3 e2).mono ?_
  rintro e w' ⟨hx, h5, he⟩
  have hxl := h3 x (.inr (.inr (.inr ⟨i, e3⟩)))
  refine ⟨hx, p, ?_, h2.trans (he.belowOf h2.size (fun b hb e => by have e9 : b = x := e; omega)), h3, fun k hk hkn => ?_⟩
  · have : (⟨(rgM (dnR n i) X 100).net, (rgM (dnR n i) X 100).acs.set i none, (rgM (dnR n i) X 100).base⟩ : RgS) = rgM (dnR n (i + 1)) X 100 := by
      unfold rgM
      simp only
      rw [dnR_set hi]
    rw [← this]
    exact h5
  · obtain ⟨y, dk, v, v2, f1, f2, f3⟩ := h4 k (by omega) hkn
    refine ⟨y, dk, v, v2, f1, f2.ext he (fun e9 => ?_), f3⟩
    have e9 : y = x := e9
    rw [e9] at f3
    have := h1.dis k i x f3 e3
    omega
theorem StI.mr {W w : World} {L n i m : Nat} (h : StI W w L n i ([], St.fresh, Dk.fresh m)) : MR W w L (dnR n i) m 0 (fun _ => 0) (fun _ => []) := by
  obtain ⟨p, h1, h2, h3, _⟩ := h
  exact ⟨_, ⟨p, h1, h2, h3⟩, AcI.start m, finv_begin⟩
/-- A link, and a value beside it. -/
def MRk (W0 W : World) (L : Nat) (dn : List Bool) (m j : Nat) (c : Int → Nat) (v : Int → List UInt8) (vv : Value) : Prop := ∃ X, (∃ p, RgAt W L p (rgM dn X 100) ∧ Below W0.heap.size W0 W ∧ (∀ b, p.all L b → W0.heap.size ≤ b) ∧ ∀ g, obk vv = some g → ¬ p.all L g ∧ g < W.heap.size) ∧ RgM m j X c v
section
variable {W0 W : World} {L m j : Nat} {dn : List Bool} {c : Int → Nat} {v : Int → List UInt8}
theorem MRk.mr {vv : Value} (r : MRk W0 W L dn m j c v vv) : MR W0 W L dn m j c v := by
  obtain ⟨X, ⟨p, h1, h2, h3, _⟩, h4⟩ := r
  exact ⟨X, ⟨p, h1, h2, h3⟩, h4⟩
theorem mr_read_k (r : MR W0 W L dn m j c v) (hu : dn.length / 2 + 1 ≤ upA dn) (h1 : 1 ≤ dn.length) (h9 : dn.length ≤ 9) (key id : Int) (hk : 0 ≤ key ∧ key < 281474976710656) (hi : 0 ≤ id ∧ id < 16) (hc : c key < 1000000) :
    Calls Tryz.prog 11 #[.pointer (some ⟨L, 0, none⟩), .int .i64 key, .int .i64 id] W fun e w' => ∃ vv, e = .returned (.tuple #[.int .i64 (c key : Int), vv, .int .i64 0]) ∧ MRk W0 w' L dn m j c v vv ∧ Bs w' vv (if c key = 0 then [] else v key) := by
  obtain ⟨X, ⟨p, h, hb, ha⟩, h3⟩ := r
  refine (reg_Read h (rgM_room _ _ _ (by rw [rgM_len]; omega)) key id).mono ?_
  rw [read_mix h3 hu h1 h9 key id hk hi hc]
  rintro e w' ⟨p', vv, rfl, h', hg, hx, hv, hgv⟩
  have hs : Below W0.heap.size W0 w' := hb.trans (hx.belowOf hb.size (fun b hl hc => by have := ha b hc; omega))
  have ha' : ∀ b, p'.all L b → W0.heap.size ≤ b := fun b hc => (hg b hc).elim (ha b) (fun h => Nat.le_trans hb.size h)
  by_cases hz : c key = 0
  · rw [if_pos hz] at hv ⊢
    refine ⟨vv, ?_, ⟨X, ⟨p', h', hs, ha', hgv⟩, h3⟩, ?_⟩
    · rw [hz]; rfl
    · rw [if_pos hz]; exact hv
  · rw [if_neg hz] at hv ⊢
    refine ⟨vv, rfl, ⟨X, ⟨p', h', hs, ha', hgv⟩, h3⟩, ?_⟩
    rw [if_neg hz]; exact hv
theorem mr_swap_k {v0 : Value} {l0 : List UInt8} (r : MRk W0 W L dn m j c v v0) (hb0 : Bs W v0 l0) (hj : j + 3 ≤ m) (hj2 : j + 3 ≤ 4095) (hu : dn.length / 2 + 1 ≤ upA dn) (h1 : 1 ≤ dn.length) (h9 : dn.length ≤ 9) {W' : World} (b : Below W.heap.size W W') (key id ver : Int) (hk : 0 ≤ key ∧ key < 281474976710656) (hi : 0 ≤ id ∧ id < 16) (hver : 0 ≤ ver ∧ ver < 1000000) (hc : c key < 1000000) (vv : Value) (l : List UInt8) (hl : l.length ≤ 100) (hv : Bs W' vv l) (hvo : ∀ g, obk vv = some g → (g < W0.heap.size ∨ W.heap.size ≤ g) ∧ g < W'.heap.size) (hne : ver ≠ (c key : Int)) :
    Calls Tryz.prog 12 #[.pointer (some ⟨L, 0, none⟩), .int .i64 key, .int .i64 id, .int .i64 ver, vv] W' fun e w' => e = .returned (.int .i64 34) ∧ MR W0 w' L dn m j c v ∧ Bs w' v0 l0 := by
  obtain ⟨X, ⟨p, h, hb, ha, hk0⟩, h3⟩ := r
  have h' := h.keep b
  refine (reg_Swap h' (rgM_room _ _ _ (by rw [rgM_len]; omega)) key id ver vv l hv (fun g hg => ⟨fun hc => ?_, (hvo g hg).2⟩)).mono ?_
  · have h1 := h.size hc
    have h2 := ha g hc
    rcases (hvo g hg).1 with h3 | h3 <;> omega
  · rcases swap_mix (bs := 100) h3 hj hj2 hu h1 h9 key id ver hk hi hver hc l hl with ⟨he, _⟩ | ⟨he, hs⟩
    · exact absurd he hne
    · rw [hs]
      rintro e w' ⟨p', rfl, h2, hg, hx⟩
      exact ⟨rfl, ⟨X, RR.step h' (hb.trans (b.mono hb.size)) ha h2 hg hx, h3⟩, (hb0.keep b).extO hx (fun g hg _ hc => (hk0 g hg).1 hc)⟩
end
section
variable {W : World}
set_option maxRecDepth 100000 in
set_option maxHeartbeats 12800000 in
theorem law_rgRow (z0 z1 : Int) (v2 v3 : Value) (ls : List (List UInt8)) (ids : List Int) (hl : Bss W v2 ls) (hn : ls.length ≤ 9223372036854775807) (hi : Is W v3 ids) (hin : ids.length ≤ 9223372036854775807) :
    Calls Tryz.prog 4 #[.int .i64 z0, .int .i64 z1, v2, v3] W fun e w' => e = .returned (.bool true) ∧ Below W.heap.size W w' := by
  have hz0 : wrap64 0 = 0 := by unfold wrap64; omega
  obtain ⟨n, hn1, hn7, hw1, hw2⟩ := mod7_nums z0
  obtain ⟨hh, d, hd1, hd2, hd3, hh3, hq, hw3, hw4, hw5⟩ := down_nums z1 n hn1 hn7
  obtain ⟨a2, c2, rfl, hop⟩ := hl
  have HOP := hid hop
  obtain ⟨N, hN⟩ : ∃ N, ls.length = N := ⟨_, rfl⟩
  rw [hN] at hn ⊢
  have HN := hid hN
  obtain ⟨a3, c3, rfl, hoi⟩ := hi
  have HOI := hid hoi
  obtain ⟨M, hM⟩ : ∃ M, ids.length = M := ⟨_, rfl⟩
  rw [hM] at hin ⊢
  have HMM := hid hM
  clear hop hN hoi hM
  go_enter Tryz.func4, Tryz.ntmps4
  go_upto_region 2 with fail
  rw [hw2]
  have HNN := hid (And.intro hn1 (And.intro hn7 (And.intro hd1 (And.intro hd2 (And.intro hd3 hh3)))))
  have HQQ := hid (And.intro hq (And.intro hw3 (And.intro hw4 hw5)))
  clear hd1 hd2 hd3 hh3 hq hw1 hw2 hw3 hw4 hw5
  go_wp2_with fail
  refine (StI.made W n 400 hn1 (by omega) (by decide) (by decide)).mono ?_
  rintro e A0 ⟨L, rfl, r0⟩
  obtain ⟨N0, c9, hm0⟩ := r0.net
  have HM := hid hm0
  have HR0 := hid r0
  clear hm0 r0
  go_wp2_with fail
  refine HM.out.mono ?_
  rintro e w9 ⟨rfl, hw9⟩
  rw [hw9]
  clear hw9 w9 HM c9
  go_wp2_with fail
  refine law9_knows.mono ?_
  rintro e A1 ⟨rfl, b1⟩
  have HR1 := hid (HR0.out.keep b1)
  clear b1 HR0
  have hh3 := HNN.out.2.2.2.2.2
  have w1 : wrap64 ((n : Int) - 1) = (n : Int) - 1 := by unfold wrap64; omega
  have w2 : wrap64 (hh : Int) = (hh : Int) := by unfold wrap64; omega
  have w3 : wrap64 ((hh : Int) + 1) = (hh : Int) + 1 := by unfold wrap64; omega
  have w4 : ((hh : Int) + 1 == 0) = false := beq_eq_false_iff_ne.2 (by omega)
  clear hh3
  clear hn1 hn7
  go_upto_region 5 with fail
  obtain ⟨hq, hw3, hw4, hw5⟩ := HQQ.out
  go_upto_region 6 with fail
  clear hq hw3 hw4 hw5 w1 w2 w3 w4
  go_upto_region 7 with fail
  go_loopw [10] (fun i wr => ∃ t : Nat, t ≤ d ∧ i = .int .i64 (t : Int) ∧ StI W wr L n t ([], St.fresh, Dk.fresh 400)) (fun i _ => d - (intOf i).toNat)
  case atStart => exact ⟨0, Nat.zero_le _, rfl, HR1.out⟩
  case round =>
    obtain ⟨t, ht, rfl, hS⟩ := hrel
    by_cases hlt : t < d
    · have hd1 : decide ((t : Int) < (d : Int)) = true := decide_eq_true (by omega)
      have htn : t < n := by have := HNN.out.2.2.2.2.1; omega
      have htn7 : n ≤ 7 := HNN.out.2.1
      have wt : wrap64 ((t : Int) + 1) = (t : Int) + 1 := by unfold wrap64; omega
      obtain ⟨na, c, x, e1, e2, hC⟩ := hS.stop htn
      have HC := hid hC
      clear hS hC
      go_wp2_with fail
      refine HC.out.mono ?_
      rintro e wz ⟨⟨vz, rfl⟩, hz⟩
      have HZ := hid hz
      clear hz HC e1 e2
      go_wp2_with fail
      go_roundw
      case rel => exact ⟨t + 1, by omega, by go_num, HZ.out⟩
      case measure => simp [intOf]; omega
    · obtain rfl : t = d := by omega
      have hd1 : decide ((t : Int) < (t : Int)) = false := decide_eq_false (by omega)
      have hM0 := hS.mr
      have hlen : (dnR n t).length = n := dnR_len HNN.out.2.2.2.2.1
      have HUP := hid (show (dnR n t).length / 2 + 1 ≤ upA (dnR n t) ∧ 1 ≤ (dnR n t).length ∧ (dnR n t).length ≤ 9 from by
        rw [hlen, dnR_up]
        have := HNN.out
        omega)
      have HM0 := hid hM0
      clear hS hM0 hlen hlt ht
      generalize dnR n t = dn at *
      go_upto_region 11 with fail
      clear hd1
      obtain ⟨wo, rfl⟩ : ∃ wo : World, wo = wr := ⟨_, rfl⟩
      go_loopw [11] (fun i wr => ∃ (j : Nat) (c : Int → Nat) (v : Int → List UInt8), j ≤ N ∧ j ≤ 20 ∧ i = .int .i64 (j : Int) ∧ MR W wr L dn 400 (3 * j) c v ∧ c 2 = j ∧ c 3 = 0) (fun i _ => N - (intOf i).toNat)
      case atStart => exact ⟨0, _, _, Nat.zero_le _, by omega, rfl, HM0.out, rfl, rfl⟩
      case round =>
        obtain ⟨j, c, v, hj, h20, rfl, hM, hc2, hc3⟩ := hrel
        by_cases hin : j < N ∧ j < 20
        · have hlt := hin.1
          have hlt2 := hin.2
          have hd1 : decide ((j : Int) < (N : Int)) = true := decide_eq_true (by omega)
          have hd2 : decide ((j : Int) < 20) = true := decide_eq_true (by omega)
          have wt : wrap64 ((j : Int) + 1) = (j : Int) + 1 := by unfold wrap64; omega
          obtain ⟨l, hl⟩ : ∃ l, ls[j]? = some l := ⟨_, List.getElem?_eq_getElem (by rw [HN.out]; exact hlt)⟩
          obtain ⟨g, f, b, rfl, hcb, hbs⟩ := HOP.out j l hl
          have hbw := hM.below
          have hcr : wr.cell? ⟨g, f + j, none⟩ = some b := by rw [hbw.cell (World.block_lt_of_cell? W _ hcb)]; exact hcb
          have hbr := hbs.keep hbw
          have hbl := hbs.len
          obtain ⟨ba, bc, hbf⟩ := hbs.form
          have HB := hid (And.intro hbs (And.intro hbr hM))
          have HC := hid (And.intro hc2 hc3)
          subst hbf
          clear hl hcb hbs hbw hbr hM hc2 hc3 hin
          go_upto_if 88 with fail
          go_cut [12] from 89 to 144 (fun s12 wx => wr = wx ∧ ∃ l' c', s12 = .slice ba l'.length c' ∧ l'.length ≤ 100 ∧ Bs W (.slice ba l'.length c') l' ∧ Bs wr (.slice ba l'.length c') l')
          case first =>
            by_cases hcut : l.length > 100
            · have hdc : decide ((l.length : Int) > 100) = true := decide_eq_true (by omega)
              obtain ⟨hb1, hb2⟩ := HB.out.1.cut (k := 100) (by omega)
              have hsl : ∀ w, (Instr.slice 30 (.slice ba l.length bc) none (some (.int .i64 100)) none).run Tryz.prog w = .ok (.slice ba 100 bc) w := fun w => run_slice_to (P := Tryz.prog) Tryz.underlying30 szu8 ba l.length bc 100 (by omega) (by omega) w
              have HB2 := hid (And.intro hb2 (HB.out.2.1.cut (k := 100) (by omega)).2)
              have htl : (l.take 100).length = 100 := by simp; omega
              have HTL := hid htl
              clear hb1 hb2 htl
              go_wp2_with fail
              all_goals first | (exfalso; omega) | skip
              go_meet
              case rel =>
                refine ⟨rfl, l.take 100, bc, by rw [HTL.out], by rw [HTL.out]; omega, ?_, ?_⟩
                · rw [HTL.out]; exact HB2.out.1
                · rw [HTL.out]; exact HB2.out.2
            · have hdc : decide ((l.length : Int) > 100) = false := decide_eq_false (by omega)
              go_wp2_with fail
              all_goals first | (exfalso; omega) | skip
              go_meet
              case rel => exact ⟨rfl, l, bc, rfl, by omega, HB.out.1, HB.out.2.1⟩
          case rest =>
            obtain ⟨hww, l', c', rfl, hl1, hb0, hb1⟩ := hcut
            subst hww
            have HL := hid (And.intro hl1 (And.intro hb0 hb1))
            clear hl1 hb0 hb1 hbl hcr
            go_upto_if 94 with fail
            go_cut [13] from 95 to 144 (fun s13 wx => wr = wx ∧ ∃ x : Int, s13 = .int .i64 x ∧ 0 ≤ x ∧ x < 16)
            case first =>
              by_cases hji : j < M
              · have hdi : decide ((j : Int) < (M : Int)) = true := decide_eq_true (by omega)
                obtain ⟨y, hy⟩ : ∃ y, ids[j]? = some y := ⟨_, List.getElem?_eq_getElem (by rw [HMM.out]; exact hji)⟩
                obtain ⟨g3, o3, rfl, hc3⟩ := HOI.out j y hy
                have hcy : wr.cell? ⟨g3, o3 + j, none⟩ = some (.int .i64 y) := by rw [HB.out.2.2.below.cell (World.block_lt_of_cell? W _ hc3)]; exact hc3
                obtain ⟨wy, hyb⟩ := modk_wrap y 16 (by decide) (by decide)
                have HY := hid hyb
                clear hy hc3 hyb
                go_wp2_with fail
                all_goals first | (exfalso; omega) | skip
                go_meet
                case rel => exact ⟨rfl, _, rfl, HY.out⟩
              · have hdi : decide ((j : Int) < (M : Int)) = false := decide_eq_false (by omega)
                go_wp2_with fail
                all_goals first | (exfalso; omega) | skip
                go_meet
                case rel => exact ⟨rfl, 0, rfl, by omega, by omega⟩
            case rest =>
              obtain ⟨hww, x, rfl, hx0, hx16⟩ := hcut
              subst hww
              obtain ⟨hl1, hb0, hb1⟩ := HL.out
              have hcc := HC.out
              have HC1 := hid (mr_swap HB.out.2.2 (by omega) (by omega) HUP.out.1 HUP.out.2.1 HUP.out.2.2 (Below.refl _ _) 2 x (j : Int) (by decide) ⟨hx0, hx16⟩ ⟨by omega, by omega⟩ (by omega) (.slice ba l'.length c') l' hl1 hb1 (fun g hg => by
                have h9 := hb0.obk_lt hg
                have h8 := HB.out.2.2.below.size
                exact ⟨.inl h9, by omega⟩))
              have wx : wrap64 (15 - x) = 15 - x := by unfold wrap64; omega
              have HX := hid (And.intro hx0 hx16)
              clear hl1 hb0 hb1 hcc
              clear hx0 hx16
              go_wp2_with fail
              refine HC1.out.mono ?_
              rintro e A2 (⟨-, rfl, r2⟩ | ⟨h9, -⟩)
              case inr => exact absurd (by rw [HC.out.1] : (j : Int) = ((c 2 : Nat) : Int)) h9
              have hc2 : setC c 2 (c 2 + 1) 2 = j + 1 := by unfold setC; rw [if_pos rfl, HC.out.1]
              have hc3 : setC c 2 (c 2 + 1) 3 = 0 := by unfold setC; rw [if_neg (by decide)]; exact HC.out.2
              have hv2 : setV v 2 l' 2 = l' := by unfold setV; rw [if_pos rfl]
              generalize setC c 2 (c 2 + 1) = cn at *
              generalize setV v 2 l' = vn at *
              have hxx := HX.out
              have hC2 := mr_read_k r2 HUP.out.1 HUP.out.2.1 HUP.out.2.2 2 (15 - x) (by decide) ⟨by omega, by omega⟩ (by rw [hc2]; omega)
              rw [hc2, hv2, if_neg (by omega)] at hC2
              have HC2 := hid hC2
              have HCC := hid (And.intro hc2 hc3)
              clear hC2 hc2 hc3 hv2 r2 HC1 hxx
              go_wp2_with fail
              refine HC2.out.mono ?_
              rintro e A3 ⟨vv, rfl, r3, hv3⟩
              obtain ⟨a9, c9, rfl⟩ := hv3.form
              obtain ⟨A4, hA4⟩ : ∃ V, (A3.alloc (.cells (([97, 110, 111, 116, 104, 101, 114] : List UInt8).map bv).toArray 5)).freeze ⟨A3.heap.size, 7, none⟩ 1 = V := ⟨_, rfl⟩
              have hcv4 : (convert 30 30 (.slice (some ⟨A3.heap.size, 0, none⟩) 7 7)).run Tryz.prog (A3.alloc (.cells #[.int .u8 97, .int .u8 110, .int .u8 111, .int .u8 116, .int .u8 104, .int .u8 101, .int .u8 114] 5)) = .ok (.slice (some ⟨A3.heap.size, 0, none⟩) 7 7) A4 := litN_conv rfl hA4
              have hx9 := HX.out
              have hcn := HCC.out.1
              have HC3 := hid (mr_swap_k r3 hv3 (by omega) (by omega) HUP.out.1 HUP.out.2.1 HUP.out.2.2 (litN_below hA4) 2 x (j : Int) (by decide) hx9 ⟨by omega, by omega⟩ (by omega) (.slice (some ⟨A3.heap.size, 0, none⟩) 7 7) [97, 110, 111, 116, 104, 101, 114] (by decide) (litN_bs [97, 110, 111, 116, 104, 101, 114] 7 rfl (by unfold maxLen; decide) hA4) (fun g hg => by have hg := obk_own hg; cases hg; exact ⟨.inr (Nat.le_refl _), litN_lt hA4⟩) (by rw [hcn]; omega))
              have hb4 := litN_below hA4
              have HB4 := hid hb4
              clear hA4 hx9 hcn hv3 r3 hb4 HC2
              go_wp2_with fail
              refine HC3.out.mono ?_
              rintro e A5 ⟨rfl, r5, hv5⟩
              have hc5a := run_bytes_string (P := Tryz.prog) Tryz.underlying30 Tryz.underlying5 Tryz.underlying9 hv5
              have hl5 : Bs A5 (.slice ba l'.length c') l' := by
                refine (HL.out.2.1.keep r5.below)
              have hc5b := run_bytes_string (P := Tryz.prog) Tryz.underlying30 Tryz.underlying5 Tryz.underlying9 hl5
              have hbq : (l' == l') = true := by simp
              clear hv5 hl5
              have HB5 := hid r5.below
              have HR5 := hid r5
              clear r5 HC3 hcv4
              go_wp2_with fail
              refine (law9_num 0 _).mono ?_
              rintro e w9 ⟨rfl, hw9⟩
              rw [hw9]
              clear hw9 w9
              go_wp2_with fail
              refine (law9_num 0 _).mono ?_
              rintro e w9 ⟨rfl, hw9⟩
              rw [hw9]
              clear hw9 w9
              have w5 : ((j : Int) + 1 != (j : Int) + 1) = false := by simp
              go_wp2_with fail
              refine (law9_num 34 _).mono ?_
              rintro e w9 ⟨rfl, hw9⟩
              rw [hw9]
              clear hw9 w9
              go_wp2_with fail
              go_roundw
              case rel => exact ⟨j + 1, cn, vn, by omega, by omega, by go_num, HR5.out, HCC.out.1, HCC.out.2⟩
              case measure => simp [intOf]; omega
        · have HME := hid (And.intro hM (And.intro hc2 hc3))
          have hx : (decide ((j : Int) < (N : Int)) = true ∧ decide ((j : Int) < 20) = false) ∨ decide ((j : Int) < (N : Int)) = false := by
            by_cases h1 : j < N
            · exact .inl ⟨decide_eq_true (by omega), decide_eq_false (by omega)⟩
            · exact .inr (decide_eq_false (by omega))
          have HC := hid (mr_read hM HUP.out.1 HUP.out.2.1 HUP.out.2.2 3 0 (by decide) (by decide) (by rw [hc3]; decide))
          have hc0 : ((c 3 : Nat) : Int) = 0 := by rw [hc3]; rfl
          rw [hc0] at HC
          clear hM hc2 hc3
          rcases hx with ⟨hd1, hd2⟩ | hd1
          all_goals (go_wp2_with fail)
          all_goals (refine HC.out.mono ?_; rintro e B1 ⟨v9, rfl, r9, hv9⟩; obtain ⟨a9, c9, hvf9⟩ := hv9.form; subst hvf9; have HB9 := hid r9.below; clear r9 hv9 HC)
          all_goals (go_wp2_with fail)
          all_goals (refine (law9_num 0 _).mono ?_; rintro e w9 ⟨rfl, hw9⟩; rw [hw9]; clear hw9 w9)
          all_goals (go_wp2_with fail)
          all_goals go_ret
          all_goals exact ⟨rfl, HB9.out⟩
end
end Go.Proofs.YtcdcjoofcbdilaaGreat
