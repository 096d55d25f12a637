import Derived.Test.YtbahjinlcbjikaaGreatMRef7
import Derived.Test.YtbahjinlcbjikaaGreatConfigs
import Derived.Test.YtbahjinlcbjikaaGreatLkO
import Derived.Deep.Cut
/-! gazettelaw07.LogletCounts. -/
namespace Go.Proofs.YtbahjinlcbjikaaGreat
open Go.RowKit

theorem mod9_nums (x : Int) : ∃ n : Nat, 1 ≤ n ∧ n ≤ 9 ∧ wrap64 (x.tmod 9 + 9) = x.tmod 9 + 9 ∧ wrap64 (1 + (x.tmod 9 + 9).tmod 9) = (n : Int) := by
  have h1 := Int.lt_tmod_of_pos x (show (0 : Int) < 9 by omega)
  have h2 := Int.tmod_lt_of_pos x (show (0 : Int) < 9 by omega)
  have hb := mod9_bound x
  unfold mod9 at hb
  refine ⟨(1 + (x.tmod 9 + 9).tmod 9).toNat, by omega, by omega, ?_, ?_⟩
  · generalize x.tmod 9 = t at *
    unfold wrap64
    omega
  · generalize (x.tmod 9 + 9).tmod 9 = t at *
    unfold wrap64
    omega
theorem w64_small {k : Nat} (h : k ≤ 9) : wrap64 ((k : Int) + 1) = (k : Int) + 1 := by unfold wrap64; omega
/-- A truth that can be read, at a place of a slice. -/
theorem BoS.at_ {w : World} {a : Option Addr} {n c : Nat} {l : List Bool} (h : BoS w (.slice a n c) l) {k : Nat} (hk : k < l.length) : ∃ g o, a = some ⟨g, o, none⟩ ∧ w.cell? ⟨g, o + k, none⟩ = some (.bool ((l[k]?).getD false)) := by
  obtain ⟨a', c', e, hr⟩ := h
  cases e
  obtain ⟨g, o, e, hc⟩ := hr k l[k] (by simp)
  exact ⟨g, o, e, by rw [hc]; simp [hk]⟩
/-- LogletCounts behind its loop. -/
structure CT (W w : World) (L T : Nat) (v dv : Value) (dn : List Bool) (lt : List UInt8) (X : St × Dk) (O : Nat → Prop) : Prop where
  lk : LkO W w L (cL dn X) O
  cfg : Blk w T #[.int .i64 4, v] 24
  row : OwnI w (T + 1) 3 v (idxL 0 dn.length)
  data : Bs w dv lt
  oT : O T
  ov : ∀ g, v.ownBlock = some g → O g
  od : ∀ g, dv.ownBlock = some g → O g
theorem CT.keep {W w w2 : World} {L T : Nat} {v dv : Value} {dn : List Bool} {lt : List UInt8} {X : St × Dk} {O : Nat → Prop} (h : CT W w L T v dv dn lt X O) (hb : Below w.heap.size w w2) : CT W w2 L T v dv dn lt X O :=
  ⟨h.lk.keep hb, h.cfg.keep hb, OwnI.ext (fp := nofp) h.row (Ext.ofBelow hb) (fun _ _ h => h), h.data.keep hb, h.oT, h.ov, h.od⟩
theorem CT.next {W w w2 : World} {L T : Nat} {v dv : Value} {dn : List Bool} {lt : List UInt8} {X X' : St × Dk} {O O' : Nat → Prop} (h : CT W w L T v dv dn lt X O) (hl : LkO W w2 L (cL dn X') O') (ho : ∀ b, O b → O' b) (he : Ext (notO O) w w2) : CT W w2 L T v dv dn lt X' O' :=
  ⟨hl, h.cfg.ext he (fun hc => hc h.oT), OwnI.ext h.row he (fun k hk hc => hc (h.ov k hk)), h.data.ext he (fun k hk _ hc => hc (h.od k hk)), ho _ h.oT, fun g hg => ho g (h.ov g hg), fun g hg => ho g (h.od g hg)⟩
theorem cL_prompt (dn : List Bool) (X : St × Dk) : (cL dn X).prompt := fun x hx => by cases hx
theorem run_append08 {P : Program} {T E : TypeId} {i : TypeInfo} (ht : P.underlying T = some (.slice E)) (hi : P.info? E = some i) (hz : i.zero = some (.int .u8 0)) (hsz : i.size = 1) (hby : i.bytes = 1) (ty : TypeId)
    {w : World} {g : Nat} {x : Value} {m : List UInt8} (hx : Bs w x m) (hg : g < w.heap.size) (hlen : m.length ≤ 140737488355328) :
    ∃ v' w', (Builtin.append_ #[T, T] ty #[.slice (some ⟨g, 0, none⟩) 0 0, x]).run P w = .ok v' w' ∧ Bs w' v' m ∧ (∀ k, v'.ownBlock = some k → (k = g ∨ w.heap.size ≤ k) ∧ k < w'.heap.size) ∧ Below w.heap.size w w' := by
  rcases hx.cases with ⟨rfl, rfl⟩ | ⟨g0, o0, c, rfl, hc, hm, hr⟩
  · refine ⟨.slice (some ⟨g, 0, none⟩) 0 0, w, ?_, Bs.mk rfl (Nat.le_refl _) (Nat.zero_le _) (fun i u h => by simp at h), fun k hk => ?_, Below.refl _ _⟩
    · simp [Builtin.append_, run_underlying ht, sizeOf, typeInfo, hi, Builtin.lenOf, Builtin.firstCells, storeCells]
    · cases hk
      exact ⟨.inl rfl, hg⟩
  · by_cases hm0 : m = []
    · subst hm0
      refine ⟨.slice (some ⟨g, 0, none⟩) 0 0, w, ?_, Bs.mk rfl (Nat.le_refl _) (Nat.zero_le _) (fun i u h => by simp at h), fun k hk => ?_, Below.refl _ _⟩
      · simp [Builtin.append_, run_underlying ht, sizeOf, typeInfo, hi, hsz, Builtin.lenOf, Builtin.firstCells, storeCells, loadCells, loadCellsFrom]
      · cases hk
        exact ⟨.inl rfl, hg⟩
    · have hpos : 0 < m.length := List.length_pos_iff.2 hm0
      obtain ⟨v', w', h1, h2, h3⟩ := run_append_arg_grows (P := P) w T ty E i _ 1 1 ht hi hz hsz hby rfl (by decide) ⟨g, 0, none⟩ 0 0 [] rfl (fun j u hu => by simp at hu) ⟨g0, o0, none⟩ m.length c (m.map bv) (by simp) (fun j u hu => by
        simp only [List.getElem?_map, Option.map_eq_some_iff] at hu
        obtain ⟨b, hb, rfl⟩ := hu
        have := hr j b hb
        unfold Addr.add
        split
        · rename_i hj
          subst hj
          simpa using this
        · exact this) (by omega) (by unfold maxLen at *; omega) (by omega)
      have h2' : Own8 w' w.heap.size E v' m := by
        have e : 0 + m.length = m.length := Nat.zero_add _
        rw [e, List.nil_append] at h2
        exact h2
      exact ⟨v', w', h1, h2'.bs, fun k hk => ⟨.inr (h2'.blk k hk).1, (h2'.blk k hk).2⟩, ⟨h3.os, h3.tape, h3.output, h3.size, fun k hk => h3.block k hk (by simp)⟩⟩
section
variable {W : World}
/-- The state at the loop's head. -/
def CLoop (W wr : World) (L T : Nat) (p0 : LkP) (dl : List Bool) (n k : Nat) : Prop :=
  (∃ v, Blk wr T #[.int .i64 4, v] 24 ∧ OwnI wr (T + 1) 3 v (idxL 0 k)) ∧ LkAt wr L p0 ⟨[], midL dl k n (St.fresh, Dk.fresh 30)⟩ ∧ Below W.heap.size W wr ∧ (∀ i, k ≤ i → i < n → ∃ x dk u, p0.vs[i]? = some (.pointer (some ⟨x, 0, none⟩)) ∧ Blk wr x #[.pointer (some ⟨dk, 0, none⟩), u] 99 ∧ p0.ow i x)
set_option maxRecDepth 100000 in
set_option maxHeartbeats 12800000 in
theorem law7_counts (dv dtv : Value) (dl : List Bool) (n0 : Int) (l0 : List UInt8) (hd : BoS W dv dl) (hdl : dl.length ≤ 9223372036854775807) (ht : Bs W dtv l0) (hdo : ∀ g, dtv.ownBlock = some g → g < W.heap.size) :
    Calls Tryz.prog 4 #[dv, .int .i64 n0, dtv] W fun e w' => e = .returned (.bool true) ∧ Below W.heap.size W w' := by
  obtain ⟨n, hn1, hn9, hw1, hw2⟩ := mod9_nums n0
  obtain ⟨ba, bc, hdv⟩ : ∃ a c, dv = .slice a dl.length c := by obtain ⟨a, c, e, _⟩ := hd; exact ⟨a, c, e⟩
  obtain ⟨da, dc, hdt⟩ := ht.form
  subst hdv
  subst hdt
  obtain ⟨lt, hlt⟩ : ∃ lt, l0.take 1000 = lt := ⟨_, rfl⟩
  have hltl : lt.length ≤ 1000 := by rw [← hlt]; simp; omega
  have hdc : l0.length ≤ dc := by
    obtain ⟨_, c9, e9, hc9, _⟩ := ht
    injection e9 with _ _ e9
    subst e9
    exact hc9
  have HT := hid (show Bs W (.slice da lt.length dc) lt from by
    obtain ⟨a9, c9, e9, hc9, hm9, hn9, hs9, hr9⟩ := ht
    injection e9 with e7 _ e9
    subst e9
    subst e7
    rw [← hlt]
    exact ⟨_, _, rfl, by simp; omega, hm9, hn9, hs9, fun i u hi => hr9 i u (by rw [List.getElem?_take] at hi; split at hi; exact hi; cases hi)⟩)
  have HO := hid (show ∀ g, (Value.slice da lt.length dc).ownBlock = some g → g < W.heap.size from fun g hg => hdo g (by rw [← hg]; cases da <;> rfl))
  have HD := hid hd
  have HN0 : ∀ w : World, Calls Tryz.prog 15 #[.int .i64 (n : Int), .int .i64 30] w _ := fun w => law7_Nodes_d (W := w) n 30 hn1 (by omega) (by decide) (by decide)
  have HN := hid HN0
  clear hd ht hdo HN0
  go_enter Tryz.func4, Tryz.ntmps4
  go_upto_if 25 with fail
  go_cut [1, 2] from 18 (fun m d wx => m = .int .i64 (n : Int) ∧ d = .slice da lt.length dc ∧ W = wx)
  case first =>
    by_cases hcut : l0.length > 1000
    · have hll : lt.length = 1000 := by rw [← hlt]; simp; omega
      have hsl : ∀ w, (Instr.slice 35 (.slice da l0.length dc) none (some (.int .i64 1000)) none).run Tryz.prog w = .ok (.slice da lt.length dc) w := fun w => by
        rw [hll]
        exact run_slice_to (P := Tryz.prog) Tryz.underlying35 szu8 da l0.length dc 1000 (by omega) (by omega) w
      clear hlt hll hw1
      have HW2 := hid hw2
      clear hw2
      go_wp2_with fail
      all_goals first | (exfalso; omega) | skip
      go_meet
      case rel => exact ⟨congrArg (Value.int .i64) HW2.out, rfl, rfl⟩
    · have hle : l0 = lt := by rw [← hlt]; exact (List.take_of_length_le (by omega)).symm
      subst hle
      clear hlt hw1
      have HW2 := hid hw2
      clear hw2
      go_wp2_with fail
      all_goals first | (exfalso; omega) | skip
      go_meet
      case rel => exact ⟨congrArg (Value.int .i64) HW2.out, rfl, rfl⟩
  case rest =>
    obtain ⟨rfl, rfl, rfl⟩ := hcut
    clear hlt hw1 hw2 hdc
    go_wp2_with fail
    refine (HN.out _).mono ?_
    rintro e A0 ⟨L, p0, rfl, hL0, b0, ha0, hdk⟩
    have c0 := hL0.link.cell (o := 0) rfl
    have HM := hid (net_Made hL0.net)
    have H0 := hid (And.intro hL0 (And.intro b0 (And.intro ha0 hdk)))
    clear hL0 b0 ha0 hdk HN
    go_wp2_with fail
    refine HM.out.mono ?_
    rintro e wd ⟨rfl, hwd⟩
    rw [hwd]
    clear hwd wd HM
    go_wp2_with fail
    refine (law7_knows (W := A0)).mono ?_
    rintro e A1 ⟨rfl, b1⟩
    have H1 := hid b1
    clear b1 c0
    go_wp2_with fail
    obtain ⟨T, hT⟩ : ∃ T, A1.heap.size = T := ⟨_, rfl⟩
    have kT := Blk.new A1 #[.int .i64 4, .slice none 0 0] 24
    have bT : Below A1.heap.size A1 (A1.alloc (.cells #[.int .i64 4, .slice none 0 0] 24)) := (Below.refl _ _).alloc (Nat.le_refl _) _
    have hTs : T < (A1.alloc (.cells #[.int .i64 4, .slice none 0 0] 24)).heap.size := by rw [← hT]; simp
    rw [hT] at kT
    try rw [hT]
    have hTA : A0.heap.size ≤ T := by rw [← hT]; exact H1.out.size
    have HTA := hid hTA
    have HT2 := hid (And.intro kT (And.intro (H1.out.trans (bT.mono H1.out.size)) hTs))
    clear kT bT hTs hT hTA
    generalize A1.alloc (.cells #[.int .i64 4, .slice none 0 0] 24) = A2 at *
    go_loopw [9, 10] (fun up i wr => ∃ k : Nat, k ≤ n ∧ i = .int .i64 (k : Int) ∧ up = .int .i64 (upL (downL dl k) : Int) ∧ CLoop W wr L T p0 dl n k) (fun _ i _ => n - (intOf i).toNat)
    case atStart =>
      obtain ⟨g1, g2, g3, g4⟩ := H0.out
      obtain ⟨k1, k2, k3⟩ := HT2.out
      refine ⟨0, by omega, rfl, rfl, ⟨_, k1, World.ownsRow_nil _ _ _ 1⟩, ?_, g2.trans (k2.mono g2.size), fun i _ hi => ?_⟩
      · rw [midL_zero]
        exact g1.keep k2
      · obtain ⟨x, dk, u, e1, e2, e3⟩ := g4 i hi
        exact ⟨x, dk, u, e1, e2.keep k2, e3⟩
    case round =>
      obtain ⟨k, hk, rfl, rfl, hcl⟩ := hrel
      by_cases hlt : k < n
      · have hd1 : decide ((k : Int) < (n : Int)) = true := decide_eq_true (by omega)
        have hw9 : wrap64 ((k : Int) + 1) = (k : Int) + 1 := w64_small (Nat.le_trans hk hn9)
        have hul : upL (downL dl k) ≤ k := by have := upL_le (downL dl k); rw [downL_length] at this; exact this
        have hw8 : wrap64 ((upL (downL dl k) : Int) + 1) = (upL (downL dl k) : Int) + 1 := w64_small (Nat.le_trans hul (Nat.le_trans hk hn9))
        have HW := hid (And.intro hw8 hw9)
        clear hul hw8 hw9
        obtain ⟨⟨v, kT, oT⟩, hL, hb, hdk⟩ := hcl
        obtain ⟨w1, hw1x⟩ : ∃ w1, wr.alloc (.cells #[.int .i64 (k : Int)] 3) = w1 := ⟨_, rfl⟩
        have b1 : Below wr.heap.size wr w1 := by rw [← hw1x]; exact (Below.refl _ _).alloc (Nat.le_refl _) _
        have k1 : Blk w1 wr.heap.size #[.int .i64 (k : Int)] 3 := by rw [← hw1x]; exact Blk.new _ _ _
        have o1 := OwnI.ext (fp := nofp) oT (Ext.ofBelow b1) (fun _ _ h => h)
        obtain ⟨i9, hi, hz0⟩ := Option.map_eq_some_iff.1 info_int
        have hz1 : i9.zero = some (.int .i64 0) := congrArg (fun p : Option Value × Nat × Nat => p.1) hz0
        have hz2 : i9.size = 1 := congrArg (fun p : Option Value × Nat × Nat => p.2.1) hz0
        have hz3 : i9.bytes = 8 := congrArg (fun p : Option Value × Nat × Nat => p.2.2) hz0
        have hTl := kT.lt
        obtain ⟨v2, w2, hr2, o2, g2, h2⟩ := run_appendI (P := Tryz.prog) Tryz.underlying22 hi hz1 hz2 hz3 22 o1 (is_lit (es := [(k : Int)]) (c := 1) k1) (by rw [idxL_length]; simp; omega) (by have := b1.size; omega)
        have hsn := idxL_snoc k 0
        rw [Nat.zero_add] at hsn
        rw [← hsn] at o2
        have hvo := OwnI.lt oT
        have hvT : ∀ g, v.ownBlock = some g → T + 1 ≤ g := fun g hg => (World.ownsRow.lt oT g hg).1
        obtain ⟨a2, c2, e2⟩ : ∃ a c, v2 = .slice a (idxL 0 (k + 1)).length c := by obtain ⟨a, c, e, _⟩ := o2.is; exact ⟨a, c, e⟩
        obtain ⟨a1, c1, e1⟩ : ∃ a c, v = .slice a (idxL 0 k).length c := by obtain ⟨a, c, e, _⟩ := oT.is; exact ⟨a, c, e⟩
        subst e1
        subst e2
        have x2 : Ext (fun b => T ≤ b) wr w2 := (Ext.ofBelow b1).grown g2 (fun g hg => .inl (by have := hvT g hg; omega))
        have kT2 : Blk w2 T #[.int .i64 4, .slice a1 (idxL 0 k).length c1] 24 := by
          unfold Blk
          rw [g2.block T (Nat.lt_of_lt_of_le hTl b1.size) (fun e => by have := hvT T e.symm; omega)]
          exact kT.keep b1
        have m0 := kT.cell (o := 1) rfl
        have m1 := kT2.cell (o := 1) rfl
        have m2 := kT2.free 1
        have x3 := x2.setCell (a := ⟨T, 1, none⟩) (.inl (Nat.le_refl T)) (.slice a2 (idxL 0 (k + 1)).length c2)
        have kT3 := kT2.set (o := 1) (.slice a2 (idxL 0 (k + 1)).length c2)
        simp only [List.setIfInBounds_toArray, List.set_cons_zero, List.set_cons_succ] at kT3
        have hpT : ∀ b, p0.all L b → b < T := fun b hb9 => Nat.lt_of_lt_of_le (H0.out.1.size hb9) HTA.out
        have hL3 := hL.ext x3 (fun b hb9 hc => by have := hpT b hc; omega)
        have hTW : W.heap.size ≤ T := Nat.le_trans H0.out.2.1.size HTA.out
        have hb3 := hb.trans (x3.belowOf hb.size (fun b hb9 hc => by omega))
        have o3 : OwnI (w2.setCell ⟨T, 1, none⟩ (.slice a2 (idxL 0 (k + 1)).length c2)) (T + 1) 3 (.slice a2 (idxL 0 (k + 1)).length c2) (idxL 0 (k + 1)) := OwnI.ext (fp := fun b => b = T) o2 ((Ext.refl (fun b => b = T) w2).setCell (a := ⟨T, 1, none⟩) (.inl rfl) _) (fun g hg e => by have := (World.ownsRow.lt o2 g hg).1; omega)
        have hdk3 : ∀ i, k ≤ i → i < n → ∃ x dk u, p0.vs[i]? = some (.pointer (some ⟨x, 0, none⟩)) ∧ Blk (w2.setCell ⟨T, 1, none⟩ (.slice a2 (idxL 0 (k + 1)).length c2)) x #[.pointer (some ⟨dk, 0, none⟩), u] 99 ∧ p0.ow i x := fun i h1 h2 => by
          obtain ⟨x, dk, u, e1, e2, e3⟩ := hdk i h1 h2
          exact ⟨x, dk, u, e1, e2.ext x3 (fun hc => by have := hpT x (.inr (.inr (.inr (.inr ⟨i, e3⟩)))); omega), e3⟩
        have HR := hid (And.intro kT3 (And.intro o3 (And.intro hL3 (And.intro hb3 hdk3))))
        clear kT oT hL hb hdk b1 k1 o1 hi hz0 hz1 hz2 hz3 o2 g2 h2 hsn hvo hvT x2 kT2 x3 kT3 hL3 hb3 o3 hdk3 hpT hTl
        go_upto_region 13 with (at_builtin; refine Lib.wpList_append_run w1 rfl (.tmp 51) (.tmp 53) _ _ rfl _ _ rfl rfl _ _ hr2 ?_)
        clear m0 m1 m2 hw1x hr2
        generalize w2.setCell ⟨T, 1, none⟩ (.slice a2 (idxL 0 (k + 1)).length c2) = w3 at *
        obtain ⟨kT3, o3, hL3, hb3, hdk3⟩ := HR.out
        have hL3' := hL3
        have hml : (midL dl k n (St.fresh, Dk.fresh 30)).length = n := midL_length dl k n _ hk
        have hUS : upL (downL dl (k + 1)) = upL (downL dl k) + if (dl[k]?).getD false = true then 0 else 1 := by rw [downL_succ, upL_snoc]
        obtain ⟨x, dk, u, hv, hx, hox⟩ := hdk3 k (Nat.le_refl k) hlt
        have cl1 : w3.cell? ⟨L, 1, none⟩ = some (.slice (some ⟨p0.na, 0, none⟩) n p0.cap) := by
          have h := hL3.link.cell (o := 1) rfl
          simp only [hml] at h
          exact h
        obtain ⟨cs, hcs, hcv⟩ := hL3.arr
        have cl2 := hcs.cell (o := k) (hcv k _ hv)
        have HST := hid (link_Stop hL3 (i := k) (by show k < (midL dl k n (St.fresh, Dk.fresh 30)).length; omega) hv hox hx)
        have HX := hid (And.intro hml (And.intro hUS (And.intro hv (And.intro hx hox))))
        by_cases hkd : k < dl.length
        · have hd2 : decide ((k : Int) < (dl.length : Int)) = true := decide_eq_true (by omega)
          obtain ⟨g9, o9, hba, hcell⟩ := (HD.out.keep (hb3.mono (Nat.le_refl _))).at_ hkd
          subst hba
          obtain ⟨hw8, hw9⟩ := HW.out
          cases hbit : (dl[k]?).getD false with
          | false =>
            rw [hbit] at hcell
            have HBIT := hid hbit
            clear hbit kT3 o3 hL3 hL3' hb3 hdk3 hml hUS hv hx hox hcs hcv
            go_wp2_with fail
            go_roundw
            case rel =>
              obtain ⟨kT3, o3, hL3, hb3, hdk3⟩ := HR.out
              refine ⟨k + 1, by omega, by go_num, ?_, ⟨_, kT3, o3⟩, by rw [midL_up dl k n _ hlt HBIT.out]; exact hL3, hb3, fun i h1 h2 => hdk3 i (by omega) h2⟩
              rw [HX.out.2.1, HBIT.out]
              go_num
            case measure => simp [intOf]; omega
          | true =>
            rw [hbit] at hcell
            have HBIT := hid hbit
            clear hbit kT3 o3 hL3 hL3' hb3 hdk3 hml hUS hv hx hox hcs hcv hw8
            go_wp2_with fail
            refine HST.out.mono ?_
            rintro e w4 ⟨⟨x9, rfl⟩, hL4, he4⟩
            have HL4 := hid (And.intro hL4 he4)
            have hw9 := HW.out.2
            clear hL4 he4 cl1 cl2 hcell HST
            go_wp2_with fail
            go_roundw
            case rel =>
              obtain ⟨kT3, o3, hL3, hb3, hdk3⟩ := HR.out
              obtain ⟨hL4, he4⟩ := HL4.out
              obtain ⟨-, hUS, hv, hx, hox⟩ := HX.out
              have hxT : x < T := Nat.lt_of_lt_of_le (H0.out.1.size (.inr (.inr (.inr (.inr ⟨k, hox⟩))))) HTA.out
              have hxW : W.heap.size ≤ x := H0.out.2.2.1 x (.inr (.inr (.inr (.inr ⟨k, hox⟩))))
              refine ⟨k + 1, by omega, by go_num, ?_, ⟨_, kT3.ext he4 (fun e => by have e2 : T = x := e; omega), OwnI.ext o3 he4 (fun g hg e => by have e2 : g = x := e; have := (World.ownsRow.lt o3 g hg).1; omega)⟩, by rw [midL_down dl k n _ hlt HBIT.out]; exact hL4, hb3.trans (he4.belowOf hb3.size (fun b hb e => by have e2 : b = x := e; omega)), fun i h1 h2 => ?_⟩
              · rw [hUS, HBIT.out]
                go_num
              · obtain ⟨y, dk2, u2, e1, e2, e3⟩ := hdk3 i (by omega) h2
                exact ⟨y, dk2, u2, e1, e2.ext he4 (fun e => by have e5 : y = x := e; rw [e5] at e3; have := hL3.dis i k x e3 hox; omega), e3⟩
            case measure => simp [intOf]; omega
        · have hd2 : decide ((k : Int) < (dl.length : Int)) = false := decide_eq_false (by omega)
          have HBIT := hid (show (dl[k]?).getD false = false from by rw [List.getElem?_eq_none (by omega)]; rfl)
          obtain ⟨hw8, hw9⟩ := HW.out
          clear kT3 o3 hL3 hL3' hb3 hdk3 hml hUS hv hx hox hcs hcv
          go_wp2_with fail
          go_roundw
          case rel =>
            obtain ⟨kT3, o3, hL3, hb3, hdk3⟩ := HR.out
            refine ⟨k + 1, by omega, by go_num, ?_, ⟨_, kT3, o3⟩, by rw [midL_up dl k n _ hlt HBIT.out]; exact hL3, hb3, fun i h1 h2 => hdk3 i (by omega) h2⟩
            rw [HX.out.2.1, HBIT.out]
            go_num
          case measure => simp [intOf]; omega
      · obtain rfl : n = k := by omega
        have hd1 : decide ((n : Int) < (n : Int)) = false := decide_eq_false (by omega)
        obtain ⟨⟨v, kT, oT⟩, hL, hb, -⟩ := hcl
        rw [midL_all] at hL
        have hvT : ∀ g, v.ownBlock = some g → T + 1 ≤ g ∧ g < wr.heap.size := fun g hg => World.ownsRow.lt oT g hg
        have hpT : ∀ b, p0.all L b → b < T ∧ W.heap.size ≤ b := fun b hb9 => ⟨Nat.lt_of_lt_of_le (H0.out.1.size hb9) HTA.out, H0.out.2.2.1 b hb9⟩
        obtain ⟨a1, c1, hv1⟩ : ∃ a c, v = .slice a n c := by obtain ⟨a, c, e, _⟩ := oT.is; rw [idxL_length] at e; exact ⟨a, c, e⟩
        have hdl9 : (downL dl n).length = n := downL_length dl n
        have hul9 := upL_le (downL dl n)
        obtain ⟨dn, hdn⟩ : ∃ dn, downL dl n = dn := ⟨_, rfl⟩
        rw [hdn] at hL hdl9 hul9
        try rw [hdn]
        have HC := hid (show CT W wr L T v (.slice da lt.length dc) dn lt (St.fresh, Dk.fresh 30) (fun b => b < W.heap.size ∨ b = T ∨ v.ownBlock = some b) from by
          refine ⟨⟨hb, ⟨p0, hL, fun b hb9 => ⟨?_, (hpT b hb9).2⟩⟩, ?_⟩, kT, by rw [hdl9]; exact oT, HT.out.keep (hb.mono (Nat.le_refl _)), .inr (.inl rfl), fun g hg => .inr (.inr hg), fun g hg => .inl (HO.out g hg)⟩
          · rintro (hc | rfl | hc)
            · have := (hpT b hb9).2; omega
            · have := (hpT b hb9).1; omega
            · have := (hpT b hb9).1; have := hvT b hc; omega
          · rintro b (hc | rfl | hc)
            · exact Nat.lt_of_lt_of_le hc hb.size
            · exact kT.lt
            · exact (hvT b hc).2)
        subst hv1
        generalize (fun b => b < W.heap.size ∨ b = T ∨ (Value.slice a1 n c1).ownBlock = some b) = O at HC
        have h30 : 1 ≤ dn.length := by omega
        have h39 : dn.length ≤ 9 := by omega
        obtain ⟨q, hq⟩ : ∃ q : Int, ((n / 2 + 1 : Nat) : Int) = q := ⟨_, rfl⟩
        have hQ := log_Quorum (W := wr) 4 a1 n c1 (by omega)
        rw [hq] at hQ
        have HQ := hid hQ
        obtain ⟨u, hu⟩ : ∃ u : Int, (upL dn : Int) = u := ⟨_, rfl⟩
        try rw [hu]
        obtain ⟨ob, hob⟩ : ∃ b, decide (u ≥ q) = b := ⟨_, rfl⟩
        obtain ⟨E, hE⟩ : ∃ E : Int, (if dn.length / 2 + 1 ≤ upL dn then 0 else 33) = E := ⟨_, rfl⟩
        obtain ⟨RB, hRB⟩ : ∃ R : List UInt8, (readL (cL dn (cS1 lt, cD1 lt)) ⟨4, idxL 0 dn.length⟩ 0).1 = R := ⟨_, rfl⟩
        obtain ⟨RE, hRE⟩ : ∃ E : Int, (readL (cL dn (cS1 lt, cD1 lt)) ⟨4, idxL 0 dn.length⟩ 0).2.1 = E := ⟨_, rfl⟩
        obtain ⟨ST, hST⟩ : ∃ E : Int, (sealL (cL dn (cS1 lt, cD1 lt)) ⟨4, idxL 0 dn.length⟩).1 = E := ⟨_, rfl⟩
        obtain ⟨SE, hSE⟩ : ∃ E : Int, (sealL (cL dn (cS1 lt, cD1 lt)) ⟨4, idxL 0 dn.length⟩).2.1 = E := ⟨_, rfl⟩
        obtain ⟨AE, hAE⟩ : ∃ E : Int, (appendL (cL dn (cS2 lt, cD2 lt)) ⟨4, idxL 0 dn.length⟩ 1 lt).1 = E := ⟨_, rfl⟩
        obtain ⟨TE, hTE⟩ : ∃ E : Int, (trimL (cL dn (cS2 lt, cD2 lt)) ⟨4, idxL 0 dn.length⟩ 1).1 = E := ⟨_, rfl⟩
        have HF := hid (show (ob = true ∧ E = 0 ∧ RE = 0 ∧ RB = lt ∧ SE = 0 ∧ ST = 1 ∧ AE = 30 ∧ TE = 0) ∨ (ob = false ∧ E = 33 ∧ SE = 33 ∧ ST = 0 ∧ AE ≠ 0) from by
          have g1 := c_read h30 h39 hltl
          have g2 := c_seal h30 h39 hltl
          have g3 := c_again (l := lt) (m := lt) h30 h39 hltl
          have g4 := c_trim h30 h39 hltl
          rw [g1] at hRB hRE
          rw [g2] at hST hSE
          rw [g3] at hAE
          rw [g4] at hTE
          by_cases hc : dn.length / 2 + 1 ≤ upL dn
          · have hn0 : ¬ upL dn = 0 := by omega
            have hn1 : ¬ upL dn < dn.length / 2 + 1 := by omega
            rw [if_pos hc] at hE
            simp only [if_neg hn0, if_neg hn1, if_pos hc] at hRB hRE hST hSE hAE hTE
            refine .inl ⟨?_, hE.symm, hRE.symm, hRB.symm, hSE.symm, hST.symm, hAE.symm, hTE.symm⟩
            rw [← hob]
            exact decide_eq_true (by rw [← hq, ← hu, ← hdl9]; omega)
          · have hn1 : upL dn < dn.length / 2 + 1 := by omega
            rw [if_neg hc] at hE
            simp only [if_pos hn1] at hST hSE
            refine .inr ⟨?_, hE.symm, hSE.symm, hST.symm, ?_⟩
            · rw [← hob]
              exact decide_eq_false (by rw [← hq, ← hu, ← hdl9]; omega)
            · rw [← hAE]
              simp only
              split <;> decide)
        have HE := hid (And.intro hE (And.intro hRB (And.intro hRE (And.intro hST (And.intro hSE (And.intro hAE hTE))))))
        have HB9 := hid (And.intro h30 (And.intro h39 hdl9))
        have cT0 := kT.cell (o := 0) rfl
        have cT1 := kT.cell (o := 1) rfl
        clear hE hRB hRE hST hSE hAE hTE hq hu kT oT hL hb hvT hpT hdl9 hul9 hdn hQ HT HO HD H0 H1 HTA HT2
        go_wp2_with fail
        refine HQ.out.mono ?_
        rintro e W5 ⟨rfl, b5⟩
        have HC5 := hid (HC.out.keep b5)
        clear b5 HC HQ cT0 cT1
        have cT0 := HC5.out.cfg.cell (o := 0) rfl
        have cT1 := HC5.out.cfg.cell (o := 1) rfl
        go_upto_region 17 with fail
        clear hob
        refine wp_region_tail 5 rfl Grows (fun i v x => match i with
            | 0 => v = .pointer (some ⟨L, 0, none⟩)
            | 1 => v = .agg #[.int .i64 4, .slice a1 n c1]
            | 2 => ∃ g, v = .slice (some ⟨g, 0, none⟩) 0 0 ∧ W5.heap.size ≤ g ∧ g < x.heap.size
            | 3 => v = .slice da lt.length dc
            | 4 => ∃ aa cc, v = .slice aa lt.length cc ∧ Bs x (.slice aa lt.length cc) lt ∧ ∀ k, (Value.slice aa lt.length cc).ownBlock = some k → W5.heap.size ≤ k ∧ k < x.heap.size
            | _ => True) (by kernel_rfl) (Grows.refl _) Grows.trans ?rstab ?rsteps ?rfin
        case rstab =>
          intro i v x y hg h
          match i with
          | 0 | 1 | 3 => exact h
          | 2 => exact (by obtain ⟨g, e, h1, h2⟩ := h; exact ⟨g, e, h1, Nat.lt_of_lt_of_le h2 hg.size⟩)
          | 4 => exact (by obtain ⟨aa, cc, e, h1, h2⟩ := h; exact ⟨aa, cc, e, h1.keep ⟨hg.os, hg.tape, hg.output, hg.size, hg.block⟩, fun k hk => ⟨(h2 k hk).1, Nat.lt_of_lt_of_le (h2 k hk).2 hg.size⟩⟩)
          | n + 5 => trivial
        case rsteps =>
          simp only [List.take_succ_cons, List.take_zero]
          refine ⟨?_, ?_, ?_, ?_, ?_, trivial⟩
          · intro a x hA
            have t7 := hA.at_ 7 (by first | rfl | kernel_rfl) rfl
            refine step_value (w' := x) (v := .pointer (some ⟨L, 0, none⟩)) ?_ (Grows.refl _) ?_
            · go_simp
            · rfl
          · intro a x hA
            have t8 := hA.at_ 8 (by first | rfl | kernel_rfl) rfl
            have hBx := HC5.out.cfg.keep (hA.grown)
            have hc0 := hBx.cell (o := 0) rfl
            have hc1 := hBx.cell (o := 1) rfl
            clear hBx
            refine step_value (w' := x) (v := .agg #[.int .i64 4, .slice a1 n c1]) ?_ (Grows.refl _) ?_
            · go_simp
            · rfl
          · intro a x hA
            have hsz := hA.grown.size
            refine step_value (w' := x.alloc (.cells #[] 5)) (v := .slice (some ⟨x.heap.size, 0, none⟩) 0 0) ?_ (Grows.alloc x _) ?_
            · clear hA hsz
              go_simp
            · exact ⟨_, rfl, hsz, by simp⟩
          · intro a x hA
            have t2 := hA.at_ 2 (by first | rfl | kernel_rfl) rfl
            refine step_value (w' := x) (v := .slice da lt.length dc) ?_ (Grows.refl _) ?_
            · go_simp
            · rfl
          · intro a x hA
            have t82 : ∃ g, (a.tmps[82]?.getD undef) = .slice (some ⟨g, 0, none⟩) 0 0 ∧ W5.heap.size ≤ g ∧ g < x.heap.size := hA.dep_ ⟨2, .data⟩ (by simp) _ 82 rfl rfl
            have t83 : a.tmps[83]?.getD undef = .slice da lt.length dc := hA.dep_ ⟨3, .data⟩ (by simp) _ 83 rfl rfl
            obtain ⟨g, eg, hg1, hg2⟩ := t82
            obtain ⟨i0, hi, hz0, hz1, hz2⟩ := info_parts info_u8
            obtain ⟨v', w', hr, hbs, hob, hbe⟩ := run_append08 (P := Tryz.prog) Tryz.underlying35 hi hz0 hz1 hz2 35 (g := g) (HC5.out.data.keep (hA.grown)) hg2 (by omega)
            obtain ⟨aa, cc, ef⟩ := hbs.form
            subst ef
            refine step_value (w' := w') (v := .slice aa lt.length cc) ?_ (grows_of_below hbe) ⟨aa, cc, rfl, hbs, fun k hk => ⟨(hob k hk).1.elim (fun e => by rw [e]; exact hg1) (fun h => Nat.le_trans hA.grown.size h), (hob k hk).2⟩⟩
            clear hA
            unfold execOp
            simp only [resolve, invoke, builtin, Sem.run_bind, Sem.run_pure, Result.andThen_ok, List.map_toArray, List.map_cons, List.map_nil]
            rw [show a.eval (Operand.tmp 82) = .slice (some ⟨g, 0, none⟩) 0 0 from by simp [Act.eval, eg], show a.eval (Operand.tmp 83) = .slice da lt.length dc from by simp [Act.eval, t83], hr]
            rfl
        case rfin =>
          intro y W' hg hV
          simp only [List.take_succ_cons, List.take_zero, AllVals] at hV
          obtain ⟨e80, e81, -, -, ⟨aa, cc, e84, hbs, hob⟩, -⟩ := hV
          have hb1 := grows_below hg
          clear hg
          simp only [List.take_succ_cons, List.take_zero, List.drop_succ_cons, List.drop_zero, putAll, Act.put, List.setIfInBounds_toArray, List.set_cons_zero, List.set_cons_succ]
          rw [e80, e81, e84]
          clear e80 e81 e84
          have h7 := HC5.out.keep hb1
          have hl7 := HC5.out.lk.more (O' := fun b => O b ∨ (Value.slice aa lt.length cc).ownBlock = some b) hb1 (fun b hb9 => hb9.elim (fun h => ⟨Nat.lt_of_lt_of_le (HC5.out.lk.small b h) hb1.size, .inl h⟩) (fun h => ⟨(hob b h).2, .inr (hob b h).1⟩))
          have HA := lko_append hl7 (cL_prompt dn _) 4 (.slice a1 n c1) (idxL 0 dn.length) (OwnI.is h7.row) (fun g hg => .inl (h7.ov g hg)) (by rw [idxL_length]; omega) 0 (.slice aa lt.length cc) lt (c_may h30 h39 _ 0 4095 (by omega)) (by omega) hbs (fun g hg => .inr hg)
          rw [c_append h30 h39 hltl, HE.out.1] at HA
          simp only at HA
          have HA2 := hid HA
          have HC7 := hid h7
          clear HA h7 hl7 hbs hob hb1 HC5 cT0 cT1
          go_wp2_with fail
          refine HA2.out.mono ?_
          rintro e W6 ⟨rfl, hl6, he6⟩
          have h6 := HC7.out.next (hl6.sub (fun b h => .inl h)) (fun b h => h) (he6.mono (fun b _ hc h => hc (.inl h)))
          clear hl6 he6 HA2 HC7
          have HC6 := hid h6
          have cT0 := h6.cfg.cell (o := 0) rfl
          have cT1 := h6.cfg.cell (o := 1) rfl
          clear h6
          go_wp2_with fail
          refine (law7_num E _).mono ?_
          rintro e w9 ⟨rfl, hw9⟩
          rw [hw9]
          clear hw9 w9
          have HA := lko_read HC6.out.lk (cL_prompt dn _) 4 (.slice a1 n c1) (idxL 0 dn.length) (OwnI.is HC6.out.row) HC6.out.ov (by rw [idxL_length]; omega) 0 (c_may h30 h39 _ 0 4095 (by omega))
          rw [HE.out.2.2.1, HE.out.2.1] at HA
          have HA2 := hid HA
          clear HA
          go_wp2_with fail
          refine HA2.out.mono ?_
          rintro e W7 ⟨v6, rfl, hl6, he6, bs6, -⟩
          have hls : (readL (cL dn (cS1 lt, cD1 lt)) ⟨4, idxL 0 dn.length⟩ 0).2.2 = cL dn (cS1 lt, cD1 lt) := by rw [c_read h30 h39 hltl]; split <;> rfl
          rw [hls] at hl6
          obtain ⟨a6, c6, rfl⟩ := bs6.form
          have h7 := HC6.out.next hl6 (fun b h => .inl h) he6
          have ho7 : ∀ g, (Value.slice a6 RB.length c6).ownBlock = some g → (fun b => O b ∨ (Value.slice a6 RB.length c6).ownBlock = some b) g := fun g hg => .inr hg
          generalize (fun b => O b ∨ (Value.slice a6 RB.length c6).ownBlock = some b) = O7 at h7 ho7
          have HC7 := hid (And.intro h7 (And.intro bs6 ho7))
          clear cT0 cT1 hl6 he6 bs6 hls HA2 HC6
          have cT0 := h7.cfg.cell (o := 0) rfl
          have cT1 := h7.cfg.cell (o := 1) rfl
          clear h7 ho7
          go_wp2_with fail
          have HA := lko_seal HC7.out.1.lk (cL_prompt dn _) 4 (.slice a1 n c1) (idxL 0 dn.length) (OwnI.is HC7.out.1.row) HC7.out.1.ov (by rw [idxL_length]; omega) (c_may h30 h39 _ 0 0 (by omega))
          rw [HE.out.2.2.2.1, HE.out.2.2.2.2.1, show (sealL (cL dn (cS1 lt, cD1 lt)) ⟨4, idxL 0 dn.length⟩).2.2 = cL dn (cS2 lt, cD2 lt) from by rw [c_seal h30 h39 hltl]; split <;> rfl] at HA
          refine HA.mono ?_
          clear HA cT0 cT1
          rintro e W8 ⟨rfl, hl8, he8⟩
          have h8 := HC7.out.1.next hl8 (fun b h => h) he8
          have bs8 := HC7.out.2.1.ext he8 (fun k hk _ hc => hc (HC7.out.2.2 k hk))
          have HC8 := hid (And.intro h8 (And.intro bs8 HC7.out.2.2))
          have cT0 := h8.cfg.cell (o := 0) rfl
          have cT1 := h8.cfg.cell (o := 1) rfl
          clear h8 bs8 hl8 he8 HC7
          go_wp2_with fail
          have HA := lko_append HC8.out.1.lk (cL_prompt dn _) 4 (.slice a1 n c1) (idxL 0 dn.length) (OwnI.is HC8.out.1.row) HC8.out.1.ov (by rw [idxL_length]; omega) 1 (.slice da lt.length dc) lt (c_may h30 h39 _ 1 4095 (by omega)) (by omega) HC8.out.1.data HC8.out.1.od
          rw [HE.out.2.2.2.2.2.1, show (appendL (cL dn (cS2 lt, cD2 lt)) ⟨4, idxL 0 dn.length⟩ 1 lt).2 = cL dn (cS2 lt, cD2 lt) from by rw [c_again (l := lt) (m := lt) h30 h39 hltl]] at HA
          refine HA.mono ?_
          clear HA cT0 cT1
          rintro e W9 ⟨rfl, hl9, he9⟩
          have h9 := HC8.out.1.next hl9 (fun b h => h) he9
          have bs9 := HC8.out.2.1.ext he9 (fun k hk _ hc => hc (HC8.out.2.2 k hk))
          have hcva : (convert 35 9 (.slice a6 RB.length c6)).run Tryz.prog W9 = .ok (.string ⟨RB.toArray⟩) W9 := run_bytes_string (P := Tryz.prog) Tryz.underlying35 Tryz.underlying5 Tryz.underlying9 bs9
          have hcvb : (convert 35 9 (.slice da lt.length dc)).run Tryz.prog W9 = .ok (.string ⟨lt.toArray⟩) W9 := run_bytes_string (P := Tryz.prog) Tryz.underlying35 Tryz.underlying5 Tryz.underlying9 h9.data
          have HC9 := hid (And.intro h9 (And.intro bs9 HC8.out.2.2))
          have cT0 := h9.cfg.cell (o := 0) rfl
          have cT1 := h9.cfg.cell (o := 1) rfl
          clear h9 bs9 hl9 he9 HC8
          go_wp2_with fail
          refine (law7_num AE _).mono ?_
          rintro e w9 ⟨rfl, hw9⟩
          rw [hw9]
          clear hw9 w9
          have hHB := HC9.out.1.lk.below
          have HB := hid hHB
          clear hHB
          rcases HF.out with ⟨rfl, rfl, rfl, rfl, rfl, rfl, rfl, rfl⟩ | ⟨rfl, rfl, rfl, rfl, ha0⟩
          · clear HF
            go_wp2_with fail
            refine (law7_num 0 _).mono ?_
            rintro e w9 ⟨rfl, hw9⟩
            rw [hw9]
            clear hw9 w9
            go_wp2_with fail
            refine (law7_num 0 _).mono ?_
            rintro e w9 ⟨rfl, hw9⟩
            rw [hw9]
            clear hw9 w9
            go_wp2_with fail
            have HA := lko_trim HC9.out.1.lk (cL_prompt dn _) 4 (.slice a1 n c1) (idxL 0 dn.length) (OwnI.is HC9.out.1.row) HC9.out.1.ov (by rw [idxL_length]; omega) 1 (c_may h30 h39 _ 1 4096 (by omega))
            rw [HE.out.2.2.2.2.2.2] at HA
            refine HA.mono ?_
            clear HA cT0 cT1 hcva hcvb
            rintro e W10 ⟨rfl, hl10, -⟩
            have HB2 := hid hl10.below
            clear hl10
            go_wp2_with fail
            refine (law7_num 0 _).mono ?_
            rintro e w9 ⟨rfl, hw9⟩
            rw [hw9]
            clear hw9 w9
            go_wp2_with fail
            go_ret
            exact ⟨rfl, HB2.out⟩
          · have ha1 : (AE != 0) = true := by simp [ha0]
            clear HF
            go_wp2_with fail
            refine (law7_num 33 _).mono ?_
            rintro e w9 ⟨rfl, hw9⟩
            rw [hw9]
            clear hw9 w9
            go_wp2_with fail
            go_ret
            exact ⟨rfl, HB.out⟩

end
end Go.Proofs.YtbahjinlcbjikaaGreat
