import Derived.Test.YtcdcjoofcbdilaaGreatMRgU
import Derived.Test.YtcdcjoofcbdilaaGreatTail
import Derived.BigQuiet
/-! gazettelaw09.RegisterApart. -/
namespace Go.Proofs.YtcdcjoofcbdilaaGreat
open Go.RowKit

theorem modk_wrap (x : Int) (k : Int) (hk : 0 < k) (h9 : k ≤ 100) : wrap64 (x.tmod k + k) = x.tmod k + k ∧ 0 ≤ (x.tmod k + k).tmod k ∧ (x.tmod k + k).tmod k < k := by
  have h1 := Int.lt_tmod_of_pos x hk
  have h2 := Int.tmod_lt_of_pos x hk
  refine ⟨?_, Int.tmod_nonneg k (by omega), Int.tmod_lt_of_pos _ hk⟩
  generalize x.tmod k = t at *
  unfold wrap64
  omega
section
variable {W : World}
set_option maxRecDepth 100000 in
set_option maxHeartbeats 12800000 in
theorem law_rgApart (v0 : Value) (l : List Op9) (hl : Ops9 W v0 l) (hn : l.length ≤ 9223372036854775807) : Calls Tryz.prog 3 #[v0] W fun e w' => e = .returned (.bool true) ∧ Below W.heap.size W w' := by
  have hz0 : wrap64 0 = 0 := by unfold wrap64; omega
  have hup : upA (List.replicate 3 false) = 3 := upA_up 3
  have HUP := hid (show (List.replicate 3 false).length / 2 + 1 ≤ upA (List.replicate 3 false) from by rw [hup]; decide)
  clear hup
  obtain ⟨a0, c0, rfl, hop⟩ := hl
  have HOP := hid hop
  obtain ⟨N, hN⟩ : ∃ N, l.length = N := ⟨_, rfl⟩
  rw [hN] at hn ⊢
  have HN := hid hN
  clear hop hN
  go_enter Tryz.func3, Tryz.ntmps3
  go_wp2_with fail
  refine (law9_made W 3 600 (by decide) (by decide) (by decide) (by decide)).mono ?_
  rintro e A0 ⟨L, rfl, r0⟩
  obtain ⟨N0, c9, hm0⟩ := r0.net
  have HM := hid hm0
  have HR0 := hid r0
  clear hm0 r0
  go_wp2_with fail
  refine HM.out.mono ?_
  rintro e w9 ⟨rfl, hw9⟩
  rw [hw9]
  clear hw9 w9 HM c9
  go_wp2_with fail
  refine law9_knows.mono ?_
  rintro e A1 ⟨rfl, b1⟩
  have r1 := HR0.out.keep b1
  have HC := hid (mr_read r1 HUP.out (by decide) (by decide) 50 0 (by decide) (by decide) (by decide))
  clear r1 b1 HR0
  go_wp2_with fail
  refine HC.out.mono ?_
  rintro e A2 ⟨v2, rfl, r2, hv2⟩
  have hv2 : Bs A2 v2 [] := hv2
  obtain ⟨a2, c2, rfl⟩ := hv2.form
  have HR2 := hid r2
  clear hv2 r2 HC
  go_upto_region 6 with fail
  go_loopw [7] (fun i wr => ∃ (t : Nat) (c : Int → Nat) (v : Int → List UInt8), t ≤ N ∧ t ≤ 30 ∧ i = .int .i64 (t : Int) ∧ MR W wr L (List.replicate 3 false) 600 (3 * t) c v ∧ c 50 = 0 ∧ (∀ k, c k ≤ t)) (fun i _ => N - (intOf i).toNat)
  case atStart => exact ⟨0, _, _, Nat.zero_le _, by omega, rfl, HR2.out, rfl, fun k => Nat.le_refl _⟩
  case round =>
    obtain ⟨t, c, v, ht, h30, rfl, hM, hc50, hct⟩ := hrel
    by_cases hin : t < N ∧ t < 30
    · have hlt := hin.1
      have ht3 := hin.2
      have hd1 : decide ((t : Int) < (N : Int)) = true := decide_eq_true (by omega)
      have hd2 : decide ((t : Int) < 30) = true := decide_eq_true (by omega)
      have wt : wrap64 ((t : Int) + 1) = (t : Int) + 1 := by unfold wrap64; omega
      obtain ⟨o, ho⟩ : ∃ o, l[t]? = some o := ⟨_, List.getElem?_eq_getElem (by rw [HN.out]; exact hlt)⟩
      obtain ⟨g, f, rfl, hoa⟩ := HOP.out t o ho
      have hbw := hM.below
      have hor : Op9At wr g (f + t * 6) o := hoa.keep hbw
      have K := hid (show Op9At wr.drew g (f + t * 6) o from hor.keep (below_of_drewN _ wr 1))
      obtain ⟨x0, -, -, -⟩ := hor.open_
      have HMR := hid hM
      have HC := hid (show c 50 = 0 ∧ (∀ k, c k ≤ t) ∧ ∀ k, c k < 1000000 from ⟨hc50, hct, fun k => by have := hct k; omega⟩)
      obtain ⟨w1, hkey⟩ := modk_wrap o.key 9 (by decide) (by decide)
      obtain ⟨w2, hid3⟩ := modk_wrap o.id 3 (by decide) (by decide)
      obtain ⟨w3, hver⟩ := modk_wrap o.n 4 (by decide) (by decide)
      have hkey9 := hid hkey
      have v1 : IntKind.i64.wrap (o.key.tmod 9 + 9) = o.key.tmod 9 + 9 := (IntWalk.i64_left _).trans w1
      have v2 : IntKind.i64.wrap (o.id.tmod 3 + 3) = o.id.tmod 3 + 3 := (IntWalk.i64_left _).trans w2
      have v3 : IntKind.i64.wrap (o.n.tmod 4 + 4) = o.n.tmod 4 + 4 := (IntWalk.i64_left _).trans w3
      have hkey : 0 ≤ (o.key.tmod 9 + 9).tmod 9 ∧ (o.key.tmod 9 + 9).tmod 9 < 281474976710656 := ⟨hkey.1, by omega⟩
      have hid3 : 0 ≤ (o.id.tmod 3 + 3).tmod 3 ∧ (o.id.tmod 3 + 3).tmod 3 < 16 := ⟨hid3.1, by omega⟩
      have hver : 0 ≤ (o.n.tmod 4 + 4).tmod 4 ∧ (o.n.tmod 4 + 4).tmod 4 < 1000000 := ⟨hver.1, by omega⟩
      obtain ⟨kb, hkb⟩ : ∃ kb, (o.kind == 1) = kb := ⟨_, rfl⟩
      clear hM hbw hoa hor hc50 hct hin ho
      have HI := hid (And.intro hkey (And.intro hid3 hver))
      clear hkey hid3 hver
      cases kb
      · go_wp2_with fail
        go_roundw
        case rel => exact ⟨t + 1, c, v, by omega, by omega, by go_num, by obtain ⟨X, h1, h2⟩ := HMR.out; exact ⟨X, h1, ⟨h2.ac.mono (by omega), h2.f⟩⟩, HC.out.1, fun k => by have := HC.out.2.1 k; omega⟩
        case measure => simp [intOf]; omega
      · go_upto_region 9 with fail
        obtain ⟨hkey, hid3, hver⟩ := HI.out
        refine wp_region_tail 27 rfl (GrowL wr.heap.size 118) (fun i v x => match i with
            | 0 => v = .pointer (some ⟨L, 0, none⟩)
            | 1 => v = .slice (some ⟨g, f, none⟩) N c0
            | 2 => v = .int .i64 (t : Int)
            | 3 => v = .pointer (some ⟨g, f + t * 6, none⟩)
            | 4 => v = .pointer (some ⟨g, f + t * 6 + 1, none⟩)
            | 5 => v = .int .i64 o.key
            | 6 => v = .int .i64 (o.key.tmod 9)
            | 7 => v = .int .i64 (o.key.tmod 9 + 9)
            | 8 => v = .int .i64 ((o.key.tmod 9 + 9).tmod 9)
            | 9 => v = .slice (some ⟨g, f, none⟩) N c0
            | 10 => v = .int .i64 (t : Int)
            | 11 => v = .pointer (some ⟨g, f + t * 6, none⟩)
            | 12 => v = .pointer (some ⟨g, f + t * 6 + 2, none⟩)
            | 13 => v = .int .i64 o.id
            | 14 => v = .int .i64 (o.id.tmod 3)
            | 15 => v = .int .i64 (o.id.tmod 3 + 3)
            | 16 => v = .int .i64 ((o.id.tmod 3 + 3).tmod 3)
            | 17 => v = .slice (some ⟨g, f, none⟩) N c0
            | 18 => v = .int .i64 (t : Int)
            | 19 => v = .pointer (some ⟨g, f + t * 6, none⟩)
            | 20 => v = .pointer (some ⟨g, f + t * 6 + 3, none⟩)
            | 21 => v = .int .i64 o.n
            | 22 => v = .int .i64 (o.n.tmod 4)
            | 23 => v = .int .i64 (o.n.tmod 4 + 4)
            | 24 => v = .int .i64 ((o.n.tmod 4 + 4).tmod 4)
            | 25 => ∃ k, v = .slice (some ⟨k, 0, none⟩) 1 1 ∧ wr.heap.size ≤ k ∧ LitB x 118 k
            | 26 => ∃ k, v = .slice (some ⟨k, 0, none⟩) 1 1 ∧ wr.heap.size ≤ k ∧ LitB x 118 k
            | _ => True) (by kernel_rfl) (GrowL.refl _ _ _) GrowL.trans ?rstab ?rsteps ?rfin
        case rstab =>
          intro i v x y hg h
          match i with
          | 0 | 1 | 2 | 3 | 4 | 5 | 6 | 7 | 8 | 9 | 10 | 11 | 12 | 13 | 14 | 15 | 16 | 17 | 18 | 19 | 20 | 21 | 22 | 23 | 24 => exact h
          | 25 => exact (by obtain ⟨k, e, h1, h2⟩ := h; exact ⟨k, e, h1, hg.lit k h2⟩)
          | 26 => exact (by obtain ⟨k, e, h1, h2⟩ := h; exact ⟨k, e, h1, hg.lit k h2⟩)
          | n + 27 => trivial
        case rsteps =>
          simp only [List.take_succ_cons, List.take_zero]
          refine ⟨?_, ?_, ?_, ?_, ?_, ?_, ?_, ?_, ?_, ?_, ?_, ?_, ?_, ?_, ?_, ?_, ?_, ?_, ?_, ?_, ?_, ?_, ?_, ?_, ?_, ?_, ?_, trivial⟩
          · intro a x hA
            have t3 := hA.at_ 3 (by first | rfl | kernel_rfl) rfl
            refine step_value (w' := x) (v := .pointer (some ⟨L, 0, none⟩)) ?_ (GrowL.refl _ _ _) ?_
            · go_simp
            · rfl
          · intro a x hA
            have t0 := hA.at_ 0 (by first | rfl | kernel_rfl) rfl
            refine step_value (w' := x) (v := .slice (some ⟨g, f, none⟩) N c0) ?_ (GrowL.refl _ _ _) ?_
            · go_simp
            · rfl
          · intro a x hA
            have t7 := hA.at_ 7 (by first | rfl | kernel_rfl) rfl
            refine step_value (w' := x) (v := .int .i64 (t : Int)) ?_ (GrowL.refl _ _ _) ?_
            · go_simp
            · rfl
          · intro a x hA
            have t49 : a.tmps[49]?.getD undef = .slice (some ⟨g, f, none⟩) N c0 := hA.dep_ ⟨1, .data⟩ (by simp) _ 49 rfl rfl
            have t50 : a.tmps[50]?.getD undef = .int .i64 (t : Int) := hA.dep_ ⟨2, .data⟩ (by simp) _ 50 rfl rfl
            refine step_value (w' := x) (v := .pointer (some ⟨g, f + t * 6, none⟩)) ?_ (GrowL.refl _ _ _) ?_
            · go_simp
            · rfl
          · intro a x hA
            have t51 : a.tmps[51]?.getD undef = .pointer (some ⟨g, f + t * 6, none⟩) := hA.dep_ ⟨3, .data⟩ (by simp) _ 51 rfl rfl
            refine step_value (w' := x) (v := .pointer (some ⟨g, f + t * 6 + 1, none⟩)) ?_ (GrowL.refl _ _ _) ?_
            · go_simp
            · rfl
          · intro a x hA
            have t52 : a.tmps[52]?.getD undef = .pointer (some ⟨g, f + t * 6 + 1, none⟩) := hA.dep_ ⟨4, .data⟩ (by simp) _ 52 rfl rfl
            have hBx := K.out.keep (show Below wr.drew.heap.size wr.drew x from hA.grow.below)
            obtain ⟨hc0, hc1, hc2, hc3⟩ := hBx.open_
            clear hBx
            refine step_value (w' := x) (v := .int .i64 o.key) ?_ (GrowL.refl _ _ _) ?_
            · go_simp
            · rfl
          · intro a x hA
            have t53 : a.tmps[53]?.getD undef = .int .i64 o.key := hA.dep_ ⟨5, .data⟩ (by simp) _ 53 rfl rfl
            refine step_value (w' := x) (v := .int .i64 (o.key.tmod 9)) ?_ (GrowL.refl _ _ _) ?_
            · go_simp
            · rfl
          · intro a x hA
            have t54 : a.tmps[54]?.getD undef = .int .i64 (o.key.tmod 9) := hA.dep_ ⟨6, .data⟩ (by simp) _ 54 rfl rfl
            refine step_value (w' := x) (v := .int .i64 (o.key.tmod 9 + 9)) ?_ (GrowL.refl _ _ _) ?_
            · go_simp
            · rfl
          · intro a x hA
            have t55 : a.tmps[55]?.getD undef = .int .i64 (o.key.tmod 9 + 9) := hA.dep_ ⟨7, .data⟩ (by simp) _ 55 rfl rfl
            refine step_value (w' := x) (v := .int .i64 ((o.key.tmod 9 + 9).tmod 9)) ?_ (GrowL.refl _ _ _) ?_
            · go_simp
            · rfl
          · intro a x hA
            have t0 := hA.at_ 0 (by first | rfl | kernel_rfl) rfl
            refine step_value (w' := x) (v := .slice (some ⟨g, f, none⟩) N c0) ?_ (GrowL.refl _ _ _) ?_
            · go_simp
            · rfl
          · intro a x hA
            have t7 := hA.at_ 7 (by first | rfl | kernel_rfl) rfl
            refine step_value (w' := x) (v := .int .i64 (t : Int)) ?_ (GrowL.refl _ _ _) ?_
            · go_simp
            · rfl
          · intro a x hA
            have t57 : a.tmps[57]?.getD undef = .slice (some ⟨g, f, none⟩) N c0 := hA.dep_ ⟨9, .data⟩ (by simp) _ 57 rfl rfl
            have t58 : a.tmps[58]?.getD undef = .int .i64 (t : Int) := hA.dep_ ⟨10, .data⟩ (by simp) _ 58 rfl rfl
            refine step_value (w' := x) (v := .pointer (some ⟨g, f + t * 6, none⟩)) ?_ (GrowL.refl _ _ _) ?_
            · go_simp
            · rfl
          · intro a x hA
            have t59 : a.tmps[59]?.getD undef = .pointer (some ⟨g, f + t * 6, none⟩) := hA.dep_ ⟨11, .data⟩ (by simp) _ 59 rfl rfl
            refine step_value (w' := x) (v := .pointer (some ⟨g, f + t * 6 + 2, none⟩)) ?_ (GrowL.refl _ _ _) ?_
            · go_simp
            · rfl
          · intro a x hA
            have t60 : a.tmps[60]?.getD undef = .pointer (some ⟨g, f + t * 6 + 2, none⟩) := hA.dep_ ⟨12, .data⟩ (by simp) _ 60 rfl rfl
            have hBx := K.out.keep (show Below wr.drew.heap.size wr.drew x from hA.grow.below)
            obtain ⟨hc0, hc1, hc2, hc3⟩ := hBx.open_
            clear hBx
            refine step_value (w' := x) (v := .int .i64 o.id) ?_ (GrowL.refl _ _ _) ?_
            · go_simp
            · rfl
          · intro a x hA
            have t61 : a.tmps[61]?.getD undef = .int .i64 o.id := hA.dep_ ⟨13, .data⟩ (by simp) _ 61 rfl rfl
            refine step_value (w' := x) (v := .int .i64 (o.id.tmod 3)) ?_ (GrowL.refl _ _ _) ?_
            · go_simp
            · rfl
          · intro a x hA
            have t62 : a.tmps[62]?.getD undef = .int .i64 (o.id.tmod 3) := hA.dep_ ⟨14, .data⟩ (by simp) _ 62 rfl rfl
            refine step_value (w' := x) (v := .int .i64 (o.id.tmod 3 + 3)) ?_ (GrowL.refl _ _ _) ?_
            · go_simp
            · rfl
          · intro a x hA
            have t63 : a.tmps[63]?.getD undef = .int .i64 (o.id.tmod 3 + 3) := hA.dep_ ⟨15, .data⟩ (by simp) _ 63 rfl rfl
            refine step_value (w' := x) (v := .int .i64 ((o.id.tmod 3 + 3).tmod 3)) ?_ (GrowL.refl _ _ _) ?_
            · go_simp
            · rfl
          · intro a x hA
            have t0 := hA.at_ 0 (by first | rfl | kernel_rfl) rfl
            refine step_value (w' := x) (v := .slice (some ⟨g, f, none⟩) N c0) ?_ (GrowL.refl _ _ _) ?_
            · go_simp
            · rfl
          · intro a x hA
            have t7 := hA.at_ 7 (by first | rfl | kernel_rfl) rfl
            refine step_value (w' := x) (v := .int .i64 (t : Int)) ?_ (GrowL.refl _ _ _) ?_
            · go_simp
            · rfl
          · intro a x hA
            have t65 : a.tmps[65]?.getD undef = .slice (some ⟨g, f, none⟩) N c0 := hA.dep_ ⟨17, .data⟩ (by simp) _ 65 rfl rfl
            have t66 : a.tmps[66]?.getD undef = .int .i64 (t : Int) := hA.dep_ ⟨18, .data⟩ (by simp) _ 66 rfl rfl
            refine step_value (w' := x) (v := .pointer (some ⟨g, f + t * 6, none⟩)) ?_ (GrowL.refl _ _ _) ?_
            · go_simp
            · rfl
          · intro a x hA
            have t67 : a.tmps[67]?.getD undef = .pointer (some ⟨g, f + t * 6, none⟩) := hA.dep_ ⟨19, .data⟩ (by simp) _ 67 rfl rfl
            refine step_value (w' := x) (v := .pointer (some ⟨g, f + t * 6 + 3, none⟩)) ?_ (GrowL.refl _ _ _) ?_
            · go_simp
            · rfl
          · intro a x hA
            have t68 : a.tmps[68]?.getD undef = .pointer (some ⟨g, f + t * 6 + 3, none⟩) := hA.dep_ ⟨20, .data⟩ (by simp) _ 68 rfl rfl
            have hBx := K.out.keep (show Below wr.drew.heap.size wr.drew x from hA.grow.below)
            obtain ⟨hc0, hc1, hc2, hc3⟩ := hBx.open_
            clear hBx
            refine step_value (w' := x) (v := .int .i64 o.n) ?_ (GrowL.refl _ _ _) ?_
            · go_simp
            · rfl
          · intro a x hA
            have t69 : a.tmps[69]?.getD undef = .int .i64 o.n := hA.dep_ ⟨21, .data⟩ (by simp) _ 69 rfl rfl
            refine step_value (w' := x) (v := .int .i64 (o.n.tmod 4)) ?_ (GrowL.refl _ _ _) ?_
            · go_simp
            · rfl
          · intro a x hA
            have t70 : a.tmps[70]?.getD undef = .int .i64 (o.n.tmod 4) := hA.dep_ ⟨22, .data⟩ (by simp) _ 70 rfl rfl
            refine step_value (w' := x) (v := .int .i64 (o.n.tmod 4 + 4)) ?_ (GrowL.refl _ _ _) ?_
            · go_simp
            · rfl
          · intro a x hA
            have t71 : a.tmps[71]?.getD undef = .int .i64 (o.n.tmod 4 + 4) := hA.dep_ ⟨23, .data⟩ (by simp) _ 71 rfl rfl
            refine step_value (w' := x) (v := .int .i64 ((o.n.tmod 4 + 4).tmod 4)) ?_ (GrowL.refl _ _ _) ?_
            · go_simp
            · rfl
          · intro a x hA
            have hn : wr.heap.size ≤ x.heap.size := hA.grow.below.size
            refine step_value (w' := x.alloc (.cells #[.int .u8 118] 5)) (v := .slice (some ⟨x.heap.size, 0, none⟩) 1 1) ?_ (GrowL.alloc hn _) ?_
            · go_simp
            · exact ⟨_, rfl, hn, LitB.new x 118⟩
          · intro a x hA
            have t73 : ∃ k, (a.tmps[73]?.getD undef) = .slice (some ⟨k, 0, none⟩) 1 1 ∧ wr.heap.size ≤ k ∧ LitB x 118 k := hA.dep_ ⟨25, .data⟩ (by simp) _ 73 rfl rfl
            obtain ⟨k, e, h1, h2⟩ := t73
            obtain ⟨x', hx, hgx⟩ := h2.conv (n0 := wr.heap.size) h1
            have hlit := hgx.lit k h2
            refine step_value (w' := x') (v := .slice (some ⟨k, 0, none⟩) 1 1) ?_ hgx ⟨_, rfl, h1, hlit⟩
            clear hlit h2 hgx
            go_simp
        case rfin =>
          intro y W' hg hV
          simp only [AllVals, List.take_succ_cons, List.take_zero] at hV
          obtain ⟨g0, -, -, -, -, -, -, -, g8, -, -, -, -, -, -, -, g16, -, -, -, -, -, -, -, g24, -, g26, _⟩ := hV
          obtain ⟨k, g26, hk1, hk2⟩ := g26
          have hbW : Below wr.heap.size wr W' := (below_of_drewN _ wr 1).trans hg.below
          have HP := hid (mr_swap HMR.out (by omega) (by omega) HUP.out (by decide) (by decide) hbW ((o.key.tmod 9 + 9).tmod 9) ((o.id.tmod 3 + 3).tmod 3) ((o.n.tmod 4 + 4).tmod 4) hkey hid3 hver (HC.out.2.2 _) (.slice (some ⟨k, 0, none⟩) 1 1) [118] (by decide) (hk2.bs 118 rfl) (fun j hj => by cases hj; exact ⟨.inr hk1, hk2.lt⟩))
          clear hg hbW hk1 hk2
          simp only [List.take_succ_cons, List.take_zero, List.drop_succ_cons, List.drop_zero, putAll, Act.put, List.setIfInBounds_toArray, List.set_cons_zero, List.set_cons_succ]
          rw [g0, g8, g16, g24, g26]
          clear g0 g8 g16 g24 g26
          go_wp2_with fail
          refine HP.out.mono ?_
          rintro e wz (⟨-, rfl, hz⟩ | ⟨-, rfl, hz⟩)
          · have HZ := hid hz
            clear hz HP
            go_wp2_with fail
            go_roundw
            case rel =>
              refine ⟨t + 1, _, _, by omega, by omega, by go_num, HZ.out, ?_, fun k => ?_⟩
              · unfold setC
                rw [if_neg (by have := hkey9.out; omega)]
                exact HC.out.1
              · unfold setC
                have := HC.out.2.1 k
                split
                · rename_i h9; rw [← h9]; omega
                · omega
            case measure => simp [intOf]; omega
          · have HZ := hid hz
            clear hz HP
            go_wp2_with fail
            go_roundw
            case rel => exact ⟨t + 1, c, v, by omega, by omega, by go_num, by obtain ⟨X, h1, h2⟩ := HZ.out; exact ⟨X, h1, ⟨h2.ac.mono (by omega), h2.f⟩⟩, HC.out.1, fun k => by have := HC.out.2.1 k; omega⟩
            case measure => simp [intOf]; omega
    · have HME := hid (And.intro hM (And.intro hc50 hct))
      have hx : (decide ((t : Int) < (N : Int)) = true ∧ decide ((t : Int) < 30) = false) ∨ decide ((t : Int) < (N : Int)) = false := by
        by_cases h1 : t < N
        · exact .inl ⟨decide_eq_true (by omega), decide_eq_false (by omega)⟩
        · exact .inr (decide_eq_false (by omega))
      clear hM hc50 hct
      have hC := mr_read HME.out.1 HUP.out (by decide) (by decide) 50 1 (by decide) (by decide) (by rw [HME.out.2.1]; decide)
      have HC := hid hC
      clear hC
      have hmid : ∀ (wz : World) (vv : Value), MR W wz L (List.replicate 3 false) 600 (3 * t) c v → Bs wz vv (if c 50 = 0 then [] else v 50) → MR W wz L (List.replicate 3 false) 600 (3 * t) c v ∧ Bs wz vv [] := fun wz vv h1 h2 => by rw [if_pos HME.out.2.1] at h2; exact ⟨h1, h2⟩
      have HMID := hid hmid
      clear hmid
      have hc0 : ((c 50 : Nat) : Int) = 0 := by rw [HME.out.2.1]; rfl
      rw [hc0] at HC
      have hc0 := hid hc0
      rcases hx with ⟨hd1, hd2⟩ | hd1
      all_goals (go_wp2_with fail)
      all_goals (refine HC.out.mono ?_; rintro e B1 ⟨v3, rfl, r3, hv3⟩; have HR3 := hid (HMID.out B1 v3 r3 hv3); obtain ⟨a3, c3, hvf3⟩ := HR3.out.2.form; subst hvf3; clear r3 hv3 HC HMID; simp only [List.length_nil])
      all_goals (go_wp2_with fail)
      all_goals (obtain ⟨A4, hA4⟩ : ∃ V, (B1.alloc (.cells #[.int .u8 120] 5)).freeze ⟨B1.heap.size, 1, none⟩ 1 = V := ⟨_, rfl⟩; have hcv4 := litA_conv hA4; have HC4 := hid (mr_swap HR3.out.1 (by omega) (by omega) HUP.out (by decide) (by decide) (litA_below hA4) 50 2 0 (by decide) (by decide) (by decide) (by rw [HME.out.2.1]; decide) (.slice (some ⟨B1.heap.size, 0, none⟩) 1 1) [120] (by decide) (litA_bs 120 120 rfl hA4) (fun g hg => by cases hg; exact ⟨.inr (Nat.le_refl _), lit_lt hA4⟩)); clear hA4)
      all_goals (refine (law9_num 0 _).mono ?_; rintro e w9 ⟨rfl, hw9⟩; rw [hw9]; clear hw9 w9)
      all_goals (go_wp2_with fail)
      all_goals (refine (law9_num 0 _).mono ?_; rintro e w9 ⟨rfl, hw9⟩; rw [hw9]; clear hw9 w9)
      all_goals (go_wp2_with fail)
      all_goals (refine HC4.out.mono ?_; rintro e B5 (⟨-, rfl, r5⟩ | ⟨h9, -⟩))
      all_goals (first | exact absurd hc0.out.symm h9 | skip)
      all_goals (have HB5 := hid r5.below; clear r5 HC4 hcv4)
      all_goals (go_wp2_with fail)
      all_goals (refine (law9_num 0 _).mono ?_; rintro e w9 ⟨rfl, hw9⟩; rw [hw9]; clear hw9 w9)
      all_goals (go_wp2_with fail)
      all_goals go_ret
      all_goals exact ⟨rfl, HB5.out⟩
end
end Go.Proofs.YtcdcjoofcbdilaaGreat
