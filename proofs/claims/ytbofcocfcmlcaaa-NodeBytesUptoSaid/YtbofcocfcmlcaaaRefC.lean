import Derived.Test.YtbofcocfcmlcaaaRefB
import Derived.Test.YtbofcocfcmlcaaaLTwice
/-! The document's answer for node: framed, asks, tells, PutRequest, PutReply. -/
namespace Go.Proofs.Ytbofcocfcmlcaaa
open Go.RowKit

set_option maxRecDepth 100000 in
set_option maxHeartbeats 1600000 in
theorem ref_framed (v : Value) (l : List UInt8) (w : World) (hv : Bs w v l) (hl : l.length ≤ 1073741824) (kind least : Nat) (hk : kind ≤ 255) (hle : least ≤ 255) :
    Calls Try.prog 76 #[v, .int .i64 (kind : Int), .int .i64 (least : Int)] w (BodyPost w l kind least) := by
  obtain ⟨a0, c0, rfl⟩ := hv.form
  have hun := hid (ref_Unframe _ l w hv hl)
  cases hu : unframe l with
  | none =>
    have hp : ∀ e w', BodyPost w l kind least e w' = (∃ v, e = .returned (.tuple #[v, .bool false]) ∧ Below w.heap.size w w') := fun e w' => by unfold BodyPost bodyF; rw [hu]
    have Hp := hid hp
    have Hu := hid hu
    clear hp hu
    go_enter Try.func76, Try.ntmps76
    go_wp2_with fail
    refine hun.out.mono ?_
    intro e w1 hpost
    unfold UnfPost at hpost
    rw [Hu.out] at hpost
    obtain ⟨c, hc, rfl, b1⟩ := hpost
    have hcb : (c == 0) = false := beq_eq_false_iff_ne.2 hc
    clear hc hun
    go_wp2_with fail
    go_ret2
    rw [Hp.out]
    exact ⟨_, rfl, b1⟩
  | some y =>
    obtain ⟨k, x, to⟩ := y
    obtain ⟨hto, hxl, hk256⟩ := unframe_lens hu
    have Hu := hid hu
    by_cases hall : k = kind ∧ to = l.length ∧ least ≤ x.length
    · have hp : ∀ e w', BodyPost w l kind least e w' = (∃ v, e = .returned (.tuple #[v, .bool true]) ∧ Own8 w' w.heap.size 5 v x ∧ Below w.heap.size w w') := fun e w' => by unfold BodyPost bodyF; rw [hu]; simp only [if_pos hall]
      have Hp := hid hp
      obtain ⟨h1, h2, h3⟩ := hall
      have e1 : ((k : Int) == (kind : Int)) = true := beq_iff_eq.2 (by omega)
      have e2 : ((to : Int) == (l.length : Int)) = true := beq_iff_eq.2 (by omega)
      have e3 : decide ((x.length : Int) ≥ (least : Int)) = true := decide_eq_true (by omega)
      clear hp hu h1 h2
      go_enter Try.func76, Try.ntmps76
      go_wp2_with fail
      refine hun.out.mono ?_
      intro e w1 hpost
      unfold UnfPost at hpost
      rw [Hu.out] at hpost
      obtain ⟨v1, rfl, o1, b1⟩ := hpost
      obtain ⟨a1, c1, rfl⟩ := o1.form
      have HO := hid o1
      clear hun o1
      go_wp2_with fail
      go_ret2
      rw [Hp.out]
      exact ⟨_, rfl, HO.out, b1⟩
    · have hp : ∀ e w', BodyPost w l kind least e w' = (∃ v, e = .returned (.tuple #[v, .bool false]) ∧ Below w.heap.size w w') := fun e w' => by unfold BodyPost bodyF; rw [hu]; simp only [if_neg hall]
      have Hp := hid hp
      have hne : ((k : Int) == (kind : Int)) = false ∨ (((k : Int) == (kind : Int)) = true ∧ ((to : Int) == (l.length : Int)) = false) ∨ (((k : Int) == (kind : Int)) = true ∧ ((to : Int) == (l.length : Int)) = true ∧ decide (least ≤ x.length) = false) := by
        by_cases h1 : k = kind
        · by_cases h2 : to = l.length
          · exact .inr (.inr ⟨beq_iff_eq.2 (by omega), beq_iff_eq.2 (by omega), decide_eq_false (fun h3 => hall ⟨h1, h2, h3⟩)⟩)
          · exact .inr (.inl ⟨beq_iff_eq.2 (by omega), beq_eq_false_iff_ne.2 (by omega)⟩)
        · exact .inl (beq_eq_false_iff_ne.2 (by omega))
      clear hp hu hall
      rcases hne with e1 | ⟨e1, e2⟩ | ⟨e1, e2, e3⟩
      all_goals
        go_enter Try.func76, Try.ntmps76
        go_wp2_with fail
        refine hun.out.mono ?_
        intro e w1 hpost
        unfold UnfPost at hpost
        rw [Hu.out] at hpost
        obtain ⟨v1, rfl, o1, b1⟩ := hpost
        obtain ⟨a1, c1, rfl⟩ := o1.form
        clear hun o1
        go_wp2_with fail
        go_ret2
        rw [Hp.out]
        exact ⟨_, rfl, b1⟩


set_option maxRecDepth 100000 in
set_option maxHeartbeats 1600000 in
theorem ref_asks (k lo po : Int) (av : Option Addr) (n cv : Nat) (W : World) (hn : n ≤ 9223372036854775807) :
    Calls Try.prog 68 #[.agg #[.int .i64 k, .int .i64 lo, .int .i64 po, .slice av n cv]] W fun e w' => e = .returned (.bool (rightB k lo po n)) ∧ Below W.heap.size W w' := by
  go_enter Try.func68, Try.ntmps68
  go_wp2_with fail
  all_goals go_ret
  all_goals (refine ⟨ret_bool (Bool.eq_iff_iff.2 ?_), (Below.refl _ _).alloc (Nat.le_refl _) _⟩)
  all_goals (try simp only [beq_iff_eq, beq_eq_false_iff_ne, ne_eq, bne_iff_ne, bne_eq_false_iff_eq] at *)
  all_goals (simp [rightB]; omega)

set_option maxRecDepth 100000 in
set_option maxHeartbeats 1600000 in
theorem ref_tells (er tl : Int) (sl : Bool) (av : Option Addr) (n cv : Nat) (W : World) (hn : n ≤ 9223372036854775807) :
    Calls Try.prog 72 #[.agg #[.int .i64 er, .int .i64 tl, .bool sl, .slice av n cv]] W fun e w' => e = .returned (.bool (tellsB er tl n)) ∧ Below W.heap.size W w' := by
  go_enter Try.func72, Try.ntmps72
  go_wp2_with fail
  all_goals go_ret
  all_goals (refine ⟨ret_bool (Bool.eq_iff_iff.2 ?_), (Below.refl _ _).alloc (Nat.le_refl _) _⟩)
  all_goals (try simp only [beq_iff_eq, beq_eq_false_iff_ne, ne_eq] at *)
  all_goals (simp [tellsB]; omega)

theorem BsW.below_ {B : Nat} {w w' : World} {v : Value} {l : List UInt8} (h : BsW w v l) (hB : w.heap.size ≤ B) (hb : Below B w w') : BsW w' v l := h.keep (hb.mono hB)

set_option maxRecDepth 100000 in
set_option maxHeartbeats 3200000 in
theorem ref_PutRequest (k lo po : Int) (v : Value) (l : List UInt8) (W : World) (hv : BsW W v l) (hl : l.length ≤ 1073741824) :
    Calls Try.prog 24 #[.agg #[.int .i64 k, .int .i64 lo, .int .i64 po, v]] W fun e w' => ∃ v', e = .returned (.tuple #[v', .int .i64 (if rightB k lo po l.length then 0 else 1)]) ∧ Own8 w' W.heap.size 5 v' (putReqB k lo po l) ∧ Below W.heap.size W w' := by
  obtain ⟨a0, c0, rfl⟩ := hv.form
  obtain ⟨W1, hW1⟩ : ∃ W1, W.alloc (.cells #[.int .i64 k, .int .i64 lo, .int .i64 po, .slice a0 l.length c0] 54) = W1 := ⟨_, rfl⟩
  have b1 : Below W.heap.size W W1 := by rw [← hW1]; exact (Below.refl _ W).alloc (Nat.le_refl _) _
  have k1 : Blk W1 W.heap.size #[.int .i64 k, .int .i64 lo, .int .i64 po, .slice a0 l.length c0] 54 := by rw [← hW1]; exact Blk.new W _ _
  have hs1 : W1.heap.size = W.heap.size + 1 := by rw [← hW1]; simp
  have x0 := k1.cell (o := 0) rfl
  have x1 := k1.cell (o := 1) rfl
  have x2 := k1.cell (o := 2) rfl
  have x3 := k1.cell (o := 3) rfl
  have hrt := ref_asks k lo po a0 l.length c0 W1 (by omega)
  have HV := hid (hv.keep b1)
  have HB := hid b1
  have HS1 := hid hs1
  have HK1 := hid k1
  unfold putReqB
  cases ht : rightB k lo po l.length
  · rw [ht] at hrt
    have HR := hid hrt
    clear hrt hv hs1 k1 ht
    go_enter Try.func24, Try.ntmps24
    go_wp2_with fail
    clear hW1
    refine HR.out.mono ?_
    rintro e W2 ⟨rfl, b2⟩
    go_wp2_with fail
    go_ret2
    exact ⟨_, rfl, Own8.nil _ _ _, b1.trans (b2.mono b1.size)⟩
  · rw [ht] at hrt
    have HR := hid hrt
    have hrr := of_decide_eq_true ht
    obtain ⟨hk0, hk1, hl0, hl1, hp0, hp1, hn, _⟩ := hrr
    clear hrt hv ht
    go_enter Try.func24, Try.ntmps24
    go_wp2_with fail
    clear hW1
    refine HR.out.mono ?_
    rintro e W2 ⟨rfl, b2⟩
    have HS2 := hid (show W.heap.size + 1 ≤ W2.heap.size by have := b2.size; omega)
    have HB2 := hid (show Below (W.heap.size + 1) W1 W2 by rw [← hs1]; exact b2)
    have HK := hid (k1.keep b2)
    clear x0 x1 x2 x3 b2 HR k1 b1 hs1
    go_wp2_with fail
    refine wp_region_invW rfl Grows (fun i v x => match i with
        | 0 => v = .pointer (some ⟨W.heap.size, 0, none⟩)
        | 1 => v = .int .i64 k
        | 2 => v = .int .u8 k
        | 3 => ∃ g, v = .slice (some ⟨g, 0, none⟩) 1 1 ∧ Own8 x W2.heap.size 5 (.slice (some ⟨g, 0, none⟩) 1 1) [byteOf k 0]
        | 4 => v = .pointer (some ⟨W.heap.size, 1, none⟩)
        | 5 => v = .int .i64 lo
        | 6 => Own8 x W2.heap.size 5 v (lowB lo 6)
        | 7 => Own8 x W2.heap.size 5 v ([byteOf k 0] ++ lowB lo 6)
        | 8 => Own8 x W2.heap.size 5 v ([byteOf k 0] ++ lowB lo 6)
        | _ => True) (by kernel_rfl) (Grows.refl _) Grows.trans ?rstab ?rsteps ?rfin
    case rstab =>
      intro i v x y hg h
      match i with
      | 0 | 1 | 2 | 4 | 5 => exact h
      | 3 => exact (by obtain ⟨g9, e9, h9⟩ := h; exact ⟨g9, e9, h9.keep hg⟩)
      | 6 => exact Own8.keep h hg
      | 7 => exact Own8.keep h hg
      | 8 => exact Own8.keep h hg
      | n + 9 => trivial
    case rsteps =>
      refine ⟨?_, ?_, ?_, ?_, ?_, ?_, ?_, ?_, ?_, trivial⟩
      · intro a x hA
        have t1 := hA.at_ 1 (by first | rfl | kernel_rfl) rfl
        refine step_value (w' := x) (v := .pointer (some ⟨W.heap.size, 0, none⟩)) ?_ (Grows.refl _) ?_
        · go_simp
        · rfl
      · intro a x hA
        have t10 : a.tmps[10]?.getD undef = .pointer (some ⟨W.heap.size, 0, none⟩) := hA.dep_ ⟨0, .data⟩ (by simp) _ 10 rfl rfl
        have hBx := HK.out.keep hA.grown
        have hc0 := hBx.cell (o := 0) rfl
        have hc1 := hBx.cell (o := 1) rfl
        have hc2 := hBx.cell (o := 2) rfl
        have hc3 := hBx.cell (o := 3) rfl
        clear hBx
        refine step_value (w' := x) (v := .int .i64 k) ?_ (Grows.refl _) ?_
        · go_simp
        · rfl
      · intro a x hA
        have t11 : a.tmps[11]?.getD undef = .int .i64 k := hA.dep_ ⟨1, .data⟩ (by simp) _ 11 rfl rfl
        have hBx := HK.out.keep hA.grown
        have hc0 := hBx.cell (o := 0) rfl
        have hc1 := hBx.cell (o := 1) rfl
        have hc2 := hBx.cell (o := 2) rfl
        have hc3 := hBx.cell (o := 3) rfl
        clear hBx
        have hw : IntKind.u8.wrap k = k := IntWalk.u8_in _ (by omega)
        refine step_value (w' := x) (v := .int .u8 k) ?_ (Grows.refl _) rfl
        go_simp
      · intro a x hA
        have t12 : a.tmps[12]?.getD undef = .int .u8 k := hA.dep_ ⟨2, .data⟩ (by simp) _ 12 rfl rfl
        have hsx : W2.heap.size ≤ x.heap.size := hA.grow.size
        refine step_value (w' := x.alloc (.cells #[.int .u8 k] 5)) (v := .slice (some ⟨x.heap.size, 0, none⟩) 1 1) (by go_simp) (Grows.alloc _ _) ?_
        exact ⟨_, rfl, own8_mk hsx (Blk.new x _ _) rfl (Nat.le_refl _) (by unfold maxLen; omega) rfl (fun i u h => by
          match i, h with
          | 0, h => simp at h; subst h; simp [byteOf_val]; omega)⟩
      · intro a x hA
        have t1 := hA.at_ 1 (by first | rfl | kernel_rfl) rfl
        refine step_value (w' := x) (v := .pointer (some ⟨W.heap.size, 1, none⟩)) ?_ (Grows.refl _) ?_
        · go_simp
        · rfl
      · intro a x hA
        have t14 : a.tmps[14]?.getD undef = .pointer (some ⟨W.heap.size, 1, none⟩) := hA.dep_ ⟨4, .data⟩ (by simp) _ 14 rfl rfl
        have hBx := HK.out.keep hA.grown
        have hc0 := hBx.cell (o := 0) rfl
        have hc1 := hBx.cell (o := 1) rfl
        have hc2 := hBx.cell (o := 2) rfl
        have hc3 := hBx.cell (o := 3) rfl
        clear hBx
        refine step_value (w' := x) (v := .int .i64 lo) ?_ (Grows.refl _) ?_
        · go_simp
        · rfl
      · intro a x hA
        have t15 : a.tmps[15]?.getD undef = .int .i64 lo := hA.dep_ ⟨5, .data⟩ (by simp) _ 15 rfl rfl
        have hs := hA.grow.size
        refine step_call (f := 69) (args := #[.int .i64 lo, .int .i64 6]) (by go_simp) ((ref_Bytes lo 6 x (by omega) (by omega)).mono ?_)
        rintro e w' ⟨v, rfl, ho, hb⟩
        exact ⟨v, rfl, hb, ho.mono hs⟩
      · intro a x hA
        have t13 : ∃ g, (a.tmps[13]?.getD undef) = .slice (some ⟨g, 0, none⟩) 1 1 ∧ Own8 x W2.heap.size 5 (.slice (some ⟨g, 0, none⟩) 1 1) [byteOf k 0] := hA.dep_ ⟨3, .data⟩ (by simp) _ 13 rfl rfl
        have t16 : Own8 x W2.heap.size 5 (a.tmps[16]?.getD undef) (lowB lo 6) := hA.dep_ ⟨6, .data⟩ (by simp) _ 16 rfl rfl
        obtain ⟨g, e9, ho9⟩ := t13
        obtain ⟨i0, hi, hz0, hz1, hz2⟩ := info_parts info_u8
        have hsx : W2.heap.size ≤ x.heap.size := hA.grow.size
        obtain ⟨v', w', hr, q1, q2⟩ := run_append_full (P := Try.prog) Try.underlying34 hi hz0 hz1 hz2 34 ho9 rfl t16.bs (by intro h; have := congrArg List.length h; simp [lowB_length] at this) (by simp [lowB_length]) hsx
        refine step_value (w' := w') (v := v') (exec_append rfl (by
          have e1 : a.eval (.tmp 13) = .slice (some ⟨g, 0, none⟩) 1 1 := by simp [go_sem, e9]
          have e2 : a.eval (.tmp 16) = a.tmps[16]?.getD undef := by simp [go_sem]
          rw [e1, e2]; exact hr)) q2 ?_
        exact q1
      · intro a x hA
        have t17 : Own8 x W2.heap.size 5 (a.tmps[17]?.getD undef) ([byteOf k 0] ++ lowB lo 6) := hA.dep_ ⟨7, .data⟩ (by simp) _ 17 rfl rfl
        exact step_value (w' := x) (v := a.tmps[17]?.getD undef) (by go_simp) (Grows.refl _) t17
    case rfin =>
      intro y W' hg hV
      simp only [AllVals] at hV
      obtain ⟨_, _, _, _, _, _, _, _, u8, _⟩ := hV
      simp only [putAll, Act.put, List.setIfInBounds_toArray, List.set_cons_zero, List.set_cons_succ]
      have bdW : Below W2.heap.size W2 W' := (below_of_drewN _ W2 1).trans hg
      generalize y 4 = v4 at *
      obtain ⟨b1, hb1⟩ : ∃ b1, [byteOf k 0] ++ lowB lo 6 = b1 := ⟨_, rfl⟩
      rw [hb1] at u8
      have hb1l : b1.length = 7 := by rw [← hb1]; simp [lowB_length]
      have Hb1 := hid hb1
      have H4 := hid (And.intro (HB2.out.trans (bdW.mono HS2.out)) (u8.mono HS2.out))
      have HS := hid (show W.heap.size + 1 ≤ W1.heap.size from Nat.le_of_eq HS1.out.symm)
      clear hb1 bdW u8 HK HB2 hg HS2
      go_wp2_with fail
      refine wp_region_stage [3, 4, 7] rfl (fun i => match i with | 8 => [25] | _ => []) (fun i => match i with | 1 => [21] | 2 => [22] | 3 => [25] | _ => []) (fun sk ts w => match sk with
          | 0 => Below (W.heap.size + 1) W1 w ∧ Own8 w (W.heap.size + 1) 5 v4 b1
          | 1 => ∃ u, ts = [u] ∧ Below (W.heap.size + 1) W1 w ∧ Own8 w (W.heap.size + 1) 5 v4 b1 ∧ Bs w u (lowB po 2)
          | 2 => ∃ u, ts = [u] ∧ Below (W.heap.size + 1) W1 w ∧ Own8 w (W.heap.size + 1) 5 u (b1 ++ lowB po 2)
          | 3 => ∃ u, ts = [u] ∧ Below (W.heap.size + 1) W1 w ∧ Own8 w (W.heap.size + 1) 5 u ((b1 ++ lowB po 2) ++ l)
          | _ => False) (fun i ts v => match i with
          | 0 => v = v4
          | 1 => v = .pointer (some ⟨W.heap.size, 2, none⟩)
          | 2 => v = .int .i64 po
          | 3 => True
          | 4 => True
          | 5 => v = .pointer (some ⟨W.heap.size, 3, none⟩)
          | 6 => v = .slice a0 l.length c0
          | 7 => True
          | 8 => ts = [v]
          | _ => True) (by kernel_rfl) (by kernel_rfl) (by kernel_rfl) (⟨H4.out.1.drew, H4.out.2.keep (below_of_drewN _ _ 1)⟩) ?rsteps ?rfin
      case rsteps =>
        refine ⟨?_, ?_, ?_, ?_, ?_, ?_, ?_, ?_, ?_, trivial⟩
        · intro sk a x hat hJ hA
          have t4 := hA.at_ 4 (by first | rfl | kernel_rfl) rfl
          clear hat hJ
          refine .inl ⟨rfl, stage_value (w' := x) (v := v4) ?_ ⟨_, rfl, rfl, rfl⟩⟩
          clear hA
          go_simp
        · intro sk a x hat hJ hA
          have t1 := hA.at_ 1 (by first | rfl | kernel_rfl) rfl
          clear hat hJ
          refine .inl ⟨rfl, stage_value (w' := x) (v := .pointer (some ⟨W.heap.size, 2, none⟩)) ?_ ⟨_, rfl, rfl, rfl⟩⟩
          clear hA
          go_simp
        · intro sk a x hat hJ hA
          have t19 : a.tmps[19]?.getD undef = .pointer (some ⟨W.heap.size, 2, none⟩) := hA.dep_ ⟨1, .data⟩ (by simp) rfl _ 19 rfl rfl
          match sk, hat, hJ with
          | 0, hat, hJ =>
            have hk := HK1.out.below (hJ.1) (Nat.lt_succ_self _)
            have hc := hk.cell (o := 2) rfl
            clear hJ hk
            refine .inl ⟨rfl, stage_value (w' := _) (v := .int .i64 po) ?_ ⟨_, rfl, rfl, rfl⟩⟩
            clear hA
            go_simp
          | 1, hat, _ => exact absurd (hat.symm.trans (by kernel_rfl : atStage _ _ _ _ = false)) (by decide)
          | 2, hat, _ => exact absurd (hat.symm.trans (by kernel_rfl : atStage _ _ _ _ = false)) (by decide)
          | 3, hat, _ => exact absurd (hat.symm.trans (by kernel_rfl : atStage _ _ _ _ = false)) (by decide)
          | sk + 4, _, hJ => exact hJ.elim
        · intro a x hJ hA
          have t20 : a.tmps[20]?.getD undef = .int .i64 po := hA.dep_ ⟨2, .data⟩ (by simp) rfl _ 20 rfl rfl
          refine ⟨rfl, ?_⟩
          obtain ⟨hb, ho⟩ := hJ
          refine stage_call (f := 69) (args := #[.int .i64 po, .int .i64 2]) (by clear hA hb ho; go_simp) ((ref_Bytes po 2 x (by omega) (by omega)).mono ?_)
          rintro e w' ⟨v, rfl, h1, h2⟩
          exact ⟨_, rfl, _, rfl, ⟨v, hA.put1 21 v (by kernel_rfl), hb.trans (h2.mono (Nat.le_trans HS.out hb.size)), ho.keep h2, h1.bs⟩, trivial⟩
        · intro a x hJ hA
          have t18 : a.tmps[18]?.getD undef = v4 := hA.dep_ ⟨0, .data⟩ (by simp) rfl _ 18 rfl rfl
          have t21 := hA.dep_ ⟨3, .data⟩ (by simp) rfl _ 21 rfl rfl
          refine ⟨rfl, ?_⟩
          obtain ⟨u, hu, hb, ho, hs⟩ := hJ
          have hu := (tms1 a 21).symm.trans hu
          injection hu with hu _
          obtain ⟨i0, hi, hz0, hz1, hz2⟩ := info_parts info_u8
          obtain ⟨v', w', hr, q1, q2, _⟩ := run_append8 (P := Try.prog) Try.underlying34 hi hz0 hz1 hz2 34 ho hs (by simp [lowB_length, hb1l]) (Nat.le_trans HS.out hb.size)
          refine stage_value (w' := w') (v := v') (exec_append rfl (by
            have e1 : a.eval (.tmp 18) = v4 := by simp [go_sem, t18]
            have e2 : a.eval (.tmp 21) = u := by simp [go_sem, hu]
            rw [e1, e2]; exact hr)) ⟨_, rfl, ⟨v', hA.put1 22 v' (by kernel_rfl), hb.grown q2 (Nat.le_trans HS.out hb.size) (fun k hk => (ho.blk k hk).1), q1⟩, trivial⟩
        · intro sk a x hat hJ hA
          have t1 := hA.at_ 1 (by first | rfl | kernel_rfl) rfl
          clear hat hJ
          refine .inl ⟨rfl, stage_value (w' := x) (v := .pointer (some ⟨W.heap.size, 3, none⟩)) ?_ ⟨_, rfl, rfl, rfl⟩⟩
          clear hA
          go_simp
        · intro sk a x hat hJ hA
          have t23 : a.tmps[23]?.getD undef = .pointer (some ⟨W.heap.size, 3, none⟩) := hA.dep_ ⟨5, .data⟩ (by simp) rfl _ 23 rfl rfl
          match sk, hat, hJ with
          | 0, hat, hJ =>
            have hk := HK1.out.below (hJ.1) (Nat.lt_succ_self _)
            have hc := hk.cell (o := 3) rfl
            clear hJ hk
            refine .inl ⟨rfl, stage_value (w' := _) (v := .slice a0 l.length c0) ?_ ⟨_, rfl, rfl, rfl⟩⟩
            clear hA
            go_simp
          | 1, hat, hJ =>
            have hk := HK1.out.below ((by obtain ⟨u, _, hb, _⟩ := hJ; exact hb)) (Nat.lt_succ_self _)
            have hc := hk.cell (o := 3) rfl
            clear hJ hk
            refine .inl ⟨rfl, stage_value (w' := _) (v := .slice a0 l.length c0) ?_ ⟨_, rfl, rfl, rfl⟩⟩
            clear hA
            go_simp
          | 2, hat, hJ =>
            have hk := HK1.out.below ((by obtain ⟨u, _, hb, _⟩ := hJ; exact hb)) (Nat.lt_succ_self _)
            have hc := hk.cell (o := 3) rfl
            clear hJ hk
            refine .inl ⟨rfl, stage_value (w' := _) (v := .slice a0 l.length c0) ?_ ⟨_, rfl, rfl, rfl⟩⟩
            clear hA
            go_simp
          | 3, hat, _ => exact absurd (hat.symm.trans (by kernel_rfl : atStage _ _ _ _ = false)) (by decide)
          | sk + 4, _, hJ => exact hJ.elim
        · intro a x hJ hA
          have t22 := hA.dep_ ⟨4, .data⟩ (by simp) rfl _ 22 rfl rfl
          have t24 : a.tmps[24]?.getD undef = .slice a0 l.length c0 := hA.dep_ ⟨6, .data⟩ (by simp) rfl _ 24 rfl rfl
          refine ⟨rfl, ?_⟩
          obtain ⟨u, hu, hb, ho⟩ := hJ
          have hu := (tms1 a 22).symm.trans hu
          injection hu with hu _
          obtain ⟨i0, hi, hz0, hz1, hz2⟩ := info_parts info_u8
          have hs : BsW x (.slice a0 l.length c0) l := HV.out.below_ (Nat.le_of_eq HS1.out) hb
          obtain ⟨v', w', hr, q1, q2⟩ := run_append8w (P := Try.prog) Try.underlying34 hi hz0 hz1 hz2 34 ho hs (by simp [lowB_length, hb1l]; omega) (Nat.le_trans HS.out hb.size)
          refine stage_value (w' := w') (v := v') (exec_append rfl (by
            have e1 : a.eval (.tmp 22) = u := by simp [go_sem, hu]
            have e2 : a.eval (.tmp 24) = .slice a0 l.length c0 := by simp [go_sem, t24]
            rw [e1, e2]; exact hr)) ⟨_, rfl, ⟨v', hA.put1 25 v' (by kernel_rfl), hb.grown q2 (Nat.le_trans HS.out hb.size) (fun k hk => (ho.blk k hk).1), q1⟩, trivial⟩
        · intro sk a x hat hJ hA
          have t25 := hA.dep_ ⟨7, .data⟩ (by simp) rfl _ 25 rfl rfl
          match sk, hat, hJ with
          | 0, hat, _ => exact absurd (hat.symm.trans (by kernel_rfl : atStage _ _ _ _ = false)) (by decide)
          | 1, hat, _ => exact absurd (hat.symm.trans (by kernel_rfl : atStage _ _ _ _ = false)) (by decide)
          | 2, hat, _ => exact absurd (hat.symm.trans (by kernel_rfl : atStage _ _ _ _ = false)) (by decide)
          | 3, hat, hJ =>
            obtain ⟨u, hu, hb, ho⟩ := hJ
            refine .inl ⟨rfl, stage_value (w' := _) (v := a.tmps[25]?.getD undef) (by clear hb ho hA hu; go_simp) ⟨_, rfl, rfl, tms1 a 25⟩⟩
          | sk + 4, _, hJ => exact hJ.elim
      case rfin =>
        intro y W'' hJ hV
        obtain ⟨u, hu, hb, ho⟩ := hJ
        simp only [AllVals] at hV
        obtain ⟨_, _, _, _, _, _, _, _, u8, _⟩ := hV
        have hyu := u8.symm.trans hu
        injection hyu with hyu _
        clear u8 hu
        simp only [putAll, Act.put, List.setIfInBounds_toArray, List.set_cons_zero, List.set_cons_succ]
        rw [hyu]
        clear hyu
        have hq : (b1 ++ lowB po 2) ++ l = reqB k lo po l := by rw [← Hb1.out]; simp [reqB, lowB]
        rw [hq] at ho
        have hql : (reqB k lo po l).length ≤ 65536 := by simp [reqB, lowB_length]; omega
        have hbW := HB.out.trans (hb.mono (Nat.le_succ _))
        have hsz := hbW.size
        have HO := hid (And.intro ho hbW)
        clear hb ho hbW H4 hq
        obtain ⟨a5, c5, rfl⟩ := HO.out.1.form
        go_wp2_with fail
        refine (ref_Frame 1 _ _ W'' (by omega) (by omega) HO.out.1.bs hql).mono ?_
        rintro e W7 ⟨v7, rfl, o7, b7⟩
        go_wp2_with fail
        go_ret2
        exact ⟨_, rfl, o7.mono hsz, HO.out.2.trans (b7.mono hsz)⟩

set_option maxRecDepth 100000 in
set_option maxHeartbeats 3200000 in
theorem ref_PutReply (er tl : Int) (sl : Bool) (v : Value) (l : List UInt8) (W : World) (hv : BsW W v l) (hl : l.length ≤ 1073741824) :
    Calls Try.prog 26 #[.agg #[.int .i64 er, .int .i64 tl, .bool sl, v]] W fun e w' => ∃ v', e = .returned (.tuple #[v', .int .i64 (if tellsB er tl l.length then 0 else 1)]) ∧ Own8 w' W.heap.size 5 v' (putRepB er tl sl l) ∧ Below W.heap.size W w' := by
  obtain ⟨a0, c0, rfl⟩ := hv.form
  obtain ⟨W1, hW1⟩ : ∃ W1, W.alloc (.cells #[.int .i64 er, .int .i64 tl, .bool sl, .slice a0 l.length c0] 56) = W1 := ⟨_, rfl⟩
  have b1 : Below W.heap.size W W1 := by rw [← hW1]; exact (Below.refl _ W).alloc (Nat.le_refl _) _
  have k1 : Blk W1 W.heap.size #[.int .i64 er, .int .i64 tl, .bool sl, .slice a0 l.length c0] 56 := by rw [← hW1]; exact Blk.new W _ _
  have hs1 : W1.heap.size = W.heap.size + 1 := by rw [← hW1]; simp
  have x0 := k1.cell (o := 0) rfl
  have x1 := k1.cell (o := 1) rfl
  have x2 := k1.cell (o := 2) rfl
  have x3 := k1.cell (o := 3) rfl
  have hrt := ref_tells er tl sl a0 l.length c0 W1 (by omega)
  have HV := hid (hv.keep b1)
  have HB := hid b1
  have HS1 := hid hs1
  have HK1 := hid k1
  unfold putRepB
  cases ht : tellsB er tl l.length
  · rw [ht] at hrt
    have HR := hid hrt
    clear hrt hv hs1 k1 ht
    go_enter Try.func26, Try.ntmps26
    go_wp2_with fail
    clear hW1
    refine HR.out.mono ?_
    rintro e W2 ⟨rfl, b2⟩
    go_wp2_with fail
    go_ret2
    exact ⟨_, rfl, Own8.nil _ _ _, b1.trans (b2.mono b1.size)⟩
  · rw [ht] at hrt
    cases sl
    · skip
      have HR := hid hrt
      have hrr := of_decide_eq_true ht
      obtain ⟨hk0, hk1, hl0, hl1, hn⟩ := hrr
      clear hrt hv ht
      go_enter Try.func26, Try.ntmps26
      go_wp2_with fail
      clear hW1
      refine HR.out.mono ?_
      rintro e W2 ⟨rfl, b2⟩
      have HS2 := hid (show W.heap.size + 1 ≤ W2.heap.size by have := b2.size; omega)
      have HB2 := hid (show Below (W.heap.size + 1) W1 W2 by rw [← hs1]; exact b2)
      have HK := hid (k1.keep b2)
      clear x0 x1 x2 x3 b2 HR k1 b1 hs1
      go_wp2_with fail
      refine wp_region_invW rfl Grows (fun i v x => match i with
          | 0 => v = .pointer (some ⟨W.heap.size, 0, none⟩)
          | 1 => v = .int .i64 er
          | 2 => v = .int .u8 er
          | 3 => ∃ g, v = .slice (some ⟨g, 0, none⟩) 1 1 ∧ Own8 x W2.heap.size 5 (.slice (some ⟨g, 0, none⟩) 1 1) [byteOf er 0]
          | 4 => v = .pointer (some ⟨W.heap.size, 1, none⟩)
          | 5 => v = .int .i64 tl
          | 6 => Own8 x W2.heap.size 5 v (lowB tl 2)
          | 7 => Own8 x W2.heap.size 5 v ([byteOf er 0] ++ lowB tl 2)
          | 8 => Own8 x W2.heap.size 5 v ([byteOf er 0] ++ lowB tl 2)
          | _ => True) (by kernel_rfl) (Grows.refl _) Grows.trans ?rstab ?rsteps ?rfin
      case rstab =>
        intro i v x y hg h
        match i with
        | 0 | 1 | 2 | 4 | 5 => exact h
        | 3 => exact (by obtain ⟨g9, e9, h9⟩ := h; exact ⟨g9, e9, h9.keep hg⟩)
        | 6 => exact Own8.keep h hg
        | 7 => exact Own8.keep h hg
        | 8 => exact Own8.keep h hg
        | n + 9 => trivial
      case rsteps =>
        refine ⟨?_, ?_, ?_, ?_, ?_, ?_, ?_, ?_, ?_, trivial⟩
        · intro a x hA
          have t1 := hA.at_ 1 (by first | rfl | kernel_rfl) rfl
          refine step_value (w' := x) (v := .pointer (some ⟨W.heap.size, 0, none⟩)) ?_ (Grows.refl _) ?_
          · go_simp
          · rfl
        · intro a x hA
          have t11 : a.tmps[11]?.getD undef = .pointer (some ⟨W.heap.size, 0, none⟩) := hA.dep_ ⟨0, .data⟩ (by simp) _ 11 rfl rfl
          have hBx := HK.out.keep hA.grown
          have hc0 := hBx.cell (o := 0) rfl
          have hc1 := hBx.cell (o := 1) rfl
          have hc2 := hBx.cell (o := 2) rfl
          have hc3 := hBx.cell (o := 3) rfl
          clear hBx
          refine step_value (w' := x) (v := .int .i64 er) ?_ (Grows.refl _) ?_
          · go_simp
          · rfl
        · intro a x hA
          have t12 : a.tmps[12]?.getD undef = .int .i64 er := hA.dep_ ⟨1, .data⟩ (by simp) _ 12 rfl rfl
          have hBx := HK.out.keep hA.grown
          have hc0 := hBx.cell (o := 0) rfl
          have hc1 := hBx.cell (o := 1) rfl
          have hc2 := hBx.cell (o := 2) rfl
          have hc3 := hBx.cell (o := 3) rfl
          clear hBx
          have hw : IntKind.u8.wrap er = er := IntWalk.u8_in _ (by omega)
          refine step_value (w' := x) (v := .int .u8 er) ?_ (Grows.refl _) rfl
          go_simp
        · intro a x hA
          have t13 : a.tmps[13]?.getD undef = .int .u8 er := hA.dep_ ⟨2, .data⟩ (by simp) _ 13 rfl rfl
          have hsx : W2.heap.size ≤ x.heap.size := hA.grow.size
          refine step_value (w' := x.alloc (.cells #[.int .u8 er] 5)) (v := .slice (some ⟨x.heap.size, 0, none⟩) 1 1) (by go_simp) (Grows.alloc _ _) ?_
          exact ⟨_, rfl, own8_mk hsx (Blk.new x _ _) rfl (Nat.le_refl _) (by unfold maxLen; omega) rfl (fun i u h => by
            match i, h with
            | 0, h => simp at h; subst h; simp [byteOf_val]; omega)⟩
        · intro a x hA
          have t1 := hA.at_ 1 (by first | rfl | kernel_rfl) rfl
          refine step_value (w' := x) (v := .pointer (some ⟨W.heap.size, 1, none⟩)) ?_ (Grows.refl _) ?_
          · go_simp
          · rfl
        · intro a x hA
          have t15 : a.tmps[15]?.getD undef = .pointer (some ⟨W.heap.size, 1, none⟩) := hA.dep_ ⟨4, .data⟩ (by simp) _ 15 rfl rfl
          have hBx := HK.out.keep hA.grown
          have hc0 := hBx.cell (o := 0) rfl
          have hc1 := hBx.cell (o := 1) rfl
          have hc2 := hBx.cell (o := 2) rfl
          have hc3 := hBx.cell (o := 3) rfl
          clear hBx
          refine step_value (w' := x) (v := .int .i64 tl) ?_ (Grows.refl _) ?_
          · go_simp
          · rfl
        · intro a x hA
          have t16 : a.tmps[16]?.getD undef = .int .i64 tl := hA.dep_ ⟨5, .data⟩ (by simp) _ 16 rfl rfl
          have hs := hA.grow.size
          refine step_call (f := 69) (args := #[.int .i64 tl, .int .i64 2]) (by go_simp) ((ref_Bytes tl 2 x (by omega) (by omega)).mono ?_)
          rintro e w' ⟨v, rfl, ho, hb⟩
          exact ⟨v, rfl, hb, ho.mono hs⟩
        · intro a x hA
          have t14 : ∃ g, (a.tmps[14]?.getD undef) = .slice (some ⟨g, 0, none⟩) 1 1 ∧ Own8 x W2.heap.size 5 (.slice (some ⟨g, 0, none⟩) 1 1) [byteOf er 0] := hA.dep_ ⟨3, .data⟩ (by simp) _ 14 rfl rfl
          have t17 : Own8 x W2.heap.size 5 (a.tmps[17]?.getD undef) (lowB tl 2) := hA.dep_ ⟨6, .data⟩ (by simp) _ 17 rfl rfl
          obtain ⟨g, e9, ho9⟩ := t14
          obtain ⟨i0, hi, hz0, hz1, hz2⟩ := info_parts info_u8
          have hsx : W2.heap.size ≤ x.heap.size := hA.grow.size
          obtain ⟨v', w', hr, q1, q2⟩ := run_append_full (P := Try.prog) Try.underlying34 hi hz0 hz1 hz2 34 ho9 rfl t17.bs (by intro h; have := congrArg List.length h; simp [lowB_length] at this) (by simp [lowB_length]) hsx
          refine step_value (w' := w') (v := v') (exec_append rfl (by
            have e1 : a.eval (.tmp 14) = .slice (some ⟨g, 0, none⟩) 1 1 := by simp [go_sem, e9]
            have e2 : a.eval (.tmp 17) = a.tmps[17]?.getD undef := by simp [go_sem]
            rw [e1, e2]; exact hr)) q2 ?_
          exact q1
        · intro a x hA
          have t18 : Own8 x W2.heap.size 5 (a.tmps[18]?.getD undef) ([byteOf er 0] ++ lowB tl 2) := hA.dep_ ⟨7, .data⟩ (by simp) _ 18 rfl rfl
          exact step_value (w' := x) (v := a.tmps[18]?.getD undef) (by go_simp) (Grows.refl _) t18
      case rfin =>
        intro y W' hg hV
        simp only [AllVals] at hV
        obtain ⟨_, _, _, _, _, _, _, _, u8, _⟩ := hV
        simp only [putAll, Act.put, List.setIfInBounds_toArray, List.set_cons_zero, List.set_cons_succ]
        have bdW : Below W2.heap.size W2 W' := (below_of_drewN _ W2 1).trans hg
        generalize y 4 = v4 at *
        obtain ⟨b1, hb1⟩ : ∃ b1, [byteOf er 0] ++ lowB tl 2 = b1 := ⟨_, rfl⟩
        rw [hb1] at u8
        have hb1l : b1.length = 3 := by rw [← hb1]; simp [lowB_length]
        have Hb1 := hid hb1
        have H4 := hid (And.intro (HB2.out.trans (bdW.mono HS2.out)) (u8.mono HS2.out))
        have HS := hid (show W.heap.size + 1 ≤ W1.heap.size from Nat.le_of_eq HS1.out.symm)
        clear hb1 bdW u8 HK HB2 hg HS2
        have x2 := (HK1.out.below H4.out.1 (Nat.lt_succ_self _)).cell (o := 2) rfl
        go_wp2_with fail
        clear x2
        refine wp_region_stage [3, 4, 7, 8] rfl (fun i => match i with | 9 => [30] | 10 => [30] | 11 => [30] | 12 => [30] | 13 => [30] | _ => []) (fun i => match i with | 1 => [25] | 2 => [26] | 3 => [29] | 4 => [30] | _ => []) (fun sk ts w => match sk with
            | 0 => Below (W.heap.size + 1) W1 w ∧ Own8 w (W.heap.size + 1) 5 v4 b1
            | 1 => ∃ u, ts = [u] ∧ Below (W.heap.size + 1) W1 w ∧ Own8 w (W.heap.size + 1) 5 v4 b1 ∧ Bs w u [byteOf 0 0]
            | 2 => ∃ u, ts = [u] ∧ Below (W.heap.size + 1) W1 w ∧ Own8 w (W.heap.size + 1) 5 u (b1 ++ [byteOf 0 0])
            | 3 => ∃ u, ts = [u] ∧ Below (W.heap.size + 1) W1 w ∧ Own8 w (W.heap.size + 1) 5 u ((b1 ++ [byteOf 0 0]) ++ l)
            | 4 => ∃ u, ts = [.tuple #[u, .int .i64 0]] ∧ Below (W.heap.size + 1) W1 w ∧ Own8 w (W.heap.size + 1) 5 u (frameB 2 (repB er tl 0 l))
            | _ => False) (fun i ts v => match i with
            | 0 => v = v4
            | 1 => v = .int .i64 0
            | 2 => v = .int .u8 0
            | 3 => True
            | 4 => True
            | 5 => v = .pointer (some ⟨W.heap.size, 3, none⟩)
            | 6 => v = .slice a0 l.length c0
            | 7 => True
            | 8 => True
            | 9 => ts = [v]
            | 10 => ∃ u c, ts = [.tuple #[u, c]] ∧ v = u
            | 11 => ∃ u c, ts = [.tuple #[u, c]] ∧ v = c
            | 12 => ∃ u c, ts = [.tuple #[u, c]] ∧ v = u
            | 13 => ∃ u c, ts = [.tuple #[u, c]] ∧ v = c
            | _ => True) (by kernel_rfl) (by kernel_rfl) (by kernel_rfl) (⟨H4.out.1.drew, H4.out.2.keep (below_of_drewN _ _ 1)⟩) ?rsteps ?rfin
        case rsteps =>
          refine ⟨?_, ?_, ?_, ?_, ?_, ?_, ?_, ?_, ?_, ?_, ?_, ?_, ?_, ?_, trivial⟩
          · intro sk a x hat hJ hA
            have t4 := hA.at_ 4 (by first | rfl | kernel_rfl) rfl
            clear hat hJ
            refine .inl ⟨rfl, stage_value (w' := x) (v := v4) ?_ ⟨_, rfl, rfl, rfl⟩⟩
            clear hA
            go_simp
          · intro sk a x hat hJ hA
            have t5 := hA.at_ 5 (by first | rfl | kernel_rfl) rfl
            clear hat hJ
            refine .inl ⟨rfl, stage_value (w' := x) (v := .int .i64 0) ?_ ⟨_, rfl, rfl, rfl⟩⟩
            clear hA
            go_simp
          · intro sk a x hat hJ hA
            have t23 : a.tmps[23]?.getD undef = .int .i64 0 := hA.dep_ ⟨1, .data⟩ (by simp) rfl _ 23 rfl rfl
            clear hat hJ
            have hw : IntKind.u8.wrap 0 = 0 := by decide
            refine .inl ⟨rfl, stage_value (w' := x) (v := .int .u8 0) ?_ ⟨_, rfl, rfl, rfl⟩⟩
            clear hA
            go_simp
          · intro a x hJ hA
            have t24 : a.tmps[24]?.getD undef = .int .u8 0 := hA.dep_ ⟨2, .data⟩ (by simp) rfl _ 24 rfl rfl
            refine ⟨rfl, ?_⟩
            obtain ⟨hb, ho⟩ := hJ
            have hgr := Grows.alloc x (.cells #[.int .u8 0] 5)
            refine stage_value (w' := x.alloc (.cells #[.int .u8 0] 5)) (v := .slice (some ⟨x.heap.size, 0, none⟩) 1 1) (by clear hA hb ho hgr; go_simp) ⟨_, rfl, ⟨_, hA.put1 25 _ (by kernel_rfl), hb.trans (hgr.mono (Nat.le_trans HS.out hb.size)), ho.keep hgr, (Blk.new x _ _).bs1 (by simp [byteOf_val])⟩, trivial⟩
          · intro a x hJ hA
            have t22 : a.tmps[22]?.getD undef = v4 := hA.dep_ ⟨0, .data⟩ (by simp) rfl _ 22 rfl rfl
            have t25 := hA.dep_ ⟨3, .data⟩ (by simp) rfl _ 25 rfl rfl
            refine ⟨rfl, ?_⟩
            obtain ⟨u, hu, hb, ho, hs⟩ := hJ
            have hu := (tms1 a 25).symm.trans hu
            injection hu with hu _
            obtain ⟨i0, hi, hz0, hz1, hz2⟩ := info_parts info_u8
            obtain ⟨v', w', hr, q1, q2, _⟩ := run_append8 (P := Try.prog) Try.underlying34 hi hz0 hz1 hz2 34 ho hs (by simp [hb1l]) (Nat.le_trans HS.out hb.size)
            refine stage_value (w' := w') (v := v') (exec_append rfl (by
              have e1 : a.eval (.tmp 22) = v4 := by simp [go_sem, t22]
              have e2 : a.eval (.tmp 25) = u := by simp [go_sem, hu]
              rw [e1, e2]; exact hr)) ⟨_, rfl, ⟨v', hA.put1 26 v' (by kernel_rfl), hb.grown q2 (Nat.le_trans HS.out hb.size) (fun k hk => (ho.blk k hk).1), q1⟩, trivial⟩
          · intro sk a x hat hJ hA
            have t1 := hA.at_ 1 (by first | rfl | kernel_rfl) rfl
            clear hat hJ
            refine .inl ⟨rfl, stage_value (w' := x) (v := .pointer (some ⟨W.heap.size, 3, none⟩)) ?_ ⟨_, rfl, rfl, rfl⟩⟩
            clear hA
            go_simp
          · intro sk a x hat hJ hA
            have t27 : a.tmps[27]?.getD undef = .pointer (some ⟨W.heap.size, 3, none⟩) := hA.dep_ ⟨5, .data⟩ (by simp) rfl _ 27 rfl rfl
            match sk, hat, hJ with
            | 0, hat, hJ =>
              have hk := HK1.out.below (hJ.1) (Nat.lt_succ_self _)
              have hc := hk.cell (o := 3) rfl
              clear hJ hk
              refine .inl ⟨rfl, stage_value (w' := _) (v := .slice a0 l.length c0) ?_ ⟨_, rfl, rfl, rfl⟩⟩
              clear hA
              go_simp
            | 1, hat, hJ =>
              have hk := HK1.out.below ((by obtain ⟨u, _, hb, _⟩ := hJ; exact hb)) (Nat.lt_succ_self _)
              have hc := hk.cell (o := 3) rfl
              clear hJ hk
              refine .inl ⟨rfl, stage_value (w' := _) (v := .slice a0 l.length c0) ?_ ⟨_, rfl, rfl, rfl⟩⟩
              clear hA
              go_simp
            | 2, hat, hJ =>
              have hk := HK1.out.below ((by obtain ⟨u, _, hb, _⟩ := hJ; exact hb)) (Nat.lt_succ_self _)
              have hc := hk.cell (o := 3) rfl
              clear hJ hk
              refine .inl ⟨rfl, stage_value (w' := _) (v := .slice a0 l.length c0) ?_ ⟨_, rfl, rfl, rfl⟩⟩
              clear hA
              go_simp
            | 3, hat, _ => exact absurd (hat.symm.trans (by kernel_rfl : atStage _ _ _ _ = false)) (by decide)
            | 4, hat, _ => exact absurd (hat.symm.trans (by kernel_rfl : atStage _ _ _ _ = false)) (by decide)
            | sk + 5, _, hJ => exact hJ.elim
          · intro a x hJ hA
            have t26 := hA.dep_ ⟨4, .data⟩ (by simp) rfl _ 26 rfl rfl
            have t28 : a.tmps[28]?.getD undef = .slice a0 l.length c0 := hA.dep_ ⟨6, .data⟩ (by simp) rfl _ 28 rfl rfl
            refine ⟨rfl, ?_⟩
            obtain ⟨u, hu, hb, ho⟩ := hJ
            have hu := (tms1 a 26).symm.trans hu
            injection hu with hu _
            obtain ⟨i0, hi, hz0, hz1, hz2⟩ := info_parts info_u8
            have hs : BsW x (.slice a0 l.length c0) l := HV.out.below_ (Nat.le_of_eq HS1.out) hb
            obtain ⟨v', w', hr, q1, q2⟩ := run_append8w (P := Try.prog) Try.underlying34 hi hz0 hz1 hz2 34 ho hs (by simp [hb1l]; omega) (Nat.le_trans HS.out hb.size)
            refine stage_value (w' := w') (v := v') (exec_append rfl (by
              have e1 : a.eval (.tmp 26) = u := by simp [go_sem, hu]
              have e2 : a.eval (.tmp 28) = .slice a0 l.length c0 := by simp [go_sem, t28]
              rw [e1, e2]; exact hr)) ⟨_, rfl, ⟨v', hA.put1 29 v' (by kernel_rfl), hb.grown q2 (Nat.le_trans HS.out hb.size) (fun k hk => (ho.blk k hk).1), q1⟩, trivial⟩
          · intro a x hJ hA
            have t29 := hA.dep_ ⟨7, .data⟩ (by simp) rfl _ 29 rfl rfl
            refine ⟨rfl, ?_⟩
            obtain ⟨u, hu, hb, ho⟩ := hJ
            have hu := (tms1 a 29).symm.trans hu
            injection hu with hu _
            have hq : (b1 ++ [byteOf 0 0]) ++ l = repB er tl 0 l := by rw [← Hb1.out]; simp [repB, lowB]
            rw [hq] at ho
            have hql : (repB er tl 0 l).length ≤ 65536 := by simp [repB, lowB_length]; omega
            obtain ⟨a5, c5, e5⟩ := ho.form
            subst e5
            have hsz := Nat.le_trans HS.out hb.size
            refine stage_call (f := 70) (args := #[.int .i64 2, .slice a5 (repB er tl 0 l).length c5]) (by clear hA hb ho hq hql; go_simp) ((ref_Frame 2 _ _ x (by omega) (by omega) ho.bs hql).mono ?_)
            rintro e w' ⟨v7, rfl, o7, b7⟩
            exact ⟨_, rfl, _, rfl, ⟨v7, hA.put1 30 _ (by kernel_rfl), hb.trans (b7.mono hsz), o7.mono hsz⟩, trivial⟩
          · intro sk a x hat hJ hA
            have t30 := hA.dep_ ⟨8, .data⟩ (by simp) rfl _ 30 rfl rfl
            match sk, hat, hJ with
            | 0, hat, _ => exact absurd (hat.symm.trans (by kernel_rfl : atStage _ _ _ _ = false)) (by decide)
            | 1, hat, _ => exact absurd (hat.symm.trans (by kernel_rfl : atStage _ _ _ _ = false)) (by decide)
            | 2, hat, _ => exact absurd (hat.symm.trans (by kernel_rfl : atStage _ _ _ _ = false)) (by decide)
            | 3, hat, _ => exact absurd (hat.symm.trans (by kernel_rfl : atStage _ _ _ _ = false)) (by decide)
            | 4, hat, hJ =>
              clear hJ
              refine .inl ⟨rfl, stage_value (w' := _) (v := a.tmps[30]?.getD undef) (by clear hA; go_simp) ⟨_, rfl, rfl, tms1 a 30⟩⟩
            | sk + 5, _, hJ => exact hJ.elim
          · intro sk a x hat hJ hA
            have t21 := hA.dep_ ⟨9, .data⟩ (by simp) rfl _ 21 rfl rfl
            match sk, hat, hJ with
            | 0, hat, _ => exact absurd (hat.symm.trans (by kernel_rfl : atStage _ _ _ _ = false)) (by decide)
            | 1, hat, _ => exact absurd (hat.symm.trans (by kernel_rfl : atStage _ _ _ _ = false)) (by decide)
            | 2, hat, _ => exact absurd (hat.symm.trans (by kernel_rfl : atStage _ _ _ _ = false)) (by decide)
            | 3, hat, _ => exact absurd (hat.symm.trans (by kernel_rfl : atStage _ _ _ _ = false)) (by decide)
            | 4, hat, hJ =>
              obtain ⟨u, hu, hb, ho⟩ := hJ
              have e := t21.symm.trans hu
              injection e with e _
              refine .inl ⟨rfl, stage_value (w' := _) (v := u) (by clear hb ho hA hu t21; go_simp) ⟨_, rfl, rfl, ⟨u, .int .i64 0, hu, rfl⟩⟩⟩
            | sk + 5, _, hJ => exact hJ.elim
          · intro sk a x hat hJ hA
            have t21 := hA.dep_ ⟨9, .data⟩ (by simp) rfl _ 21 rfl rfl
            match sk, hat, hJ with
            | 0, hat, _ => exact absurd (hat.symm.trans (by kernel_rfl : atStage _ _ _ _ = false)) (by decide)
            | 1, hat, _ => exact absurd (hat.symm.trans (by kernel_rfl : atStage _ _ _ _ = false)) (by decide)
            | 2, hat, _ => exact absurd (hat.symm.trans (by kernel_rfl : atStage _ _ _ _ = false)) (by decide)
            | 3, hat, _ => exact absurd (hat.symm.trans (by kernel_rfl : atStage _ _ _ _ = false)) (by decide)
            | 4, hat, hJ =>
              obtain ⟨u, hu, hb, ho⟩ := hJ
              have e := t21.symm.trans hu
              injection e with e _
              refine .inl ⟨rfl, stage_value (w' := _) (v := .int .i64 0) (by clear hb ho hA hu t21; go_simp) ⟨_, rfl, rfl, ⟨u, .int .i64 0, hu, rfl⟩⟩⟩
            | sk + 5, _, hJ => exact hJ.elim
          · intro sk a x hat hJ hA
            have t31 := hA.dep_ ⟨10, .data⟩ (by simp) rfl _ 31 rfl rfl
            match sk, hat, hJ with
            | 0, hat, _ => exact absurd (hat.symm.trans (by kernel_rfl : atStage _ _ _ _ = false)) (by decide)
            | 1, hat, _ => exact absurd (hat.symm.trans (by kernel_rfl : atStage _ _ _ _ = false)) (by decide)
            | 2, hat, _ => exact absurd (hat.symm.trans (by kernel_rfl : atStage _ _ _ _ = false)) (by decide)
            | 3, hat, _ => exact absurd (hat.symm.trans (by kernel_rfl : atStage _ _ _ _ = false)) (by decide)
            | 4, hat, hJ =>
              obtain ⟨u', c', h1, h2⟩ := t31
              clear hJ
              refine .inl ⟨rfl, stage_value (w' := _) (v := a.tmps[31]?.getD undef) (by clear hA h1 h2; go_simp) ⟨_, rfl, rfl, ⟨u', c', h1, h2⟩⟩⟩
            | sk + 5, _, hJ => exact hJ.elim
          · intro sk a x hat hJ hA
            have t32 := hA.dep_ ⟨11, .data⟩ (by simp) rfl _ 32 rfl rfl
            match sk, hat, hJ with
            | 0, hat, _ => exact absurd (hat.symm.trans (by kernel_rfl : atStage _ _ _ _ = false)) (by decide)
            | 1, hat, _ => exact absurd (hat.symm.trans (by kernel_rfl : atStage _ _ _ _ = false)) (by decide)
            | 2, hat, _ => exact absurd (hat.symm.trans (by kernel_rfl : atStage _ _ _ _ = false)) (by decide)
            | 3, hat, _ => exact absurd (hat.symm.trans (by kernel_rfl : atStage _ _ _ _ = false)) (by decide)
            | 4, hat, hJ =>
              obtain ⟨u', c', h1, h2⟩ := t32
              clear hJ
              refine .inl ⟨rfl, stage_value (w' := _) (v := a.tmps[32]?.getD undef) (by clear hA h1 h2; go_simp) ⟨_, rfl, rfl, ⟨u', c', h1, h2⟩⟩⟩
            | sk + 5, _, hJ => exact hJ.elim
        case rfin =>
          intro y W'' hJ hV
          obtain ⟨u, hu, hb, ho⟩ := hJ
          simp only [AllVals] at hV
          obtain ⟨_, _, _, _, _, _, _, _, _, _, _, _, u12, u13, _⟩ := hV
          obtain ⟨p1, p2, p3, p4⟩ := u12
          obtain ⟨r1, r2, r3, r4⟩ := u13
          have e1 := p3.symm.trans hu
          injection e1 with e1 _
          injection e1 with e1
          have e1 := congrArg (fun z : Array Value => z[0]?) e1
          simp at e1
          clear p3 r3 r4 hu
          simp only [putAll, Act.put, List.setIfInBounds_toArray, List.set_cons_zero, List.set_cons_succ]
          rw [p4, e1]
          clear p4 e1
          have hbW := HB.out.trans (hb.mono (Nat.le_succ _))
          have hsz := hbW.size
          have HO := hid (And.intro (ho.mono (Nat.le_succ W.heap.size)) hbW)
          clear hb ho hbW H4
          go_wp2_with fail
          go_ret2
          exact ⟨_, rfl, HO.out.1, HO.out.2⟩
    · skip
      have HR := hid hrt
      have hrr := of_decide_eq_true ht
      obtain ⟨hk0, hk1, hl0, hl1, hn⟩ := hrr
      clear hrt hv ht
      go_enter Try.func26, Try.ntmps26
      go_wp2_with fail
      clear hW1
      refine HR.out.mono ?_
      rintro e W2 ⟨rfl, b2⟩
      have HS2 := hid (show W.heap.size + 1 ≤ W2.heap.size by have := b2.size; omega)
      have HB2 := hid (show Below (W.heap.size + 1) W1 W2 by rw [← hs1]; exact b2)
      have HK := hid (k1.keep b2)
      clear x0 x1 x2 x3 b2 HR k1 b1 hs1
      go_wp2_with fail
      refine wp_region_invW rfl Grows (fun i v x => match i with
          | 0 => v = .pointer (some ⟨W.heap.size, 0, none⟩)
          | 1 => v = .int .i64 er
          | 2 => v = .int .u8 er
          | 3 => ∃ g, v = .slice (some ⟨g, 0, none⟩) 1 1 ∧ Own8 x W2.heap.size 5 (.slice (some ⟨g, 0, none⟩) 1 1) [byteOf er 0]
          | 4 => v = .pointer (some ⟨W.heap.size, 1, none⟩)
          | 5 => v = .int .i64 tl
          | 6 => Own8 x W2.heap.size 5 v (lowB tl 2)
          | 7 => Own8 x W2.heap.size 5 v ([byteOf er 0] ++ lowB tl 2)
          | 8 => Own8 x W2.heap.size 5 v ([byteOf er 0] ++ lowB tl 2)
          | _ => True) (by kernel_rfl) (Grows.refl _) Grows.trans ?rstab ?rsteps ?rfin
      case rstab =>
        intro i v x y hg h
        match i with
        | 0 | 1 | 2 | 4 | 5 => exact h
        | 3 => exact (by obtain ⟨g9, e9, h9⟩ := h; exact ⟨g9, e9, h9.keep hg⟩)
        | 6 => exact Own8.keep h hg
        | 7 => exact Own8.keep h hg
        | 8 => exact Own8.keep h hg
        | n + 9 => trivial
      case rsteps =>
        refine ⟨?_, ?_, ?_, ?_, ?_, ?_, ?_, ?_, ?_, trivial⟩
        · intro a x hA
          have t1 := hA.at_ 1 (by first | rfl | kernel_rfl) rfl
          refine step_value (w' := x) (v := .pointer (some ⟨W.heap.size, 0, none⟩)) ?_ (Grows.refl _) ?_
          · go_simp
          · rfl
        · intro a x hA
          have t11 : a.tmps[11]?.getD undef = .pointer (some ⟨W.heap.size, 0, none⟩) := hA.dep_ ⟨0, .data⟩ (by simp) _ 11 rfl rfl
          have hBx := HK.out.keep hA.grown
          have hc0 := hBx.cell (o := 0) rfl
          have hc1 := hBx.cell (o := 1) rfl
          have hc2 := hBx.cell (o := 2) rfl
          have hc3 := hBx.cell (o := 3) rfl
          clear hBx
          refine step_value (w' := x) (v := .int .i64 er) ?_ (Grows.refl _) ?_
          · go_simp
          · rfl
        · intro a x hA
          have t12 : a.tmps[12]?.getD undef = .int .i64 er := hA.dep_ ⟨1, .data⟩ (by simp) _ 12 rfl rfl
          have hBx := HK.out.keep hA.grown
          have hc0 := hBx.cell (o := 0) rfl
          have hc1 := hBx.cell (o := 1) rfl
          have hc2 := hBx.cell (o := 2) rfl
          have hc3 := hBx.cell (o := 3) rfl
          clear hBx
          have hw : IntKind.u8.wrap er = er := IntWalk.u8_in _ (by omega)
          refine step_value (w' := x) (v := .int .u8 er) ?_ (Grows.refl _) rfl
          go_simp
        · intro a x hA
          have t13 : a.tmps[13]?.getD undef = .int .u8 er := hA.dep_ ⟨2, .data⟩ (by simp) _ 13 rfl rfl
          have hsx : W2.heap.size ≤ x.heap.size := hA.grow.size
          refine step_value (w' := x.alloc (.cells #[.int .u8 er] 5)) (v := .slice (some ⟨x.heap.size, 0, none⟩) 1 1) (by go_simp) (Grows.alloc _ _) ?_
          exact ⟨_, rfl, own8_mk hsx (Blk.new x _ _) rfl (Nat.le_refl _) (by unfold maxLen; omega) rfl (fun i u h => by
            match i, h with
            | 0, h => simp at h; subst h; simp [byteOf_val]; omega)⟩
        · intro a x hA
          have t1 := hA.at_ 1 (by first | rfl | kernel_rfl) rfl
          refine step_value (w' := x) (v := .pointer (some ⟨W.heap.size, 1, none⟩)) ?_ (Grows.refl _) ?_
          · go_simp
          · rfl
        · intro a x hA
          have t15 : a.tmps[15]?.getD undef = .pointer (some ⟨W.heap.size, 1, none⟩) := hA.dep_ ⟨4, .data⟩ (by simp) _ 15 rfl rfl
          have hBx := HK.out.keep hA.grown
          have hc0 := hBx.cell (o := 0) rfl
          have hc1 := hBx.cell (o := 1) rfl
          have hc2 := hBx.cell (o := 2) rfl
          have hc3 := hBx.cell (o := 3) rfl
          clear hBx
          refine step_value (w' := x) (v := .int .i64 tl) ?_ (Grows.refl _) ?_
          · go_simp
          · rfl
        · intro a x hA
          have t16 : a.tmps[16]?.getD undef = .int .i64 tl := hA.dep_ ⟨5, .data⟩ (by simp) _ 16 rfl rfl
          have hs := hA.grow.size
          refine step_call (f := 69) (args := #[.int .i64 tl, .int .i64 2]) (by go_simp) ((ref_Bytes tl 2 x (by omega) (by omega)).mono ?_)
          rintro e w' ⟨v, rfl, ho, hb⟩
          exact ⟨v, rfl, hb, ho.mono hs⟩
        · intro a x hA
          have t14 : ∃ g, (a.tmps[14]?.getD undef) = .slice (some ⟨g, 0, none⟩) 1 1 ∧ Own8 x W2.heap.size 5 (.slice (some ⟨g, 0, none⟩) 1 1) [byteOf er 0] := hA.dep_ ⟨3, .data⟩ (by simp) _ 14 rfl rfl
          have t17 : Own8 x W2.heap.size 5 (a.tmps[17]?.getD undef) (lowB tl 2) := hA.dep_ ⟨6, .data⟩ (by simp) _ 17 rfl rfl
          obtain ⟨g, e9, ho9⟩ := t14
          obtain ⟨i0, hi, hz0, hz1, hz2⟩ := info_parts info_u8
          have hsx : W2.heap.size ≤ x.heap.size := hA.grow.size
          obtain ⟨v', w', hr, q1, q2⟩ := run_append_full (P := Try.prog) Try.underlying34 hi hz0 hz1 hz2 34 ho9 rfl t17.bs (by intro h; have := congrArg List.length h; simp [lowB_length] at this) (by simp [lowB_length]) hsx
          refine step_value (w' := w') (v := v') (exec_append rfl (by
            have e1 : a.eval (.tmp 14) = .slice (some ⟨g, 0, none⟩) 1 1 := by simp [go_sem, e9]
            have e2 : a.eval (.tmp 17) = a.tmps[17]?.getD undef := by simp [go_sem]
            rw [e1, e2]; exact hr)) q2 ?_
          exact q1
        · intro a x hA
          have t18 : Own8 x W2.heap.size 5 (a.tmps[18]?.getD undef) ([byteOf er 0] ++ lowB tl 2) := hA.dep_ ⟨7, .data⟩ (by simp) _ 18 rfl rfl
          exact step_value (w' := x) (v := a.tmps[18]?.getD undef) (by go_simp) (Grows.refl _) t18
      case rfin =>
        intro y W' hg hV
        simp only [AllVals] at hV
        obtain ⟨_, _, _, _, _, _, _, _, u8, _⟩ := hV
        simp only [putAll, Act.put, List.setIfInBounds_toArray, List.set_cons_zero, List.set_cons_succ]
        have bdW : Below W2.heap.size W2 W' := (below_of_drewN _ W2 1).trans hg
        generalize y 4 = v4 at *
        obtain ⟨b1, hb1⟩ : ∃ b1, [byteOf er 0] ++ lowB tl 2 = b1 := ⟨_, rfl⟩
        rw [hb1] at u8
        have hb1l : b1.length = 3 := by rw [← hb1]; simp [lowB_length]
        have Hb1 := hid hb1
        have H4 := hid (And.intro (HB2.out.trans (bdW.mono HS2.out)) (u8.mono HS2.out))
        have HS := hid (show W.heap.size + 1 ≤ W1.heap.size from Nat.le_of_eq HS1.out.symm)
        clear hb1 bdW u8 HK HB2 hg HS2
        have x2 := (HK1.out.below H4.out.1 (Nat.lt_succ_self _)).cell (o := 2) rfl
        go_wp2_with fail
        clear x2
        refine wp_region_stage [3, 4, 7, 8] rfl (fun i => match i with | 9 => [30] | 10 => [30] | 11 => [30] | 12 => [30] | 13 => [30] | _ => []) (fun i => match i with | 1 => [25] | 2 => [26] | 3 => [29] | 4 => [30] | _ => []) (fun sk ts w => match sk with
            | 0 => Below (W.heap.size + 1) W1 w ∧ Own8 w (W.heap.size + 1) 5 v4 b1
            | 1 => ∃ u, ts = [u] ∧ Below (W.heap.size + 1) W1 w ∧ Own8 w (W.heap.size + 1) 5 v4 b1 ∧ Bs w u [byteOf 1 0]
            | 2 => ∃ u, ts = [u] ∧ Below (W.heap.size + 1) W1 w ∧ Own8 w (W.heap.size + 1) 5 u (b1 ++ [byteOf 1 0])
            | 3 => ∃ u, ts = [u] ∧ Below (W.heap.size + 1) W1 w ∧ Own8 w (W.heap.size + 1) 5 u ((b1 ++ [byteOf 1 0]) ++ l)
            | 4 => ∃ u, ts = [.tuple #[u, .int .i64 0]] ∧ Below (W.heap.size + 1) W1 w ∧ Own8 w (W.heap.size + 1) 5 u (frameB 2 (repB er tl 1 l))
            | _ => False) (fun i ts v => match i with
            | 0 => v = v4
            | 1 => v = .int .i64 1
            | 2 => v = .int .u8 1
            | 3 => True
            | 4 => True
            | 5 => v = .pointer (some ⟨W.heap.size, 3, none⟩)
            | 6 => v = .slice a0 l.length c0
            | 7 => True
            | 8 => True
            | 9 => ts = [v]
            | 10 => ∃ u c, ts = [.tuple #[u, c]] ∧ v = u
            | 11 => ∃ u c, ts = [.tuple #[u, c]] ∧ v = c
            | 12 => ∃ u c, ts = [.tuple #[u, c]] ∧ v = u
            | 13 => ∃ u c, ts = [.tuple #[u, c]] ∧ v = c
            | _ => True) (by kernel_rfl) (by kernel_rfl) (by kernel_rfl) (⟨H4.out.1.drew, H4.out.2.keep (below_of_drewN _ _ 1)⟩) ?rsteps ?rfin
        case rsteps =>
          refine ⟨?_, ?_, ?_, ?_, ?_, ?_, ?_, ?_, ?_, ?_, ?_, ?_, ?_, ?_, trivial⟩
          · intro sk a x hat hJ hA
            have t4 := hA.at_ 4 (by first | rfl | kernel_rfl) rfl
            clear hat hJ
            refine .inl ⟨rfl, stage_value (w' := x) (v := v4) ?_ ⟨_, rfl, rfl, rfl⟩⟩
            clear hA
            go_simp
          · intro sk a x hat hJ hA
            have t5 := hA.at_ 5 (by first | rfl | kernel_rfl) rfl
            clear hat hJ
            refine .inl ⟨rfl, stage_value (w' := x) (v := .int .i64 1) ?_ ⟨_, rfl, rfl, rfl⟩⟩
            clear hA
            go_simp
          · intro sk a x hat hJ hA
            have t23 : a.tmps[23]?.getD undef = .int .i64 1 := hA.dep_ ⟨1, .data⟩ (by simp) rfl _ 23 rfl rfl
            clear hat hJ
            have hw : IntKind.u8.wrap 1 = 1 := by decide
            refine .inl ⟨rfl, stage_value (w' := x) (v := .int .u8 1) ?_ ⟨_, rfl, rfl, rfl⟩⟩
            clear hA
            go_simp
          · intro a x hJ hA
            have t24 : a.tmps[24]?.getD undef = .int .u8 1 := hA.dep_ ⟨2, .data⟩ (by simp) rfl _ 24 rfl rfl
            refine ⟨rfl, ?_⟩
            obtain ⟨hb, ho⟩ := hJ
            have hgr := Grows.alloc x (.cells #[.int .u8 1] 5)
            refine stage_value (w' := x.alloc (.cells #[.int .u8 1] 5)) (v := .slice (some ⟨x.heap.size, 0, none⟩) 1 1) (by clear hA hb ho hgr; go_simp) ⟨_, rfl, ⟨_, hA.put1 25 _ (by kernel_rfl), hb.trans (hgr.mono (Nat.le_trans HS.out hb.size)), ho.keep hgr, (Blk.new x _ _).bs1 (by simp [byteOf_val])⟩, trivial⟩
          · intro a x hJ hA
            have t22 : a.tmps[22]?.getD undef = v4 := hA.dep_ ⟨0, .data⟩ (by simp) rfl _ 22 rfl rfl
            have t25 := hA.dep_ ⟨3, .data⟩ (by simp) rfl _ 25 rfl rfl
            refine ⟨rfl, ?_⟩
            obtain ⟨u, hu, hb, ho, hs⟩ := hJ
            have hu := (tms1 a 25).symm.trans hu
            injection hu with hu _
            obtain ⟨i0, hi, hz0, hz1, hz2⟩ := info_parts info_u8
            obtain ⟨v', w', hr, q1, q2, _⟩ := run_append8 (P := Try.prog) Try.underlying34 hi hz0 hz1 hz2 34 ho hs (by simp [hb1l]) (Nat.le_trans HS.out hb.size)
            refine stage_value (w' := w') (v := v') (exec_append rfl (by
              have e1 : a.eval (.tmp 22) = v4 := by simp [go_sem, t22]
              have e2 : a.eval (.tmp 25) = u := by simp [go_sem, hu]
              rw [e1, e2]; exact hr)) ⟨_, rfl, ⟨v', hA.put1 26 v' (by kernel_rfl), hb.grown q2 (Nat.le_trans HS.out hb.size) (fun k hk => (ho.blk k hk).1), q1⟩, trivial⟩
          · intro sk a x hat hJ hA
            have t1 := hA.at_ 1 (by first | rfl | kernel_rfl) rfl
            clear hat hJ
            refine .inl ⟨rfl, stage_value (w' := x) (v := .pointer (some ⟨W.heap.size, 3, none⟩)) ?_ ⟨_, rfl, rfl, rfl⟩⟩
            clear hA
            go_simp
          · intro sk a x hat hJ hA
            have t27 : a.tmps[27]?.getD undef = .pointer (some ⟨W.heap.size, 3, none⟩) := hA.dep_ ⟨5, .data⟩ (by simp) rfl _ 27 rfl rfl
            match sk, hat, hJ with
            | 0, hat, hJ =>
              have hk := HK1.out.below (hJ.1) (Nat.lt_succ_self _)
              have hc := hk.cell (o := 3) rfl
              clear hJ hk
              refine .inl ⟨rfl, stage_value (w' := _) (v := .slice a0 l.length c0) ?_ ⟨_, rfl, rfl, rfl⟩⟩
              clear hA
              go_simp
            | 1, hat, hJ =>
              have hk := HK1.out.below ((by obtain ⟨u, _, hb, _⟩ := hJ; exact hb)) (Nat.lt_succ_self _)
              have hc := hk.cell (o := 3) rfl
              clear hJ hk
              refine .inl ⟨rfl, stage_value (w' := _) (v := .slice a0 l.length c0) ?_ ⟨_, rfl, rfl, rfl⟩⟩
              clear hA
              go_simp
            | 2, hat, hJ =>
              have hk := HK1.out.below ((by obtain ⟨u, _, hb, _⟩ := hJ; exact hb)) (Nat.lt_succ_self _)
              have hc := hk.cell (o := 3) rfl
              clear hJ hk
              refine .inl ⟨rfl, stage_value (w' := _) (v := .slice a0 l.length c0) ?_ ⟨_, rfl, rfl, rfl⟩⟩
              clear hA
              go_simp
            | 3, hat, _ => exact absurd (hat.symm.trans (by kernel_rfl : atStage _ _ _ _ = false)) (by decide)
            | 4, hat, _ => exact absurd (hat.symm.trans (by kernel_rfl : atStage _ _ _ _ = false)) (by decide)
            | sk + 5, _, hJ => exact hJ.elim
          · intro a x hJ hA
            have t26 := hA.dep_ ⟨4, .data⟩ (by simp) rfl _ 26 rfl rfl
            have t28 : a.tmps[28]?.getD undef = .slice a0 l.length c0 := hA.dep_ ⟨6, .data⟩ (by simp) rfl _ 28 rfl rfl
            refine ⟨rfl, ?_⟩
            obtain ⟨u, hu, hb, ho⟩ := hJ
            have hu := (tms1 a 26).symm.trans hu
            injection hu with hu _
            obtain ⟨i0, hi, hz0, hz1, hz2⟩ := info_parts info_u8
            have hs : BsW x (.slice a0 l.length c0) l := HV.out.below_ (Nat.le_of_eq HS1.out) hb
            obtain ⟨v', w', hr, q1, q2⟩ := run_append8w (P := Try.prog) Try.underlying34 hi hz0 hz1 hz2 34 ho hs (by simp [hb1l]; omega) (Nat.le_trans HS.out hb.size)
            refine stage_value (w' := w') (v := v') (exec_append rfl (by
              have e1 : a.eval (.tmp 26) = u := by simp [go_sem, hu]
              have e2 : a.eval (.tmp 28) = .slice a0 l.length c0 := by simp [go_sem, t28]
              rw [e1, e2]; exact hr)) ⟨_, rfl, ⟨v', hA.put1 29 v' (by kernel_rfl), hb.grown q2 (Nat.le_trans HS.out hb.size) (fun k hk => (ho.blk k hk).1), q1⟩, trivial⟩
          · intro a x hJ hA
            have t29 := hA.dep_ ⟨7, .data⟩ (by simp) rfl _ 29 rfl rfl
            refine ⟨rfl, ?_⟩
            obtain ⟨u, hu, hb, ho⟩ := hJ
            have hu := (tms1 a 29).symm.trans hu
            injection hu with hu _
            have hq : (b1 ++ [byteOf 1 0]) ++ l = repB er tl 1 l := by rw [← Hb1.out]; simp [repB, lowB]
            rw [hq] at ho
            have hql : (repB er tl 1 l).length ≤ 65536 := by simp [repB, lowB_length]; omega
            obtain ⟨a5, c5, e5⟩ := ho.form
            subst e5
            have hsz := Nat.le_trans HS.out hb.size
            refine stage_call (f := 70) (args := #[.int .i64 2, .slice a5 (repB er tl 1 l).length c5]) (by clear hA hb ho hq hql; go_simp) ((ref_Frame 2 _ _ x (by omega) (by omega) ho.bs hql).mono ?_)
            rintro e w' ⟨v7, rfl, o7, b7⟩
            exact ⟨_, rfl, _, rfl, ⟨v7, hA.put1 30 _ (by kernel_rfl), hb.trans (b7.mono hsz), o7.mono hsz⟩, trivial⟩
          · intro sk a x hat hJ hA
            have t30 := hA.dep_ ⟨8, .data⟩ (by simp) rfl _ 30 rfl rfl
            match sk, hat, hJ with
            | 0, hat, _ => exact absurd (hat.symm.trans (by kernel_rfl : atStage _ _ _ _ = false)) (by decide)
            | 1, hat, _ => exact absurd (hat.symm.trans (by kernel_rfl : atStage _ _ _ _ = false)) (by decide)
            | 2, hat, _ => exact absurd (hat.symm.trans (by kernel_rfl : atStage _ _ _ _ = false)) (by decide)
            | 3, hat, _ => exact absurd (hat.symm.trans (by kernel_rfl : atStage _ _ _ _ = false)) (by decide)
            | 4, hat, hJ =>
              clear hJ
              refine .inl ⟨rfl, stage_value (w' := _) (v := a.tmps[30]?.getD undef) (by clear hA; go_simp) ⟨_, rfl, rfl, tms1 a 30⟩⟩
            | sk + 5, _, hJ => exact hJ.elim
          · intro sk a x hat hJ hA
            have t21 := hA.dep_ ⟨9, .data⟩ (by simp) rfl _ 21 rfl rfl
            match sk, hat, hJ with
            | 0, hat, _ => exact absurd (hat.symm.trans (by kernel_rfl : atStage _ _ _ _ = false)) (by decide)
            | 1, hat, _ => exact absurd (hat.symm.trans (by kernel_rfl : atStage _ _ _ _ = false)) (by decide)
            | 2, hat, _ => exact absurd (hat.symm.trans (by kernel_rfl : atStage _ _ _ _ = false)) (by decide)
            | 3, hat, _ => exact absurd (hat.symm.trans (by kernel_rfl : atStage _ _ _ _ = false)) (by decide)
            | 4, hat, hJ =>
              obtain ⟨u, hu, hb, ho⟩ := hJ
              have e := t21.symm.trans hu
              injection e with e _
              refine .inl ⟨rfl, stage_value (w' := _) (v := u) (by clear hb ho hA hu t21; go_simp) ⟨_, rfl, rfl, ⟨u, .int .i64 0, hu, rfl⟩⟩⟩
            | sk + 5, _, hJ => exact hJ.elim
          · intro sk a x hat hJ hA
            have t21 := hA.dep_ ⟨9, .data⟩ (by simp) rfl _ 21 rfl rfl
            match sk, hat, hJ with
            | 0, hat, _ => exact absurd (hat.symm.trans (by kernel_rfl : atStage _ _ _ _ = false)) (by decide)
            | 1, hat, _ => exact absurd (hat.symm.trans (by kernel_rfl : atStage _ _ _ _ = false)) (by decide)
            | 2, hat, _ => exact absurd (hat.symm.trans (by kernel_rfl : atStage _ _ _ _ = false)) (by decide)
            | 3, hat, _ => exact absurd (hat.symm.trans (by kernel_rfl : atStage _ _ _ _ = false)) (by decide)
            | 4, hat, hJ =>
              obtain ⟨u, hu, hb, ho⟩ := hJ
              have e := t21.symm.trans hu
              injection e with e _
              refine .inl ⟨rfl, stage_value (w' := _) (v := .int .i64 0) (by clear hb ho hA hu t21; go_simp) ⟨_, rfl, rfl, ⟨u, .int .i64 0, hu, rfl⟩⟩⟩
            | sk + 5, _, hJ => exact hJ.elim
          · intro sk a x hat hJ hA
            have t31 := hA.dep_ ⟨10, .data⟩ (by simp) rfl _ 31 rfl rfl
            match sk, hat, hJ with
            | 0, hat, _ => exact absurd (hat.symm.trans (by kernel_rfl : atStage _ _ _ _ = false)) (by decide)
            | 1, hat, _ => exact absurd (hat.symm.trans (by kernel_rfl : atStage _ _ _ _ = false)) (by decide)
            | 2, hat, _ => exact absurd (hat.symm.trans (by kernel_rfl : atStage _ _ _ _ = false)) (by decide)
            | 3, hat, _ => exact absurd (hat.symm.trans (by kernel_rfl : atStage _ _ _ _ = false)) (by decide)
            | 4, hat, hJ =>
              obtain ⟨u', c', h1, h2⟩ := t31
              clear hJ
              refine .inl ⟨rfl, stage_value (w' := _) (v := a.tmps[31]?.getD undef) (by clear hA h1 h2; go_simp) ⟨_, rfl, rfl, ⟨u', c', h1, h2⟩⟩⟩
            | sk + 5, _, hJ => exact hJ.elim
          · intro sk a x hat hJ hA
            have t32 := hA.dep_ ⟨11, .data⟩ (by simp) rfl _ 32 rfl rfl
            match sk, hat, hJ with
            | 0, hat, _ => exact absurd (hat.symm.trans (by kernel_rfl : atStage _ _ _ _ = false)) (by decide)
            | 1, hat, _ => exact absurd (hat.symm.trans (by kernel_rfl : atStage _ _ _ _ = false)) (by decide)
            | 2, hat, _ => exact absurd (hat.symm.trans (by kernel_rfl : atStage _ _ _ _ = false)) (by decide)
            | 3, hat, _ => exact absurd (hat.symm.trans (by kernel_rfl : atStage _ _ _ _ = false)) (by decide)
            | 4, hat, hJ =>
              obtain ⟨u', c', h1, h2⟩ := t32
              clear hJ
              refine .inl ⟨rfl, stage_value (w' := _) (v := a.tmps[32]?.getD undef) (by clear hA h1 h2; go_simp) ⟨_, rfl, rfl, ⟨u', c', h1, h2⟩⟩⟩
            | sk + 5, _, hJ => exact hJ.elim
        case rfin =>
          intro y W'' hJ hV
          obtain ⟨u, hu, hb, ho⟩ := hJ
          simp only [AllVals] at hV
          obtain ⟨_, _, _, _, _, _, _, _, _, _, _, _, u12, u13, _⟩ := hV
          obtain ⟨p1, p2, p3, p4⟩ := u12
          obtain ⟨r1, r2, r3, r4⟩ := u13
          have e1 := p3.symm.trans hu
          injection e1 with e1 _
          injection e1 with e1
          have e1 := congrArg (fun z : Array Value => z[0]?) e1
          simp at e1
          clear p3 r3 r4 hu
          simp only [putAll, Act.put, List.setIfInBounds_toArray, List.set_cons_zero, List.set_cons_succ]
          rw [p4, e1]
          clear p4 e1
          have hbW := HB.out.trans (hb.mono (Nat.le_succ _))
          have hsz := hbW.size
          have HO := hid (And.intro (ho.mono (Nat.le_succ W.heap.size)) hbW)
          clear hb ho hbW H4
          go_wp2_with fail
          go_ret2
          exact ⟨_, rfl, HO.out.1, HO.out.2⟩
end Go.Proofs.Ytbofcocfcmlcaaa
