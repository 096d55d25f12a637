import Derived.Test.YtnbeagcmfcdklaaGreatMRefA
import Derived.Test.YtnbeagcmfcdklaaGreatRefB
import Derived.Test.YtnbeagcmfcdklaaGreatMGen
/-! The document's answer for acceptor: in, asks, tells, truth, framed, numbers. -/
namespace Go.Proofs.YtnbeagcmfcdklaaGreat
open Go.RowKit

set_option maxRecDepth 100000 in
set_option maxHeartbeats 1600000 in
theorem ref8_in (n least : Int) (W : World) :
    Calls Tryz.prog 68 #[.int .i64 n, .int .i64 least] W fun e w' => e = .returned (.bool (decide (least ≤ n ∧ n < 281474976710656))) ∧ w' = W := by
  go_enter Tryz.func68, Tryz.ntmps68
  go_wp2_with fail
  all_goals go_ret
  all_goals (refine ⟨ret_boolA (Bool.eq_iff_iff.2 ?_), rfl⟩)
  all_goals (try simp only [beq_iff_eq, beq_eq_false_iff_ne, ne_eq, bne_iff_ne, bne_eq_false_iff_eq] at *)
  all_goals (simp; omega)

set_option maxRecDepth 100000 in
set_option maxHeartbeats 6400000 in
theorem ref8_asks (k key ver bal : Int) (av : Option Addr) (n cv : Nat) (W : World) (hn : n ≤ 9223372036854775807) :
    Calls Tryz.prog 38 #[.agg #[.int .i64 k, .int .i64 key, .int .i64 ver, .int .i64 bal, .slice av n cv]] W fun e w' => e = .returned (.bool (askOk k key ver bal n)) ∧ Below W.heap.size W w' := by
  go_enter Tryz.func38, Tryz.ntmps38
  go_wp2_with fail
  iterate 5 (all_goals (try (refine (ref8_in _ _ _).mono ?_; rintro e Wx ⟨rfl, hw⟩; rw [hw]; clear hw Wx; go_wp2_with fail)))
  all_goals go_ret
  all_goals (refine ⟨ret_boolA (Bool.eq_iff_iff.2 ?_), (Below.refl _ _).alloc (Nat.le_refl _) _⟩)
  all_goals (try simp only [beq_iff_eq, beq_eq_false_iff_ne, ne_eq, bne_iff_ne, bne_eq_false_iff_eq, Bool.not_eq_true', Bool.not_eq_false', decide_eq_true_eq, decide_eq_false_iff_not] at *)
  all_goals (simp [askOk]; omega)

set_option maxRecDepth 100000 in
set_option maxHeartbeats 6400000 in
theorem ref8_tells (er ver pr ba : Int) (le : Bool) (av : Option Addr) (n cv : Nat) (W : World) (hn : n ≤ 9223372036854775807) :
    Calls Tryz.prog 43 #[.agg #[.int .i64 er, .int .i64 ver, .int .i64 pr, .int .i64 ba, .bool le, .slice av n cv]] W fun e w' => e = .returned (.bool (ansOk er ver pr ba n)) ∧ Below W.heap.size W w' := by
  go_enter Tryz.func43, Tryz.ntmps43
  go_wp2_with fail
  iterate 5 (all_goals (try (refine (ref8_in _ _ _).mono ?_; rintro e Wx ⟨rfl, hw⟩; rw [hw]; clear hw Wx; go_wp2_with fail)))
  all_goals go_ret
  all_goals (refine ⟨ret_boolA (Bool.eq_iff_iff.2 ?_), (Below.refl _ _).alloc (Nat.le_refl _) _⟩)
  all_goals (try simp only [beq_iff_eq, beq_eq_false_iff_ne, ne_eq, bne_iff_ne, bne_eq_false_iff_eq, Bool.not_eq_true', Bool.not_eq_false', decide_eq_true_eq, decide_eq_false_iff_not] at *)
  all_goals (simp [ansOk]; omega)

set_option maxHeartbeats 800000 in
theorem ref8_truth (b : Bool) (W : World) : Calls Tryz.prog 44 #[.bool b] W fun e w' => e = .returned (.int .u8 (bit b)) ∧ w' = W := by
  cases b
  · go_enter Tryz.func44, Tryz.ntmps44
    go_wp2_with fail
    go_ret
    exact ⟨rfl, rfl⟩
  · go_enter Tryz.func44, Tryz.ntmps44
    go_wp2_with fail
    go_ret
    exact ⟨rfl, rfl⟩

set_option maxRecDepth 100000 in
set_option maxHeartbeats 1600000 in
theorem ref8_framed (v : Value) (l : List UInt8) (w : World) (hv : Bs w v l) (hl : l.length ≤ 1073741824) (kind least : Nat) (hk : kind ≤ 255) (hle : least ≤ 255) :
    Calls Tryz.prog 48 #[v, .int .i64 (kind : Int), .int .i64 (least : Int)] w (BodyPost w l kind least) := by
  obtain ⟨a0, c0, rfl⟩ := hv.form
  have hun := hid (ref_Unframe _ l w hv hl)
  cases hu : unframe l with
  | none =>
    have hp : ∀ e w', BodyPost w l kind least e w' = (∃ v, e = .returned (.tuple #[v, .bool false]) ∧ Below w.heap.size w w') := fun e w' => by unfold BodyPost bodyF; rw [hu]
    have Hp := hid hp
    have Hu := hid hu
    clear hp hu
    go_enter Tryz.func48, Tryz.ntmps48
    go_wp2_with fail
    refine hun.out.mono ?_
    intro e w1 hpost
    unfold UnfPost at hpost
    rw [Hu.out] at hpost
    obtain ⟨c, hc, rfl, b1⟩ := hpost
    have hcb : (c == 0) = false := beq_eq_false_iff_ne.2 hc
    clear hc hun
    go_wp2_with fail
    go_ret2
    rw [Hp.out]
    exact ⟨_, rfl, b1⟩
  | some y =>
    obtain ⟨k, x, to⟩ := y
    obtain ⟨hto, hxl, hk256⟩ := unframe_lens hu
    have Hu := hid hu
    by_cases hall : k = kind ∧ to = l.length ∧ least ≤ x.length
    · have hp : ∀ e w', BodyPost w l kind least e w' = (∃ v, e = .returned (.tuple #[v, .bool true]) ∧ Own8 w' w.heap.size 5 v x ∧ Below w.heap.size w w') := fun e w' => by unfold BodyPost bodyF; rw [hu]; simp only [if_pos hall]
      have Hp := hid hp
      obtain ⟨h1, h2, h3⟩ := hall
      have e1 : ((k : Int) == (kind : Int)) = true := beq_iff_eq.2 (by omega)
      have e2 : ((to : Int) == (l.length : Int)) = true := beq_iff_eq.2 (by omega)
      have e3 : decide ((x.length : Int) ≥ (least : Int)) = true := decide_eq_true (by omega)
      clear hp hu h1 h2
      go_enter Tryz.func48, Tryz.ntmps48
      go_wp2_with fail
      refine hun.out.mono ?_
      intro e w1 hpost
      unfold UnfPost at hpost
      rw [Hu.out] at hpost
      obtain ⟨v1, rfl, o1, b1⟩ := hpost
      obtain ⟨a1, c1, rfl⟩ := o1.form
      have HO := hid o1
      clear hun o1
      go_wp2_with fail
      go_ret2
      rw [Hp.out]
      exact ⟨_, rfl, HO.out, b1⟩
    · have hp : ∀ e w', BodyPost w l kind least e w' = (∃ v, e = .returned (.tuple #[v, .bool false]) ∧ Below w.heap.size w w') := fun e w' => by unfold BodyPost bodyF; rw [hu]; simp only [if_neg hall]
      have Hp := hid hp
      have hne : ((k : Int) == (kind : Int)) = false ∨ (((k : Int) == (kind : Int)) = true ∧ ((to : Int) == (l.length : Int)) = false) ∨ (((k : Int) == (kind : Int)) = true ∧ ((to : Int) == (l.length : Int)) = true ∧ decide (least ≤ x.length) = false) := by
        by_cases h1 : k = kind
        · by_cases h2 : to = l.length
          · exact .inr (.inr ⟨beq_iff_eq.2 (by omega), beq_iff_eq.2 (by omega), decide_eq_false (fun h3 => hall ⟨h1, h2, h3⟩)⟩)
          · exact .inr (.inl ⟨beq_iff_eq.2 (by omega), beq_eq_false_iff_ne.2 (by omega)⟩)
        · exact .inl (beq_eq_false_iff_ne.2 (by omega))
      clear hp hu hall
      rcases hne with e1 | ⟨e1, e2⟩ | ⟨e1, e2, e3⟩
      all_goals
        go_enter Tryz.func48, Tryz.ntmps48
        go_wp2_with fail
        refine hun.out.mono ?_
        intro e w1 hpost
        unfold UnfPost at hpost
        rw [Hu.out] at hpost
        obtain ⟨v1, rfl, o1, b1⟩ := hpost
        obtain ⟨a1, c1, rfl⟩ := o1.form
        clear hun o1
        go_wp2_with fail
        go_ret2
        rw [Hp.out]
        exact ⟨_, rfl, b1⟩



set_option maxRecDepth 100000 in
set_option maxHeartbeats 1600000 in
theorem ref8_numbers (v : Value) (l : List UInt8) (at_ : Nat) (w : World) (hv : Bs w v l) (hle : at_ + 18 ≤ l.length) (hl : l.length ≤ 1073741824) :
    Calls Tryz.prog 49 #[v, .int .i64 (at_ : Int)] w fun e w' => e = .returned (.tuple #[.int .i64 ((numOf ((l.drop at_).take 6) : Nat) : Int), .int .i64 ((numOf ((l.drop (at_ + 6)).take 6) : Nat) : Int), .int .i64 ((numOf ((l.drop (at_ + 12)).take 6) : Nat) : Int)]) ∧ Below w.heap.size w w' := by
  have G0 := hid (ref_Get v l at_ 6 w hv (by omega) (by omega) (by omega))
  have HV := hid hv
  have e1 : IntKind.i64.wrap ((at_ : Int) + 6) = ((at_ + 6 : Nat) : Int) := by rw [IntKind.wrap_i64]; omega
  have e2 : IntKind.i64.wrap ((at_ : Int) + 12) = ((at_ + 12 : Nat) : Int) := by rw [IntKind.wrap_i64]; omega
  clear hv
  go_enter Tryz.func49, Tryz.ntmps49
  go_wp2_with fail
  refine G0.out.mono ?_
  rintro e w1 ⟨rfl, h1⟩
  have b1 : Below w.heap.size w w1 := by rw [h1]; exact Below.refl _ _
  clear h1
  go_wp2_with fail
  rw [show (at_ : Int) + 6 = ((at_ + 6 : Nat) : Int) from by omega]
  refine (ref_Get v l (at_ + 6) 6 w1 (HV.out.keep b1) (by omega) (by omega) (by omega)).mono ?_
  rintro e w2 ⟨rfl, h2⟩
  have b2 : Below w1.heap.size w1 w2 := by rw [h2]; exact Below.refl _ _
  clear h2
  go_wp2_with fail
  rw [show (at_ : Int) + 12 = ((at_ + 12 : Nat) : Int) from by omega]
  refine (ref_Get v l (at_ + 12) 6 w2 ((HV.out.keep b1).keep b2) (by omega) (by omega) (by omega)).mono ?_
  rintro e w3 ⟨rfl, h3⟩
  have b3 : Below w2.heap.size w2 w3 := by rw [h3]; exact Below.refl _ _
  clear h3
  go_wp2_with fail
  go_ret3
  exact ⟨rfl, (b1.trans (b2.mono b1.size)).trans (b3.mono (Nat.le_trans b1.size b2.size))⟩
end Go.Proofs.YtnbeagcmfcdklaaGreat

/-! The document's answer for acceptor: three. -/
namespace Go.Proofs.YtnbeagcmfcdklaaGreat
open Go.RowKit

set_option maxRecDepth 100000 in
set_option maxHeartbeats 3200000 in
theorem ref8_three (p q r : Int) (W : World) (hp : 0 ≤ p) (hq : 0 ≤ q) (hr : 0 ≤ r) :
    Calls Tryz.prog 39 #[.int .i64 p, .int .i64 q, .int .i64 r] W fun e w' => ∃ v, e = .returned v ∧ Own8 w' W.heap.size 5 v (threeB p q r) ∧ Below W.heap.size W w' := by
  obtain ⟨i0, hi, hz0, hz1, hz2⟩ := info_parts info_u8
  go_enter Tryz.func39, Tryz.ntmps39
  go_wp2_with fail
  refine (ref_Bytes p 6 W hp (by omega)).mono ?_
  rintro e W1 ⟨v1, rfl, o1, b1⟩
  have H1 := hid (And.intro o1 b1)
  clear o1 b1
  go_wp2_with fail
  refine (ref_Bytes q 6 W1 hq (by omega)).mono ?_
  rintro e W2 ⟨v2, rfl, o2, b2⟩
  have o1 := H1.out.1.keep b2
  have hb2 := H1.out.2.trans (b2.mono H1.out.2.size)
  have s2 := o2.bs
  have hlp := lowB_length p 6
  have hlq := lowB_length q 6
  clear o2 b2 H1
  go_wp2_with (at_builtin; refine wpList_append8 Tryz.underlying22 hi hz0 hz1 hz2 rfl _ _ rfl W.heap.size rfl rfl o1 s2 (by omega) hb2.size ?_; intro v3 W3 o3 hg _)
  have hb3 := hb2.grown hg hb2.size (fun k hk => (o1.blk k hk).1)
  have H3 := hid (And.intro o3 hb3)
  clear o1 s2 hg hb2 o3 hb3
  refine (ref_Bytes r 6 W3 hr (by omega)).mono ?_
  rintro e W4 ⟨v4, rfl, o4, b4⟩
  have o3 := H3.out.1.keep b4
  have hb4 := H3.out.2.trans (b4.mono H3.out.2.size)
  have s4 := o4.bs
  have hlr := lowB_length r 6
  clear o4 b4 H3
  go_wp2_with (at_builtin; refine wpList_append8 Tryz.underlying22 hi hz0 hz1 hz2 rfl _ _ rfl W.heap.size rfl rfl o3 s4 (by simp; omega) hb4.size ?_; intro v5 W5 o5 hg _)
  go_ret
  have e5 : (lowB p 6 ++ lowB q 6) ++ lowB r 6 = threeB p q r := by simp [threeB]
  rw [e5] at o5
  exact ⟨_, rfl, o5, hb4.grown hg hb4.size (fun k hk => (o3.blk k hk).1)⟩
end Go.Proofs.YtnbeagcmfcdklaaGreat

/-! The document's answer for acceptor: PutAsk. -/
namespace Go.Proofs.YtnbeagcmfcdklaaGreat
open Go.RowKit

set_option maxRecDepth 100000 in
set_option maxHeartbeats 6400000 in
theorem ref8_PutAsk (k key ver bal : Int) (v : Value) (l : List UInt8) (W : World) (hv : BsW W v l) (hl : l.length ≤ 1073741824) :
    Calls Tryz.prog 11 #[.agg #[.int .i64 k, .int .i64 key, .int .i64 ver, .int .i64 bal, v]] W fun e w' => ∃ v', e = .returned (.tuple #[v', .int .i64 (if askOk k key ver bal l.length then 0 else 1)]) ∧ Own8 w' W.heap.size 5 v' (putAskB k key ver bal l) ∧ Below W.heap.size W w' := by
  obtain ⟨a0, c0, rfl⟩ := hv.form
  obtain ⟨W1, hW1⟩ : ∃ W1, W.alloc (.cells #[.int .i64 k, .int .i64 key, .int .i64 ver, .int .i64 bal, .slice a0 l.length c0] 24) = W1 := ⟨_, rfl⟩
  have b1 : Below W.heap.size W W1 := by rw [← hW1]; exact (Below.refl _ W).alloc (Nat.le_refl _) _
  have k1 : Blk W1 W.heap.size #[.int .i64 k, .int .i64 key, .int .i64 ver, .int .i64 bal, .slice a0 l.length c0] 24 := by rw [← hW1]; exact Blk.new W _ _
  have x0 := k1.cell (o := 0) rfl
  have x1 := k1.cell (o := 1) rfl
  have x2 := k1.cell (o := 2) rfl
  have x3 := k1.cell (o := 3) rfl
  have x4 := k1.cell (o := 4) rfl
  have hrt := ref8_asks k key ver bal a0 l.length c0 W1 (by omega)
  have hv1 := hv.keep b1
  unfold putAskB
  cases ht : askOk k key ver bal l.length
  · rw [ht] at hrt
    have HR := hid hrt
    clear hrt hv hv1 k1 ht
    go_enter Tryz.func11, Tryz.ntmps11
    go_wp2_with fail
    clear hW1
    refine HR.out.mono ?_
    rintro e W2 ⟨rfl, b2⟩
    go_wp2_with fail
    go_ret2
    exact ⟨_, rfl, Own8.nil _ _ _, b1.trans (b2.mono b1.size)⟩
  · rw [ht] at hrt
    have HR := hid hrt
    have hrr := of_decide_eq_true ht
    have hk0 : 0 ≤ k ∧ k ≤ 255 := by omega
    clear hrt hv ht
    go_enter Tryz.func11, Tryz.ntmps11
    go_wp2_with fail
    clear hW1
    refine HR.out.mono ?_
    rintro e W2 ⟨rfl, b2⟩
    have HK := hid (k1.keep b2)
    have HV := hid (hv1.keep b2)
    have HB2 := hid (b1.trans (b2.mono b1.size))
    clear HR hv1 b1 b2 k1 x0 x1 x2 x3 x4
    go_wp2_with fail
    refine wp_region_invW rfl Grows (fun i v x => match i with
        | 0 => v = .pointer (some ⟨W.heap.size, 0, none⟩)
        | 1 => v = .int .i64 k
        | 2 => v = .int .u8 k
        | 3 => ∃ g, v = .slice (some ⟨g, 0, none⟩) 1 1 ∧ Own8 x W2.heap.size 5 (.slice (some ⟨g, 0, none⟩) 1 1) [byteOf k 0]
        | 4 => v = .pointer (some ⟨W.heap.size, 1, none⟩)
        | 5 => v = .int .i64 key
        | 6 => v = .pointer (some ⟨W.heap.size, 2, none⟩)
        | 7 => v = .int .i64 ver
        | 8 => v = .pointer (some ⟨W.heap.size, 3, none⟩)
        | 9 => v = .int .i64 bal
        | 10 => Own8 x W2.heap.size 5 v (threeB key ver bal)
        | 11 => Own8 x W2.heap.size 5 v (byteOf k 0 :: threeB key ver bal)
        | 12 => Own8 x W2.heap.size 5 v (byteOf k 0 :: threeB key ver bal)
        | _ => True) (by kernel_rfl) (Grows.refl _) Grows.trans ?rstab ?rsteps ?rfin
    case rstab =>
      intro i v x y hg h
      match i with
      | 0 | 1 | 2 | 4 | 5 | 6 | 7 | 8 | 9 => exact h
      | 3 => exact (by obtain ⟨g9, e9, h9⟩ := h; exact ⟨g9, e9, h9.keep hg⟩)
      | 10 => exact Own8.keep h hg
      | 11 => exact Own8.keep h hg
      | 12 => exact Own8.keep h hg
      | n + 13 => trivial
    case rsteps =>
      refine ⟨?_, ?_, ?_, ?_, ?_, ?_, ?_, ?_, ?_, ?_, ?_, ?_, ?_, trivial⟩
      · intro a x hA
        have t1 := hA.at_ 1 (by first | rfl | kernel_rfl) rfl
        refine step_value (w' := x) (v := .pointer (some ⟨W.heap.size, 0, none⟩)) ?_ (Grows.refl _) ?_
        · go_simp
        · rfl
      · intro a x hA
        have t10 : a.tmps[10]?.getD undef = .pointer (some ⟨W.heap.size, 0, none⟩) := hA.dep_ ⟨0, .data⟩ (by simp) _ 10 rfl rfl
        have hBx := HK.out.keep hA.grown
        have hc0 := hBx.cell (o := 0) rfl
        have hc1 := hBx.cell (o := 1) rfl
        have hc2 := hBx.cell (o := 2) rfl
        have hc3 := hBx.cell (o := 3) rfl
        clear hBx
        refine step_value (w' := x) (v := .int .i64 k) ?_ (Grows.refl _) ?_
        · go_simp
        · rfl
      · intro a x hA
        have t11 : a.tmps[11]?.getD undef = .int .i64 k := hA.dep_ ⟨1, .data⟩ (by simp) _ 11 rfl rfl
        have hBx := HK.out.keep hA.grown
        have hc0 := hBx.cell (o := 0) rfl
        have hc1 := hBx.cell (o := 1) rfl
        have hc2 := hBx.cell (o := 2) rfl
        have hc3 := hBx.cell (o := 3) rfl
        clear hBx
        have hw : IntKind.u8.wrap k = k := IntWalk.u8_in _ (by omega)
        refine step_value (w' := x) (v := .int .u8 k) ?_ (Grows.refl _) rfl
        go_simp
      · intro a x hA
        have t12 : a.tmps[12]?.getD undef = .int .u8 k := hA.dep_ ⟨2, .data⟩ (by simp) _ 12 rfl rfl
        have hsx : W2.heap.size ≤ x.heap.size := hA.grow.size
        refine step_value (w' := x.alloc (.cells #[.int .u8 k] 5)) (v := .slice (some ⟨x.heap.size, 0, none⟩) 1 1) (by go_simp) (Grows.alloc _ _) ?_
        exact ⟨_, rfl, own8_mk hsx (Blk.new x _ _) rfl (Nat.le_refl _) (by unfold maxLen; omega) rfl (fun i u h => by
          match i, h with
          | 0, h => simp at h; subst h; simp [byteOf_val]; omega)⟩
      · intro a x hA
        have t1 := hA.at_ 1 (by first | rfl | kernel_rfl) rfl
        refine step_value (w' := x) (v := .pointer (some ⟨W.heap.size, 1, none⟩)) ?_ (Grows.refl _) ?_
        · go_simp
        · rfl
      · intro a x hA
        have t14 : a.tmps[14]?.getD undef = .pointer (some ⟨W.heap.size, 1, none⟩) := hA.dep_ ⟨4, .data⟩ (by simp) _ 14 rfl rfl
        have hBx := HK.out.keep hA.grown
        have hc0 := hBx.cell (o := 0) rfl
        have hc1 := hBx.cell (o := 1) rfl
        have hc2 := hBx.cell (o := 2) rfl
        have hc3 := hBx.cell (o := 3) rfl
        clear hBx
        refine step_value (w' := x) (v := .int .i64 key) ?_ (Grows.refl _) ?_
        · go_simp
        · rfl
      · intro a x hA
        have t1 := hA.at_ 1 (by first | rfl | kernel_rfl) rfl
        refine step_value (w' := x) (v := .pointer (some ⟨W.heap.size, 2, none⟩)) ?_ (Grows.refl _) ?_
        · go_simp
        · rfl
      · intro a x hA
        have t16 : a.tmps[16]?.getD undef = .pointer (some ⟨W.heap.size, 2, none⟩) := hA.dep_ ⟨6, .data⟩ (by simp) _ 16 rfl rfl
        have hBx := HK.out.keep hA.grown
        have hc0 := hBx.cell (o := 0) rfl
        have hc1 := hBx.cell (o := 1) rfl
        have hc2 := hBx.cell (o := 2) rfl
        have hc3 := hBx.cell (o := 3) rfl
        clear hBx
        refine step_value (w' := x) (v := .int .i64 ver) ?_ (Grows.refl _) ?_
        · go_simp
        · rfl
      · intro a x hA
        have t1 := hA.at_ 1 (by first | rfl | kernel_rfl) rfl
        refine step_value (w' := x) (v := .pointer (some ⟨W.heap.size, 3, none⟩)) ?_ (Grows.refl _) ?_
        · go_simp
        · rfl
      · intro a x hA
        have t18 : a.tmps[18]?.getD undef = .pointer (some ⟨W.heap.size, 3, none⟩) := hA.dep_ ⟨8, .data⟩ (by simp) _ 18 rfl rfl
        have hBx := HK.out.keep hA.grown
        have hc0 := hBx.cell (o := 0) rfl
        have hc1 := hBx.cell (o := 1) rfl
        have hc2 := hBx.cell (o := 2) rfl
        have hc3 := hBx.cell (o := 3) rfl
        clear hBx
        refine step_value (w' := x) (v := .int .i64 bal) ?_ (Grows.refl _) ?_
        · go_simp
        · rfl
      · intro a x hA
        have t15 : a.tmps[15]?.getD undef = .int .i64 key := hA.dep_ ⟨5, .data⟩ (by simp) _ 15 rfl rfl
        have t17 : a.tmps[17]?.getD undef = .int .i64 ver := hA.dep_ ⟨7, .data⟩ (by simp) _ 17 rfl rfl
        have t19 : a.tmps[19]?.getD undef = .int .i64 bal := hA.dep_ ⟨9, .data⟩ (by simp) _ 19 rfl rfl
        have hs := hA.grow.size
        refine step_call (f := 39) (args := #[.int .i64 key, .int .i64 ver, .int .i64 bal]) (by go_simp) ((ref8_three key ver bal x (by omega) (by omega) (by omega)).mono ?_)
        rintro e w' ⟨v, rfl, ho, hb⟩
        exact ⟨v, rfl, hb, ho.mono hs⟩
      · intro a x hA
        have t13 : ∃ g, (a.tmps[13]?.getD undef) = .slice (some ⟨g, 0, none⟩) 1 1 ∧ Own8 x W2.heap.size 5 (.slice (some ⟨g, 0, none⟩) 1 1) [byteOf k 0] := hA.dep_ ⟨3, .data⟩ (by simp) _ 13 rfl rfl
        have t20 : Own8 x W2.heap.size 5 (a.tmps[20]?.getD undef) (threeB key ver bal) := hA.dep_ ⟨10, .data⟩ (by simp) _ 20 rfl rfl
        obtain ⟨g, e9, ho9⟩ := t13
        obtain ⟨i0, hi, hz0, hz1, hz2⟩ := info_parts info_u8
        have hsx : W2.heap.size ≤ x.heap.size := hA.grow.size
        obtain ⟨v', w', hr, q1, q2⟩ := run_append_full (P := Tryz.prog) Tryz.underlying22 hi hz0 hz1 hz2 22 ho9 rfl t20.bs (by intro h; have := congrArg List.length h; simp [threeB_length] at this) (by simp [threeB_length]) hsx
        refine step_value (w' := w') (v := v') (exec_append rfl (by
          have e1 : a.eval (.tmp 13) = .slice (some ⟨g, 0, none⟩) 1 1 := by simp [go_sem, e9]
          have e2 : a.eval (.tmp 20) = a.tmps[20]?.getD undef := by simp [go_sem]
          rw [e1, e2]; exact hr)) q2 ?_
        exact q1
      · intro a x hA
        have t21 : Own8 x W2.heap.size 5 (a.tmps[21]?.getD undef) (byteOf k 0 :: threeB key ver bal) := hA.dep_ ⟨11, .data⟩ (by simp) _ 21 rfl rfl
        exact step_value (w' := x) (v := a.tmps[21]?.getD undef) (by go_simp) (Grows.refl _) t21
    case rfin =>
      intro y W' hg hV
      simp only [AllVals] at hV
      obtain ⟨_, _, _, _, _, _, _, _, _, _, _, _, u12, _⟩ := hV
      simp only [putAll, Act.put, List.setIfInBounds_toArray, List.set_cons_zero, List.set_cons_succ]
      have bdW : Below W2.heap.size W2 W' := (below_of_drewN _ W2 1).trans hg
      have hbW : Below W.heap.size W W' := HB2.out.trans (bdW.mono HB2.out.size)
      obtain ⟨a4, c4, e4⟩ := u12.form
      rw [e4] at u12 ⊢
      clear e4
      have hk9 := HK.out.keep bdW
      have y4 := hk9.cell (o := 4) rfl
      obtain ⟨i0, hi, hz0, hz1, hz2⟩ := info_parts info_u8
      have hs : BsW W' (.slice a0 l.length c0) l := HV.out.keep bdW
      have hql : (byteOf k 0 :: threeB key ver bal).length = 19 := by simp [threeB_length]
      obtain ⟨v', w', hr, q1, q2⟩ := run_append8w (P := Tryz.prog) Tryz.underlying22 hi hz0 hz1 hz2 22 u12 hs (by omega) bdW.size
      have hbw' := hbW.grown q2 hbW.size (fun k hk => Nat.le_trans HB2.out.size (u12.blk k hk).1)
      have hqa : (byteOf k 0 :: threeB key ver bal) ++ l = askB k key ver bal l := rfl
      rw [hqa] at q1
      have hal : (askB k key ver bal l).length ≤ 65536 := by rw [askB_length]; omega
      have HF := hid (ref_Frame 3 v' _ w' (by omega) (by omega) q1.bs hal)
      have HO := hid hbw'
      clear hg bdW hbW u12 hk9 hs q1 q2 hbw' hqa hal HK HV HB2
      go_wp2_with (at_builtin; refine wpList_val rfl (exec_append rfl hr) ?_)
      refine HF.out.mono ?_
      rintro e W7 ⟨v7, rfl, o7, b7⟩
      go_wp2_with fail
      go_ret2
      exact ⟨_, rfl, o7.mono HO.out.size, HO.out.trans (b7.mono HO.out.size)⟩
end Go.Proofs.YtnbeagcmfcdklaaGreat
