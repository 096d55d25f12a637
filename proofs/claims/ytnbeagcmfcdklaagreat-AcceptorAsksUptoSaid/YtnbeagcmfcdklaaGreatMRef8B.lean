import Derived.Test.YtnbeagcmfcdklaaGreatMRefA
import Derived.Test.YtnbeagcmfcdklaaGreatRefB
/-! The document's answer for acceptor: in, asks, tells, truth, framed, numbers. -/
namespace Go.Proofs.YtnbeagcmfcdklaaGreat
open Go.RowKit

set_option maxRecDepth 100000 in
set_option maxHeartbeats 1600000 in
theorem ref8_in (n least : Int) (W : World) :
    Calls Tryz.prog 68 #[.int .i64 n, .int .i64 least] W fun e w' => e = .returned (.bool (decide (least ≤ n ∧ n < 281474976710656))) ∧ w' = W := by
  go_enter Tryz.func68, Tryz.ntmps68
  go_wp2_with fail
  all_goals go_ret
  all_goals (refine ⟨ret_boolA (Bool.eq_iff_iff.2 ?_), rfl⟩)
  all_goals (try simp only [beq_iff_eq, beq_eq_false_iff_ne, ne_eq, bne_iff_ne, bne_eq_false_iff_eq] at *)
  all_goals (simp; omega)

set_option maxRecDepth 100000 in
set_option maxHeartbeats 6400000 in
theorem ref8_asks (k key ver bal : Int) (av : Option Addr) (n cv : Nat) (W : World) (hn : n ≤ 9223372036854775807) :
    Calls Tryz.prog 38 #[.agg #[.int .i64 k, .int .i64 key, .int .i64 ver, .int .i64 bal, .slice av n cv]] W fun e w' => e = .returned (.bool (askOk k key ver bal n)) ∧ Below W.heap.size W w' := by
  go_enter Tryz.func38, Tryz.ntmps38
  go_wp2_with fail
  iterate 5 (all_goals (try (refine (ref8_in _ _ _).mono ?_; rintro e Wx ⟨rfl, hw⟩; rw [hw]; clear hw Wx; go_wp2_with fail)))
  all_goals go_ret
  all_goals (refine ⟨ret_boolA (Bool.eq_iff_iff.2 ?_), (Below.refl _ _).alloc (Nat.le_refl _) _⟩)
  all_goals (try simp only [beq_iff_eq, beq_eq_false_iff_ne, ne_eq, bne_iff_ne, bne_eq_false_iff_eq, Bool.not_eq_true', Bool.not_eq_false', decide_eq_true_eq, decide_eq_false_iff_not] at *)
  all_goals (simp [askOk]; omega)

set_option maxRecDepth 100000 in
set_option maxHeartbeats 6400000 in
theorem ref8_tells (er ver pr ba : Int) (le : Bool) (av : Option Addr) (n cv : Nat) (W : World) (hn : n ≤ 9223372036854775807) :
    Calls Tryz.prog 43 #[.agg #[.int .i64 er, .int .i64 ver, .int .i64 pr, .int .i64 ba, .bool le, .slice av n cv]] W fun e w' => e = .returned (.bool (ansOk er ver pr ba n)) ∧ Below W.heap.size W w' := by
  go_enter Tryz.func43, Tryz.ntmps43
  go_wp2_with fail
  iterate 5 (all_goals (try (refine (ref8_in _ _ _).mono ?_; rintro e Wx ⟨rfl, hw⟩; rw [hw]; clear hw Wx; go_wp2_with fail)))
  all_goals go_ret
  all_goals (refine ⟨ret_boolA (Bool.eq_iff_iff.2 ?_), (Below.refl _ _).alloc (Nat.le_refl _) _⟩)
  all_goals (try simp only [beq_iff_eq, beq_eq_false_iff_ne, ne_eq, bne_iff_ne, bne_eq_false_iff_eq, Bool.not_eq_true', Bool.not_eq_false', decide_eq_true_eq, decide_eq_false_iff_not] at *)
  all_goals (simp [ansOk]; omega)

set_option maxHeartbeats 800000 in
theorem ref8_truth (b : Bool) (W : World) : Calls Tryz.prog 44 #[.bool b] W fun e w' => e = .returned (.int .u8 (bit b)) ∧ w' = W := by
  cases b
  · go_enter Tryz.func44, Tryz.ntmps44
    go_wp2_with fail
    go_ret
    exact ⟨rfl, rfl⟩
  · go_enter Tryz.func44, Tryz.ntmps44
    go_wp2_with fail
    go_ret
    exact ⟨rfl, rfl⟩

set_option maxRecDepth 100000 in
set_option maxHeartbeats 1600000 in
theorem ref8_framed (v : Value) (l : List UInt8) (w : World) (hv : Bs w v l) (hl : l.length ≤ 1073741824) (kind least : Nat) (hk : kind ≤ 255) (hle : least ≤ 255) :
    Calls Tryz.prog 48 #[v, .int .i64 (kind : Int), .int .i64 (least : Int)] w (BodyPost w l kind least) := by
  obtain ⟨a0, c0, rfl⟩ := hv.form
  have hun := hid (ref_Unframe _ l w hv hl)
  cases hu : unframe l with
  | none =>
    have hp : ∀ e w', BodyPost w l kind least e w' = (∃ v, e = .returned (.tuple #[v, .bool false]) ∧ Below w.heap.size w w') := fun e w' => by unfold BodyPost bodyF; rw [hu]
    have Hp := hid hp
    have Hu := hid hu
    clear hp hu
    go_enter Tryz.func48, Tryz.ntmps48
    go_wp2_with fail
    refine hun.out.mono ?_
    intro e w1 hpost
    unfold UnfPost at hpost
    rw [Hu.out] at hpost
    obtain ⟨c, hc, rfl, b1⟩ := hpost
    have hcb : (c == 0) = false := beq_eq_false_iff_ne.2 hc
    clear hc hun
    go_wp2_with fail
    go_ret2
    rw [Hp.out]
    exact ⟨_, rfl, b1⟩
  | some y =>
    obtain ⟨k, x, to⟩ := y
    obtain ⟨hto, hxl, hk256⟩ := unframe_lens hu
    have Hu := hid hu
    by_cases hall : k = kind ∧ to = l.length ∧ least ≤ x.length
    · have hp : ∀ e w', BodyPost w l kind least e w' = (∃ v, e = .returned (.tuple #[v, .bool true]) ∧ Own8 w' w.heap.size 5 v x ∧ Below w.heap.size w w') := fun e w' => by unfold BodyPost bodyF; rw [hu]; simp only [if_pos hall]
      have Hp := hid hp
      obtain ⟨h1, h2, h3⟩ := hall
      have e1 : ((k : Int) == (kind : Int)) = true := beq_iff_eq.2 (by omega)
      have e2 : ((to : Int) == (l.length : Int)) = true := beq_iff_eq.2 (by omega)
      have e3 : decide ((x.length : Int) ≥ (least : Int)) = true := decide_eq_true (by omega)
      clear hp hu h1 h2
      go_enter Tryz.func48, Tryz.ntmps48
      go_wp2_with fail
      refine hun.out.mono ?_
      intro e w1 hpost
      unfold UnfPost at hpost
      rw [Hu.out] at hpost
      obtain ⟨v1, rfl, o1, b1⟩ := hpost
      obtain ⟨a1, c1, rfl⟩ := o1.form
      have HO := hid o1
      clear hun o1
      go_wp2_with fail
      go_ret2
      rw [Hp.out]
      exact ⟨_, rfl, HO.out, b1⟩
    · have hp : ∀ e w', BodyPost w l kind least e w' = (∃ v, e = .returned (.tuple #[v, .bool false]) ∧ Below w.heap.size w w') := fun e w' => by unfold BodyPost bodyF; rw [hu]; simp only [if_neg hall]
      have Hp := hid hp
      have hne : ((k : Int) == (kind : Int)) = false ∨ (((k : Int) == (kind : Int)) = true ∧ ((to : Int) == (l.length : Int)) = false) ∨ (((k : Int) == (kind : Int)) = true ∧ ((to : Int) == (l.length : Int)) = true ∧ decide (least ≤ x.length) = false) := by
        by_cases h1 : k = kind
        · by_cases h2 : to = l.length
          · exact .inr (.inr ⟨beq_iff_eq.2 (by omega), beq_iff_eq.2 (by omega), decide_eq_false (fun h3 => hall ⟨h1, h2, h3⟩)⟩)
          · exact .inr (.inl ⟨beq_iff_eq.2 (by omega), beq_eq_false_iff_ne.2 (by omega)⟩)
        · exact .inl (beq_eq_false_iff_ne.2 (by omega))
      clear hp hu hall
      rcases hne with e1 | ⟨e1, e2⟩ | ⟨e1, e2, e3⟩
      all_goals
        go_enter Tryz.func48, Tryz.ntmps48
        go_wp2_with fail
        refine hun.out.mono ?_
        intro e w1 hpost
        unfold UnfPost at hpost
        rw [Hu.out] at hpost
        obtain ⟨v1, rfl, o1, b1⟩ := hpost
        obtain ⟨a1, c1, rfl⟩ := o1.form
        clear hun o1
        go_wp2_with fail
        go_ret2
        rw [Hp.out]
        exact ⟨_, rfl, b1⟩



set_option maxRecDepth 100000 in
set_option maxHeartbeats 1600000 in
theorem ref8_numbers (v : Value) (l : List UInt8) (at_ : Nat) (w : World) (hv : Bs w v l) (hle : at_ + 18 ≤ l.length) (hl : l.length ≤ 1073741824) :
    Calls Tryz.prog 49 #[v, .int .i64 (at_ : Int)] w fun e w' => e = .returned (.tuple #[.int .i64 ((numOf ((l.drop at_).take 6) : Nat) : Int), .int .i64 ((numOf ((l.drop (at_ + 6)).take 6) : Nat) : Int), .int .i64 ((numOf ((l.drop (at_ + 12)).take 6) : Nat) : Int)]) ∧ Below w.heap.size w w' := by
  have G0 := hid (ref_Get v l at_ 6 w hv (by omega) (by omega) (by omega))
  have HV := hid hv
  have e1 : IntKind.i64.wrap ((at_ : Int) + 6) = ((at_ + 6 : Nat) : Int) := by rw [IntKind.wrap_i64]; omega
  have e2 : IntKind.i64.wrap ((at_ : Int) + 12) = ((at_ + 12 : Nat) : Int) := by rw [IntKind.wrap_i64]; omega
  clear hv
  go_enter Tryz.func49, Tryz.ntmps49
  go_wp2_with fail
  refine G0.out.mono ?_
  rintro e w1 ⟨rfl, h1⟩
  have b1 : Below w.heap.size w w1 := by rw [h1]; exact Below.refl _ _
  clear h1
  go_wp2_with fail
  rw [show (at_ : Int) + 6 = ((at_ + 6 : Nat) : Int) from by omega]
  refine (ref_Get v l (at_ + 6) 6 w1 (HV.out.keep b1) (by omega) (by omega) (by omega)).mono ?_
  rintro e w2 ⟨rfl, h2⟩
  have b2 : Below w1.heap.size w1 w2 := by rw [h2]; exact Below.refl _ _
  clear h2
  go_wp2_with fail
  rw [show (at_ : Int) + 12 = ((at_ + 12 : Nat) : Int) from by omega]
  refine (ref_Get v l (at_ + 12) 6 w2 ((HV.out.keep b1).keep b2) (by omega) (by omega) (by omega)).mono ?_
  rintro e w3 ⟨rfl, h3⟩
  have b3 : Below w2.heap.size w2 w3 := by rw [h3]; exact Below.refl _ _
  clear h3
  go_wp2_with fail
  go_ret3
  exact ⟨rfl, (b1.trans (b2.mono b1.size)).trans (b3.mono (Nat.le_trans b1.size b2.size))⟩
end Go.Proofs.YtnbeagcmfcdklaaGreat

/-! The document's answer for acceptor: three. -/
namespace Go.Proofs.YtnbeagcmfcdklaaGreat
open Go.RowKit

set_option maxRecDepth 100000 in
set_option maxHeartbeats 3200000 in
theorem ref8_three (p q r : Int) (W : World) (hp : 0 ≤ p) (hq : 0 ≤ q) (hr : 0 ≤ r) :
    Calls Tryz.prog 39 #[.int .i64 p, .int .i64 q, .int .i64 r] W fun e w' => ∃ v, e = .returned v ∧ Own8 w' W.heap.size 5 v (threeB p q r) ∧ Below W.heap.size W w' := by
  obtain ⟨i0, hi, hz0, hz1, hz2⟩ := info_parts info_u8
  go_enter Tryz.func39, Tryz.ntmps39
  go_wp2_with fail
  refine (ref_Bytes p 6 W hp (by omega)).mono ?_
  rintro e W1 ⟨v1, rfl, o1, b1⟩
  have H1 := hid (And.intro o1 b1)
  clear o1 b1
  go_wp2_with fail
  refine (ref_Bytes q 6 W1 hq (by omega)).mono ?_
  rintro e W2 ⟨v2, rfl, o2, b2⟩
  have o1 := H1.out.1.keep b2
  have hb2 := H1.out.2.trans (b2.mono H1.out.2.size)
  have s2 := o2.bs
  have hlp := lowB_length p 6
  have hlq := lowB_length q 6
  clear o2 b2 H1
  go_wp2_with (at_builtin; refine wpList_append8 Tryz.underlying22 hi hz0 hz1 hz2 rfl _ _ rfl W.heap.size rfl rfl o1 s2 (by omega) hb2.size ?_; intro v3 W3 o3 hg _)
  have hb3 := hb2.grown hg hb2.size (fun k hk => (o1.blk k hk).1)
  have H3 := hid (And.intro o3 hb3)
  clear o1 s2 hg hb2 o3 hb3
  refine (ref_Bytes r 6 W3 hr (by omega)).mono ?_
  rintro e W4 ⟨v4, rfl, o4, b4⟩
  have o3 := H3.out.1.keep b4
  have hb4 := H3.out.2.trans (b4.mono H3.out.2.size)
  have s4 := o4.bs
  have hlr := lowB_length r 6
  clear o4 b4 H3
  go_wp2_with (at_builtin; refine wpList_append8 Tryz.underlying22 hi hz0 hz1 hz2 rfl _ _ rfl W.heap.size rfl rfl o3 s4 (by simp; omega) hb4.size ?_; intro v5 W5 o5 hg _)
  go_ret
  have e5 : (lowB p 6 ++ lowB q 6) ++ lowB r 6 = threeB p q r := by simp [threeB]
  rw [e5] at o5
  exact ⟨_, rfl, o5, hb4.grown hg hb4.size (fun k hk => (o3.blk k hk).1)⟩
end Go.Proofs.YtnbeagcmfcdklaaGreat
