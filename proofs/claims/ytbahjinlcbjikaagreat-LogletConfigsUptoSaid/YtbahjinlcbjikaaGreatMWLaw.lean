import Derived.Test.YtbahjinlcbjikaaGreatNet
import Derived.Test.YtbahjinlcbjikaaGreatMLgP
/-! Package net, on: Luck, Send of what is not late. -/
namespace Go.Proofs.YtbahjinlcbjikaaGreat
open Go.RowKit

section
variable {W : World} {N : Nat} {lv tv : Value}
theorem OwnI.form {w : World} {base : Nat} {t : TypeId} {v : Value} {l : List Int} (h : OwnI w base t v l) : (v = .slice none 0 0 ∧ l = []) ∨ ∃ g c, v = .slice (some ⟨g, 0, none⟩) l.length c := by
  rcases h.2 with ⟨e, h0⟩ | ⟨g, cap, cur, e, _⟩
  · exact .inl ⟨e, List.eq_nil_of_length_eq_zero h0⟩
  · exact .inr ⟨g, cap, e⟩

set_option maxRecDepth 100000 in
set_option maxHeartbeats 1600000 in
theorem row_put (lv : Value) (l m : List Int) (v : Value) (h : Blk W N #[lv, tv, .bool true] 64) (ho : OwnI W 0 3 lv l) (hne : lv.ownBlock ≠ some N) (hv : Is W v m) (hl : (l.length + m.length) * 8 ≤ 140737488355328) :
    Calls Tryz.prog 52 #[.pointer (some ⟨N, 0, none⟩), v] W fun e w' => (∃ x, e = .returned x) ∧ ∃ lv', Blk w' N #[lv', tv, .bool true] 64 ∧ OwnI w' 0 3 lv' (l ++ m) ∧ (∀ k, lv'.ownBlock = some k → lv.ownBlock = some k ∨ W.heap.size ≤ k) ∧ Ext (fun b => b = N ∨ lv.ownBlock = some b) W w' := by
  obtain ⟨i0, hi, hz0, hz1, hz2⟩ := info_parts info_int
  obtain ⟨lv', w1, hr, h1, h2, h3⟩ := run_appendI (P := Tryz.prog) Tryz.underlying22 hi hz0 hz1 hz2 22 ho hv hl (Nat.zero_le _)
  have c0 := h.cell (o := 0) rfl
  have hx : Ext (fun b => b = N ∨ lv.ownBlock = some b) W w1 := (Ext.refl _ W).grown h2 (fun k e => .inl (.inr e))
  have k1 : Blk w1 N #[lv, tv, .bool true] 64 := h.ext ((Ext.refl (fun b => lv.ownBlock = some b) W).grown h2 (fun k e => .inl e)) hne
  have hN1 : lv'.ownBlock ≠ some N := fun e => (h3 N e).elim hne (fun e => by have := h.lt; omega)
  have c1 := k1.cell (o := 0) rfl
  have f1 := k1.free 0
  have HF := hid (And.intro (k1.set (o := 0) lv') (And.intro ((OwnI.ext h1 ((Ext.refl (fun b => b = N) w1).setCell (a := ⟨N, 0, none⟩) (.inl rfl) lv') (fun k hk e => by subst e; exact hN1 hk)) : OwnI (w1.setCell ⟨N, 0, none⟩ lv') 0 3 lv' (l ++ m)) (And.intro h3 (hx.setCell (a := ⟨N, 0, none⟩) (.inl (.inl rfl)) lv'))))
  obtain ⟨va, vc, hvf⟩ : ∃ a c, v = .slice a m.length c := by obtain ⟨a, c, e, _⟩ := hv; exact ⟨a, c, e⟩
  have hl1 : ∃ a n c, lv = .slice a n c := by
    rcases ho.form with ⟨e, _⟩ | ⟨g, c, e⟩
    · exact ⟨_, _, _, e⟩
    · exact ⟨_, _, _, e⟩
  have hl2 : ∃ a n c, lv' = .slice a n c := by
    rcases h1.form with ⟨e, _⟩ | ⟨g, c, e⟩
    · exact ⟨_, _, _, e⟩
    · exact ⟨_, _, _, e⟩
  obtain ⟨a1, n1, q1, rfl⟩ := hl1
  obtain ⟨a2, n2, q2, rfl⟩ := hl2
  subst hvf
  clear hx k1 hN1 hv ho h h1 h2 h3 hi hz0 hz1 hz2 hne hl
  go_enter Tryz.func52, Tryz.ntmps52
  go_wp2_with (at_builtin; refine wpList_val rfl (exec_append rfl hr) ?_)
  go_end0
  refine ⟨⟨_, rfl⟩, _, ?_, HF.out.2.1, HF.out.2.2.1, HF.out.2.2.2⟩
  simpa using HF.out.1

set_option maxRecDepth 100000 in
set_option maxHeartbeats 1600000 in
theorem net_Luck (l m : List Int) (v : Value) (h : Blk W N #[lv, tv, .bool true] 64) (ho : OwnI W 0 3 lv l) (hne : lv.ownBlock ≠ some N) (hv : Is W v m) (hl : (l.length + m.length) * 8 ≤ 140737488355328) :
    Calls Tryz.prog 27 #[.pointer (some ⟨N, 0, none⟩), v] W fun e w' => (∃ x, e = .returned x) ∧ ∃ lv', Blk w' N #[lv', tv, .bool true] 64 ∧ OwnI w' 0 3 lv' (l ++ m) ∧ (∀ k, lv'.ownBlock = some k → lv.ownBlock = some k ∨ W.heap.size ≤ k) ∧ Ext (fun b => b = N ∨ lv.ownBlock = some b) W w' := by
  obtain ⟨va, vc, hvf⟩ : ∃ a c, v = .slice a m.length c := by obtain ⟨a, c, e, _⟩ := hv; exact ⟨a, c, e⟩
  have HP := hid (row_put lv l m v h ho hne hv hl)
  subst hvf
  have HN := hid (net_none h)
  clear h ho hne hv hl
  go_enter Tryz.func27, Tryz.ntmps27
  go_wp2_with fail
  refine HN.out.mono ?_
  rintro e Wx ⟨rfl, hw⟩
  rw [hw]
  clear hw Wx
  go_wp2_with fail
  refine HP.out.mono ?_
  rintro e w' ⟨⟨x, rfl⟩, hp⟩
  have HH := hid hp
  clear hp
  go_wp2_with fail
  go_end0
  exact ⟨⟨_, rfl⟩, HH.out⟩

/-- The first of what waits; 0 where nothing does. -/
def firstI (l : List Int) : Int := match l with
  | [] => 0
  | x :: _ => x
set_option maxRecDepth 100000 in
set_option maxHeartbeats 1600000 in
theorem row_take (lv : Value) (l : List Int) (h : Blk W N #[lv, tv, .bool true] 64) (ho : OwnI W 0 3 lv l) (hne : lv.ownBlock ≠ some N) :
    Calls Tryz.prog 75 #[.pointer (some ⟨N, 0, none⟩), .int .i64 0] W fun e w' => (∃ b, e = .returned (.tuple #[.int .i64 (firstI l), .bool b])) ∧ ∃ lv', Blk w' N #[lv', tv, .bool true] 64 ∧ OwnI w' 0 3 lv' l.tail ∧ lv'.ownBlock = lv.ownBlock ∧ Ext (fun b => b = N ∨ lv.ownBlock = some b) W w' := by
  have c0 := h.cell (o := 0) rfl
  cases l with
  | nil =>
    obtain ⟨a1, q1, rfl⟩ : ∃ a q, lv = .slice a 0 q := by
      rcases ho.form with ⟨e, _⟩ | ⟨g, c, e⟩
      · exact ⟨_, _, e⟩
      · exact ⟨_, _, e⟩
    have HH := hid (And.intro h ho)
    clear h ho hne
    go_enter Tryz.func75, Tryz.ntmps75
    go_wp2_with fail
    go_ret2
    exact ⟨⟨_, rfl⟩, _, HH.out.1, HH.out.2, rfl, Ext.refl _ _⟩
  | cons z l =>
    obtain ⟨g, cap, rfl⟩ : ∃ g c, lv = .slice (some ⟨g, 0, none⟩) (l.length + 1) c := by
      rcases ho.form with ⟨_, e⟩ | ⟨g, c, e⟩
      · cases e
      · exact ⟨g, c, e⟩
    have hcz := ho.cell (i := 0) (z := z) rfl
    have HD := hid (delete_int 0 g l.length cap z l ho rfl (Nat.zero_le _))
    have hgN : N ≠ g := fun e => hne (by rw [e]; rfl)
    have HH := hid h
    have hlt : (0 : Int) < (l.length : Int) + 1 := by omega
    clear h ho hne
    go_enter Tryz.func75, Tryz.ntmps75
    go_wp2_with fail
    refine HD.out.mono ?_
    rintro e w2 ⟨rfl, o2, x2⟩
    have k2 := HH.out.ext x2 hgN
    have c2 := k2.cell (o := 0) rfl
    have f2 := k2.free 0
    have HF := hid (And.intro (k2.set (o := 0) (.slice (some ⟨g, 0, none⟩) l.length cap)) (And.intro ((OwnI.ext o2 ((Ext.refl (fun b => b = N) w2).setCell (a := ⟨N, 0, none⟩) (.inl rfl) (.slice (some ⟨g, 0, none⟩) l.length cap)) (fun k hk e => by subst e; cases hk; exact hgN rfl)) : OwnI (w2.setCell ⟨N, 0, none⟩ (.slice (some ⟨g, 0, none⟩) l.length cap)) 0 3 (.slice (some ⟨g, 0, none⟩) l.length cap) l) ((x2.mono (fun b _ e => .inr (by rw [e]; rfl)) : Ext (fun b => b = N ∨ (Value.slice (some ⟨g, 0, none⟩) (l.length + 1) cap).ownBlock = some b) W w2).setCell (a := ⟨N, 0, none⟩) (.inl (.inl rfl)) (.slice (some ⟨g, 0, none⟩) l.length cap))))
    clear HD k2 o2 x2 hcz
    go_wp2_with fail
    go_ret2
    exact ⟨⟨_, rfl⟩, _, by simpa using HF.out.1, HF.out.2.1, rfl, HF.out.2.2⟩
end
end Go.Proofs.YtbahjinlcbjikaaGreat

/-! Package net, on: Send of what is not late. -/
namespace Go.Proofs.YtbahjinlcbjikaaGreat
open Go.RowKit

theorem fate_first (s : LkS) : s.fate = mod5 (firstI s.luck) := by
  unfold LkS.fate firstI
  cases s.luck with
  | nil => rfl
  | cons x l => rfl
theorem mod5_nums (x : Int) : ∃ c, mod5 x = c ∧ (c = 0 ∨ c = 1 ∨ c = 2 ∨ c = 3 ∨ c = 4) ∧ wrap64 (x.tmod 5 + 5) = x.tmod 5 + 5 ∧ (x.tmod 5 + 5).tmod 5 = c := by
  have h1 := Int.lt_tmod_of_pos x (show (0 : Int) < 5 by omega)
  have h2 := Int.tmod_lt_of_pos x (show (0 : Int) < 5 by omega)
  have hb := mod5_bound x
  refine ⟨_, rfl, by omega, ?_, rfl⟩
  generalize x.tmod 5 = t at *
  unfold wrap64
  omega
theorem fate_eq (w : World) : (binOp .neq 144 (.agg #[.int .i64 0, .bool false]) (.agg #[.int .i64 0, .bool false])).run Tryz.prog w = .ok (.bool false) w := by kernel_rfl
theorem fate_1 (w : World) : (binOp .neq 144 (.agg #[.int .i64 1, .bool true]) (.agg #[.int .i64 0, .bool false])).run Tryz.prog w = .ok (.bool true) w := by kernel_rfl
theorem fate_2 (w : World) : (binOp .neq 144 (.agg #[.int .i64 1, .bool false]) (.agg #[.int .i64 0, .bool false])).run Tryz.prog w = .ok (.bool true) w := by kernel_rfl
theorem fate_3 (w : World) : (binOp .neq 144 (.agg #[.int .i64 2, .bool true]) (.agg #[.int .i64 0, .bool false])).run Tryz.prog w = .ok (.bool true) w := by kernel_rfl

section
variable {W : World} {N : Nat} {lv tv : Value}
theorem send_end {w w2 : World} {lv' : Value} {l : List Int} (h1 : Blk w N #[lv', tv, .bool true] 64) (h2 : OwnI w 0 3 lv' l) (h3 : lv'.ownBlock = lv.ownBlock) (h4 : Ext (fun b => b = N ∨ lv.ownBlock = some b) W w) (hb : Below w.heap.size w w2) :
    Blk w2 N #[lv', tv, .bool true] 64 ∧ OwnI w2 0 3 lv' l ∧ lv'.ownBlock = lv.ownBlock ∧ Ext (fun b => b = N ∨ lv.ownBlock = some b) W w2 :=
  ⟨h1.keep hb, OwnI.ext (fp := nofp) h2 (Ext.ofBelow hb) (fun _ _ h => h), h3, h4.then hb⟩
set_option maxRecDepth 100000 in
set_option maxHeartbeats 6400000 in
theorem net_Send (l : List Int) (to : Int) (ab : Option Addr) (nb cb : Nat) (h : Blk W N #[lv, tv, .bool true] 64) (ho : OwnI W 0 3 lv l) (hne : lv.ownBlock ≠ some N) (hf : mod5 (firstI l) ≠ 3) :
    Calls Tryz.prog 46 #[.pointer (some ⟨N, 0, none⟩), .int .i64 to, .slice ab nb cb] W fun e w' => e = .returned (.tuple #[.int .i64 (timesF (mod5 (firstI l)) : Int), .bool (replyF (mod5 (firstI l)))]) ∧ ∃ lv', Blk w' N #[lv', tv, .bool true] 64 ∧ OwnI w' 0 3 lv' l.tail ∧ lv'.ownBlock = lv.ownBlock ∧ Ext (fun b => b = N ∨ lv.ownBlock = some b) W w' := by
  have HP := hid (row_take lv l h ho hne)
  have HN := hid (net_none h)
  obtain ⟨c, hc, hcs, hw, hm⟩ := mod5_nums (firstI l)
  rw [hc] at hf ⊢
  generalize firstI l = z at *
  have q0 := fate_eq
  have q1 := fate_1
  have q2 := fate_2
  have q3 := fate_3
  clear h ho hne hc
  rcases hcs with rfl | rfl | rfl | rfl | rfl
  case inr.inr.inr.inl => exact absurd rfl hf
  all_goals
    clear hf
    go_enter Tryz.func46, Tryz.ntmps46
    go_wp2_with fail
    refine HN.out.mono ?_
    rintro e Wx ⟨rfl, hw9⟩
    rw [hw9]
    clear hw9 Wx
    go_wp2_with fail
    refine HP.out.mono ?_
    rintro e w' ⟨⟨x, rfl⟩, hp⟩
    have HH := hid hp
    clear hp
    go_wp2_with fail
    try (go_quiet (fail); go_wp2_with fail)
    go_ret2
    obtain ⟨lv', h1, h2, h3, h4⟩ := HH.out
    refine ⟨rfl, lv', ?_⟩
    first
      | exact send_end h1 h2 h3 h4 (((Below.refl _ _).alloc (Nat.le_refl _) _).alloc (by simp) _)
      | exact send_end h1 h2 h3 h4 (below_drewN (((Below.refl _ _).alloc (Nat.le_refl _) _).alloc (by simp) _) _)
end
end Go.Proofs.YtbahjinlcbjikaaGreat

/-! Plain laws: numbers and frames, there and back. -/
namespace Go.Proofs.YtbahjinlcbjikaaGreat
open Go.RowKit

theorem getRep_put (e tl : Nat) (sl : Bool) (l : List UInt8) (h : tellsB e tl l.length = true) : getRep (putRepB e tl sl l) = some (e, tl, sl, l) := by
  have h0 := of_decide_eq_true h
  have hb : bodyF (frameB 2 (repB e tl (if sl then 1 else 0) l)) 2 4 = some (repB e tl (if sl then 1 else 0) l) := bodyF_frame 2 4 _ (by omega) (by simp [repB, lowB_length]; omega) (by simp [repB, lowB_length]; omega)
  unfold putRepB
  rw [if_pos h]
  unfold getRep
  rw [hb]
  have e1 : (repB e tl (if sl then 1 else 0) l).take 1 = lowB (e : Int) 1 := rfl
  have e2 : ((repB e tl (if sl then 1 else 0) l).drop 1).take 2 = lowB (tl : Int) 2 := rfl
  have e3 : ((repB e tl (if sl then 1 else 0) l).drop 3).take 1 = lowB ((if sl then 1 else 0 : Nat) : Int) 1 := by cases sl <;> rfl
  have e4 : (repB e tl (if sl then 1 else 0) l).drop 4 = l := rfl
  simp only [e1, e2, e3, e4]
  rw [numOf_low' (n := e) (by omega), numOf_low' (n := tl) (by omega), numOf_low' (n := if sl then 1 else 0) (by cases sl <;> simp)]
  rw [if_pos ⟨by cases sl <;> simp, h⟩]
  cases sl <;> rfl
theorem getReq_put (k lo po : Nat) (l : List UInt8) (h : rightB k lo po l.length = true) : getReq (frameB 1 (reqB k lo po l)) = some (k, lo, po, l) := by
  have h0 := of_decide_eq_true h
  have hb : bodyF (frameB 1 (reqB k lo po l)) 1 9 = some (reqB k lo po l) := bodyF_frame 1 9 _ (by omega) (by simp [reqB, lowB_length]; omega) (by simp [reqB, lowB_length]; omega)
  unfold getReq
  rw [hb]
  have e1 : (reqB k lo po l).take 1 = lowB (k : Int) 1 := rfl
  have e2 : ((reqB k lo po l).drop 1).take 6 = lowB (lo : Int) 6 := rfl
  have e3 : ((reqB k lo po l).drop 7).take 2 = lowB (po : Int) 2 := rfl
  have e4 : (reqB k lo po l).drop 9 = l := rfl
  simp only [e1, e2, e3, e4]
  rw [numOf_low' (by omega), numOf_low' (by omega), numOf_low' (by omega)]
  rw [if_pos h]
end Go.Proofs.YtbahjinlcbjikaaGreat
