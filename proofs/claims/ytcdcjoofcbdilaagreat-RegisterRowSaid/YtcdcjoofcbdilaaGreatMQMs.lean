import Derived.Test.YtcdcjoofcbdilaaGreatMQNet
import Derived.Maps.AppendAt
/-! Package net, on: Luck, Send of what is not late. -/
namespace Go.Proofs.YtcdcjoofcbdilaaGreat
open Go.RowKit

section
variable {W : World} {N : Nat} {lv tv : Value}
theorem OwnI.form {w : World} {base : Nat} {t : TypeId} {v : Value} {l : List Int} (h : OwnI w base t v l) : (v = .slice none 0 0 ∧ l = []) ∨ ∃ g c, v = .slice (some ⟨g, 0, none⟩) l.length c := by
  rcases h.2 with ⟨e, h0⟩ | ⟨g, cap, cur, e, _⟩
  · exact .inl ⟨e, List.eq_nil_of_length_eq_zero h0⟩
  · exact .inr ⟨g, cap, e⟩

set_option maxRecDepth 100000 in
set_option maxHeartbeats 1600000 in
theorem row_put (lv : Value) (l m : List Int) (v : Value) (h : Blk W N #[lv, tv, .bool true] 56) (ho : OwnI W 0 3 lv l) (hne : lv.ownBlock ≠ some N) (hv : Is W v m) (hl : (l.length + m.length) * 8 ≤ 140737488355328) :
    Calls Tryz.prog 70 #[.pointer (some ⟨N, 0, none⟩), v] W fun e w' => (∃ x, e = .returned x) ∧ ∃ lv', Blk w' N #[lv', tv, .bool true] 56 ∧ OwnI w' 0 3 lv' (l ++ m) ∧ (∀ k, lv'.ownBlock = some k → lv.ownBlock = some k ∨ W.heap.size ≤ k) ∧ Ext (fun b => b = N ∨ lv.ownBlock = some b) W w' := by
  obtain ⟨i0, hi, hz0, hz1, hz2⟩ := info_parts info_int
  obtain ⟨lv', w1, hr, h1, h2, h3⟩ := run_appendI (P := Tryz.prog) Tryz.underlying34 hi hz0 hz1 hz2 34 ho hv hl (Nat.zero_le _)
  have c0 := h.cell (o := 0) rfl
  have hx : Ext (fun b => b = N ∨ lv.ownBlock = some b) W w1 := (Ext.refl _ W).grown h2 (fun k e => .inl (.inr e))
  have k1 : Blk w1 N #[lv, tv, .bool true] 56 := h.ext ((Ext.refl (fun b => lv.ownBlock = some b) W).grown h2 (fun k e => .inl e)) hne
  have hN1 : lv'.ownBlock ≠ some N := fun e => (h3 N e).elim hne (fun e => by have := h.lt; omega)
  have c1 := k1.cell (o := 0) rfl
  have f1 := k1.free 0
  have HF := hid (And.intro (k1.set (o := 0) lv') (And.intro ((OwnI.ext h1 ((Ext.refl (fun b => b = N) w1).setCell (a := ⟨N, 0, none⟩) (.inl rfl) lv') (fun k hk e => by subst e; exact hN1 hk)) : OwnI (w1.setCell ⟨N, 0, none⟩ lv') 0 3 lv' (l ++ m)) (And.intro h3 (hx.setCell (a := ⟨N, 0, none⟩) (.inl (.inl rfl)) lv'))))
  obtain ⟨va, vc, hvf⟩ : ∃ a c, v = .slice a m.length c := by obtain ⟨a, c, e, _⟩ := hv; exact ⟨a, c, e⟩
  have hl1 : ∃ a n c, lv = .slice a n c := by
    rcases ho.form with ⟨e, _⟩ | ⟨g, c, e⟩
    · exact ⟨_, _, _, e⟩
    · exact ⟨_, _, _, e⟩
  have hl2 : ∃ a n c, lv' = .slice a n c := by
    rcases h1.form with ⟨e, _⟩ | ⟨g, c, e⟩
    · exact ⟨_, _, _, e⟩
    · exact ⟨_, _, _, e⟩
  obtain ⟨a1, n1, q1, rfl⟩ := hl1
  obtain ⟨a2, n2, q2, rfl⟩ := hl2
  subst hvf
  clear hx k1 hN1 hv ho h h1 h2 h3 hi hz0 hz1 hz2 hne hl
  go_enter Tryz.func70, Tryz.ntmps70
  go_wp2_with (at_builtin; refine wpList_val rfl (exec_append rfl hr) ?_)
  go_end0
  refine ⟨⟨_, rfl⟩, _, ?_, HF.out.2.1, HF.out.2.2.1, HF.out.2.2.2⟩
  simpa using HF.out.1

set_option maxRecDepth 100000 in
set_option maxHeartbeats 1600000 in
theorem net_Luck (l m : List Int) (v : Value) (h : Blk W N #[lv, tv, .bool true] 56) (ho : OwnI W 0 3 lv l) (hne : lv.ownBlock ≠ some N) (hv : Is W v m) (hl : (l.length + m.length) * 8 ≤ 140737488355328) :
    Calls Tryz.prog 36 #[.pointer (some ⟨N, 0, none⟩), v] W fun e w' => (∃ x, e = .returned x) ∧ ∃ lv', Blk w' N #[lv', tv, .bool true] 56 ∧ OwnI w' 0 3 lv' (l ++ m) ∧ (∀ k, lv'.ownBlock = some k → lv.ownBlock = some k ∨ W.heap.size ≤ k) ∧ Ext (fun b => b = N ∨ lv.ownBlock = some b) W w' := by
  obtain ⟨va, vc, hvf⟩ : ∃ a c, v = .slice a m.length c := by obtain ⟨a, c, e, _⟩ := hv; exact ⟨a, c, e⟩
  have HP := hid (row_put lv l m v h ho hne hv hl)
  subst hvf
  have HN := hid (net_none h)
  clear h ho hne hv hl
  go_enter Tryz.func36, Tryz.ntmps36
  go_wp2_with fail
  refine HN.out.mono ?_
  rintro e Wx ⟨rfl, hw⟩
  rw [hw]
  clear hw Wx
  go_wp2_with fail
  refine HP.out.mono ?_
  rintro e w' ⟨⟨x, rfl⟩, hp⟩
  have HH := hid hp
  clear hp
  go_wp2_with fail
  go_end0
  exact ⟨⟨_, rfl⟩, HH.out⟩

set_option maxRecDepth 100000 in
set_option maxHeartbeats 1600000 in
theorem row_take (lv : Value) (l : List Int) (h : Blk W N #[lv, tv, .bool true] 56) (ho : OwnI W 0 3 lv l) (hne : lv.ownBlock ≠ some N) :
    Calls Tryz.prog 60 #[.pointer (some ⟨N, 0, none⟩), .int .i64 0] W fun e w' => (∃ b, e = .returned (.tuple #[.int .i64 (firstI l), .bool b])) ∧ ∃ lv', Blk w' N #[lv', tv, .bool true] 56 ∧ OwnI w' 0 3 lv' l.tail ∧ lv'.ownBlock = lv.ownBlock ∧ Ext (fun b => b = N ∨ lv.ownBlock = some b) W w' := by
  have c0 := h.cell (o := 0) rfl
  cases l with
  | nil =>
    obtain ⟨a1, q1, rfl⟩ : ∃ a q, lv = .slice a 0 q := by
      rcases ho.form with ⟨e, _⟩ | ⟨g, c, e⟩
      · exact ⟨_, _, e⟩
      · exact ⟨_, _, e⟩
    have HH := hid (And.intro h ho)
    clear h ho hne
    go_enter Tryz.func60, Tryz.ntmps60
    go_wp2_with fail
    go_ret2
    exact ⟨⟨_, rfl⟩, _, HH.out.1, HH.out.2, rfl, Ext.refl _ _⟩
  | cons z l =>
    obtain ⟨g, cap, rfl⟩ : ∃ g c, lv = .slice (some ⟨g, 0, none⟩) (l.length + 1) c := by
      rcases ho.form with ⟨_, e⟩ | ⟨g, c, e⟩
      · cases e
      · exact ⟨g, c, e⟩
    have hcz := ho.cell (i := 0) (z := z) rfl
    have HD := hid (delete_int 0 g l.length cap z l ho rfl (Nat.zero_le _))
    have hgN : N ≠ g := fun e => hne (by rw [e]; rfl)
    have HH := hid h
    have hlt : (0 : Int) < (l.length : Int) + 1 := by omega
    clear h ho hne
    go_enter Tryz.func60, Tryz.ntmps60
    go_wp2_with fail
    refine HD.out.mono ?_
    rintro e w2 ⟨rfl, o2, x2⟩
    have k2 := HH.out.ext x2 hgN
    have c2 := k2.cell (o := 0) rfl
    have f2 := k2.free 0
    have HF := hid (And.intro (k2.set (o := 0) (.slice (some ⟨g, 0, none⟩) l.length cap)) (And.intro ((OwnI.ext o2 ((Ext.refl (fun b => b = N) w2).setCell (a := ⟨N, 0, none⟩) (.inl rfl) (.slice (some ⟨g, 0, none⟩) l.length cap)) (fun k hk e => by subst e; cases hk; exact hgN rfl)) : OwnI (w2.setCell ⟨N, 0, none⟩ (.slice (some ⟨g, 0, none⟩) l.length cap)) 0 3 (.slice (some ⟨g, 0, none⟩) l.length cap) l) ((x2.mono (fun b _ e => .inr (by rw [e]; rfl)) : Ext (fun b => b = N ∨ (Value.slice (some ⟨g, 0, none⟩) (l.length + 1) cap).ownBlock = some b) W w2).setCell (a := ⟨N, 0, none⟩) (.inl (.inl rfl)) (.slice (some ⟨g, 0, none⟩) l.length cap))))
    clear HD k2 o2 x2 hcz
    go_wp2_with fail
    go_ret2
    exact ⟨⟨_, rfl⟩, _, by simpa using HF.out.1, HF.out.2.1, rfl, HF.out.2.2⟩
end
end Go.Proofs.YtcdcjoofcbdilaaGreat

/-! Package net: rows of messages. -/
namespace Go.Proofs.YtcdcjoofcbdilaaGreat
open Go.RowKit

/-- A message's cells, one behind the other. -/
def mcells (rs : List (Int × Value)) : List Value := rs.flatMap (fun r => [iv r.1, r.2])
theorem mcells_nil : mcells [] = [] := rfl
theorem mcells_cons (r : Int × Value) (rs : List (Int × Value)) : mcells (r :: rs) = iv r.1 :: r.2 :: mcells rs := rfl
theorem mcells_append (a b : List (Int × Value)) : mcells (a ++ b) = mcells a ++ mcells b := by simp [mcells]
theorem mcells_length : ∀ (rs : List (Int × Value)), (mcells rs).length = rs.length * 2
  | [] => rfl
  | r :: rs => by simp only [mcells_cons, List.length_cons, mcells_length rs]; omega
theorem mcells_at : ∀ {rs : List (Int × Value)} {i : Nat} {r : Int × Value}, rs[i]? = some r → (mcells rs)[i * 2]? = some (iv r.1) ∧ (mcells rs)[i * 2 + 1]? = some r.2
  | [], i, r, h => by simp at h
  | q :: rs, 0, r, h => by
    simp at h
    subst h
    exact ⟨rfl, rfl⟩
  | q :: rs, i + 1, r, h => by
    have h2 := mcells_at (rs := rs) (i := i) (r := r) (by simpa using h)
    have e1 : (i + 1) * 2 = i * 2 + 2 := by omega
    rw [mcells_cons, e1]
    exact h2
abbrev OwnM (w : World) (base : Nat) (v : Value) (rs : List (Int × Value)) : Prop := w.ownsRow base 130 2 v rs.length (mcells rs)
/-- Each message's bytes are a slice. -/
def Slicy (rs : List (Int × Value)) : Prop := ∀ r ∈ rs, ∃ a n c, r.2 = .slice a n c
theorem Slicy.one {rs : List (Int × Value)} (h : Slicy rs) : ∀ u ∈ mcells rs, u.oneCell' = true := fun u hu => by
  simp only [mcells, List.mem_flatMap] at hu
  obtain ⟨r, hr, hu⟩ := hu
  obtain ⟨a, n, c, e⟩ := h r hr
  simp only [List.mem_cons, List.not_mem_nil, or_false] at hu
  rcases hu with rfl | rfl
  · rfl
  · rw [e]; rfl
theorem info_msg : ((Tryz.prog.info? 130).map (fun i => (i.zero, i.size, i.bytes))) = some (some (.agg #[.int .i64 0, .slice none 0 0]), 2, 32) := by kernel_rfl
theorem info_parts2 {P : Program} {T : TypeId} {z : Value} {s b : Nat} (h : ((P.info? T).map (fun i => (i.zero, i.size, i.bytes))) = some (some z, s, b)) : ∃ i, P.info? T = some i ∧ i.zero = some z ∧ i.size = s ∧ i.bytes = b := by
  obtain ⟨i, hi, hz0⟩ := Option.map_eq_some_iff.1 h
  simp only [Prod.mk.injEq] at hz0
  exact ⟨i, hi, hz0.1, hz0.2.1, hz0.2.2⟩
theorem OwnM.ext {fp : Nat → Prop} {w w' : World} {base : Nat} {v : Value} {rs : List (Int × Value)} (h : OwnM w base v rs) (he : Ext fp w w') (hn : ∀ k, v.ownBlock = some k → ¬ fp k) : OwnM w' base v rs := by
  refine ⟨h.1, h.2.imp id ?_⟩
  rintro ⟨g, cap, cur, e, h1, h2, r⟩
  refine ⟨g, cap, cur, e, h1, (he.block g (Array.getElem?_eq_some_iff.1 h2).1 (hn g (by rw [e]; rfl))).trans h2, r⟩
theorem OwnM.lt {w : World} {base : Nat} {v : Value} {rs : List (Int × Value)} (h : OwnM w base v rs) : ∀ k, v.ownBlock = some k → k < w.heap.size := fun k hk => (World.ownsRow.lt h k hk).2
theorem OwnM.form {w : World} {base : Nat} {v : Value} {rs : List (Int × Value)} (h : OwnM w base v rs) : (v = .slice none 0 0 ∧ rs = []) ∨ ∃ g c, v = .slice (some ⟨g, 0, none⟩) rs.length c := by
  rcases h.2 with ⟨e, h0⟩ | ⟨g, cap, cur, e, _⟩
  · exact .inl ⟨e, List.eq_nil_of_length_eq_zero h0⟩
  · exact .inr ⟨g, cap, e⟩
theorem OwnM.cells {w : World} {base g n cap : Nat} {rs : List (Int × Value)} (h : OwnM w base (.slice (some ⟨g, 0, none⟩) n cap) rs) {j : Nat} {u : Value} (hu : (mcells rs)[j]? = some u) : w.cell? ⟨g, j, none⟩ = some u := by
  rcases h.2 with ⟨e, _⟩ | ⟨g2, cap2, cur, e, hb, hg, hnc, hcm, hcs, htk⟩
  · cases e
  · injection e with e1 e2 e3
    injection e1 with e1
    injection e1 with e1
    subst e1 e3
    rw [← htk, List.getElem?_take] at hu
    split at hu
    · simp [World.cell?, hg]
      simpa using hu
    · cases hu
theorem OwnM.room {w : World} {base g n cap : Nat} {rs : List (Int × Value)} (h : OwnM w base (.slice (some ⟨g, 0, none⟩) n cap) rs) : n = rs.length ∧ n ≤ cap ∧ cap ≤ maxLen ∧ ∃ cur, Blk w g cur 130 ∧ cur.size = cap * 2 ∧ base ≤ g ∧ cur.toList.take (rs.length * 2) = mcells rs := by
  rcases h.2 with ⟨e, _⟩ | ⟨g2, cap2, cur, e, hb, hg, hnc, hcm, hcs, htk⟩
  · cases e
  · injection e with e1 e2 e3
    injection e1 with e1
    injection e1 with e1
    subst e1 e3
    exact ⟨e2, by omega, hcm, cur, hg, hcs, hb, htk⟩
/-- What stands behind a row's cells is turned. -/
theorem OwnM.over {w : World} {base : Nat} {g n cap k : Nat} {rs : List (Int × Value)} {z : Value} (h : OwnM w base (.slice (some ⟨g, 0, none⟩) n cap) rs) (hk : rs.length * 2 ≤ k) : OwnM (w.setCell ⟨g, k, none⟩ z) base (.slice (some ⟨g, 0, none⟩) n cap) rs := by
  refine ⟨h.1, .inr ?_⟩
  rcases h.2 with ⟨e, _⟩ | ⟨g2, cap2, cur, e, hb, hg, hnc, hcm, hcs, htk⟩
  · cases e
  · injection e with e1 e2 e3
    injection e1 with e1
    injection e1 with e1
    subst e1 e3
    refine ⟨g, cap, cur.setIfInBounds k z, by rw [e2], hb, ?_, hnc, hcm, by simp [hcs], ?_⟩
    · exact Blk.set (g := g) (o := k) (c := cur) hg z
    · rw [← htk]
      simp only [Array.toList_setIfInBounds]
      rw [List.take_set_of_le (by omega)]
theorem add_cell {w : World} {g o j : Nat} {u : Value} (h : w.cell? ⟨g, o + j, none⟩ = some u) : w.cell? ((⟨g, o, none⟩ : Addr).add j) = some u := by
  unfold Addr.add
  split
  · rename_i hz
    subst hz
    simpa using h
  · exact h
section
variable {W : World} {N : Nat} {lv tv : Value}
set_option maxRecDepth 100000 in
set_option maxHeartbeats 1600000 in
theorem mrow_put (rs : List (Int × Value)) (to : Int) (v : Value) (g0 c0 : Nat) (h : Blk W N #[lv, tv, .bool true] 56) (ho : OwnM W 0 tv rs) (hne : tv.ownBlock ≠ some N) (hv : ∃ a n c, v = .slice a n c) (hb0 : ∃ t, Blk W g0 #[iv to, v] t) (hl : (rs.length + 1) * 32 ≤ 140737488355328) :
    Calls Tryz.prog 61 #[.pointer (some ⟨N, 1, none⟩), .slice (some ⟨g0, 0, none⟩) 1 c0] W fun e w' => (∃ x, e = .returned x) ∧ ∃ tv', Blk w' N #[lv, tv', .bool true] 56 ∧ OwnM w' 0 tv' (rs ++ [(to, v)]) ∧ (tv'.ownBlock = tv.ownBlock ∨ tv'.ownBlock = some W.heap.size) ∧ Ext (fun b => b = N ∨ tv.ownBlock = some b) W w' := by
  obtain ⟨i0, hi, hz0, hz1, hz2⟩ := info_parts2 info_msg
  obtain ⟨t0, kb⟩ := hb0
  obtain ⟨va, vn, vc, hvf⟩ := hv
  subst hvf
  obtain ⟨tv', w1, hr, h1, h2, _, h3⟩ := run_append_own_at (P := Tryz.prog) W 0 52 52 130 i0 _ 2 32 Tryz.underlying52 hi hz0 hz1 hz2 rfl (by decide) tv rs.length (mcells rs) ho ⟨g0, 0, none⟩ 1 c0 (mcells [(to, .slice va vn vc)]) rfl (fun j u hu => add_cell (by
      rw [Nat.zero_add]
      refine kb.cell ?_
      match j, hu with
      | 0, hu => exact hu
      | 1, hu => exact hu
      | j + 2, hu => simp [mcells] at hu)) (Slicy.one (fun r hr => by simp at hr; subst hr; exact ⟨_, _, _, rfl⟩)) (by unfold maxLen; omega) hl (Nat.zero_le _)
  rw [← mcells_append] at h1
  have h1' : OwnM w1 0 tv' (rs ++ [(to, .slice va vn vc)]) := by unfold OwnM; rw [List.length_append]; exact h1
  have c0 := h.cell (o := 1) rfl
  have hx : Ext (fun b => b = N ∨ tv.ownBlock = some b) W w1 := (Ext.refl _ W).grown h2 (fun k e => .inl (.inr e))
  have k1 : Blk w1 N #[lv, tv, .bool true] 56 := h.ext ((Ext.refl (fun b => tv.ownBlock = some b) W).grown h2 (fun k e => .inl e)) hne
  have hN1 : tv'.ownBlock ≠ some N := fun e => by
    rcases h3 with h3 | h3
    · exact hne (by rw [← h3]; exact e)
    · rw [h3] at e
      injection e with e
      have := h.lt
      omega
  have c1 := k1.cell (o := 1) rfl
  have f1 := k1.free 1
  have HF := hid (And.intro (k1.set (o := 1) tv') (And.intro ((h1'.ext ((Ext.refl (fun b => b = N) w1).setCell (a := ⟨N, 1, none⟩) (.inl rfl) tv') (fun k hk e => by subst e; exact hN1 hk)) : OwnM (w1.setCell ⟨N, 1, none⟩ tv') 0 tv' (rs ++ [(to, .slice va vn vc)])) (And.intro h3 (hx.setCell (a := ⟨N, 1, none⟩) (.inl (.inl rfl)) tv'))))
  have hl1 : ∃ a n c, tv = .slice a n c := by
    rcases ho.form with ⟨e, _⟩ | ⟨g, c, e⟩
    · exact ⟨_, _, _, e⟩
    · exact ⟨_, _, _, e⟩
  have hl2 : ∃ a n c, tv' = .slice a n c := by
    rcases h1'.form with ⟨e, _⟩ | ⟨g, c, e⟩
    · exact ⟨_, _, _, e⟩
    · exact ⟨_, _, _, e⟩
  obtain ⟨a1, n1, q1, rfl⟩ := hl1
  obtain ⟨a2, n2, q2, rfl⟩ := hl2
  clear hx k1 hN1 ho h h1 h1' h2 h3 hi hz0 hz1 hz2 hne hl kb
  go_enter Tryz.func61, Tryz.ntmps61
  go_wp2_with (at_builtin; refine wpList_val rfl (exec_append rfl hr) ?_)
  go_end0
  refine ⟨⟨_, rfl⟩, _, ?_, HF.out.2.1, HF.out.2.2.1, HF.out.2.2.2⟩
  simpa using HF.out.1
end
end Go.Proofs.YtcdcjoofcbdilaaGreat
