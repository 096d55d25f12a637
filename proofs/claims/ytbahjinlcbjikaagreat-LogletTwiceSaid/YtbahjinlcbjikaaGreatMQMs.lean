import Derived.Test.YtbahjinlcbjikaaGreatMLit
import Derived.Lib.SliceRun
import Derived.Maps.AppendAt
/-! Package net: New, Made, Luck, Send; nothing late. -/
namespace Go.Proofs.YtbahjinlcbjikaaGreat
open Go.RowKit

theorem szint : (Tryz.prog.info? 3).map (·.size) = some 1 := by kernel_rfl
theorem run_slice_m {P : Program} {T E : TypeId} (hT : P.underlying T = some (.slice E)) (hE : (P.info? E).map (·.size) = some 1) (a : Option Addr) (n c : Nat) (lo hi mx : Int) (h0 : 0 ≤ lo) (h1 : lo ≤ hi) (h2 : hi ≤ mx) (h3 : mx ≤ c) (W : World) :
    (Instr.slice T (.slice a n c) (some (.int .i64 lo)) (some (.int .i64 hi)) (some (.int .i64 mx))).run P W = .ok (.slice (sla a mx.toNat lo.toNat) (hi.toNat - lo.toNat) (mx.toNat - lo.toNat)) W := by
  have hs : (sizeOf E).run P W = .ok 1 W := by
    cases hq : P.info? E with
    | none => simp [hq] at hE
    | some i =>
      simp [hq] at hE
      simp [sizeOf, typeInfo, hq, hE]
  have e1 : ∀ (code : BoundsCode), (Instr.sliceBound (.int .i64 mx) c code).run P W = .ok mx.toNat W := fun code => run_sliceBound (P := P) (w := W) .i64 mx c code (by omega) h3
  have e1' : ∀ (code : BoundsCode), (Instr.sliceBound (.int .i64 hi) mx.toNat code).run P W = .ok hi.toNat W := fun code => run_sliceBound (P := P) (w := W) .i64 hi mx.toNat code (by omega) (by omega)
  have e2 : ∀ (code : BoundsCode), (Instr.sliceBound (.int .i64 lo) hi.toNat code).run P W = .ok lo.toNat W := fun code => run_sliceBound (P := P) (w := W) .i64 lo hi.toNat code h0 (by omega)
  simp [Instr.slice, Instr.sliceBounds, run_underlying hT, e1, e1', e2, hs, sla, Sem.run_bind]
/-- A row with room, and what stands behind its cells turned. -/
theorem OwnI.over {w : World} {base : Nat} {t : TypeId} {g n cap k : Nat} {l : List Int} {z : Value} (h : OwnI w base t (.slice (some ⟨g, 0, none⟩) n cap) l) (hk : l.length ≤ k) : OwnI (w.setCell ⟨g, k, none⟩ z) base t (.slice (some ⟨g, 0, none⟩) n cap) l := by
  refine ⟨h.1, .inr ?_⟩
  rcases h.2 with ⟨e, _⟩ | ⟨g2, cap2, cur, e, hb, hg, hnc, hcm, hcs, htk⟩
  · cases e
  · injection e with e1 e2 e3
    injection e1 with e1
    injection e1 with e1
    subst e1 e3
    refine ⟨g, cap, cur.setIfInBounds k z, by rw [e2], hb, ?_, hnc, hcm, by simp [hcs], ?_⟩
    · exact Blk.set (g := g) (o := k) (c := cur) (t := t) hg z
    · rw [← htk]
      simp only [Array.toList_setIfInBounds, Nat.mul_one]
      rw [List.take_set_of_le (by omega)]
theorem OwnI.cell {w : World} {base : Nat} {t : TypeId} {g n cap : Nat} {l : List Int} (h : OwnI w base t (.slice (some ⟨g, 0, none⟩) n cap) l) {i : Nat} {z : Int} (hi : l[i]? = some z) : w.cell? ⟨g, i, none⟩ = some (iv z) := by
  rcases h.2 with ⟨e, _⟩ | ⟨g2, cap2, cur, e, hb, hg, hnc, hcm, hcs, htk⟩
  · cases e
  · injection e with e1 e2 e3
    injection e1 with e1
    injection e1 with e1
    subst e1 e3
    have hu : (l.map iv)[i]? = some (iv z) := by simp [hi]
    rw [← htk, List.getElem?_take] at hu
    split at hu
    · simp [World.cell?, hg]
      simpa using hu
    · cases hu
theorem OwnI.room {w : World} {base : Nat} {t : TypeId} {g n cap : Nat} {l : List Int} (h : OwnI w base t (.slice (some ⟨g, 0, none⟩) n cap) l) : n = l.length ∧ n ≤ cap ∧ cap ≤ maxLen ∧ ∃ cur, Blk w g cur t ∧ cur.size = cap := by
  rcases h.2 with ⟨e, _⟩ | ⟨g2, cap2, cur, e, hb, hg, hnc, hcm, hcs, htk⟩
  · cases e
  · injection e with e1 e2 e3
    injection e1 with e1
    injection e1 with e1
    subst e1 e3
    exact ⟨e2, by omega, hcm, cur, hg, by simpa using hcs⟩

section
variable {W : World} {N : Nat} {lv tv : Value}
set_option maxHeartbeats 800000 in
theorem net_Made (h : Blk W N #[lv, tv, .bool true] 64) : Calls Tryz.prog 16 #[.pointer (some ⟨N, 0, none⟩)] W fun e w' => e = .returned (.bool true) ∧ w' = W := by
  have c2 := h.cell (o := 2) rfl
  go_enter Tryz.func16, Tryz.ntmps16
  go_wp2_with fail
  go_ret
  exact ⟨rfl, rfl⟩
set_option maxHeartbeats 800000 in
theorem net_none (h : Blk W N #[lv, tv, .bool true] 64) : Calls Tryz.prog 51 #[.pointer (some ⟨N, 0, none⟩)] W fun e w' => e = .returned (.bool false) ∧ w' = W := by
  go_enter Tryz.func51, Tryz.ntmps51
  go_wp2_with fail
  refine (net_Made h).mono ?_
  rintro e Wx ⟨rfl, hw⟩
  rw [hw]
  clear hw Wx
  go_wp2_with fail
  go_ret
  exact ⟨rfl, rfl⟩
set_option maxHeartbeats 800000 in
theorem net_New : Calls Tryz.prog 25 #[] W fun e w' => e = .returned (.pointer (some ⟨W.heap.size, 0, none⟩)) ∧ Blk w' W.heap.size #[.slice none 0 0, .slice none 0 0, .bool true] 64 ∧ Below W.heap.size W w' := by
  go_enter Tryz.func25, Tryz.ntmps25
  go_wp2_with fail
  go_ret
  exact ⟨rfl, Blk.new _ _ _, (Below.refl _ _).alloc (Nat.le_refl _) _⟩
theorem exec_clear {P : Program} {o : Oper} {ev : Operand → Value} {s : Operand} {T : TypeId} {w w' : World} (ho : o.op = .call { callee := .builtin .clear, args := #[s], argTypes := #[T] })
    (hr : (Builtin.clear_ #[T] o.type #[ev s]).run P w = .ok (.tuple #[]) w') : (execOp ev o).run P w = .ok (.value (.tuple #[])) w' := by
  unfold execOp
  simp only [ho, resolve, invoke, builtin, Sem.run_bind, Sem.run_pure, Result.andThen_ok, List.map_toArray, List.map_cons, List.map_nil, hr]
set_option maxRecDepth 100000 in
set_option maxHeartbeats 1600000 in
theorem delete_int (base g n cap : Nat) (z : Int) (l : List Int) (h : OwnI W base 3 (.slice (some ⟨g, 0, none⟩) (n + 1) cap) (z :: l)) (hl : l.length = n) (hb : base ≤ W.heap.size) :
    Calls Tryz.prog 120 #[.slice (some ⟨g, 0, none⟩) (n + 1) cap, .int .i64 0, .int .i64 1] W fun e w' => e = .returned (.slice (some ⟨g, 0, none⟩) n cap) ∧ OwnI w' base 3 (.slice (some ⟨g, 0, none⟩) n cap) l ∧ Ext (fun b => b = g) W w' := by
  obtain ⟨hx9, hcap, hmax, cur, hblk, hcur⟩ := h.room
  clear hx9
  unfold maxLen at hmax
  obtain ⟨i0, hi, hz0, hz1, hz2⟩ := info_parts info_int
  have hs1 := fun (w : World) => run_slice_m (P := Tryz.prog) Tryz.underlying22 szint (some ⟨g, 0, none⟩) (n + 1) cap 0 1 ((n + 1 : Nat) : Int) (by omega) (by omega) (by omega) (by omega) w
  have hs2 := fun (w : World) => run_slice_to (P := Tryz.prog) Tryz.underlying22 szint (some ⟨g, 0, none⟩) (n + 1) cap 0 (by omega) (by omega) w
  have hs3 := fun (w : World) => run_slice_from (P := Tryz.prog) Tryz.underlying22 szint (some ⟨g, 0, none⟩) (n + 1) cap 1 (by omega) (by omega) w
  have hsla : sla (some ⟨g, 0, none⟩) cap (1 : Int).toNat = (if cap = 1 then some ⟨g, 0, none⟩ else some ⟨g, 1, none⟩) := by
    unfold sla
    by_cases h9 : cap = 1
    · simp [h9]
    · simp [h9, Addr.add]
  obtain ⟨sa, hsa⟩ : ∃ sa, (if cap = 1 then some (⟨g, 0, none⟩ : Addr) else some ⟨g, 1, none⟩) = sa := ⟨_, rfl⟩
  rw [hsla, hsa] at hs3
  have e1 : (1 : Int).toNat = 1 := rfl
  have e0 : (0 : Int).toNat = 0 := rfl
  rw [e1] at hs3
  rw [e0] at hs2
  rw [show n + 1 - 1 = n from rfl] at hs3
  clear e1 e0 hsla
  -- the append
  have hown0 : ∀ w : World, Blk w g cur 3 → OwnI w base 3 (.slice (some ⟨g, 0, none⟩) 0 cap) [] := fun w hw => by
    rcases h.2 with ⟨e, _⟩ | ⟨g2, cap2, cur2, e, hb2, hg, hnc, hcm, hcs, htk⟩
    · cases e
    · injection e with e1 e2 e3
      injection e1 with e1
      injection e1 with e1
      subst e1 e3
      exact ⟨rfl, .inr ⟨g, cap, cur, rfl, hb2, hw, Nat.zero_le _, hcm, by simpa using hcur, by simp⟩⟩
  have hcell := fun i (u : Int) (hu : l[i]? = some u) => h.cell (i := i + 1) (z := u) (by simpa using hu)
  have HAP : Hid (∃ w', (Builtin.append_ #[22, 22] 22 #[.slice (some ⟨g, 0, none⟩) 0 cap, .slice sa n (cap - 1)]).run Tryz.prog W.drew = .ok (.slice (some ⟨g, 0, none⟩) n cap) w' ∧ OwnI w' base 3 (.slice (some ⟨g, 0, none⟩) n cap) l ∧ Ext (fun b => b = g) W w' ∧ ∃ cur', Blk w' g cur' 3 ∧ cur'.size = cap) := by
    refine hid ?_
    have hsrc : ∃ ad, sa = some ad ∧ ∀ (j : Nat) (u : Value), (l.map iv)[j]? = some u → W.drew.cell? (ad.add j) = some u := by
      by_cases hc1 : cap = 1
      · rw [if_pos hc1] at hsa
        refine ⟨_, hsa.symm, fun j u hu => ?_⟩
        have : l = [] := List.eq_nil_of_length_eq_zero (by omega)
        subst this
        simp at hu
      · rw [if_neg hc1] at hsa
        refine ⟨_, hsa.symm, fun j u hu => ?_⟩
        simp only [List.getElem?_map, Option.map_eq_some_iff] at hu
        obtain ⟨b, hb, rfl⟩ := hu
        have hc := hcell j b hb
        unfold Addr.add
        split
        · rename_i hz
          subst hz
          exact hc
        · rw [show 1 + j = j + 1 from by omega]
          exact hc
    obtain ⟨ad, rfl, hsrc⟩ := hsrc
    obtain ⟨w', h1, h2, h3⟩ := run_append_fits (P := Tryz.prog) W.drew base 22 22 3 i0 1 Tryz.underlying22 hi hz1 g 0 cap [] (hown0 _ hblk) ad n (cap - 1) (l.map iv) (by simp [hl]) hsrc (fun u hu => by
        simp only [List.mem_map] at hu
        obtain ⟨b, _, rfl⟩ := hu
        rfl) (by omega)
    have ho : OwnI w' base 3 (.slice (some ⟨g, 0, none⟩) n cap) l := by
      unfold OwnI
      rw [hl]
      simpa using h2
    refine ⟨w', by simpa using h1, ho, ?_, ho.room.2.2.2⟩
    exact ((Ext.refl (fun b => b = g) W).drew).grown h3 (fun k e => by cases e; exact .inl rfl)
  have hzv : ∀ w, (zeroValue 3).run Tryz.prog w = .ok (.int .i64 0) w := fun w => by kernel_rfl
  have Hl := hid hl
  have Hcur := hid hcur
  clear h hblk hown0 hcell hi hz0 hz1 hz2 hsa hcur hl
  go_enter Tryz.func120, Tryz.ntmps120
  go_wp2_with fail
  refine wp_region_tail 6 rfl Stays (fun i v x => match i with
      | 0 => v = .slice (some ⟨g, 0, none⟩) (n + 1) cap
      | 1 => v = .int .i64 0
      | 2 => v = .slice (some ⟨g, 0, none⟩) 0 cap
      | 3 => v = .slice (some ⟨g, 0, none⟩) (n + 1) cap
      | 4 => v = .int .i64 1
      | 5 => v = .slice sa n (cap - 1)
      | _ => True) (by kernel_rfl) (Stays.refl _) Stays.trans ?rstab ?rsteps ?rfin
  case rstab =>
    intro i v x y hg h
    match i with
    | 0 | 1 | 2 | 3 | 4 | 5 => exact h
    | n + 6 => trivial
  case rsteps =>
    simp only [List.take_succ_cons, List.take_zero]
    refine ⟨?_, ?_, ?_, ?_, ?_, ?_, trivial⟩
    · intro a x hA
      have t0 := hA.at_ 0 (by first | rfl | kernel_rfl) rfl
      refine step_value (w' := x) (v := .slice (some ⟨g, 0, none⟩) (n + 1) cap) ?_ (Stays.refl _) ?_
      · go_simp
      · rfl
    · intro a x hA
      have t1 := hA.at_ 1 (by first | rfl | kernel_rfl) rfl
      refine step_value (w' := x) (v := .int .i64 0) ?_ (Stays.refl _) ?_
      · go_simp
      · rfl
    · intro a x hA
      have t20 : a.tmps[20]?.getD undef = .slice (some ⟨g, 0, none⟩) (n + 1) cap := hA.dep_ ⟨0, .data⟩ (by simp) _ 20 rfl rfl
      have t21 : a.tmps[21]?.getD undef = .int .i64 0 := hA.dep_ ⟨1, .data⟩ (by simp) _ 21 rfl rfl
      have hq := hs2 x
      refine step_value (w' := x) (v := .slice (some ⟨g, 0, none⟩) 0 cap) ?_ (Stays.refl _) rfl
      go_simp
    · intro a x hA
      have t0 := hA.at_ 0 (by first | rfl | kernel_rfl) rfl
      refine step_value (w' := x) (v := .slice (some ⟨g, 0, none⟩) (n + 1) cap) ?_ (Stays.refl _) ?_
      · go_simp
      · rfl
    · intro a x hA
      have t2 := hA.at_ 2 (by first | rfl | kernel_rfl) rfl
      refine step_value (w' := x) (v := .int .i64 1) ?_ (Stays.refl _) ?_
      · go_simp
      · rfl
    · intro a x hA
      have t23 : a.tmps[23]?.getD undef = .slice (some ⟨g, 0, none⟩) (n + 1) cap := hA.dep_ ⟨3, .data⟩ (by simp) _ 23 rfl rfl
      have t24 : a.tmps[24]?.getD undef = .int .i64 1 := hA.dep_ ⟨4, .data⟩ (by simp) _ 24 rfl rfl
      have hq := hs3 x
      refine step_value (w' := x) (v := .slice sa n (cap - 1)) ?_ (Stays.refl _) rfl
      go_simp
  case rfin =>
    intro y W' hg hV
    simp only [List.take_succ_cons, List.take_zero, AllVals] at hV
    obtain ⟨_, _, u2, _, _, u5, _⟩ := hV
    obtain rfl : W' = W.drew := hg
    simp only [List.take_succ_cons, List.take_zero, List.drop_succ_cons, List.drop_zero, putAll, Act.put, List.setIfInBounds_toArray, List.set_cons_zero, List.set_cons_succ]
    rw [u2, u5]
    obtain ⟨w6, hr, o6, x6, cur6, k6, z6⟩ := HAP.out
    have hs4 := fun (w : World) => run_slice_b (P := Tryz.prog) Tryz.underlying22 szint (some ⟨g, 0, none⟩) n cap ((n : Nat) : Int) ((n + 1 : Nat) : Int) (by omega) (by omega) (by omega) w
    have hcl : (Builtin.clear_ #[22] 0 #[.slice (some ⟨g, n, none⟩) 1 (cap - n)]).run Tryz.prog w6 = .ok (.tuple #[]) (w6.setCell ⟨g, n, none⟩ (.int .i64 0)) := by
      obtain ⟨cv, hcv⟩ : ∃ cv, cur6[n]? = some cv := ⟨cur6[n]'(by omega), by simp⟩
      have hc9 := k6.cell hcv
      have := Lib.run_clear_slice (P := Tryz.prog) w6 22 3 0 (.int .i64 0) Tryz.underlying22 hzv rfl rfl g n 1 (cap - n) (by omega) (fun j hj => by rw [show n + j = n from by omega, hc9]; rfl) (fun j hj => k6.free _)
      rw [this]
      rfl
    have HF := hid (And.intro (o6.over (z := .int .i64 0) (Nat.le_of_eq Hl.out)) (x6.setCell (a := ⟨g, n, none⟩) (.inl rfl) (.int .i64 0)))
    have e9 : (n : Int).toNat = n := rfl
    have e8 : ((n + 1 : Nat) : Int).toNat = n + 1 := rfl
    rw [e8, e9, show n + 1 - n = 1 from by omega] at hs4
    clear e8 e9 u2 u5 hs1 hs2 hs3 o6 x6 k6
    go_wp2_with (at_builtin; refine wpList_val rfl (exec_append rfl hr) ?_)
    go_ret
    exact ⟨rfl, HF.out.1, HF.out.2⟩
end
end Go.Proofs.YtbahjinlcbjikaaGreat

/-! Package net, on: Luck, Send of what is not late. -/
namespace Go.Proofs.YtbahjinlcbjikaaGreat
open Go.RowKit

section
variable {W : World} {N : Nat} {lv tv : Value}
theorem OwnI.form {w : World} {base : Nat} {t : TypeId} {v : Value} {l : List Int} (h : OwnI w base t v l) : (v = .slice none 0 0 ∧ l = []) ∨ ∃ g c, v = .slice (some ⟨g, 0, none⟩) l.length c := by
  rcases h.2 with ⟨e, h0⟩ | ⟨g, cap, cur, e, _⟩
  · exact .inl ⟨e, List.eq_nil_of_length_eq_zero h0⟩
  · exact .inr ⟨g, cap, e⟩

set_option maxRecDepth 100000 in
set_option maxHeartbeats 1600000 in
theorem row_put (lv : Value) (l m : List Int) (v : Value) (h : Blk W N #[lv, tv, .bool true] 64) (ho : OwnI W 0 3 lv l) (hne : lv.ownBlock ≠ some N) (hv : Is W v m) (hl : (l.length + m.length) * 8 ≤ 140737488355328) :
    Calls Tryz.prog 52 #[.pointer (some ⟨N, 0, none⟩), v] W fun e w' => (∃ x, e = .returned x) ∧ ∃ lv', Blk w' N #[lv', tv, .bool true] 64 ∧ OwnI w' 0 3 lv' (l ++ m) ∧ (∀ k, lv'.ownBlock = some k → lv.ownBlock = some k ∨ W.heap.size ≤ k) ∧ Ext (fun b => b = N ∨ lv.ownBlock = some b) W w' := by
  obtain ⟨i0, hi, hz0, hz1, hz2⟩ := info_parts info_int
  obtain ⟨lv', w1, hr, h1, h2, h3⟩ := run_appendI (P := Tryz.prog) Tryz.underlying22 hi hz0 hz1 hz2 22 ho hv hl (Nat.zero_le _)
  have c0 := h.cell (o := 0) rfl
  have hx : Ext (fun b => b = N ∨ lv.ownBlock = some b) W w1 := (Ext.refl _ W).grown h2 (fun k e => .inl (.inr e))
  have k1 : Blk w1 N #[lv, tv, .bool true] 64 := h.ext ((Ext.refl (fun b => lv.ownBlock = some b) W).grown h2 (fun k e => .inl e)) hne
  have hN1 : lv'.ownBlock ≠ some N := fun e => (h3 N e).elim hne (fun e => by have := h.lt; omega)
  have c1 := k1.cell (o := 0) rfl
  have f1 := k1.free 0
  have HF := hid (And.intro (k1.set (o := 0) lv') (And.intro ((OwnI.ext h1 ((Ext.refl (fun b => b = N) w1).setCell (a := ⟨N, 0, none⟩) (.inl rfl) lv') (fun k hk e => by subst e; exact hN1 hk)) : OwnI (w1.setCell ⟨N, 0, none⟩ lv') 0 3 lv' (l ++ m)) (And.intro h3 (hx.setCell (a := ⟨N, 0, none⟩) (.inl (.inl rfl)) lv'))))
  obtain ⟨va, vc, hvf⟩ : ∃ a c, v = .slice a m.length c := by obtain ⟨a, c, e, _⟩ := hv; exact ⟨a, c, e⟩
  have hl1 : ∃ a n c, lv = .slice a n c := by
    rcases ho.form with ⟨e, _⟩ | ⟨g, c, e⟩
    · exact ⟨_, _, _, e⟩
    · exact ⟨_, _, _, e⟩
  have hl2 : ∃ a n c, lv' = .slice a n c := by
    rcases h1.form with ⟨e, _⟩ | ⟨g, c, e⟩
    · exact ⟨_, _, _, e⟩
    · exact ⟨_, _, _, e⟩
  obtain ⟨a1, n1, q1, rfl⟩ := hl1
  obtain ⟨a2, n2, q2, rfl⟩ := hl2
  subst hvf
  clear hx k1 hN1 hv ho h h1 h2 h3 hi hz0 hz1 hz2 hne hl
  go_enter Tryz.func52, Tryz.ntmps52
  go_wp2_with (at_builtin; refine wpList_val rfl (exec_append rfl hr) ?_)
  go_end0
  refine ⟨⟨_, rfl⟩, _, ?_, HF.out.2.1, HF.out.2.2.1, HF.out.2.2.2⟩
  simpa using HF.out.1

set_option maxRecDepth 100000 in
set_option maxHeartbeats 1600000 in
theorem net_Luck (l m : List Int) (v : Value) (h : Blk W N #[lv, tv, .bool true] 64) (ho : OwnI W 0 3 lv l) (hne : lv.ownBlock ≠ some N) (hv : Is W v m) (hl : (l.length + m.length) * 8 ≤ 140737488355328) :
    Calls Tryz.prog 27 #[.pointer (some ⟨N, 0, none⟩), v] W fun e w' => (∃ x, e = .returned x) ∧ ∃ lv', Blk w' N #[lv', tv, .bool true] 64 ∧ OwnI w' 0 3 lv' (l ++ m) ∧ (∀ k, lv'.ownBlock = some k → lv.ownBlock = some k ∨ W.heap.size ≤ k) ∧ Ext (fun b => b = N ∨ lv.ownBlock = some b) W w' := by
  obtain ⟨va, vc, hvf⟩ : ∃ a c, v = .slice a m.length c := by obtain ⟨a, c, e, _⟩ := hv; exact ⟨a, c, e⟩
  have HP := hid (row_put lv l m v h ho hne hv hl)
  subst hvf
  have HN := hid (net_none h)
  clear h ho hne hv hl
  go_enter Tryz.func27, Tryz.ntmps27
  go_wp2_with fail
  refine HN.out.mono ?_
  rintro e Wx ⟨rfl, hw⟩
  rw [hw]
  clear hw Wx
  go_wp2_with fail
  refine HP.out.mono ?_
  rintro e w' ⟨⟨x, rfl⟩, hp⟩
  have HH := hid hp
  clear hp
  go_wp2_with fail
  go_end0
  exact ⟨⟨_, rfl⟩, HH.out⟩

set_option maxRecDepth 100000 in
set_option maxHeartbeats 1600000 in
theorem row_take (lv : Value) (l : List Int) (h : Blk W N #[lv, tv, .bool true] 64) (ho : OwnI W 0 3 lv l) (hne : lv.ownBlock ≠ some N) :
    Calls Tryz.prog 75 #[.pointer (some ⟨N, 0, none⟩), .int .i64 0] W fun e w' => (∃ b, e = .returned (.tuple #[.int .i64 (firstI l), .bool b])) ∧ ∃ lv', Blk w' N #[lv', tv, .bool true] 64 ∧ OwnI w' 0 3 lv' l.tail ∧ lv'.ownBlock = lv.ownBlock ∧ Ext (fun b => b = N ∨ lv.ownBlock = some b) W w' := by
  have c0 := h.cell (o := 0) rfl
  cases l with
  | nil =>
    obtain ⟨a1, q1, rfl⟩ : ∃ a q, lv = .slice a 0 q := by
      rcases ho.form with ⟨e, _⟩ | ⟨g, c, e⟩
      · exact ⟨_, _, e⟩
      · exact ⟨_, _, e⟩
    have HH := hid (And.intro h ho)
    clear h ho hne
    go_enter Tryz.func75, Tryz.ntmps75
    go_wp2_with fail
    go_ret2
    exact ⟨⟨_, rfl⟩, _, HH.out.1, HH.out.2, rfl, Ext.refl _ _⟩
  | cons z l =>
    obtain ⟨g, cap, rfl⟩ : ∃ g c, lv = .slice (some ⟨g, 0, none⟩) (l.length + 1) c := by
      rcases ho.form with ⟨_, e⟩ | ⟨g, c, e⟩
      · cases e
      · exact ⟨g, c, e⟩
    have hcz := ho.cell (i := 0) (z := z) rfl
    have HD := hid (delete_int 0 g l.length cap z l ho rfl (Nat.zero_le _))
    have hgN : N ≠ g := fun e => hne (by rw [e]; rfl)
    have HH := hid h
    have hlt : (0 : Int) < (l.length : Int) + 1 := by omega
    clear h ho hne
    go_enter Tryz.func75, Tryz.ntmps75
    go_wp2_with fail
    refine HD.out.mono ?_
    rintro e w2 ⟨rfl, o2, x2⟩
    have k2 := HH.out.ext x2 hgN
    have c2 := k2.cell (o := 0) rfl
    have f2 := k2.free 0
    have HF := hid (And.intro (k2.set (o := 0) (.slice (some ⟨g, 0, none⟩) l.length cap)) (And.intro ((OwnI.ext o2 ((Ext.refl (fun b => b = N) w2).setCell (a := ⟨N, 0, none⟩) (.inl rfl) (.slice (some ⟨g, 0, none⟩) l.length cap)) (fun k hk e => by subst e; cases hk; exact hgN rfl)) : OwnI (w2.setCell ⟨N, 0, none⟩ (.slice (some ⟨g, 0, none⟩) l.length cap)) 0 3 (.slice (some ⟨g, 0, none⟩) l.length cap) l) ((x2.mono (fun b _ e => .inr (by rw [e]; rfl)) : Ext (fun b => b = N ∨ (Value.slice (some ⟨g, 0, none⟩) (l.length + 1) cap).ownBlock = some b) W w2).setCell (a := ⟨N, 0, none⟩) (.inl (.inl rfl)) (.slice (some ⟨g, 0, none⟩) l.length cap))))
    clear HD k2 o2 x2 hcz
    go_wp2_with fail
    go_ret2
    exact ⟨⟨_, rfl⟩, _, by simpa using HF.out.1, HF.out.2.1, rfl, HF.out.2.2⟩
end
end Go.Proofs.YtbahjinlcbjikaaGreat

/-! Package net: rows of messages. -/
namespace Go.Proofs.YtbahjinlcbjikaaGreat
open Go.RowKit

/-- A message's cells, one behind the other. -/
def mcells (rs : List (Int × Value)) : List Value := rs.flatMap (fun r => [iv r.1, r.2])
theorem mcells_nil : mcells [] = [] := rfl
theorem mcells_cons (r : Int × Value) (rs : List (Int × Value)) : mcells (r :: rs) = iv r.1 :: r.2 :: mcells rs := rfl
theorem mcells_append (a b : List (Int × Value)) : mcells (a ++ b) = mcells a ++ mcells b := by simp [mcells]
theorem mcells_length : ∀ (rs : List (Int × Value)), (mcells rs).length = rs.length * 2
  | [] => rfl
  | r :: rs => by simp only [mcells_cons, List.length_cons, mcells_length rs]; omega
theorem mcells_at : ∀ {rs : List (Int × Value)} {i : Nat} {r : Int × Value}, rs[i]? = some r → (mcells rs)[i * 2]? = some (iv r.1) ∧ (mcells rs)[i * 2 + 1]? = some r.2
  | [], i, r, h => by simp at h
  | q :: rs, 0, r, h => by
    simp at h
    subst h
    exact ⟨rfl, rfl⟩
  | q :: rs, i + 1, r, h => by
    have h2 := mcells_at (rs := rs) (i := i) (r := r) (by simpa using h)
    have e1 : (i + 1) * 2 = i * 2 + 2 := by omega
    rw [mcells_cons, e1]
    exact h2
abbrev OwnM (w : World) (base : Nat) (v : Value) (rs : List (Int × Value)) : Prop := w.ownsRow base 120 2 v rs.length (mcells rs)
/-- Each message's bytes are a slice. -/
def Slicy (rs : List (Int × Value)) : Prop := ∀ r ∈ rs, ∃ a n c, r.2 = .slice a n c
theorem Slicy.one {rs : List (Int × Value)} (h : Slicy rs) : ∀ u ∈ mcells rs, u.oneCell' = true := fun u hu => by
  simp only [mcells, List.mem_flatMap] at hu
  obtain ⟨r, hr, hu⟩ := hu
  obtain ⟨a, n, c, e⟩ := h r hr
  simp only [List.mem_cons, List.not_mem_nil, or_false] at hu
  rcases hu with rfl | rfl
  · rfl
  · rw [e]; rfl
theorem info_msg : ((Tryz.prog.info? 120).map (fun i => (i.zero, i.size, i.bytes))) = some (some (.agg #[.int .i64 0, .slice none 0 0]), 2, 32) := by kernel_rfl
theorem info_parts2 {P : Program} {T : TypeId} {z : Value} {s b : Nat} (h : ((P.info? T).map (fun i => (i.zero, i.size, i.bytes))) = some (some z, s, b)) : ∃ i, P.info? T = some i ∧ i.zero = some z ∧ i.size = s ∧ i.bytes = b := by
  obtain ⟨i, hi, hz0⟩ := Option.map_eq_some_iff.1 h
  simp only [Prod.mk.injEq] at hz0
  exact ⟨i, hi, hz0.1, hz0.2.1, hz0.2.2⟩
theorem OwnM.ext {fp : Nat → Prop} {w w' : World} {base : Nat} {v : Value} {rs : List (Int × Value)} (h : OwnM w base v rs) (he : Ext fp w w') (hn : ∀ k, v.ownBlock = some k → ¬ fp k) : OwnM w' base v rs := by
  refine ⟨h.1, h.2.imp id ?_⟩
  rintro ⟨g, cap, cur, e, h1, h2, r⟩
  refine ⟨g, cap, cur, e, h1, (he.block g (Array.getElem?_eq_some_iff.1 h2).1 (hn g (by rw [e]; rfl))).trans h2, r⟩
theorem OwnM.lt {w : World} {base : Nat} {v : Value} {rs : List (Int × Value)} (h : OwnM w base v rs) : ∀ k, v.ownBlock = some k → k < w.heap.size := fun k hk => (World.ownsRow.lt h k hk).2
theorem OwnM.form {w : World} {base : Nat} {v : Value} {rs : List (Int × Value)} (h : OwnM w base v rs) : (v = .slice none 0 0 ∧ rs = []) ∨ ∃ g c, v = .slice (some ⟨g, 0, none⟩) rs.length c := by
  rcases h.2 with ⟨e, h0⟩ | ⟨g, cap, cur, e, _⟩
  · exact .inl ⟨e, List.eq_nil_of_length_eq_zero h0⟩
  · exact .inr ⟨g, cap, e⟩
theorem OwnM.cells {w : World} {base g n cap : Nat} {rs : List (Int × Value)} (h : OwnM w base (.slice (some ⟨g, 0, none⟩) n cap) rs) {j : Nat} {u : Value} (hu : (mcells rs)[j]? = some u) : w.cell? ⟨g, j, none⟩ = some u := by
  rcases h.2 with ⟨e, _⟩ | ⟨g2, cap2, cur, e, hb, hg, hnc, hcm, hcs, htk⟩
  · cases e
  · injection e with e1 e2 e3
    injection e1 with e1
    injection e1 with e1
    subst e1 e3
    rw [← htk, List.getElem?_take] at hu
    split at hu
    · simp [World.cell?, hg]
      simpa using hu
    · cases hu
theorem OwnM.room {w : World} {base g n cap : Nat} {rs : List (Int × Value)} (h : OwnM w base (.slice (some ⟨g, 0, none⟩) n cap) rs) : n = rs.length ∧ n ≤ cap ∧ cap ≤ maxLen ∧ ∃ cur, Blk w g cur 120 ∧ cur.size = cap * 2 ∧ base ≤ g ∧ cur.toList.take (rs.length * 2) = mcells rs := by
  rcases h.2 with ⟨e, _⟩ | ⟨g2, cap2, cur, e, hb, hg, hnc, hcm, hcs, htk⟩
  · cases e
  · injection e with e1 e2 e3
    injection e1 with e1
    injection e1 with e1
    subst e1 e3
    exact ⟨e2, by omega, hcm, cur, hg, hcs, hb, htk⟩
/-- What stands behind a row's cells is turned. -/
theorem OwnM.over {w : World} {base : Nat} {g n cap k : Nat} {rs : List (Int × Value)} {z : Value} (h : OwnM w base (.slice (some ⟨g, 0, none⟩) n cap) rs) (hk : rs.length * 2 ≤ k) : OwnM (w.setCell ⟨g, k, none⟩ z) base (.slice (some ⟨g, 0, none⟩) n cap) rs := by
  refine ⟨h.1, .inr ?_⟩
  rcases h.2 with ⟨e, _⟩ | ⟨g2, cap2, cur, e, hb, hg, hnc, hcm, hcs, htk⟩
  · cases e
  · injection e with e1 e2 e3
    injection e1 with e1
    injection e1 with e1
    subst e1 e3
    refine ⟨g, cap, cur.setIfInBounds k z, by rw [e2], hb, ?_, hnc, hcm, by simp [hcs], ?_⟩
    · exact Blk.set (g := g) (o := k) (c := cur) hg z
    · rw [← htk]
      simp only [Array.toList_setIfInBounds]
      rw [List.take_set_of_le (by omega)]
theorem add_cell {w : World} {g o j : Nat} {u : Value} (h : w.cell? ⟨g, o + j, none⟩ = some u) : w.cell? ((⟨g, o, none⟩ : Addr).add j) = some u := by
  unfold Addr.add
  split
  · rename_i hz
    subst hz
    simpa using h
  · exact h
section
variable {W : World} {N : Nat} {lv tv : Value}
set_option maxRecDepth 100000 in
set_option maxHeartbeats 1600000 in
theorem mrow_put (rs : List (Int × Value)) (to : Int) (v : Value) (g0 c0 : Nat) (h : Blk W N #[lv, tv, .bool true] 64) (ho : OwnM W 0 tv rs) (hne : tv.ownBlock ≠ some N) (hv : ∃ a n c, v = .slice a n c) (hb0 : ∃ t, Blk W g0 #[iv to, v] t) (hl : (rs.length + 1) * 32 ≤ 140737488355328) :
    Calls Tryz.prog 54 #[.pointer (some ⟨N, 1, none⟩), .slice (some ⟨g0, 0, none⟩) 1 c0] W fun e w' => (∃ x, e = .returned x) ∧ ∃ tv', Blk w' N #[lv, tv', .bool true] 64 ∧ OwnM w' 0 tv' (rs ++ [(to, v)]) ∧ (tv'.ownBlock = tv.ownBlock ∨ tv'.ownBlock = some W.heap.size) ∧ Ext (fun b => b = N ∨ tv.ownBlock = some b) W w' := by
  obtain ⟨i0, hi, hz0, hz1, hz2⟩ := info_parts2 info_msg
  obtain ⟨t0, kb⟩ := hb0
  obtain ⟨va, vn, vc, hvf⟩ := hv
  subst hvf
  obtain ⟨tv', w1, hr, h1, h2, _, h3⟩ := run_append_own_at (P := Tryz.prog) W 0 60 60 120 i0 _ 2 32 Tryz.underlying60 hi hz0 hz1 hz2 rfl (by decide) tv rs.length (mcells rs) ho ⟨g0, 0, none⟩ 1 c0 (mcells [(to, .slice va vn vc)]) rfl (fun j u hu => add_cell (by
      rw [Nat.zero_add]
      refine kb.cell ?_
      match j, hu with
      | 0, hu => exact hu
      | 1, hu => exact hu
      | j + 2, hu => simp [mcells] at hu)) (Slicy.one (fun r hr => by simp at hr; subst hr; exact ⟨_, _, _, rfl⟩)) (by unfold maxLen; omega) hl (Nat.zero_le _)
  rw [← mcells_append] at h1
  have h1' : OwnM w1 0 tv' (rs ++ [(to, .slice va vn vc)]) := by unfold OwnM; rw [List.length_append]; exact h1
  have c0 := h.cell (o := 1) rfl
  have hx : Ext (fun b => b = N ∨ tv.ownBlock = some b) W w1 := (Ext.refl _ W).grown h2 (fun k e => .inl (.inr e))
  have k1 : Blk w1 N #[lv, tv, .bool true] 64 := h.ext ((Ext.refl (fun b => tv.ownBlock = some b) W).grown h2 (fun k e => .inl e)) hne
  have hN1 : tv'.ownBlock ≠ some N := fun e => by
    rcases h3 with h3 | h3
    · exact hne (by rw [← h3]; exact e)
    · rw [h3] at e
      injection e with e
      have := h.lt
      omega
  have c1 := k1.cell (o := 1) rfl
  have f1 := k1.free 1
  have HF := hid (And.intro (k1.set (o := 1) tv') (And.intro ((h1'.ext ((Ext.refl (fun b => b = N) w1).setCell (a := ⟨N, 1, none⟩) (.inl rfl) tv') (fun k hk e => by subst e; exact hN1 hk)) : OwnM (w1.setCell ⟨N, 1, none⟩ tv') 0 tv' (rs ++ [(to, .slice va vn vc)])) (And.intro h3 (hx.setCell (a := ⟨N, 1, none⟩) (.inl (.inl rfl)) tv'))))
  have hl1 : ∃ a n c, tv = .slice a n c := by
    rcases ho.form with ⟨e, _⟩ | ⟨g, c, e⟩
    · exact ⟨_, _, _, e⟩
    · exact ⟨_, _, _, e⟩
  have hl2 : ∃ a n c, tv' = .slice a n c := by
    rcases h1'.form with ⟨e, _⟩ | ⟨g, c, e⟩
    · exact ⟨_, _, _, e⟩
    · exact ⟨_, _, _, e⟩
  obtain ⟨a1, n1, q1, rfl⟩ := hl1
  obtain ⟨a2, n2, q2, rfl⟩ := hl2
  clear hx k1 hN1 ho h h1 h1' h2 h3 hi hz0 hz1 hz2 hne hl kb
  go_enter Tryz.func54, Tryz.ntmps54
  go_wp2_with (at_builtin; refine wpList_val rfl (exec_append rfl hr) ?_)
  go_end0
  refine ⟨⟨_, rfl⟩, _, ?_, HF.out.2.1, HF.out.2.2.1, HF.out.2.2.2⟩
  simpa using HF.out.1
end
end Go.Proofs.YtbahjinlcbjikaaGreat
