import Derived.Test.YtcdcjoofcbdilaaGreatMQMs
/-! Package net: a message that goes. -/
namespace Go.Proofs.YtcdcjoofcbdilaaGreat
open Go.RowKit

theorem szmsg : (Tryz.prog.info? 130).map (·.size) = some 2 := by kernel_rfl
def sla2 (a : Option Addr) (c lo : Nat) : Option Addr := if c = lo then a else a.map (·.add (lo * 2))
section
variable {P : Program} {T E : TypeId} (hT : P.underlying T = some (.slice E)) (hE : (P.info? E).map (·.size) = some 2)
include hE in
theorem size_two (W : World) : (sizeOf E).run P W = .ok 2 W := by
  cases hq : P.info? E with
  | none => simp [hq] at hE
  | some i =>
    simp [hq] at hE
    simp [sizeOf, typeInfo, hq, hE]
include hT hE
theorem run_slice_m2 (a : Option Addr) (n c : Nat) (lo hi mx : Int) (h0 : 0 ≤ lo) (h1 : lo ≤ hi) (h2 : hi ≤ mx) (h3 : mx ≤ c) (W : World) :
    (Instr.slice T (.slice a n c) (some (.int .i64 lo)) (some (.int .i64 hi)) (some (.int .i64 mx))).run P W = .ok (.slice (sla2 a mx.toNat lo.toNat) (hi.toNat - lo.toNat) (mx.toNat - lo.toNat)) W := by
  have hs := size_two hE W
  have e1 : ∀ (code : BoundsCode), (Instr.sliceBound (.int .i64 mx) c code).run P W = .ok mx.toNat W := fun code => run_sliceBound (P := P) (w := W) .i64 mx c code (by omega) h3
  have e1' : ∀ (code : BoundsCode), (Instr.sliceBound (.int .i64 hi) mx.toNat code).run P W = .ok hi.toNat W := fun code => run_sliceBound (P := P) (w := W) .i64 hi mx.toNat code (by omega) (by omega)
  have e2 : ∀ (code : BoundsCode), (Instr.sliceBound (.int .i64 lo) hi.toNat code).run P W = .ok lo.toNat W := fun code => run_sliceBound (P := P) (w := W) .i64 lo hi.toNat code h0 (by omega)
  simp [Instr.slice, Instr.sliceBounds, run_underlying hT, e1, e1', e2, hs, sla2, Sem.run_bind]
theorem run_slice_b2 (a : Option Addr) (n c : Nat) (lo hi : Int) (h0 : 0 ≤ lo) (h1 : lo ≤ hi) (h2 : hi ≤ c) (W : World) :
    (Instr.slice T (.slice a n c) (some (.int .i64 lo)) (some (.int .i64 hi)) none).run P W = .ok (.slice (sla2 a c lo.toNat) (hi.toNat - lo.toNat) (c - lo.toNat)) W := by
  have hs := size_two hE W
  have e1 : ∀ (code : BoundsCode), (Instr.sliceBound (.int .i64 hi) c code).run P W = .ok hi.toNat W := fun code => run_sliceBound (P := P) (w := W) .i64 hi c code (by omega) h2
  have e2 : ∀ (code : BoundsCode), (Instr.sliceBound (.int .i64 lo) hi.toNat code).run P W = .ok lo.toNat W := fun code => run_sliceBound (P := P) (w := W) .i64 lo hi.toNat code h0 (by omega)
  simp [Instr.slice, Instr.sliceBounds, run_underlying hT, e1, e2, hs, sla2, Sem.run_bind]
theorem run_slice_from2 (a : Option Addr) (n c : Nat) (lo : Int) (h0 : 0 ≤ lo) (h1 : lo ≤ n) (W : World) :
    (Instr.slice T (.slice a n c) (some (.int .i64 lo)) none none).run P W = .ok (.slice (sla2 a c lo.toNat) (n - lo.toNat) (c - lo.toNat)) W := by
  have hs := size_two hE W
  have e2 : ∀ (code : BoundsCode), (Instr.sliceBound (.int .i64 lo) n code).run P W = .ok lo.toNat W := fun code => run_sliceBound (P := P) (w := W) .i64 lo n code h0 (by omega)
  simp [Instr.slice, Instr.sliceBounds, run_underlying hT, e2, hs, sla2, Sem.run_bind]
theorem run_slice_to2 (g : Nat) (n c : Nat) (hi : Int) (h0 : 0 ≤ hi) (h1 : hi ≤ c) (W : World) :
    (Instr.slice T (.slice (some ⟨g, 0, none⟩) n c) none (some (.int .i64 hi)) none).run P W = .ok (.slice (some ⟨g, 0, none⟩) hi.toNat c) W := by
  have hs := size_two hE W
  have e1 : ∀ (code : BoundsCode), (Instr.sliceBound (.int .i64 hi) c code).run P W = .ok hi.toNat W := fun code => run_sliceBound (P := P) (w := W) .i64 hi c code h0 h1
  by_cases hc : c = 0
  · subst hc
    simp [Instr.slice, Instr.sliceBounds, run_underlying hT, e1, hs, Sem.run_bind]
  · simp [Instr.slice, Instr.sliceBounds, run_underlying hT, e1, hs, Sem.run_bind, Addr.add]
end
/-- clear of one message. -/
theorem run_clear2 {P : Program} {T E : TypeId} (w : World) (ty : TypeId) (z1 z2 : Value) (ht : P.underlying T = some (.slice E)) (hv : ∀ w, (zeroValue E).run P w = .ok (.agg #[z1, z2]) w) (h1 : z1.oneCell' = true) (h2 : z2.oneCell' = true) (hz : (Value.agg #[z1, z2]).cells = #[z1, z2]) (b o c : Nat)
    (hc : ∀ j, j < 2 → (w.cell? ⟨b, o + j, none⟩).isSome = true) (hf : ∀ j, j < 2 → w.frozen? ⟨b, o + j, none⟩ = false) :
    (Builtin.clear_ #[T] ty #[.slice (some ⟨b, o, none⟩) 1 c]).run P w = .ok (.tuple #[]) ((w.setCell ⟨b, o, none⟩ z1).setCell ⟨b, o + 1, none⟩ z2) := by
  have hzc : (Builtin.zeroCells (Value.agg #[z1, z2]).cells 1).toList = [z1, z2] := by
    rw [hz]
    simp [Builtin.zeroCells]
    rfl
  have hst := run_storeCells_cells (P := P) b o [z1, z2] 0 w (by simpa using hc) (by simpa using hf) (by intro v hv'; simp at hv'; rcases hv' with rfl | rfl; exact h1; exact h2)
  simp only [Nat.add_zero] at hst
  have he : w.setCells b o [z1, z2] = (w.setCell ⟨b, o, none⟩ z1).setCell ⟨b, o + 1, none⟩ z2 := rfl
  rw [he] at hst
  simp [Builtin.clear_, run_underlying ht, hv, hzc, hst]
section
variable {W : World} {N : Nat} {lv tv : Value}
set_option maxRecDepth 100000 in
set_option maxHeartbeats 1600000 in
theorem delete_msg (base g n cap k : Nat) (m : Int × Value) (pre post : List (Int × Value)) (h : OwnM W base (.slice (some ⟨g, 0, none⟩) (n + 1) cap) (pre ++ m :: post)) (hs : Slicy (pre ++ m :: post)) (hk : pre.length = k) (hl : pre.length + post.length = n) :
    Calls Tryz.prog 111 #[.slice (some ⟨g, 0, none⟩) (n + 1) cap, .int .i64 (k : Int), .int .i64 ((k : Int) + 1)] W fun e w' => e = .returned (.slice (some ⟨g, 0, none⟩) n cap) ∧ OwnM w' base (.slice (some ⟨g, 0, none⟩) n cap) (pre ++ post) ∧ Ext (fun b => b = g) W w' := by
  obtain ⟨hx9, hcap, hmax, cur, hblk, hcur, hbg, htk⟩ := h.room
  clear hx9
  unfold maxLen at hmax
  have hkn : k ≤ n := by omega
  obtain ⟨i0, hi, hz0, hz1, hz2⟩ := info_parts2 info_msg
  have hs1 := fun (w : World) => run_slice_m2 (P := Tryz.prog) Tryz.underlying52 szmsg (some ⟨g, 0, none⟩) (n + 1) cap (k : Int) ((k : Int) + 1) ((n + 1 : Nat) : Int) (by omega) (by omega) (by omega) (by omega) w
  have hs2 := fun (w : World) => run_slice_to2 (P := Tryz.prog) Tryz.underlying52 szmsg g (n + 1) cap (k : Int) (by omega) (by omega) w
  have hs3 := fun (w : World) => run_slice_from2 (P := Tryz.prog) Tryz.underlying52 szmsg (some ⟨g, 0, none⟩) (n + 1) cap ((k : Int) + 1) (by omega) (by omega) w
  have e1 : ((k : Int) + 1).toNat = k + 1 := by omega
  have e0 : (k : Int).toNat = k := rfl
  have hsla : sla2 (some ⟨g, 0, none⟩) cap (k + 1) = (if cap = k + 1 then some ⟨g, 0, none⟩ else some ⟨g, (k + 1) * 2, none⟩) := by
    unfold sla2
    by_cases h9 : cap = k + 1
    · simp [h9]
    · simp [h9, Addr.add]
  obtain ⟨sa, hsa⟩ : ∃ sa, (if cap = k + 1 then some (⟨g, 0, none⟩ : Addr) else some ⟨g, (k + 1) * 2, none⟩) = sa := ⟨_, rfl⟩
  rw [e1, hsla, hsa, show n + 1 - (k + 1) = n - k from by omega] at hs3
  rw [e0] at hs2
  clear e1 e0 hsla
  have hown0 : OwnM W base (.slice (some ⟨g, 0, none⟩) k cap) pre := by
    refine ⟨by rw [mcells_length], .inr ⟨g, cap, cur, by rw [hk], hbg, hblk, by omega, by unfold maxLen; omega, hcur, ?_⟩⟩
    have h2 := congrArg (List.take (pre.length * 2)) htk
    rw [List.take_take, mcells_append, List.take_append_of_le_length (by rw [mcells_length]; omega), List.take_of_length_le (l := mcells pre) (by rw [mcells_length]; omega)] at h2
    rw [← h2, Nat.min_eq_left (by simp; omega), hk]
  have hcell : ∀ (j : Nat) (u : Value), (mcells post)[j]? = some u → W.cell? ⟨g, (k + 1) * 2 + j, none⟩ = some u := fun j u hu => h.cells (by
    rw [mcells_append, List.getElem?_append_right (by rw [mcells_length]; omega), mcells_length, hk, mcells_cons]
    rw [show (k + 1) * 2 + j - k * 2 = j + 2 from by omega]
    exact hu)
  have HAP : Hid (∃ w', (Builtin.append_ #[52, 52] 52 #[.slice (some ⟨g, 0, none⟩) k cap, .slice sa (n - k) (cap - (k + 1))]).run Tryz.prog W.drew = .ok (.slice (some ⟨g, 0, none⟩) n cap) w' ∧ OwnM w' base (.slice (some ⟨g, 0, none⟩) n cap) (pre ++ post) ∧ Ext (fun b => b = g) W w') := by
    refine hid ?_
    have hsrc : ∃ ad, sa = some ad ∧ ∀ (j : Nat) (u : Value), (mcells post)[j]? = some u → W.drew.cell? (ad.add j) = some u := by
      by_cases hc1 : cap = k + 1
      · rw [if_pos hc1] at hsa
        refine ⟨_, hsa.symm, fun j u hu => ?_⟩
        have : post = [] := List.eq_nil_of_length_eq_zero (by omega)
        subst this
        simp [mcells] at hu
      · rw [if_neg hc1] at hsa
        refine ⟨_, hsa.symm, fun j u hu => ?_⟩
        exact add_cell (w := W.drew) (hcell j u hu)
    obtain ⟨ad, rfl, hsrc⟩ := hsrc
    obtain ⟨w', h1, h2, h3⟩ := run_append_fits (P := Tryz.prog) W.drew base 52 52 130 i0 2 Tryz.underlying52 hi hz1 g k cap (mcells pre) (by unfold OwnM at hown0; rw [hk] at hown0; exact hown0) ad (n - k) (cap - (k + 1)) (mcells post) (by rw [mcells_length]; omega) hsrc (Slicy.one (fun r hr => hs r (by simp [hr]))) (by omega)
    have hkk : k + (n - k) = n := by omega
    rw [hkk] at h1 h2
    refine ⟨w', h1, ?_, ?_⟩
    · unfold OwnM
      rw [List.length_append, hl, mcells_append]
      exact h2
    · exact ((Ext.refl (fun b => b = g) W).drew).grown h3 (fun k e => by cases e; exact .inl rfl)
  have hzv : ∀ w, (zeroValue 130).run Tryz.prog w = .ok (.agg #[.int .i64 0, .slice none 0 0]) w := fun w => by kernel_rfl
  have Hl := hid hl
  have Hcur := hid hcur
  have hne : ((k : Int) == (k : Int) + 1) = false := beq_eq_false_iff_ne.2 (by omega)
  clear h hblk hown0 hcell hi hz0 hz1 hz2 hsa hcur hl htk hs hk
  go_enter Tryz.func111, Tryz.ntmps111
  go_wp2_with fail
  refine wp_region_tail 6 rfl Stays (fun i v x => match i with
      | 0 => v = .slice (some ⟨g, 0, none⟩) (n + 1) cap
      | 1 => v = .int .i64 (k : Int)
      | 2 => v = .slice (some ⟨g, 0, none⟩) k cap
      | 3 => v = .slice (some ⟨g, 0, none⟩) (n + 1) cap
      | 4 => v = .int .i64 ((k : Int) + 1)
      | 5 => v = .slice sa (n - k) (cap - (k + 1))
      | _ => True) (by kernel_rfl) (Stays.refl _) Stays.trans ?rstab ?rsteps ?rfin
  case rstab =>
    intro i v x y hg h
    match i with
    | 0 | 1 | 2 | 3 | 4 | 5 => exact h
    | n + 6 => trivial
  case rsteps =>
    simp only [List.take_succ_cons, List.take_zero]
    refine ⟨?_, ?_, ?_, ?_, ?_, ?_, trivial⟩
    · intro a x hA
      have t0 := hA.at_ 0 (by first | rfl | kernel_rfl) rfl
      refine step_value (w' := x) (v := .slice (some ⟨g, 0, none⟩) (n + 1) cap) ?_ (Stays.refl _) ?_
      · go_simp
      · rfl
    · intro a x hA
      have t1 := hA.at_ 1 (by first | rfl | kernel_rfl) rfl
      refine step_value (w' := x) (v := .int .i64 (k : Int)) ?_ (Stays.refl _) ?_
      · go_simp
      · rfl
    · intro a x hA
      have t20 : a.tmps[20]?.getD undef = .slice (some ⟨g, 0, none⟩) (n + 1) cap := hA.dep_ ⟨0, .data⟩ (by simp) _ 20 rfl rfl
      have t21 : a.tmps[21]?.getD undef = .int .i64 (k : Int) := hA.dep_ ⟨1, .data⟩ (by simp) _ 21 rfl rfl
      have hq := hs2 x
      refine step_value (w' := x) (v := .slice (some ⟨g, 0, none⟩) k cap) ?_ (Stays.refl _) rfl
      go_simp
    · intro a x hA
      have t0 := hA.at_ 0 (by first | rfl | kernel_rfl) rfl
      refine step_value (w' := x) (v := .slice (some ⟨g, 0, none⟩) (n + 1) cap) ?_ (Stays.refl _) ?_
      · go_simp
      · rfl
    · intro a x hA
      have t2 := hA.at_ 2 (by first | rfl | kernel_rfl) rfl
      refine step_value (w' := x) (v := .int .i64 ((k : Int) + 1)) ?_ (Stays.refl _) ?_
      · go_simp
      · rfl
    · intro a x hA
      have t23 : a.tmps[23]?.getD undef = .slice (some ⟨g, 0, none⟩) (n + 1) cap := hA.dep_ ⟨3, .data⟩ (by simp) _ 23 rfl rfl
      have t24 : a.tmps[24]?.getD undef = .int .i64 ((k : Int) + 1) := hA.dep_ ⟨4, .data⟩ (by simp) _ 24 rfl rfl
      have hq := hs3 x
      refine step_value (w' := x) (v := .slice sa (n - k) (cap - (k + 1))) ?_ (Stays.refl _) rfl
      go_simp
  case rfin =>
    intro y W' hg hV
    simp only [List.take_succ_cons, List.take_zero, AllVals] at hV
    obtain ⟨_, _, u2, _, _, u5, _⟩ := hV
    obtain rfl : W' = W.drew := hg
    simp only [List.take_succ_cons, List.take_zero, List.drop_succ_cons, List.drop_zero, putAll, Act.put, List.setIfInBounds_toArray, List.set_cons_zero, List.set_cons_succ]
    rw [u2, u5]
    obtain ⟨w6, hr, o6, x6⟩ := HAP.out
    obtain ⟨-, hcap6, -, cur6, k6, z6, -, -⟩ := o6.room
    have hs4 := fun (w : World) => run_slice_b2 (P := Tryz.prog) Tryz.underlying52 szmsg (some ⟨g, 0, none⟩) n cap ((n : Nat) : Int) ((n + 1 : Nat) : Int) (by omega) (by omega) (by omega) w
    have e7 : sla2 (some ⟨g, 0, none⟩) cap n = some ⟨g, n * 2, none⟩ := by
      unfold sla2
      rw [if_neg (by omega)]
      by_cases h0 : n = 0
      · subst h0; rfl
      · simp [Addr.add]
        omega
    have hcl : (Builtin.clear_ #[52] 0 #[.slice (some ⟨g, n * 2, none⟩) 1 (cap - n)]).run Tryz.prog w6 = .ok (.tuple #[]) ((w6.setCell ⟨g, n * 2, none⟩ (.int .i64 0)).setCell ⟨g, n * 2 + 1, none⟩ (.slice none 0 0)) :=
      run_clear2 (P := Tryz.prog) w6 0 _ _ Tryz.underlying52 hzv rfl rfl rfl g (n * 2) (cap - n) (fun j hj => by
        obtain ⟨cv, hcv⟩ : ∃ cv, cur6[n * 2 + j]? = some cv := ⟨cur6[n * 2 + j]'(by omega), by simp⟩
        rw [k6.cell hcv]
        rfl) (fun j hj => k6.free _)
    have hl2 : (pre ++ post).length * 2 ≤ n * 2 := Nat.le_of_eq (by rw [List.length_append, Hl.out])
    have HF := hid (And.intro ((o6.over (z := .int .i64 0) hl2).over (k := n * 2 + 1) (z := .slice none 0 0) (by omega)) ((x6.setCell (a := ⟨g, n * 2, none⟩) (.inl rfl) (.int .i64 0)).setCell (a := ⟨g, n * 2 + 1, none⟩) (.inl rfl) (.slice none 0 0)))
    have e9 : (n : Int).toNat = n := rfl
    have e8 : ((n + 1 : Nat) : Int).toNat = n + 1 := rfl
    rw [e8, e9, e7, show n + 1 - n = 1 from by omega] at hs4
    clear e8 e9 e7 u2 u5 hs1 hs2 hs3 o6 x6 k6 hl2 hcap6
    go_wp2_with (at_builtin; refine wpList_val rfl (exec_append rfl hr) ?_)
    go_ret
    exact ⟨rfl, HF.out.1, HF.out.2⟩
end
end Go.Proofs.YtcdcjoofcbdilaaGreat

/-! Package net: the kth message goes. -/
namespace Go.Proofs.YtcdcjoofcbdilaaGreat
open Go.RowKit

theorem size_msg : (Tryz.prog.info? 130).map (·.size) = some 2 := by kernel_rfl
section
variable {W : World} {N : Nat} {lv tv : Value}
/-- What take gives back. -/
def TakePost (W : World) (N : Nat) (lv tv : Value) (m : Int × Value) (ok : Bool) (rs : List (Int × Value)) (e : Ending) (w' : World) : Prop :=
  e = .returned (.tuple #[.agg #[iv m.1, m.2], .bool ok]) ∧ ∃ tv', Blk w' N #[lv, tv', .bool true] 56 ∧ OwnM w' 0 tv' rs ∧ tv'.ownBlock = tv.ownBlock ∧ Ext (fun b => b = N ∨ tv.ownBlock = some b) W w'
set_option maxRecDepth 100000 in
set_option maxHeartbeats 1600000 in
theorem mrow_take (rs : List (Int × Value)) (k : Nat) (to : Int) (va : Option Addr) (vn vc : Nat) (h : Blk W N #[lv, tv, .bool true] 56) (ho : OwnM W 0 tv rs) (hs : Slicy rs) (hne : tv.ownBlock ≠ some N) (hm : rs[k]? = some (to, .slice va vn vc)) :
    Calls Tryz.prog 71 #[.pointer (some ⟨N, 1, none⟩), .int .i64 (k : Int)] W (TakePost W N lv tv (to, .slice va vn vc) true (rs.eraseIdx k)) := by
  obtain ⟨hkl, hke⟩ := List.getElem?_eq_some_iff.1 hm
  obtain ⟨n, hn⟩ : ∃ n, rs.length = n + 1 := ⟨rs.length - 1, by omega⟩
  obtain ⟨g, cap, rfl⟩ : ∃ g c, tv = .slice (some ⟨g, 0, none⟩) (n + 1) c := by
    rcases ho.form with ⟨_, e⟩ | ⟨g, c, e⟩
    · subst e; simp at hkl
    · rw [hn] at e; exact ⟨g, c, e⟩
  have hca := ho.cells (mcells_at hm).1
  have hcb := ho.cells (mcells_at hm).2
  have hsplit : rs = rs.take k ++ (to, .slice va vn vc) :: rs.drop (k + 1) := by
    have h1 := List.drop_eq_getElem_cons hkl
    rw [hke] at h1
    rw [← h1, List.take_append_drop]
  have herase : rs.eraseIdx k = rs.take k ++ rs.drop (k + 1) := List.eraseIdx_eq_take_drop_succ rs k
  have hlk : (rs.take k).length = k := by simp; omega
  have hlp : (rs.take k).length + (rs.drop (k + 1)).length = n := by simp; omega
  have hgN : N ≠ g := fun e => hne (by rw [e]; rfl)
  have hgl : g < W.heap.size := ho.lt g rfl
  have hNl := h.lt
  have c1 := h.cell (o := 1) rfl
  have hlt : (k : Int) < (n : Int) + 1 := by omega
  have hw : wrap64 ((k : Int) + 1) = (k : Int) + 1 := by
    obtain ⟨_, hcap, hmax, _⟩ := ho.room
    unfold maxLen at hmax
    unfold wrap64
    omega
  have HO := hid (And.intro h (And.intro ho (And.intro hs (And.intro hsplit (And.intro herase (And.intro hlk hlp))))))
  clear h ho hs hsplit herase hlk hlp hm hke hkl hne hn
  go_enter Tryz.func71, Tryz.ntmps71
  go_wp2_with fail
  obtain ⟨h, ho, hs, hsplit, herase, hlk, hlp⟩ := HO.out
  have b1 : Below W.heap.size W (W.alloc (.cells #[.int .i64 to, .slice va vn vc] 130)) := (Below.refl _ _).alloc (Nat.le_refl _) _
  have k1 : Blk (W.alloc (.cells #[.int .i64 to, .slice va vn vc] 130)) W.heap.size #[.int .i64 to, .slice va vn vc] 130 := Blk.new _ _ _
  have HD := delete_msg (W := W.alloc (.cells #[.int .i64 to, .slice va vn vc] 130)) 0 g n cap k (to, .slice va vn vc) (rs.take k) (rs.drop (k + 1)) (by rw [← hsplit]; exact ho.ext (fp := nofp) (Ext.ofBelow b1) (fun _ _ h => h)) (by rw [← hsplit]; exact hs) hlk hlp
  rw [← herase] at HD
  have HD2 := hid HD
  have hN1 := hid (h.keep b1)
  have hB1 := hid b1
  have hK1 := hid k1
  clear h ho hs hsplit herase hlk hlp HD hca hcb b1 k1 c1
  refine HD2.out.mono ?_
  rintro e w2 ⟨rfl, o2, x2⟩
  have k2 := hN1.out.ext x2 hgN
  have q2 := hK1.out.ext x2 (fun e => by have e2 : W.heap.size = g := e; omega)
  have c2 := k2.cell (o := 1) rfl
  have f2 := k2.free 1
  have y0 := q2.cell (o := 0) rfl
  have y1 := q2.cell (o := 1) rfl
  have yf0 := q2.free 0
  have yf1 := q2.free 1
  have HF := hid (And.intro (k2.set (o := 1) (.slice (some ⟨g, 0, none⟩) n cap)) (And.intro ((o2.ext ((Ext.refl (fun b => b = N) w2).setCell (a := ⟨N, 1, none⟩) (.inl rfl) (.slice (some ⟨g, 0, none⟩) n cap)) (fun k hk e => by subst e; cases hk; exact hgN rfl)) : OwnM (w2.setCell ⟨N, 1, none⟩ (.slice (some ⟨g, 0, none⟩) n cap)) 0 (.slice (some ⟨g, 0, none⟩) n cap) (rs.eraseIdx k)) (((Ext.ofBelow hB1.out : Ext (fun b => b = N ∨ (Value.slice (some ⟨g, 0, none⟩) (n + 1) cap).ownBlock = some b) W _).trans' (x2.mono (fun b _ e => .inr (by rw [e]; rfl)))).setCell (a := ⟨N, 1, none⟩) (.inl (.inl rfl)) (.slice (some ⟨g, 0, none⟩) n cap))))
  have HQ := hid (q2.setOther (a := ⟨N, 1, none⟩) (by show W.heap.size ≠ N; omega) (.slice (some ⟨g, 0, none⟩) n cap))
  clear HD2 k2 o2 x2 q2 hN1 hB1 hK1
  go_wp2_with fail
  obtain ⟨WZ, hWZ⟩ : ∃ WZ, (((w2.setCell ⟨N, 1, none⟩ (.slice (some ⟨g, 0, none⟩) n cap)).setCell ⟨W.heap.size, 0, none⟩ (.int .i64 to)).setCell ⟨W.heap.size, 1, none⟩ (.slice va vn vc)) = WZ := ⟨_, rfl⟩
  have kZ := (HQ.out.set (o := 0) (.int .i64 to)).set (o := 1) (.slice va vn vc)
  rw [hWZ] at kZ
  simp only [List.setIfInBounds_toArray, List.set_cons_zero, List.set_cons_succ] at kZ
  have xZ : Ext (fun b => b = W.heap.size) (w2.setCell ⟨N, 1, none⟩ (.slice (some ⟨g, 0, none⟩) n cap)) WZ := by
    rw [← hWZ]
    exact ((Ext.refl (fun b => b = W.heap.size) _).setCell (a := ⟨W.heap.size, 0, none⟩) (.inl rfl) _).setCell (a := ⟨W.heap.size, 1, none⟩) (.inl rfl) _
  rw [hWZ]
  have hld := run_loadVar_row (P := Tryz.prog) WZ W.heap.size 130 130 _ (0, 0) _ kZ Tryz.underlying130 rfl size_msg
  refine bodyPost_ret (v := .tuple #[.agg #[.int .i64 to, .slice va vn vc], .bool true]) ?_ rfl ?_
  · simp [results, Tryz.results71, hld, asAddr]
  · obtain ⟨z1, z2, z3⟩ := HF.out
    simp only [List.setIfInBounds_toArray, List.set_cons_zero, List.set_cons_succ] at z1
    refine ⟨rfl, _, z1.ext xZ (fun e => by have e2 : N = W.heap.size := e; omega), z2.ext xZ (fun q hq e => by cases hq; have e2 : g = W.heap.size := e; omega), rfl, z3.trans xZ (fun b e => .inr (by have e2 : b = W.heap.size := e; omega))⟩
/-- There is no such message. -/
theorem mrow_take_no (rs : List (Int × Value)) (k : Int) (h : Blk W N #[lv, tv, .bool true] 56) (ho : OwnM W 0 tv rs) (hk : k < 0 ∨ (rs.length : Int) ≤ k) :
    Calls Tryz.prog 71 #[.pointer (some ⟨N, 1, none⟩), .int .i64 k] W (TakePost W N lv tv (0, .slice none 0 0) false rs) := by
  obtain ⟨a1, n1, q1, e1, en⟩ : ∃ a n c, tv = .slice a n c ∧ n = rs.length := by
    rcases ho.form with ⟨e, e2⟩ | ⟨g, c, e⟩
    · exact ⟨_, _, _, e, by rw [e2]; rfl⟩
    · exact ⟨_, _, _, e, rfl⟩
  subst e1
  have c1 := h.cell (o := 1) rfl
  have hk2 : k < 0 ∨ (n1 : Int) ≤ k := by omega
  have HO := hid (And.intro h ho)
  have hNl := h.lt
  clear h ho en hk
  by_cases h0 : k < 0
  case' pos =>
    have hd0 : decide (k < 0) = true := decide_eq_true h0
  case' neg =>
    have hd0 : decide (k < 0) = false := decide_eq_false h0
    have hd1 : decide (k ≥ (n1 : Int)) = true := decide_eq_true (by omega)
  all_goals
    go_enter Tryz.func71, Tryz.ntmps71
    go_wp2_with fail
    have kZ : Blk (W.alloc (.cells #[.int .i64 0, .slice none 0 0] 130)) W.heap.size #[.int .i64 0, .slice none 0 0] 130 := Blk.new _ _ _
    have hld := run_loadVar_row (P := Tryz.prog) _ W.heap.size 130 130 _ (0, 0) _ kZ Tryz.underlying130 rfl size_msg
    have b1 : Below W.heap.size W (W.alloc (.cells #[.int .i64 0, .slice none 0 0] 130)) := (Below.refl _ _).alloc (Nat.le_refl _) _
    refine bodyPost_ret (v := .tuple #[.agg #[.int .i64 0, .slice none 0 0], .bool false]) ?_ rfl ?_
    · simp [results, Tryz.results71, hld, asAddr]
    · exact ⟨rfl, _, HO.out.1.keep b1, HO.out.2.ext (fp := nofp) (Ext.ofBelow b1) (fun _ _ h => h), rfl, Ext.ofBelow b1⟩
end
end Go.Proofs.YtcdcjoofcbdilaaGreat

/-! Package net, on: Send of what is not late. -/
namespace Go.Proofs.YtcdcjoofcbdilaaGreat
open Go.RowKit

theorem mod5_nums (x : Int) : ∃ c, mod5 x = c ∧ (c = 0 ∨ c = 1 ∨ c = 2 ∨ c = 3 ∨ c = 4) ∧ wrap64 (x.tmod 5 + 5) = x.tmod 5 + 5 ∧ (x.tmod 5 + 5).tmod 5 = c := by
  have h1 := Int.lt_tmod_of_pos x (show (0 : Int) < 5 by omega)
  have h2 := Int.tmod_lt_of_pos x (show (0 : Int) < 5 by omega)
  have hb := mod5_bound x
  refine ⟨_, rfl, by omega, ?_, rfl⟩
  generalize x.tmod 5 = t at *
  unfold wrap64
  omega
theorem fate_eq (w : World) : (binOp .neq 132 (.agg #[.int .i64 0, .bool false]) (.agg #[.int .i64 0, .bool false])).run Tryz.prog w = .ok (.bool false) w := by kernel_rfl
theorem fate_1 (w : World) : (binOp .neq 132 (.agg #[.int .i64 1, .bool true]) (.agg #[.int .i64 0, .bool false])).run Tryz.prog w = .ok (.bool true) w := by kernel_rfl
theorem fate_2 (w : World) : (binOp .neq 132 (.agg #[.int .i64 1, .bool false]) (.agg #[.int .i64 0, .bool false])).run Tryz.prog w = .ok (.bool true) w := by kernel_rfl
theorem fate_3 (w : World) : (binOp .neq 132 (.agg #[.int .i64 2, .bool true]) (.agg #[.int .i64 0, .bool false])).run Tryz.prog w = .ok (.bool true) w := by kernel_rfl

section
variable {W : World} {N : Nat} {lv tv : Value}
theorem send_end {w w2 : World} {lv' : Value} {l : List Int} (h1 : Blk w N #[lv', tv, .bool true] 56) (h2 : OwnI w 0 3 lv' l) (h3 : lv'.ownBlock = lv.ownBlock) (h4 : Ext (fun b => b = N ∨ lv.ownBlock = some b) W w) (hb : Below w.heap.size w w2) :
    Blk w2 N #[lv', tv, .bool true] 56 ∧ OwnI w2 0 3 lv' l ∧ lv'.ownBlock = lv.ownBlock ∧ Ext (fun b => b = N ∨ lv.ownBlock = some b) W w2 :=
  ⟨h1.keep hb, OwnI.ext (fp := nofp) h2 (Ext.ofBelow hb) (fun _ _ h => h), h3, h4.then hb⟩
set_option maxRecDepth 100000 in
set_option maxHeartbeats 6400000 in
theorem net_Send_prompt (l : List Int) (to : Int) (ab : Option Addr) (nb cb : Nat) (h : Blk W N #[lv, tv, .bool true] 56) (ho : OwnI W 0 3 lv l) (hne : lv.ownBlock ≠ some N) (hf : mod5 (firstI l) ≠ 3) :
    Calls Tryz.prog 33 #[.pointer (some ⟨N, 0, none⟩), .int .i64 to, .slice ab nb cb] W fun e w' => e = .returned (.tuple #[.int .i64 (timesF (mod5 (firstI l)) : Int), .bool (replyF (mod5 (firstI l)))]) ∧ ∃ lv', Blk w' N #[lv', tv, .bool true] 56 ∧ OwnI w' 0 3 lv' l.tail ∧ lv'.ownBlock = lv.ownBlock ∧ Ext (fun b => b = N ∨ lv.ownBlock = some b) W w' := by
  have HP := hid (row_take lv l h ho hne)
  have HN := hid (net_none h)
  obtain ⟨c, hc, hcs, hw, hm⟩ := mod5_nums (firstI l)
  rw [hc] at hf ⊢
  generalize firstI l = z at *
  have q0 := fate_eq
  have q1 := fate_1
  have q2 := fate_2
  have q3 := fate_3
  clear h ho hne hc
  rcases hcs with rfl | rfl | rfl | rfl | rfl
  case inr.inr.inr.inl => exact absurd rfl hf
  all_goals
    clear hf
    go_enter Tryz.func33, Tryz.ntmps33
    go_wp2_with fail
    refine HN.out.mono ?_
    rintro e Wx ⟨rfl, hw9⟩
    rw [hw9]
    clear hw9 Wx
    go_wp2_with fail
    refine HP.out.mono ?_
    rintro e w' ⟨⟨x, rfl⟩, hp⟩
    have HH := hid hp
    clear hp
    go_wp2_with fail
    try (go_quiet (fail); go_wp2_with fail)
    go_ret2
    obtain ⟨lv', h1, h2, h3, h4⟩ := HH.out
    refine ⟨rfl, lv', ?_⟩
    first
      | exact send_end h1 h2 h3 h4 (((Below.refl _ _).alloc (Nat.le_refl _) _).alloc (by simp) _)
      | exact send_end h1 h2 h3 h4 (below_drewN (((Below.refl _ _).alloc (Nat.le_refl _) _).alloc (by simp) _) _)
end
end Go.Proofs.YtcdcjoofcbdilaaGreat
