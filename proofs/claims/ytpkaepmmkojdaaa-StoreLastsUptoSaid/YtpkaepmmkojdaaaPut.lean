import Derived.Test.YtpkaepmmkojdaaaMOpenB
/-! Package store, on: what entries do: put, seal, trim, do. -/
namespace Go.Proofs.Ytpkaepmmkojdaaa
open Go.RowKit

def stV (x : Int × Int × Bool) : Value := .agg #[.int .i64 x.1, .int .i64 x.2.1, .bool x.2.2]
def St.get (S : St) (k : Int) : Int × Int × Bool := (S.states k).getD (0, 0, false)
def St.setState (S : St) (k : Int) (x : Int × Int × Bool) : St := { S with states := fun j => if j = k then some x else S.states j }
def St.setSlot (S : St) (k : Int × Int) (l : List UInt8) : St := { S with slots := fun j => if j = k then some l else S.slots j }

theorem mput_has {K : Type} [DecidableEq K] (es : List (Ent K)) (k j : K) (v : Value) (c : Nat) : mhas (mput es k v c) j = (mhas es j || decide (j = k)) := by
  unfold mput
  split
  · rename_i h
    have e : mhas (es.map (fun e => if k = e.k then { e with v := v } else e)) j = mhas es j := by
      unfold mhas
      rw [List.any_map]
      congr 1
      funext e
      simp only [Function.comp]
      split <;> rfl
    rw [e]
    by_cases hjk : j = k
    · subst hjk; simp [h]
    · simp [hjk]
  · unfold mhas
    simp
theorem mput_mem {K : Type} [DecidableEq K] {es : List (Ent K)} {k : K} {v : Value} {c : Nat} {e : Ent K} (h : e ∈ mput es k v c) : (e.k = k ∧ e.v = v) ∨ (e.k ≠ k ∧ e ∈ es) := by
  unfold mput at h
  split at h
  · obtain ⟨e', he', rfl⟩ := List.mem_map.1 h
    by_cases hk : k = e'.k
    · simp [hk]
    · rw [if_neg hk]
      exact .inr ⟨fun e => hk e.symm, he'⟩
  · rename_i hh
    rw [List.mem_append] at h
    rcases h with h | h
    · refine .inr ⟨fun hk => ?_, h⟩
      exact hh (List.any_eq_true.2 ⟨e, h, by simp [hk]⟩)
    · simp only [List.mem_singleton] at h
      subst h
      exact .inl ⟨rfl, rfl⟩
theorem mget_mem {K : Type} [DecidableEq K] {es : List (Ent K)} {k : K} (h : mhas es k = true) : ∃ e ∈ es, e.k = k ∧ mget es k = some e.v := by
  obtain ⟨j, v, _, h2, e, h3, h4, h5⟩ := mfind_some 0 h
  exact ⟨e, List.mem_of_getElem? h3, h4, by rw [h2, h5]⟩

section
variable {W W1 : World} {q : StP} {S : St} {D : Dk}

set_option maxRecDepth 100000 in
theorem store_lookup (h : StAt W q S D) (k : Int) : (Instr.lookup 58 (.map (some q.mt)) (.int .i64 k) false).run Try.prog W = .ok (stV (S.get k)) W := by
  obtain ⟨es, c, hm, hr, hv⟩ := h.states
  have hlk := run_lookup_raw (P := Try.prog) (keyLaw_int Try.underlying3) hm Try.underlying58 k (z := .agg #[.int .i64 0, .int .i64 0, .bool false]) (fun w => by kernel_rfl) false
  simp only [Bool.false_eq_true, if_false, encI] at hlk
  rw [hlk]
  congr 1
  cases hh : mhas es k
  · have := hr k
    rw [hh] at this
    cases hs : S.states k with
    | none => rw [mget_none hh, St.get, hs]; rfl
    | some x => rw [hs] at this; cases this
  · obtain ⟨e, he, hk, hg⟩ := mget_mem hh
    obtain ⟨tl, tr, sl, q1, q2, _⟩ := hv e he
    rw [hk] at q1
    rw [hg, q2, St.get, q1]
    rfl
theorem St.get_form (S : St) (h : StAt W q S D) (k : Int) : ∃ tl tr sl, S.get k = (tl, tr, sl) ∧ 0 ≤ tl ∧ tl ≤ 281474976710656 ∧ 0 ≤ tr ∧ tr ≤ 281474976710656 := by
  obtain ⟨es, c, hm, hr, hv⟩ := h.states
  cases hs : S.states k with
  | none => exact ⟨0, 0, false, by rw [St.get, hs]; rfl, by omega, by omega, by omega, by omega⟩
  | some x =>
    have := hr k
    rw [hs] at this
    obtain ⟨e, he, hk⟩ := List.any_eq_true.1 this.symm
    simp only [decide_eq_true_eq] at hk
    obtain ⟨tl, tr, sl, q1, q2, q3⟩ := hv e he
    rw [← hk, hs] at q1
    cases q1
    exact ⟨tl, tr, sl, by rw [St.get, hs]; rfl, q3⟩

theorem store_update (h : StAt W q S D) (k tl tr : Int) (sl : Bool) (k1 : 0 ≤ tl) (k2 : tl ≤ 281474976710656) (k3 : 0 ≤ tr) (k4 : tr ≤ 281474976710656) :
    ∃ w', (Instr.mapUpdate 58 (.map (some q.mt)) (.int .i64 k) (.agg #[.int .i64 tl, .int .i64 tr, .bool sl])).run Try.prog W = .ok () w' ∧ StAt w' q (S.setState k (tl, tr, sl)) D ∧ Ext (fun b => b = q.mt) W w' := by
  obtain ⟨es, c, hm, hr, hv⟩ := h.states
  obtain ⟨w', hr2, hm2, hx⟩ := run_update_raw (P := Try.prog) (keyLaw_int Try.underlying3) hm Try.underlying58 k (.agg #[.int .i64 tl, .int .i64 tr, .bool sl])
  refine ⟨w', hr2, ?_, hx⟩
  have hall : ∀ b, b = q.mt → ¬ q.p.all b := fun b hb => by rw [hb]; exact h.ne.2.2.2.2.2
  constructor
  · exact h.cell.ext hx h.ne.2.1
  · exact h.disk.extAll hx hall
  · obtain ⟨es, c, hm, hr, hv⟩ := h.slots
    refine ⟨es, c, hm.ext hx h.ne.2.2.1, hr, fun e he => ?_⟩
    obtain ⟨l, q1, q2, q3⟩ := hv e he
    exact ⟨l, q1, q2.ext hx (fun b hb hu => (h.data b hu).1 (.inr (.inr hb))), q3⟩
  · refine ⟨_, _, hm2, fun j => ?_, fun e he => ?_⟩
    · rw [mput_has, ← hr j]
      unfold St.setState
      by_cases hj : j = k <;> simp [hj]
    · rcases mput_mem he with ⟨h1, h2⟩ | ⟨h1, h2⟩
      · exact ⟨tl, tr, sl, by simp [St.setState, h1], h2, k1, k2, k3, k4⟩
      · obtain ⟨tl', tr', sl', q1, q2, q3⟩ := hv e h2
        exact ⟨tl', tr', sl', by simp only [St.setState, h1, if_false]; exact q1, q2, q3⟩
  · exact h.ne
  · exact h.data
  · exact fun b hb => Nat.lt_of_lt_of_le (h.lt b hb) hx.size
  · exact h.bound

theorem store_slot (h : StAt W q S D) (k : Int × Int) (v : Value) (l : List UInt8) (hv : Bs W v l) (hl : l.length ≤ 65536) (hnew : ∀ g, v.ownBlock = some g → ¬ q.all g ∧ g < W.heap.size) :
    ∃ w', (Instr.mapUpdate 57 (.map (some q.ms)) (encS k) v).run Try.prog W = .ok () w' ∧ StAt w' { q with U := fun b => q.U b ∨ v.ownBlock = some b } (S.setSlot k l) D ∧ Ext (fun b => b = q.ms) W w' := by
  obtain ⟨es, c, hm, hr, hv2⟩ := h.slots
  obtain ⟨w', hr2, hm2, hx⟩ := run_update_raw (P := Try.prog) keyLaw_slot hm Try.underlying57 k v
  refine ⟨w', hr2, ?_, hx⟩
  have hall : ∀ b, b = q.ms → ¬ q.p.all b := fun b hb => by rw [hb]; exact h.ne.2.2.2.2.1
  constructor
  · exact h.cell.ext hx h.ne.1
  · exact h.disk.extAll hx hall
  · refine ⟨_, _, hm2, fun j => ?_, fun e he => ?_⟩
    · rw [mput_has, ← hr j]
      unfold St.setSlot
      by_cases hj : j = k <;> simp [hj]
    · rcases mput_mem he with ⟨h1, h2⟩ | ⟨h1, h2⟩
      · refine ⟨l, by simp [St.setSlot, h1], ⟨?_, fun g hg => .inr (by rw [← h2]; exact hg)⟩, hl⟩
        rw [h2]
        exact hv.ext hx (fun g hg _ hms => (hnew g hg).1 (.inl (.inr (.inl hms))))
      · obtain ⟨l', q1, q2, q3⟩ := hv2 e h2
        refine ⟨l', by simp only [St.setSlot, h1, if_false]; exact q1, ⟨(q2.ext hx (fun b hb hu => (h.data b hu).1 (.inr (.inl hb)))).1, fun g hg => .inl (q2.2 g hg)⟩, q3⟩
  · obtain ⟨es, c, hm, hr⟩ := h.states
    exact ⟨es, c, hm.ext hx (Ne.symm h.ne.2.2.1), hr⟩
  · exact h.ne
  · intro b hb
    rcases hb with hb | hb
    · exact h.data b hb
    · have := (hnew b hb).1
      exact ⟨fun hc => this (.inl (by
        rcases hc with hc | hc | hc
        · exact .inl hc
        · exact .inr (.inl hc)
        · exact .inr (.inr (.inl hc)))), fun hc => this (by
        rcases hc with hc | hc
        · exact .inl (.inr (.inr (.inr hc)))
        · exact .inr (.inr hc))⟩
  · intro b hb
    rcases hb with hb | hb
    · exact Nat.lt_of_lt_of_le (h.lt b hb) hx.size
    · exact Nat.lt_of_lt_of_le (hnew b hb).2 hx.size
  · exact h.bound

set_option maxRecDepth 100000 in
set_option maxHeartbeats 1600000 in
theorem store_seal (h : StAt W q S D) (kd lo po : Int) (v : Value) (l : List UInt8) (hv : Bs W v l) :
    Calls Try.prog 37 #[.pointer (some ⟨q.s, 0, none⟩), .agg #[.int .i64 kd, .int .i64 lo, .int .i64 po, v]] W fun e w' => (∃ v, e = .returned v) ∧ StAt w' q (S.setState lo ((S.get lo).1, (S.get lo).2.1, true)) D ∧ Ext (fun b => b = q.mt) W w' := by
  obtain ⟨av, cv, rfl⟩ := hv.form
  obtain ⟨W1, hW1⟩ : ∃ W1, W.alloc (.cells #[.int .i64 kd, .int .i64 lo, .int .i64 po, .slice av l.length cv] 62) = W1 := ⟨_, rfl⟩
  have b1 : Below W.heap.size W W1 := by rw [← hW1]; exact (Below.refl _ W).alloc (Nat.le_refl _) _
  obtain ⟨eb, heb⟩ : ∃ eb, eb = W.heap.size := ⟨_, rfl⟩
  have bE : Blk W1 eb #[.int .i64 kd, .int .i64 lo, .int .i64 po, .slice av l.length cv] 62 := by rw [← hW1, heb]; exact Blk.new W _ _
  have hS := h.keep b1
  obtain ⟨B0, hB0⟩ : ∃ B0, B0 = W1.heap.size := ⟨_, rfl⟩
  have HB := hid (Nat.le_of_eq hB0)
  clear hv
  go_enter Try.func37, Try.ntmps37
  go_wp2_with fail
  rw [← heb]
  have Heb := hid heb
  clear heb
  refine wp_region_tail 8 rfl Grows (fun i v x => match i with
      | 0 => v = .pointer (some ⟨q.s, 0, none⟩)
      | 1 => v = .pointer (some ⟨q.s, 0, none⟩)
      | 2 => v = .pointer (some ⟨q.s, 2, none⟩)
      | 3 => v = .map (some q.mt)
      | 4 => v = .pointer (some ⟨eb, 1, none⟩)
      | 5 => v = .int .i64 lo
      | 6 => v = stV (S.get lo)
      | 7 => ∃ g, v = .pointer (some ⟨g, 0, none⟩) ∧ B0 ≤ g ∧ Blk x g #[.int .i64 0, .int .i64 0, .bool false] 93
      | _ => True) (by kernel_rfl) (Grows.refl _) Grows.trans ?stab ?steps ?fin
  case stab =>
    intro i v x y hg h
    match i with
    | 0 | 1 | 2 | 3 | 4 | 5 | 6 => exact h
    | 7 => exact (by obtain ⟨g, e, hg1, hb⟩ := h; exact ⟨g, e, hg1, hb.keep hg⟩)
    | n + 8 => trivial
  case steps =>
    simp only [List.take_succ_cons, List.take_zero]
    refine ⟨?_, ?_, ?_, ?_, ?_, ?_, ?_, ?_, trivial⟩
    · intro a x hA
      have t0 := hA.at_ 0 (by rfl) rfl
      refine step_value (w' := x) (v := .pointer (some ⟨q.s, 0, none⟩)) ?_ (Grows.refl _) ?_
      · go_simp
      · rfl
    · intro a x hA
      have t5 : a.tmps[5]?.getD undef = .pointer (some ⟨q.s, 0, none⟩) := hA.dep_ ⟨0, .data⟩ (by simp) _ 5 rfl rfl
      refine step_value (w' := x) (v := .pointer (some ⟨q.s, 0, none⟩)) ?_ (Grows.refl _) ?_
      · go_simp
      · rfl
    · intro a x hA
      have t6 : a.tmps[6]?.getD undef = .pointer (some ⟨q.s, 0, none⟩) := hA.dep_ ⟨1, .data⟩ (by simp) _ 6 rfl rfl
      refine step_value (w' := x) (v := .pointer (some ⟨q.s, 2, none⟩)) ?_ (Grows.refl _) ?_
      · go_simp
      · rfl
    · intro a x hA
      have t7 : a.tmps[7]?.getD undef = .pointer (some ⟨q.s, 2, none⟩) := hA.dep_ ⟨2, .data⟩ (by simp) _ 7 rfl rfl
      have cS2 := (hS.keep hA.grown).cell.cell (o := 2) rfl
      have cE1 := (bE.keep hA.grown).cell (o := 1) rfl
      refine step_value (w' := x) (v := .map (some q.mt)) ?_ (Grows.refl _) ?_
      · go_simp
      · rfl
    · intro a x hA
      have t3 := hA.at_ 3 (by rfl) rfl
      refine step_value (w' := x) (v := .pointer (some ⟨eb, 1, none⟩)) ?_ (Grows.refl _) ?_
      · go_simp
      · rfl
    · intro a x hA
      have t9 : a.tmps[9]?.getD undef = .pointer (some ⟨eb, 1, none⟩) := hA.dep_ ⟨4, .data⟩ (by simp) _ 9 rfl rfl
      have cS2 := (hS.keep hA.grown).cell.cell (o := 2) rfl
      have cE1 := (bE.keep hA.grown).cell (o := 1) rfl
      refine step_value (w' := x) (v := .int .i64 lo) ?_ (Grows.refl _) ?_
      · go_simp
      · rfl
    · intro a x hA
      have t8 : a.tmps[8]?.getD undef = .map (some q.mt) := hA.dep_ ⟨3, .data⟩ (by simp) _ 8 rfl rfl
      have t10 : a.tmps[10]?.getD undef = .int .i64 lo := hA.dep_ ⟨5, .data⟩ (by simp) _ 10 rfl rfl
      have cS2 := (hS.keep hA.grown).cell.cell (o := 2) rfl
      have cE1 := (bE.keep hA.grown).cell (o := 1) rfl
      have hlk := store_lookup (hS.keep hA.grown) lo
      refine step_value (w' := x) (v := stV (S.get lo)) ?_ (Grows.refl _) ?_
      · generalize stV (S.get lo) = sv at *
        go_simp
      · rfl
    · intro a x hA
      have hsx := hA.grown.size
      refine step_value (w' := x.alloc (.cells #[.int .i64 0, .int .i64 0, .bool false] 93)) (v := .pointer (some ⟨x.heap.size, 0, none⟩)) ?_ (Grows.alloc _ _) ?_
      · go_simp
      · exact ⟨_, rfl, Nat.le_trans HB.out hsx, Blk.new _ _ _⟩
  case fin =>
    intro y W' hg hV
    simp only [List.take_succ_cons, List.take_zero, AllVals] at hV
    obtain ⟨u0, u1, u2, u3, u4, u5, u6, ⟨gx, u7, hgx, bX⟩, _⟩ := hV
    simp only [List.take_succ_cons, List.take_zero, List.drop_succ_cons, List.drop_zero, putAll, Act.put, List.setIfInBounds_toArray, List.set_cons_zero, List.set_cons_succ]
    have hgb : Below W1.heap.size W1 W' := ⟨hg.os, hg.tape, hg.output, hg.size, hg.block⟩
    obtain ⟨tl, tr, sl, hget, k1, k2, k3, k4⟩ := S.get_form hS lo
    rw [hget] at u6
    have hS2 := hS.keep hgb
    have bE2 := bE.keep hgb
    rw [u6, u7]
    clear u0 u1 u2 u3 u4 u5 u6 u7 hg
    have x0 := bX.cell (o := 0) rfl
    have x1 := bX.cell (o := 1) rfl
    have x2 := bX.cell (o := 2) rfl
    have f0 := bX.free 0
    have f1 := bX.free 1
    have f2 := bX.free 2
    have e2 := bE2.cell (o := 2) rfl
    simp only [stV]
    go_wp2_with fail
    have bX3 := (((bX.set (o := 0) (.int .i64 tl)).set (o := 1) (.int .i64 tr)).set (o := 2) (.bool sl)).set (o := 2) (.bool true)
    simp only [List.setIfInBounds_toArray, List.set_cons_zero, List.set_cons_succ] at bX3
    have x3 : Ext (fun b => b = gx) W' _ := ((((Ext.refl (fun b => b = gx) W').setCell (a := ⟨gx, 0, none⟩) (.inl rfl) (.int .i64 tl)).setCell (a := ⟨gx, 1, none⟩) (.inl rfl) (.int .i64 tr)).setCell (a := ⟨gx, 2, none⟩) (.inl rfl) (.bool sl)).setCell (a := ⟨gx, 2, none⟩) (.inl rfl) (.bool true)
    have hnall : ∀ b, b = gx → ¬ q.all b := fun b hb hq => by have := hS.size hq; omega
    have hS3 := hS2.ext x3 hnall
    have hebl := bE.lt
    have bE3 := bE2.ext x3 (by omega)
    clear x0 x1 x2 f0 f1 f2 e2 bX
    generalize (((W'.setCell ⟨gx, 0, none⟩ (.int .i64 tl)).setCell ⟨gx, 1, none⟩ (.int .i64 tr)).setCell ⟨gx, 2, none⟩ (.bool sl)).setCell ⟨gx, 2, none⟩ (.bool true) = W3 at *
    refine wp_region_tail 7 rfl Stays (fun i v x => match i with
        | 0 => v = .pointer (some ⟨q.s, 0, none⟩)
        | 1 => v = .pointer (some ⟨q.s, 0, none⟩)
        | 2 => v = .pointer (some ⟨q.s, 2, none⟩)
        | 3 => v = .map (some q.mt)
        | 4 => v = .pointer (some ⟨eb, 1, none⟩)
        | 5 => v = .int .i64 lo
        | 6 => v = .agg #[.int .i64 tl, .int .i64 tr, .bool true]
        | _ => True) (by kernel_rfl) (Stays.refl _) Stays.trans ?stab ?steps ?fin
    case stab =>
      intro i v x y hg h
      match i with
      | 0 | 1 | 2 | 3 | 4 | 5 | 6 => exact h
      | n + 7 => trivial
    case steps =>
      simp only [List.take_succ_cons, List.take_zero]
      refine ⟨?_, ?_, ?_, ?_, ?_, ?_, ?_, trivial⟩
      · intro a x hA
        have t0 := hA.at_ 0 (by rfl) rfl
        refine step_value (w' := x) (v := .pointer (some ⟨q.s, 0, none⟩)) ?_ (Stays.refl _) ?_
        · go_simp
        · rfl
      · intro a x hA
        have t13 : a.tmps[13]?.getD undef = .pointer (some ⟨q.s, 0, none⟩) := hA.dep_ ⟨0, .data⟩ (by simp) _ 13 rfl rfl
        refine step_value (w' := x) (v := .pointer (some ⟨q.s, 0, none⟩)) ?_ (Stays.refl _) ?_
        · go_simp
        · rfl
      · intro a x hA
        have t14 : a.tmps[14]?.getD undef = .pointer (some ⟨q.s, 0, none⟩) := hA.dep_ ⟨1, .data⟩ (by simp) _ 14 rfl rfl
        refine step_value (w' := x) (v := .pointer (some ⟨q.s, 2, none⟩)) ?_ (Stays.refl _) ?_
        · go_simp
        · rfl
      · intro a x hA
        have t15 : a.tmps[15]?.getD undef = .pointer (some ⟨q.s, 2, none⟩) := hA.dep_ ⟨2, .data⟩ (by simp) _ 15 rfl rfl
        have hxe : x = W3.drew := hA.grow
        have cS2 : x.cell? ⟨q.s, 2, none⟩ = some (.map (some q.mt)) := by rw [hxe]; exact hS3.cell.cell (o := 2) rfl
        have cE1 : x.cell? ⟨eb, 1, none⟩ = some (.int .i64 lo) := by rw [hxe]; exact bE3.cell (o := 1) rfl
        have cX0 : x.cell? ⟨gx, 0, none⟩ = some (.int .i64 tl) := by rw [hxe]; exact bX3.cell (o := 0) rfl
        have cX1 : x.cell? ⟨gx, 1, none⟩ = some (.int .i64 tr) := by rw [hxe]; exact bX3.cell (o := 1) rfl
        have cX2 : x.cell? ⟨gx, 2, none⟩ = some (.bool true) := by rw [hxe]; exact bX3.cell (o := 2) rfl
        clear hxe
        refine step_value (w' := x) (v := .map (some q.mt)) ?_ (Stays.refl _) ?_
        · go_simp
        · rfl
      · intro a x hA
        have t3 := hA.at_ 3 (by rfl) rfl
        refine step_value (w' := x) (v := .pointer (some ⟨eb, 1, none⟩)) ?_ (Stays.refl _) ?_
        · go_simp
        · rfl
      · intro a x hA
        have t17 : a.tmps[17]?.getD undef = .pointer (some ⟨eb, 1, none⟩) := hA.dep_ ⟨4, .data⟩ (by simp) _ 17 rfl rfl
        have hxe : x = W3.drew := hA.grow
        have cS2 : x.cell? ⟨q.s, 2, none⟩ = some (.map (some q.mt)) := by rw [hxe]; exact hS3.cell.cell (o := 2) rfl
        have cE1 : x.cell? ⟨eb, 1, none⟩ = some (.int .i64 lo) := by rw [hxe]; exact bE3.cell (o := 1) rfl
        have cX0 : x.cell? ⟨gx, 0, none⟩ = some (.int .i64 tl) := by rw [hxe]; exact bX3.cell (o := 0) rfl
        have cX1 : x.cell? ⟨gx, 1, none⟩ = some (.int .i64 tr) := by rw [hxe]; exact bX3.cell (o := 1) rfl
        have cX2 : x.cell? ⟨gx, 2, none⟩ = some (.bool true) := by rw [hxe]; exact bX3.cell (o := 2) rfl
        clear hxe
        refine step_value (w' := x) (v := .int .i64 lo) ?_ (Stays.refl _) ?_
        · go_simp
        · rfl
      · intro a x hA
        have t4 := hA.at_ 4 (by rfl) rfl
        have hxe : x = W3.drew := hA.grow
        have cS2 : x.cell? ⟨q.s, 2, none⟩ = some (.map (some q.mt)) := by rw [hxe]; exact hS3.cell.cell (o := 2) rfl
        have cE1 : x.cell? ⟨eb, 1, none⟩ = some (.int .i64 lo) := by rw [hxe]; exact bE3.cell (o := 1) rfl
        have cX0 : x.cell? ⟨gx, 0, none⟩ = some (.int .i64 tl) := by rw [hxe]; exact bX3.cell (o := 0) rfl
        have cX1 : x.cell? ⟨gx, 1, none⟩ = some (.int .i64 tr) := by rw [hxe]; exact bX3.cell (o := 1) rfl
        have cX2 : x.cell? ⟨gx, 2, none⟩ = some (.bool true) := by rw [hxe]; exact bX3.cell (o := 2) rfl
        clear hxe
        refine step_value (w' := x) (v := .agg #[.int .i64 tl, .int .i64 tr, .bool true]) ?_ (Stays.refl _) ?_
        · go_simp
        · rfl
    case fin =>
      intro y4 W4 hg hV
      simp only [List.take_succ_cons, List.take_zero, AllVals] at hV
      obtain ⟨u0, u1, u2, u3, u4, u5, u6, _⟩ := hV
      simp only [List.take_succ_cons, List.take_zero, List.drop_succ_cons, List.drop_zero, putAll, Act.put, List.setIfInBounds_toArray, List.set_cons_zero, List.set_cons_succ]
      obtain rfl : W4 = W3.drew := hg
      rw [u3, u5, u6]
      clear u0 u1 u2 u4 u3 u5 u6
      have hS4 : StAt W3.drew q S D := hS3.keep ((Below.refl _ W3).drew)
      obtain ⟨w4, hr4, hS5, hx4⟩ := store_update hS4 lo tl tr true (by omega) (by omega) (by omega) (by omega)
      refine wpList_skip rfl (exec_mapUpdate rfl (w' := w4) (by simpa [go_sem] using hr4)) ?_
      have hxx : Ext (fun b => b = q.mt) W w4 := ((Ext.ofBelow (b1.trans (hgb.mono b1.size)) : Ext (fun b => b = q.mt) W W').trans x3 (fun b hb => .inr (by rw [hb]; have := b1.size; omega))).drew.trans' hx4
      go_wp2
      go_end0
      exact ⟨⟨_, rfl⟩, hS5, hxx⟩
    

end

end Go.Proofs.Ytpkaepmmkojdaaa
