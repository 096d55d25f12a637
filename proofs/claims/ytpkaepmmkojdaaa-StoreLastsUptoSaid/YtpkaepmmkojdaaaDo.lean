import Derived.Test.YtpkaepmmkojdaaaPutC
import Derived.Laws.BitsAllLaws
/-! Package store, on: do. -/
namespace Go.Proofs.Ytpkaepmmkojdaaa
open Go.RowKit

theorem StAt.recell {W W' : World} {q : StP} {S : St} {D : Dk} (h : StAt W q S D) (fin num : Nat) (fallen : Bool) (hb : fin ≤ D.texts.length ∧ num ≤ fin) (he : Ext (fun b => b = q.s) W W')
    (hc : Blk W' q.s #[.pointer (some ⟨q.p.d, 0, none⟩), .map (some q.ms), .map (some q.mt), .int .i64 (fin : Int), .int .i64 (num : Int), .bool fallen] 60) : StAt W' q { S with fin := fin, num := num, fallen := fallen } D where
  cell := hc
  disk := h.disk.extAll he (fun b hb => by rw [hb]; exact h.ne.2.2.2.1)
  slots := by
    obtain ⟨es, c, hm, hr, hv⟩ := h.slots
    refine ⟨es, c, hm.ext he (Ne.symm h.ne.1), hr, fun e he' => ?_⟩
    obtain ⟨l, q1, q2, q3⟩ := hv e he'
    exact ⟨l, q1, q2.ext he (fun b hb hu => (h.data b hu).1 (.inl hb)), q3⟩
  states := by obtain ⟨es, c, hm, hr⟩ := h.states; exact ⟨es, c, hm.ext he (Ne.symm h.ne.2.1), hr⟩
  ne := h.ne
  data := h.data
  lt := fun b hb => Nat.lt_of_lt_of_le (h.lt b hb) he.size
  bound := hb

theorem run_store_one {P : Program} {w : World} {a : Addr} {u v : Value} (hc : w.cell? a = some u) (hf : w.frozen? a = false) (h1 : v.oneCell' = true) : (store a v).run P w = .ok () (w.setCell a v) := by
  rw [run_store P w a v .plain h1, hc]
  simp [hf]

/-- The store lies where it lay; its data's blocks: what they were, and new ones. -/
structure Moves (q q' : StP) (B : Nat) : Prop where
  s : q'.s = q.s
  ms : q'.ms = q.ms
  mt : q'.mt = q.mt
  p : q'.p = q.p
  U : ∀ b, q'.U b → q.U b ∨ B ≤ b
theorem Moves.refl (q : StP) (B : Nat) : Moves q q B := ⟨rfl, rfl, rfl, rfl, fun _ h => .inl h⟩

section
variable {W : World} {q : StP} {S S1 : St} {D : Dk}

set_option maxRecDepth 100000 in
set_option maxHeartbeats 1600000 in
theorem store_do_put (h : StAt W q S D) (lo po : Int) (v : Value) (l : List UInt8) (hv : Bs W v l) (n : Nat) (hn : 1 ≤ n) (hfit : S.fin + n ≤ D.texts.length) (hf1 : S1.fin = S.fin) (hn1 : S1.num = S.num)
    (hcall : ∀ W1, StAt W1 q S D → Bs W1 v l → Calls Try.prog 36 #[.pointer (some ⟨q.s, 0, none⟩), .agg #[.int .i64 1, .int .i64 lo, .int .i64 po, v]] W1 fun e w' => (∃ v, e = .returned v) ∧ (∃ q', StAt w' q' S1 D ∧ Moves q q' W1.heap.size) ∧ Ext (fun b => b = q.ms ∨ b = q.mt) W1 w') :
    Calls Try.prog 16 #[.pointer (some ⟨q.s, 0, none⟩), .agg #[.int .i64 1, .int .i64 lo, .int .i64 po, v], .int .i64 (n : Int)] W fun e w' => (∃ v, e = .returned v) ∧ (∃ q', StAt w' q' { S1 with fin := S.fin + n, num := S.num + 1 } D ∧ Moves q q' W.heap.size) ∧ Ext (fun b => b = q.s ∨ b = q.ms ∨ b = q.mt) W w' := by
  obtain ⟨av, cv, rfl⟩ := hv.form
  have hmost := h.disk.most
  have hbd := h.bound
  obtain ⟨W1, hW1⟩ : ∃ W1, W.alloc (.cells #[.int .i64 1, .int .i64 lo, .int .i64 po, .slice av l.length cv] 62) = W1 := ⟨_, rfl⟩
  have b1 : Below W.heap.size W W1 := by rw [← hW1]; exact (Below.refl _ W).alloc (Nat.le_refl _) _
  obtain ⟨eb, heb⟩ : ∃ eb, eb = W.heap.size := ⟨_, rfl⟩
  have bE : Blk W1 eb #[.int .i64 1, .int .i64 lo, .int .i64 po, .slice av l.length cv] 62 := by rw [← hW1, heb]; exact Blk.new W _ _
  have hs1 : W1.heap.size = W.heap.size + 1 := by rw [← hW1]; simp
  obtain ⟨W2, hW2⟩ : ∃ W2, W1.alloc (.cells #[.nilFunc, .nilFunc, .nilFunc, .nilFunc] 89) = W2 := ⟨_, rfl⟩
  have b2 : Below W1.heap.size W1 W2 := by rw [← hW2]; exact (Below.refl _ W1).alloc (Nat.le_refl _) _
  have bK : Blk W2 (W.heap.size + 1) #[.nilFunc, .nilFunc, .nilFunc, .nilFunc] 89 := by rw [← hW2]; exact Blk.new' W1 _ hs1.symm _ _
  obtain ⟨W3, hW3⟩ : ∃ W3, (((W2.setCell ⟨W.heap.size + 1, 0, none⟩ .nilFunc).setCell ⟨W.heap.size + 1, 1, none⟩ (.func (.func 36) #[] #[])).setCell ⟨W.heap.size + 1, 2, none⟩ (.func (.func 37) #[] #[])).setCell ⟨W.heap.size + 1, 3, none⟩ (.func (.func 38) #[] #[]) = W3 := ⟨_, rfl⟩
  have bK3 : Blk W3 (W.heap.size + 1) _ _ := hW3 ▸ (((bK.set (o := 0) .nilFunc).set (o := 1) (.func (.func 36) #[] #[])).set (o := 2) (.func (.func 37) #[] #[])).set (o := 3) (.func (.func 38) #[] #[])
  simp only [List.setIfInBounds_toArray, List.set_cons_zero, List.set_cons_succ] at bK3
  have x3 : Ext (fun b => b = W.heap.size + 1) W2 W3 := hW3 ▸ ((((Ext.refl (fun b => b = W.heap.size + 1) W2).setCell (a := ⟨W.heap.size + 1, 0, none⟩) (.inl rfl) .nilFunc).setCell (a := ⟨W.heap.size + 1, 1, none⟩) (.inl rfl) (.func (.func 36) #[] #[])).setCell (a := ⟨W.heap.size + 1, 2, none⟩) (.inl rfl) (.func (.func 37) #[] #[])).setCell (a := ⟨W.heap.size + 1, 3, none⟩) (.inl rfl) (.func (.func 38) #[] #[])
  have s0 := run_store_one (P := Try.prog) (v := .nilFunc) (bK.cell (o := 0) rfl) (bK.free 0) rfl
  have s1 := run_store_one (P := Try.prog) (v := .func (.func 36) #[] #[]) ((bK.set (o := 0) .nilFunc).cell (o := 1) rfl) ((bK.set (o := 0) .nilFunc).free 1) rfl
  have s2 := run_store_one (P := Try.prog) (v := .func (.func 37) #[] #[]) (((bK.set (o := 0) .nilFunc).set (o := 1) (.func (.func 36) #[] #[])).cell (o := 2) rfl) (((bK.set (o := 0) .nilFunc).set (o := 1) (.func (.func 36) #[] #[])).free 2) rfl
  have s3 := run_store_one (P := Try.prog) (v := .func (.func 38) #[] #[]) ((((bK.set (o := 0) .nilFunc).set (o := 1) (.func (.func 36) #[] #[])).set (o := 2) (.func (.func 37) #[] #[])).cell (o := 3) rfl) ((((bK.set (o := 0) .nilFunc).set (o := 1) (.func (.func 36) #[] #[])).set (o := 2) (.func (.func 37) #[] #[])).free 3) rfl
  rw [hW3] at s3
  have bE2 := bE.keep b2
  have hbW2 : Below W.heap.size W W2 := b1.trans (b2.mono b1.size)
  go_enter Try.func16, Try.ntmps16
  go_wp2_with fail
  obtain ⟨kb, hkb⟩ : ∃ kb, kb = W.heap.size + 1 := ⟨_, rfl⟩
  rw [← hkb, ← heb]
  rw [← hkb] at bK3 x3
  clear s0 s1 s2 s3 bK hW1 hW2 hW3
  have bE3 := bE2.ext x3 (by omega)
  have hbW3 : Ext nofp W W3 := (Ext.ofBelow hbW2 : Ext nofp W W2).trans x3 (fun b hb => .inr (by omega))
  have hS3 := h.keep hbW3.below
  have hv3 := hv.keep hbW3.below
  have Heb := hid (And.intro heb hkb)
  clear heb hkb bE2 bE hbW2
  go_wp2_with fail
  refine wp_region_tail 7 rfl Stays (fun i v x => match i with
      | 0 => v = .pointer (some ⟨eb, 0, none⟩)
      | 1 => v = .int .i64 1
      | 2 => v = .int .i64 1
      | 3 => v = .pointer (some ⟨kb, 1, none⟩)
      | 4 => v = .func (.func 36) #[] #[]
      | 5 => v = .pointer (some ⟨q.s, 0, none⟩)
      | 6 => v = .agg #[.int .i64 1, .int .i64 lo, .int .i64 po, .slice av l.length cv]
      | _ => True) (by kernel_rfl) (Stays.refl _) Stays.trans ?stab ?steps ?fin
  case stab =>
    intro i v x y hg h
    match i with
    | 0 | 1 | 2 | 3 | 4 | 5 | 6 => exact h
    | n + 7 => trivial
  case steps =>
    simp only [List.take_succ_cons, List.take_zero]
    refine ⟨?_, ?_, ?_, ?_, ?_, ?_, ?_, trivial⟩
    · intro a x hA
      have t4 := hA.at_ 4 (by rfl) rfl
      refine step_value (w' := x) (v := .pointer (some ⟨eb, 0, none⟩)) ?_ (Stays.refl _) ?_
      · go_simp
      · rfl
    · intro a x hA
      have t8 : a.tmps[8]?.getD undef = .pointer (some ⟨eb, 0, none⟩) := hA.dep_ ⟨0, .data⟩ (by simp) _ 8 rfl rfl
      have hxe : x = W3.drew := hA.grow
      have cE0 : x.cell? ⟨eb, 0, none⟩ = some (.int .i64 1) := by rw [hxe]; exact bE3.cell (o := 0) rfl
      have cE1 : x.cell? ⟨eb, 1, none⟩ = some (.int .i64 lo) := by rw [hxe]; exact bE3.cell (o := 1) rfl
      have cE2 : x.cell? ⟨eb, 2, none⟩ = some (.int .i64 po) := by rw [hxe]; exact bE3.cell (o := 2) rfl
      have cE3 : x.cell? ⟨eb, 3, none⟩ = some (.slice av l.length cv) := by rw [hxe]; exact bE3.cell (o := 3) rfl
      have cK : x.cell? ⟨kb, 1, none⟩ = some (.func (.func 36) #[] #[]) := by rw [hxe]; exact bK3.cell (o := 1) rfl
      have hw : IntKind.i64.wrap 1 = 1 := by rw [IntKind.wrap_i64]; rfl
      clear hxe
      refine step_value (w' := x) (v := .int .i64 1) ?_ (Stays.refl _) ?_
      · go_simp
      · rfl
    · intro a x hA
      have t9 : a.tmps[9]?.getD undef = .int .i64 1 := hA.dep_ ⟨1, .data⟩ (by simp) _ 9 rfl rfl
      have hxe : x = W3.drew := hA.grow
      have cE0 : x.cell? ⟨eb, 0, none⟩ = some (.int .i64 1) := by rw [hxe]; exact bE3.cell (o := 0) rfl
      have cE1 : x.cell? ⟨eb, 1, none⟩ = some (.int .i64 lo) := by rw [hxe]; exact bE3.cell (o := 1) rfl
      have cE2 : x.cell? ⟨eb, 2, none⟩ = some (.int .i64 po) := by rw [hxe]; exact bE3.cell (o := 2) rfl
      have cE3 : x.cell? ⟨eb, 3, none⟩ = some (.slice av l.length cv) := by rw [hxe]; exact bE3.cell (o := 3) rfl
      have cK : x.cell? ⟨kb, 1, none⟩ = some (.func (.func 36) #[] #[]) := by rw [hxe]; exact bK3.cell (o := 1) rfl
      have hw : IntKind.i64.wrap 1 = 1 := by rw [IntKind.wrap_i64]; rfl
      clear hxe
      have hand : bits .and .i64 1 3 = 1 := by decide
      refine step_value (w' := x) (v := .int .i64 1) ?_ (Stays.refl _) ?_
      · go_simp
      · rfl
    · intro a x hA
      have t6 := hA.at_ 6 (by rfl) rfl
      have t10 : a.tmps[10]?.getD undef = .int .i64 1 := hA.dep_ ⟨2, .data⟩ (by simp) _ 10 rfl rfl
      refine step_value (w' := x) (v := .pointer (some ⟨kb, 1, none⟩)) ?_ (Stays.refl _) ?_
      · go_simp
      · rfl
    · intro a x hA
      have t11 : a.tmps[11]?.getD undef = .pointer (some ⟨kb, 1, none⟩) := hA.dep_ ⟨3, .data⟩ (by simp) _ 11 rfl rfl
      have hxe : x = W3.drew := hA.grow
      have cE0 : x.cell? ⟨eb, 0, none⟩ = some (.int .i64 1) := by rw [hxe]; exact bE3.cell (o := 0) rfl
      have cE1 : x.cell? ⟨eb, 1, none⟩ = some (.int .i64 lo) := by rw [hxe]; exact bE3.cell (o := 1) rfl
      have cE2 : x.cell? ⟨eb, 2, none⟩ = some (.int .i64 po) := by rw [hxe]; exact bE3.cell (o := 2) rfl
      have cE3 : x.cell? ⟨eb, 3, none⟩ = some (.slice av l.length cv) := by rw [hxe]; exact bE3.cell (o := 3) rfl
      have cK : x.cell? ⟨kb, 1, none⟩ = some (.func (.func 36) #[] #[]) := by rw [hxe]; exact bK3.cell (o := 1) rfl
      have hw : IntKind.i64.wrap 1 = 1 := by rw [IntKind.wrap_i64]; rfl
      clear hxe
      refine step_value (w' := x) (v := .func (.func 36) #[] #[]) ?_ (Stays.refl _) ?_
      · go_simp
      · rfl
    · intro a x hA
      have t0 := hA.at_ 0 (by rfl) rfl
      refine step_value (w' := x) (v := .pointer (some ⟨q.s, 0, none⟩)) ?_ (Stays.refl _) ?_
      · go_simp
      · rfl
    · intro a x hA
      have t4 := hA.at_ 4 (by rfl) rfl
      have hxe : x = W3.drew := hA.grow
      have cE0 : x.cell? ⟨eb, 0, none⟩ = some (.int .i64 1) := by rw [hxe]; exact bE3.cell (o := 0) rfl
      have cE1 : x.cell? ⟨eb, 1, none⟩ = some (.int .i64 lo) := by rw [hxe]; exact bE3.cell (o := 1) rfl
      have cE2 : x.cell? ⟨eb, 2, none⟩ = some (.int .i64 po) := by rw [hxe]; exact bE3.cell (o := 2) rfl
      have cE3 : x.cell? ⟨eb, 3, none⟩ = some (.slice av l.length cv) := by rw [hxe]; exact bE3.cell (o := 3) rfl
      have cK : x.cell? ⟨kb, 1, none⟩ = some (.func (.func 36) #[] #[]) := by rw [hxe]; exact bK3.cell (o := 1) rfl
      have hw : IntKind.i64.wrap 1 = 1 := by rw [IntKind.wrap_i64]; rfl
      clear hxe
      refine step_value (w' := x) (v := .agg #[.int .i64 1, .int .i64 lo, .int .i64 po, .slice av l.length cv]) ?_ (Stays.refl _) ?_
      · go_simp
      · rfl
  case fin =>
    intro y W' hg hV
    simp only [List.take_succ_cons, List.take_zero, AllVals] at hV
    obtain ⟨u0, u1, u2, u3, u4, u5, u6, _⟩ := hV
    simp only [List.take_succ_cons, List.take_zero, List.drop_succ_cons, List.drop_zero, putAll, Act.put, List.setIfInBounds_toArray, List.set_cons_zero, List.set_cons_succ]
    obtain rfl : W' = W3.drew := hg
    rw [u4, u5, u6]
    clear u0 u1 u2 u4 u3 u5 u6
    have hS4 : StAt W3.drew q S D := hS3.keep ((Below.refl _ W3).drew)
    have hv4 : Bs W3.drew (.slice av l.length cv) l := hv3.keep ((Below.refl _ W3).drew)
    have hC := hcall W3.drew hS4 hv4
    have hb4 : Below W.heap.size W W3.drew := hbW3.below.drew
    clear hcall hS3 hv3 bE3 bK3 hS4 hv4
    go_wp2_with fail
    refine hC.mono ?_
    rintro e W5 ⟨⟨v5, rfl⟩, ⟨q', h5, hm5⟩, hx5⟩
    clear hC
    have c3 := h5.cell.cell (o := 3) rfl
    have c4 := h5.cell.cell (o := 4) rfl
    have f3 := h5.cell.free 3
    have f4 := h5.cell.free 4
    rw [hm5.s] at c3 c4 f3 f4
    rw [hf1] at c3
    rw [hn1] at c4
    go_wp2_with fail
    have hset : Ext (fun b => b = q.s) W5 ((W5.setCell ⟨q.s, 3, none⟩ (.int .i64 ((S.fin : Int) + (n : Int)))).setCell ⟨q.s, 4, none⟩ (.int .i64 ((S.num : Int) + 1))) := ((Ext.refl (fun b => b = q.s) W5).setCell (a := ⟨q.s, 3, none⟩) (.inl rfl) _).setCell (a := ⟨q.s, 4, none⟩) (.inl rfl) _
    have hset' : Ext (fun b => b = q'.s) W5 ((W5.setCell ⟨q.s, 3, none⟩ (.int .i64 ((S.fin : Int) + (n : Int)))).setCell ⟨q.s, 4, none⟩ (.int .i64 ((S.num : Int) + 1))) := hm5.s ▸ hset
    have hnew := h5.recell (S.fin + n) (S.num + 1) S1.fallen ⟨hfit, by omega⟩ hset' (by
      have h9 := h5.cell
      rw [hm5.s] at h9 ⊢
      have := (h9.set (o := 3) (.int .i64 ((S.fin : Int) + (n : Int)))).set (o := 4) (.int .i64 ((S.num : Int) + 1))
      simpa using this)
    have hx9 : Ext (fun b => b = q.s ∨ b = q.ms ∨ b = q.mt) W W5 := (Ext.ofBelow hb4 : Ext (fun b => b = q.s ∨ b = q.ms ∨ b = q.mt) W W3.drew).trans hx5 (fun b hb => .inl (.inr hb))
    go_end0
    exact ⟨⟨_, rfl⟩, ⟨q', hnew, hm5.s, hm5.ms, hm5.mt, hm5.p, fun b hb => (hm5.U b hb).imp id (fun h => Nat.le_trans hb4.size h)⟩, hx9.trans hset (fun b hb => .inl (.inl hb))⟩

set_option maxRecDepth 100000 in
set_option maxHeartbeats 1600000 in
theorem store_do_seal (h : StAt W q S D) (lo po : Int) (v : Value) (l : List UInt8) (hv : Bs W v l) (n : Nat) (hn : 1 ≤ n) (hfit : S.fin + n ≤ D.texts.length) (hf1 : S1.fin = S.fin) (hn1 : S1.num = S.num)
    (hcall : ∀ W1, StAt W1 q S D → Bs W1 v l → Calls Try.prog 37 #[.pointer (some ⟨q.s, 0, none⟩), .agg #[.int .i64 2, .int .i64 lo, .int .i64 po, v]] W1 fun e w' => (∃ v, e = .returned v) ∧ (∃ q', StAt w' q' S1 D ∧ Moves q q' W1.heap.size) ∧ Ext (fun b => b = q.ms ∨ b = q.mt) W1 w') :
    Calls Try.prog 16 #[.pointer (some ⟨q.s, 0, none⟩), .agg #[.int .i64 2, .int .i64 lo, .int .i64 po, v], .int .i64 (n : Int)] W fun e w' => (∃ v, e = .returned v) ∧ (∃ q', StAt w' q' { S1 with fin := S.fin + n, num := S.num + 1 } D ∧ Moves q q' W.heap.size) ∧ Ext (fun b => b = q.s ∨ b = q.ms ∨ b = q.mt) W w' := by
  obtain ⟨av, cv, rfl⟩ := hv.form
  have hmost := h.disk.most
  have hbd := h.bound
  obtain ⟨W1, hW1⟩ : ∃ W1, W.alloc (.cells #[.int .i64 2, .int .i64 lo, .int .i64 po, .slice av l.length cv] 62) = W1 := ⟨_, rfl⟩
  have b1 : Below W.heap.size W W1 := by rw [← hW1]; exact (Below.refl _ W).alloc (Nat.le_refl _) _
  obtain ⟨eb, heb⟩ : ∃ eb, eb = W.heap.size := ⟨_, rfl⟩
  have bE : Blk W1 eb #[.int .i64 2, .int .i64 lo, .int .i64 po, .slice av l.length cv] 62 := by rw [← hW1, heb]; exact Blk.new W _ _
  have hs1 : W1.heap.size = W.heap.size + 1 := by rw [← hW1]; simp
  obtain ⟨W2, hW2⟩ : ∃ W2, W1.alloc (.cells #[.nilFunc, .nilFunc, .nilFunc, .nilFunc] 89) = W2 := ⟨_, rfl⟩
  have b2 : Below W1.heap.size W1 W2 := by rw [← hW2]; exact (Below.refl _ W1).alloc (Nat.le_refl _) _
  have bK : Blk W2 (W.heap.size + 1) #[.nilFunc, .nilFunc, .nilFunc, .nilFunc] 89 := by rw [← hW2]; exact Blk.new' W1 _ hs1.symm _ _
  obtain ⟨W3, hW3⟩ : ∃ W3, (((W2.setCell ⟨W.heap.size + 1, 0, none⟩ .nilFunc).setCell ⟨W.heap.size + 1, 1, none⟩ (.func (.func 36) #[] #[])).setCell ⟨W.heap.size + 1, 2, none⟩ (.func (.func 37) #[] #[])).setCell ⟨W.heap.size + 1, 3, none⟩ (.func (.func 38) #[] #[]) = W3 := ⟨_, rfl⟩
  have bK3 : Blk W3 (W.heap.size + 1) _ _ := hW3 ▸ (((bK.set (o := 0) .nilFunc).set (o := 1) (.func (.func 36) #[] #[])).set (o := 2) (.func (.func 37) #[] #[])).set (o := 3) (.func (.func 38) #[] #[])
  simp only [List.setIfInBounds_toArray, List.set_cons_zero, List.set_cons_succ] at bK3
  have x3 : Ext (fun b => b = W.heap.size + 1) W2 W3 := hW3 ▸ ((((Ext.refl (fun b => b = W.heap.size + 1) W2).setCell (a := ⟨W.heap.size + 1, 0, none⟩) (.inl rfl) .nilFunc).setCell (a := ⟨W.heap.size + 1, 1, none⟩) (.inl rfl) (.func (.func 36) #[] #[])).setCell (a := ⟨W.heap.size + 1, 2, none⟩) (.inl rfl) (.func (.func 37) #[] #[])).setCell (a := ⟨W.heap.size + 1, 3, none⟩) (.inl rfl) (.func (.func 38) #[] #[])
  have s0 := run_store_one (P := Try.prog) (v := .nilFunc) (bK.cell (o := 0) rfl) (bK.free 0) rfl
  have s1 := run_store_one (P := Try.prog) (v := .func (.func 36) #[] #[]) ((bK.set (o := 0) .nilFunc).cell (o := 1) rfl) ((bK.set (o := 0) .nilFunc).free 1) rfl
  have s2 := run_store_one (P := Try.prog) (v := .func (.func 37) #[] #[]) (((bK.set (o := 0) .nilFunc).set (o := 1) (.func (.func 36) #[] #[])).cell (o := 2) rfl) (((bK.set (o := 0) .nilFunc).set (o := 1) (.func (.func 36) #[] #[])).free 2) rfl
  have s3 := run_store_one (P := Try.prog) (v := .func (.func 38) #[] #[]) ((((bK.set (o := 0) .nilFunc).set (o := 1) (.func (.func 36) #[] #[])).set (o := 2) (.func (.func 37) #[] #[])).cell (o := 3) rfl) ((((bK.set (o := 0) .nilFunc).set (o := 1) (.func (.func 36) #[] #[])).set (o := 2) (.func (.func 37) #[] #[])).free 3) rfl
  rw [hW3] at s3
  have bE2 := bE.keep b2
  have hbW2 : Below W.heap.size W W2 := b1.trans (b2.mono b1.size)
  go_enter Try.func16, Try.ntmps16
  go_wp2_with fail
  obtain ⟨kb, hkb⟩ : ∃ kb, kb = W.heap.size + 1 := ⟨_, rfl⟩
  rw [← hkb, ← heb]
  rw [← hkb] at bK3 x3
  clear s0 s1 s2 s3 bK hW1 hW2 hW3
  have bE3 := bE2.ext x3 (by omega)
  have hbW3 : Ext nofp W W3 := (Ext.ofBelow hbW2 : Ext nofp W W2).trans x3 (fun b hb => .inr (by omega))
  have hS3 := h.keep hbW3.below
  have hv3 := hv.keep hbW3.below
  have Heb := hid (And.intro heb hkb)
  clear heb hkb bE2 bE hbW2
  go_wp2_with fail
  refine wp_region_tail 7 rfl Stays (fun i v x => match i with
      | 0 => v = .pointer (some ⟨eb, 0, none⟩)
      | 1 => v = .int .i64 2
      | 2 => v = .int .i64 2
      | 3 => v = .pointer (some ⟨kb, 2, none⟩)
      | 4 => v = .func (.func 37) #[] #[]
      | 5 => v = .pointer (some ⟨q.s, 0, none⟩)
      | 6 => v = .agg #[.int .i64 2, .int .i64 lo, .int .i64 po, .slice av l.length cv]
      | _ => True) (by kernel_rfl) (Stays.refl _) Stays.trans ?stab ?steps ?fin
  case stab =>
    intro i v x y hg h
    match i with
    | 0 | 1 | 2 | 3 | 4 | 5 | 6 => exact h
    | n + 7 => trivial
  case steps =>
    simp only [List.take_succ_cons, List.take_zero]
    refine ⟨?_, ?_, ?_, ?_, ?_, ?_, ?_, trivial⟩
    · intro a x hA
      have t4 := hA.at_ 4 (by rfl) rfl
      refine step_value (w' := x) (v := .pointer (some ⟨eb, 0, none⟩)) ?_ (Stays.refl _) ?_
      · go_simp
      · rfl
    · intro a x hA
      have t8 : a.tmps[8]?.getD undef = .pointer (some ⟨eb, 0, none⟩) := hA.dep_ ⟨0, .data⟩ (by simp) _ 8 rfl rfl
      have hxe : x = W3.drew := hA.grow
      have cE0 : x.cell? ⟨eb, 0, none⟩ = some (.int .i64 2) := by rw [hxe]; exact bE3.cell (o := 0) rfl
      have cE1 : x.cell? ⟨eb, 1, none⟩ = some (.int .i64 lo) := by rw [hxe]; exact bE3.cell (o := 1) rfl
      have cE2 : x.cell? ⟨eb, 2, none⟩ = some (.int .i64 po) := by rw [hxe]; exact bE3.cell (o := 2) rfl
      have cE3 : x.cell? ⟨eb, 3, none⟩ = some (.slice av l.length cv) := by rw [hxe]; exact bE3.cell (o := 3) rfl
      have cK : x.cell? ⟨kb, 2, none⟩ = some (.func (.func 37) #[] #[]) := by rw [hxe]; exact bK3.cell (o := 2) rfl
      have hw : IntKind.i64.wrap 2 = 2 := by rw [IntKind.wrap_i64]; rfl
      clear hxe
      refine step_value (w' := x) (v := .int .i64 2) ?_ (Stays.refl _) ?_
      · go_simp
      · rfl
    · intro a x hA
      have t9 : a.tmps[9]?.getD undef = .int .i64 2 := hA.dep_ ⟨1, .data⟩ (by simp) _ 9 rfl rfl
      have hxe : x = W3.drew := hA.grow
      have cE0 : x.cell? ⟨eb, 0, none⟩ = some (.int .i64 2) := by rw [hxe]; exact bE3.cell (o := 0) rfl
      have cE1 : x.cell? ⟨eb, 1, none⟩ = some (.int .i64 lo) := by rw [hxe]; exact bE3.cell (o := 1) rfl
      have cE2 : x.cell? ⟨eb, 2, none⟩ = some (.int .i64 po) := by rw [hxe]; exact bE3.cell (o := 2) rfl
      have cE3 : x.cell? ⟨eb, 3, none⟩ = some (.slice av l.length cv) := by rw [hxe]; exact bE3.cell (o := 3) rfl
      have cK : x.cell? ⟨kb, 2, none⟩ = some (.func (.func 37) #[] #[]) := by rw [hxe]; exact bK3.cell (o := 2) rfl
      have hw : IntKind.i64.wrap 2 = 2 := by rw [IntKind.wrap_i64]; rfl
      clear hxe
      have hand : bits .and .i64 2 3 = 2 := by decide
      refine step_value (w' := x) (v := .int .i64 2) ?_ (Stays.refl _) ?_
      · go_simp
      · rfl
    · intro a x hA
      have t6 := hA.at_ 6 (by rfl) rfl
      have t10 : a.tmps[10]?.getD undef = .int .i64 2 := hA.dep_ ⟨2, .data⟩ (by simp) _ 10 rfl rfl
      refine step_value (w' := x) (v := .pointer (some ⟨kb, 2, none⟩)) ?_ (Stays.refl _) ?_
      · go_simp
      · rfl
    · intro a x hA
      have t11 : a.tmps[11]?.getD undef = .pointer (some ⟨kb, 2, none⟩) := hA.dep_ ⟨3, .data⟩ (by simp) _ 11 rfl rfl
      have hxe : x = W3.drew := hA.grow
      have cE0 : x.cell? ⟨eb, 0, none⟩ = some (.int .i64 2) := by rw [hxe]; exact bE3.cell (o := 0) rfl
      have cE1 : x.cell? ⟨eb, 1, none⟩ = some (.int .i64 lo) := by rw [hxe]; exact bE3.cell (o := 1) rfl
      have cE2 : x.cell? ⟨eb, 2, none⟩ = some (.int .i64 po) := by rw [hxe]; exact bE3.cell (o := 2) rfl
      have cE3 : x.cell? ⟨eb, 3, none⟩ = some (.slice av l.length cv) := by rw [hxe]; exact bE3.cell (o := 3) rfl
      have cK : x.cell? ⟨kb, 2, none⟩ = some (.func (.func 37) #[] #[]) := by rw [hxe]; exact bK3.cell (o := 2) rfl
      have hw : IntKind.i64.wrap 2 = 2 := by rw [IntKind.wrap_i64]; rfl
      clear hxe
      refine step_value (w' := x) (v := .func (.func 37) #[] #[]) ?_ (Stays.refl _) ?_
      · go_simp
      · rfl
    · intro a x hA
      have t0 := hA.at_ 0 (by rfl) rfl
      refine step_value (w' := x) (v := .pointer (some ⟨q.s, 0, none⟩)) ?_ (Stays.refl _) ?_
      · go_simp
      · rfl
    · intro a x hA
      have t4 := hA.at_ 4 (by rfl) rfl
      have hxe : x = W3.drew := hA.grow
      have cE0 : x.cell? ⟨eb, 0, none⟩ = some (.int .i64 2) := by rw [hxe]; exact bE3.cell (o := 0) rfl
      have cE1 : x.cell? ⟨eb, 1, none⟩ = some (.int .i64 lo) := by rw [hxe]; exact bE3.cell (o := 1) rfl
      have cE2 : x.cell? ⟨eb, 2, none⟩ = some (.int .i64 po) := by rw [hxe]; exact bE3.cell (o := 2) rfl
      have cE3 : x.cell? ⟨eb, 3, none⟩ = some (.slice av l.length cv) := by rw [hxe]; exact bE3.cell (o := 3) rfl
      have cK : x.cell? ⟨kb, 2, none⟩ = some (.func (.func 37) #[] #[]) := by rw [hxe]; exact bK3.cell (o := 2) rfl
      have hw : IntKind.i64.wrap 2 = 2 := by rw [IntKind.wrap_i64]; rfl
      clear hxe
      refine step_value (w' := x) (v := .agg #[.int .i64 2, .int .i64 lo, .int .i64 po, .slice av l.length cv]) ?_ (Stays.refl _) ?_
      · go_simp
      · rfl
  case fin =>
    intro y W' hg hV
    simp only [List.take_succ_cons, List.take_zero, AllVals] at hV
    obtain ⟨u0, u1, u2, u3, u4, u5, u6, _⟩ := hV
    simp only [List.take_succ_cons, List.take_zero, List.drop_succ_cons, List.drop_zero, putAll, Act.put, List.setIfInBounds_toArray, List.set_cons_zero, List.set_cons_succ]
    obtain rfl : W' = W3.drew := hg
    rw [u4, u5, u6]
    clear u0 u1 u2 u4 u3 u5 u6
    have hS4 : StAt W3.drew q S D := hS3.keep ((Below.refl _ W3).drew)
    have hv4 : Bs W3.drew (.slice av l.length cv) l := hv3.keep ((Below.refl _ W3).drew)
    have hC := hcall W3.drew hS4 hv4
    have hb4 : Below W.heap.size W W3.drew := hbW3.below.drew
    clear hcall hS3 hv3 bE3 bK3 hS4 hv4
    go_wp2_with fail
    refine hC.mono ?_
    rintro e W5 ⟨⟨v5, rfl⟩, ⟨q', h5, hm5⟩, hx5⟩
    clear hC
    have c3 := h5.cell.cell (o := 3) rfl
    have c4 := h5.cell.cell (o := 4) rfl
    have f3 := h5.cell.free 3
    have f4 := h5.cell.free 4
    rw [hm5.s] at c3 c4 f3 f4
    rw [hf1] at c3
    rw [hn1] at c4
    go_wp2_with fail
    have hset : Ext (fun b => b = q.s) W5 ((W5.setCell ⟨q.s, 3, none⟩ (.int .i64 ((S.fin : Int) + (n : Int)))).setCell ⟨q.s, 4, none⟩ (.int .i64 ((S.num : Int) + 1))) := ((Ext.refl (fun b => b = q.s) W5).setCell (a := ⟨q.s, 3, none⟩) (.inl rfl) _).setCell (a := ⟨q.s, 4, none⟩) (.inl rfl) _
    have hset' : Ext (fun b => b = q'.s) W5 ((W5.setCell ⟨q.s, 3, none⟩ (.int .i64 ((S.fin : Int) + (n : Int)))).setCell ⟨q.s, 4, none⟩ (.int .i64 ((S.num : Int) + 1))) := hm5.s ▸ hset
    have hnew := h5.recell (S.fin + n) (S.num + 1) S1.fallen ⟨hfit, by omega⟩ hset' (by
      have h9 := h5.cell
      rw [hm5.s] at h9 ⊢
      have := (h9.set (o := 3) (.int .i64 ((S.fin : Int) + (n : Int)))).set (o := 4) (.int .i64 ((S.num : Int) + 1))
      simpa using this)
    have hx9 : Ext (fun b => b = q.s ∨ b = q.ms ∨ b = q.mt) W W5 := (Ext.ofBelow hb4 : Ext (fun b => b = q.s ∨ b = q.ms ∨ b = q.mt) W W3.drew).trans hx5 (fun b hb => .inl (.inr hb))
    go_end0
    exact ⟨⟨_, rfl⟩, ⟨q', hnew, hm5.s, hm5.ms, hm5.mt, hm5.p, fun b hb => (hm5.U b hb).imp id (fun h => Nat.le_trans hb4.size h)⟩, hx9.trans hset (fun b hb => .inl (.inl hb))⟩

set_option maxRecDepth 100000 in
set_option maxHeartbeats 1600000 in
theorem store_do_trim (h : StAt W q S D) (lo po : Int) (v : Value) (l : List UInt8) (hv : Bs W v l) (n : Nat) (hn : 1 ≤ n) (hfit : S.fin + n ≤ D.texts.length) (hf1 : S1.fin = S.fin) (hn1 : S1.num = S.num)
    (hcall : ∀ W1, StAt W1 q S D → Bs W1 v l → Calls Try.prog 38 #[.pointer (some ⟨q.s, 0, none⟩), .agg #[.int .i64 3, .int .i64 lo, .int .i64 po, v]] W1 fun e w' => (∃ v, e = .returned v) ∧ (∃ q', StAt w' q' S1 D ∧ Moves q q' W1.heap.size) ∧ Ext (fun b => b = q.ms ∨ b = q.mt) W1 w') :
    Calls Try.prog 16 #[.pointer (some ⟨q.s, 0, none⟩), .agg #[.int .i64 3, .int .i64 lo, .int .i64 po, v], .int .i64 (n : Int)] W fun e w' => (∃ v, e = .returned v) ∧ (∃ q', StAt w' q' { S1 with fin := S.fin + n, num := S.num + 1 } D ∧ Moves q q' W.heap.size) ∧ Ext (fun b => b = q.s ∨ b = q.ms ∨ b = q.mt) W w' := by
  obtain ⟨av, cv, rfl⟩ := hv.form
  have hmost := h.disk.most
  have hbd := h.bound
  obtain ⟨W1, hW1⟩ : ∃ W1, W.alloc (.cells #[.int .i64 3, .int .i64 lo, .int .i64 po, .slice av l.length cv] 62) = W1 := ⟨_, rfl⟩
  have b1 : Below W.heap.size W W1 := by rw [← hW1]; exact (Below.refl _ W).alloc (Nat.le_refl _) _
  obtain ⟨eb, heb⟩ : ∃ eb, eb = W.heap.size := ⟨_, rfl⟩
  have bE : Blk W1 eb #[.int .i64 3, .int .i64 lo, .int .i64 po, .slice av l.length cv] 62 := by rw [← hW1, heb]; exact Blk.new W _ _
  have hs1 : W1.heap.size = W.heap.size + 1 := by rw [← hW1]; simp
  obtain ⟨W2, hW2⟩ : ∃ W2, W1.alloc (.cells #[.nilFunc, .nilFunc, .nilFunc, .nilFunc] 89) = W2 := ⟨_, rfl⟩
  have b2 : Below W1.heap.size W1 W2 := by rw [← hW2]; exact (Below.refl _ W1).alloc (Nat.le_refl _) _
  have bK : Blk W2 (W.heap.size + 1) #[.nilFunc, .nilFunc, .nilFunc, .nilFunc] 89 := by rw [← hW2]; exact Blk.new' W1 _ hs1.symm _ _
  obtain ⟨W3, hW3⟩ : ∃ W3, (((W2.setCell ⟨W.heap.size + 1, 0, none⟩ .nilFunc).setCell ⟨W.heap.size + 1, 1, none⟩ (.func (.func 36) #[] #[])).setCell ⟨W.heap.size + 1, 2, none⟩ (.func (.func 37) #[] #[])).setCell ⟨W.heap.size + 1, 3, none⟩ (.func (.func 38) #[] #[]) = W3 := ⟨_, rfl⟩
  have bK3 : Blk W3 (W.heap.size + 1) _ _ := hW3 ▸ (((bK.set (o := 0) .nilFunc).set (o := 1) (.func (.func 36) #[] #[])).set (o := 2) (.func (.func 37) #[] #[])).set (o := 3) (.func (.func 38) #[] #[])
  simp only [List.setIfInBounds_toArray, List.set_cons_zero, List.set_cons_succ] at bK3
  have x3 : Ext (fun b => b = W.heap.size + 1) W2 W3 := hW3 ▸ ((((Ext.refl (fun b => b = W.heap.size + 1) W2).setCell (a := ⟨W.heap.size + 1, 0, none⟩) (.inl rfl) .nilFunc).setCell (a := ⟨W.heap.size + 1, 1, none⟩) (.inl rfl) (.func (.func 36) #[] #[])).setCell (a := ⟨W.heap.size + 1, 2, none⟩) (.inl rfl) (.func (.func 37) #[] #[])).setCell (a := ⟨W.heap.size + 1, 3, none⟩) (.inl rfl) (.func (.func 38) #[] #[])
  have s0 := run_store_one (P := Try.prog) (v := .nilFunc) (bK.cell (o := 0) rfl) (bK.free 0) rfl
  have s1 := run_store_one (P := Try.prog) (v := .func (.func 36) #[] #[]) ((bK.set (o := 0) .nilFunc).cell (o := 1) rfl) ((bK.set (o := 0) .nilFunc).free 1) rfl
  have s2 := run_store_one (P := Try.prog) (v := .func (.func 37) #[] #[]) (((bK.set (o := 0) .nilFunc).set (o := 1) (.func (.func 36) #[] #[])).cell (o := 2) rfl) (((bK.set (o := 0) .nilFunc).set (o := 1) (.func (.func 36) #[] #[])).free 2) rfl
  have s3 := run_store_one (P := Try.prog) (v := .func (.func 38) #[] #[]) ((((bK.set (o := 0) .nilFunc).set (o := 1) (.func (.func 36) #[] #[])).set (o := 2) (.func (.func 37) #[] #[])).cell (o := 3) rfl) ((((bK.set (o := 0) .nilFunc).set (o := 1) (.func (.func 36) #[] #[])).set (o := 2) (.func (.func 37) #[] #[])).free 3) rfl
  rw [hW3] at s3
  have bE2 := bE.keep b2
  have hbW2 : Below W.heap.size W W2 := b1.trans (b2.mono b1.size)
  go_enter Try.func16, Try.ntmps16
  go_wp2_with fail
  obtain ⟨kb, hkb⟩ : ∃ kb, kb = W.heap.size + 1 := ⟨_, rfl⟩
  rw [← hkb, ← heb]
  rw [← hkb] at bK3 x3
  clear s0 s1 s2 s3 bK hW1 hW2 hW3
  have bE3 := bE2.ext x3 (by omega)
  have hbW3 : Ext nofp W W3 := (Ext.ofBelow hbW2 : Ext nofp W W2).trans x3 (fun b hb => .inr (by omega))
  have hS3 := h.keep hbW3.below
  have hv3 := hv.keep hbW3.below
  have Heb := hid (And.intro heb hkb)
  clear heb hkb bE2 bE hbW2
  go_wp2_with fail
  refine wp_region_tail 7 rfl Stays (fun i v x => match i with
      | 0 => v = .pointer (some ⟨eb, 0, none⟩)
      | 1 => v = .int .i64 3
      | 2 => v = .int .i64 3
      | 3 => v = .pointer (some ⟨kb, 3, none⟩)
      | 4 => v = .func (.func 38) #[] #[]
      | 5 => v = .pointer (some ⟨q.s, 0, none⟩)
      | 6 => v = .agg #[.int .i64 3, .int .i64 lo, .int .i64 po, .slice av l.length cv]
      | _ => True) (by kernel_rfl) (Stays.refl _) Stays.trans ?stab ?steps ?fin
  case stab =>
    intro i v x y hg h
    match i with
    | 0 | 1 | 2 | 3 | 4 | 5 | 6 => exact h
    | n + 7 => trivial
  case steps =>
    simp only [List.take_succ_cons, List.take_zero]
    refine ⟨?_, ?_, ?_, ?_, ?_, ?_, ?_, trivial⟩
    · intro a x hA
      have t4 := hA.at_ 4 (by rfl) rfl
      refine step_value (w' := x) (v := .pointer (some ⟨eb, 0, none⟩)) ?_ (Stays.refl _) ?_
      · go_simp
      · rfl
    · intro a x hA
      have t8 : a.tmps[8]?.getD undef = .pointer (some ⟨eb, 0, none⟩) := hA.dep_ ⟨0, .data⟩ (by simp) _ 8 rfl rfl
      have hxe : x = W3.drew := hA.grow
      have cE0 : x.cell? ⟨eb, 0, none⟩ = some (.int .i64 3) := by rw [hxe]; exact bE3.cell (o := 0) rfl
      have cE1 : x.cell? ⟨eb, 1, none⟩ = some (.int .i64 lo) := by rw [hxe]; exact bE3.cell (o := 1) rfl
      have cE2 : x.cell? ⟨eb, 2, none⟩ = some (.int .i64 po) := by rw [hxe]; exact bE3.cell (o := 2) rfl
      have cE3 : x.cell? ⟨eb, 3, none⟩ = some (.slice av l.length cv) := by rw [hxe]; exact bE3.cell (o := 3) rfl
      have cK : x.cell? ⟨kb, 3, none⟩ = some (.func (.func 38) #[] #[]) := by rw [hxe]; exact bK3.cell (o := 3) rfl
      have hw : IntKind.i64.wrap 3 = 3 := by rw [IntKind.wrap_i64]; rfl
      clear hxe
      refine step_value (w' := x) (v := .int .i64 3) ?_ (Stays.refl _) ?_
      · go_simp
      · rfl
    · intro a x hA
      have t9 : a.tmps[9]?.getD undef = .int .i64 3 := hA.dep_ ⟨1, .data⟩ (by simp) _ 9 rfl rfl
      have hxe : x = W3.drew := hA.grow
      have cE0 : x.cell? ⟨eb, 0, none⟩ = some (.int .i64 3) := by rw [hxe]; exact bE3.cell (o := 0) rfl
      have cE1 : x.cell? ⟨eb, 1, none⟩ = some (.int .i64 lo) := by rw [hxe]; exact bE3.cell (o := 1) rfl
      have cE2 : x.cell? ⟨eb, 2, none⟩ = some (.int .i64 po) := by rw [hxe]; exact bE3.cell (o := 2) rfl
      have cE3 : x.cell? ⟨eb, 3, none⟩ = some (.slice av l.length cv) := by rw [hxe]; exact bE3.cell (o := 3) rfl
      have cK : x.cell? ⟨kb, 3, none⟩ = some (.func (.func 38) #[] #[]) := by rw [hxe]; exact bK3.cell (o := 3) rfl
      have hw : IntKind.i64.wrap 3 = 3 := by rw [IntKind.wrap_i64]; rfl
      clear hxe
      have hand : bits .and .i64 3 3 = 3 := by decide
      refine step_value (w' := x) (v := .int .i64 3) ?_ (Stays.refl _) ?_
      · go_simp
      · rfl
    · intro a x hA
      have t6 := hA.at_ 6 (by rfl) rfl
      have t10 : a.tmps[10]?.getD undef = .int .i64 3 := hA.dep_ ⟨2, .data⟩ (by simp) _ 10 rfl rfl
      refine step_value (w' := x) (v := .pointer (some ⟨kb, 3, none⟩)) ?_ (Stays.refl _) ?_
      · go_simp
      · rfl
    · intro a x hA
      have t11 : a.tmps[11]?.getD undef = .pointer (some ⟨kb, 3, none⟩) := hA.dep_ ⟨3, .data⟩ (by simp) _ 11 rfl rfl
      have hxe : x = W3.drew := hA.grow
      have cE0 : x.cell? ⟨eb, 0, none⟩ = some (.int .i64 3) := by rw [hxe]; exact bE3.cell (o := 0) rfl
      have cE1 : x.cell? ⟨eb, 1, none⟩ = some (.int .i64 lo) := by rw [hxe]; exact bE3.cell (o := 1) rfl
      have cE2 : x.cell? ⟨eb, 2, none⟩ = some (.int .i64 po) := by rw [hxe]; exact bE3.cell (o := 2) rfl
      have cE3 : x.cell? ⟨eb, 3, none⟩ = some (.slice av l.length cv) := by rw [hxe]; exact bE3.cell (o := 3) rfl
      have cK : x.cell? ⟨kb, 3, none⟩ = some (.func (.func 38) #[] #[]) := by rw [hxe]; exact bK3.cell (o := 3) rfl
      have hw : IntKind.i64.wrap 3 = 3 := by rw [IntKind.wrap_i64]; rfl
      clear hxe
      refine step_value (w' := x) (v := .func (.func 38) #[] #[]) ?_ (Stays.refl _) ?_
      · go_simp
      · rfl
    · intro a x hA
      have t0 := hA.at_ 0 (by rfl) rfl
      refine step_value (w' := x) (v := .pointer (some ⟨q.s, 0, none⟩)) ?_ (Stays.refl _) ?_
      · go_simp
      · rfl
    · intro a x hA
      have t4 := hA.at_ 4 (by rfl) rfl
      have hxe : x = W3.drew := hA.grow
      have cE0 : x.cell? ⟨eb, 0, none⟩ = some (.int .i64 3) := by rw [hxe]; exact bE3.cell (o := 0) rfl
      have cE1 : x.cell? ⟨eb, 1, none⟩ = some (.int .i64 lo) := by rw [hxe]; exact bE3.cell (o := 1) rfl
      have cE2 : x.cell? ⟨eb, 2, none⟩ = some (.int .i64 po) := by rw [hxe]; exact bE3.cell (o := 2) rfl
      have cE3 : x.cell? ⟨eb, 3, none⟩ = some (.slice av l.length cv) := by rw [hxe]; exact bE3.cell (o := 3) rfl
      have cK : x.cell? ⟨kb, 3, none⟩ = some (.func (.func 38) #[] #[]) := by rw [hxe]; exact bK3.cell (o := 3) rfl
      have hw : IntKind.i64.wrap 3 = 3 := by rw [IntKind.wrap_i64]; rfl
      clear hxe
      refine step_value (w' := x) (v := .agg #[.int .i64 3, .int .i64 lo, .int .i64 po, .slice av l.length cv]) ?_ (Stays.refl _) ?_
      · go_simp
      · rfl
  case fin =>
    intro y W' hg hV
    simp only [List.take_succ_cons, List.take_zero, AllVals] at hV
    obtain ⟨u0, u1, u2, u3, u4, u5, u6, _⟩ := hV
    simp only [List.take_succ_cons, List.take_zero, List.drop_succ_cons, List.drop_zero, putAll, Act.put, List.setIfInBounds_toArray, List.set_cons_zero, List.set_cons_succ]
    obtain rfl : W' = W3.drew := hg
    rw [u4, u5, u6]
    clear u0 u1 u2 u4 u3 u5 u6
    have hS4 : StAt W3.drew q S D := hS3.keep ((Below.refl _ W3).drew)
    have hv4 : Bs W3.drew (.slice av l.length cv) l := hv3.keep ((Below.refl _ W3).drew)
    have hC := hcall W3.drew hS4 hv4
    have hb4 : Below W.heap.size W W3.drew := hbW3.below.drew
    clear hcall hS3 hv3 bE3 bK3 hS4 hv4
    go_wp2_with fail
    refine hC.mono ?_
    rintro e W5 ⟨⟨v5, rfl⟩, ⟨q', h5, hm5⟩, hx5⟩
    clear hC
    have c3 := h5.cell.cell (o := 3) rfl
    have c4 := h5.cell.cell (o := 4) rfl
    have f3 := h5.cell.free 3
    have f4 := h5.cell.free 4
    rw [hm5.s] at c3 c4 f3 f4
    rw [hf1] at c3
    rw [hn1] at c4
    go_wp2_with fail
    have hset : Ext (fun b => b = q.s) W5 ((W5.setCell ⟨q.s, 3, none⟩ (.int .i64 ((S.fin : Int) + (n : Int)))).setCell ⟨q.s, 4, none⟩ (.int .i64 ((S.num : Int) + 1))) := ((Ext.refl (fun b => b = q.s) W5).setCell (a := ⟨q.s, 3, none⟩) (.inl rfl) _).setCell (a := ⟨q.s, 4, none⟩) (.inl rfl) _
    have hset' : Ext (fun b => b = q'.s) W5 ((W5.setCell ⟨q.s, 3, none⟩ (.int .i64 ((S.fin : Int) + (n : Int)))).setCell ⟨q.s, 4, none⟩ (.int .i64 ((S.num : Int) + 1))) := hm5.s ▸ hset
    have hnew := h5.recell (S.fin + n) (S.num + 1) S1.fallen ⟨hfit, by omega⟩ hset' (by
      have h9 := h5.cell
      rw [hm5.s] at h9 ⊢
      have := (h9.set (o := 3) (.int .i64 ((S.fin : Int) + (n : Int)))).set (o := 4) (.int .i64 ((S.num : Int) + 1))
      simpa using this)
    have hx9 : Ext (fun b => b = q.s ∨ b = q.ms ∨ b = q.mt) W W5 := (Ext.ofBelow hb4 : Ext (fun b => b = q.s ∨ b = q.ms ∨ b = q.mt) W W3.drew).trans hx5 (fun b hb => .inl (.inr hb))
    go_end0
    exact ⟨⟨_, rfl⟩, ⟨q', hnew, hm5.s, hm5.ms, hm5.mt, hm5.p, fun b hb => (hm5.U b hb).imp id (fun h => Nat.le_trans hb4.size h)⟩, hx9.trans hset (fun b hb => .inl (.inl hb))⟩

end

end Go.Proofs.Ytpkaepmmkojdaaa
