import Derived.Test.YtcdcjoofcbdilaaGreatMAccT
import Derived.Test.YtcdcjoofcbdilaaGreatSync
/-! Package acceptor: query. -/
namespace Go.Proofs.YtcdcjoofcbdilaaGreat
open Go.RowKit

/-- The greatest version with something. -/
def Hit (key : Int) (e : (Int × Int) × Fa) : Prop := e.1.1 = key ∧ 0 < e.2.ba
theorem best_from (key : Int) : ∀ (F : Fs) (b : Int), b ≤ F.foldl (fun b e => if e.1.1 = key ∧ 0 < e.2.ba ∧ b < e.1.2 then e.1.2 else b) b ∧
    (∀ e ∈ F, Hit key e → e.1.2 ≤ F.foldl (fun b e => if e.1.1 = key ∧ 0 < e.2.ba ∧ b < e.1.2 then e.1.2 else b) b) ∧
    (F.foldl (fun b e => if e.1.1 = key ∧ 0 < e.2.ba ∧ b < e.1.2 then e.1.2 else b) b = b ∨ ∃ e ∈ F, Hit key e ∧ e.1.2 = F.foldl (fun b e => if e.1.1 = key ∧ 0 < e.2.ba ∧ b < e.1.2 then e.1.2 else b) b)
  | [], b => ⟨Int.le_refl _, fun e he => by simp at he, .inl rfl⟩
  | x :: F, b => by
    rw [List.foldl_cons]
    by_cases hx : x.1.1 = key ∧ 0 < x.2.ba ∧ b < x.1.2
    · rw [if_pos hx]
      obtain ⟨h1, h2, h3⟩ := best_from key F x.1.2
      refine ⟨by omega, fun e he hh => ?_, ?_⟩
      · rcases List.mem_cons.1 he with rfl | he
        · exact h1
        · exact h2 e he hh
      · rcases h3 with h3 | ⟨e, he, hh, h3⟩
        · exact .inr ⟨x, by simp, ⟨hx.1, hx.2.1⟩, h3.symm⟩
        · exact .inr ⟨e, by simp [he], hh, h3⟩
    · rw [if_neg hx]
      obtain ⟨h1, h2, h3⟩ := best_from key F b
      refine ⟨h1, fun e he hh => ?_, ?_⟩
      · rcases List.mem_cons.1 he with rfl | he
        · have : ¬ b < e.1.2 := fun hl => hx ⟨hh.1, hh.2, hl⟩
          omega
        · exact h2 e he hh
      · rcases h3 with h3 | ⟨e, he, hh, h3⟩
        · exact .inl h3
        · exact .inr ⟨e, by simp [he], hh, h3⟩
theorem best_is {key : Int} {F : Fs} {b : Int} (h0 : 0 ≤ b) (h1 : ∀ e ∈ F, Hit key e → e.1.2 ≤ b) (h2 : b = 0 ∨ ∃ e ∈ F, Hit key e ∧ e.1.2 = b) : b = bestA key F := by
  obtain ⟨g0, g1, g2⟩ := best_from key F 0
  unfold bestA
  rcases h2 with rfl | ⟨e, he, hh, rfl⟩
  · rcases g2 with g2 | ⟨e, he, hh, g2⟩
    · exact g2.symm
    · have := h1 e he hh
      omega
  · have := g1 e he hh
    rcases g2 with g2 | ⟨e', he', hh', g2⟩
    · omega
    · have := h1 e' he' hh'
      omega
/-- The entries that are still to be seen. -/
def unseen {K : Type} (es : List (Ent K)) (seen : Array Nat) : Nat := (es.filter (fun e => !seen.contains e.born)).length
def seenOf (W : World) (r : Nat) : Array Nat := match W.heap[r]? with | some (.mapIter _ _ s _) => s | _ => #[]
theorem filter_less {α : Type} {p q : α → Bool} : ∀ {l : List α} {x : α}, x ∈ l → p x = true → q x = false → (∀ y, q y = true → p y = true) → (l.filter q).length < (l.filter p).length
  | [], x, hx, _, _, _ => by simp at hx
  | y :: l, x, hx, hp, hq, hs => by
    have hle : (l.filter q).length ≤ (l.filter p).length := by
      clear hx
      induction l with
      | nil => simp
      | cons z l ih =>
        cases hz : q z with
        | true => rw [List.filter_cons_of_pos hz, List.filter_cons_of_pos (hs z hz)]; simpa using ih
        | false => rw [List.filter_cons_of_neg (by simp [hz])]; cases hz' : p z with
          | true => rw [List.filter_cons_of_pos hz']; simp; omega
          | false => rw [List.filter_cons_of_neg (by simp [hz'])]; exact ih
    rcases List.mem_cons.1 hx with rfl | hx
    · rw [List.filter_cons_of_pos hp, List.filter_cons_of_neg (by simp [hq])]
      simp
      omega
    · have ih := filter_less hx hp hq hs
      cases hz : q y with
      | true => rw [List.filter_cons_of_pos hz, List.filter_cons_of_pos (hs y hz)]; simpa using ih
      | false =>
        rw [List.filter_cons_of_neg (by simp [hz])]
        cases hz' : p y with
        | true => rw [List.filter_cons_of_pos hz']; simp; omega
        | false => rw [List.filter_cons_of_neg (by simp [hz'])]; exact ih
theorem unseen_push {K : Type} {es : List (Ent K)} {seen : Array Nat} {e : Ent K} (he : e ∈ es) (hn : e.born ∉ seen) : unseen es (seen.push e.born) < unseen es seen := by
  unfold unseen
  refine filter_less he (by simpa using hn) (by simp) (fun y hy => ?_)
  simp at hy ⊢
  exact hy.1
theorem seenOf_at {W : World} {r b since last : Nat} {seen : Array Nat} (h : IterAt W r b since seen last) : seenOf W r = seen := by
  unfold seenOf
  rw [show W.heap[r]? = _ from h]
theorem IterAt.keep {W W' : World} {r b since last : Nat} {seen : Array Nat} (h : IterAt W r b since seen last) (hb : Below W.heap.size W W') : IterAt W' r b since seen last :=
  (hb.block r (Array.getElem?_eq_some_iff.1 (show W.heap[r]? = _ from h)).1).trans h
theorem IterAt.ext {fp : Nat → Prop} {W W' : World} {r b since last : Nat} {seen : Array Nat} (h : IterAt W r b since seen last) (hx : Ext fp W W') (hn : ¬ fp r) : IterAt W' r b since seen last :=
  (hx.block r (Array.getElem?_eq_some_iff.1 (show W.heap[r]? = _ from h)).1 hn).trans h
theorem mem_rows {es : List (Ent (Int × Int))} {F : Fs} (h : es.map (fun e => (e.k, e.v)) = Fs.rows F) {e : Ent (Int × Int)} (he : e ∈ es) : ∃ f, (e.k, f) ∈ F ∧ e.v = .agg f.cells := by
  have : (e.k, e.v) ∈ Fs.rows F := by rw [← h]; exact List.mem_map.2 ⟨e, he, rfl⟩
  obtain ⟨p, hp, hq⟩ := List.mem_map.1 this
  simp only [Prod.mk.injEq] at hq
  exact ⟨p.2, by rw [← hq.1]; exact hp, hq.2.symm⟩
theorem rows_mem {es : List (Ent (Int × Int))} {F : Fs} (h : es.map (fun e => (e.k, e.v)) = Fs.rows F) {p : (Int × Int) × Fa} (hp : p ∈ F) : ∃ e ∈ es, e.k = p.1 ∧ e.v = .agg p.2.cells := by
  have : (p.1, Value.agg p.2.cells) ∈ es.map (fun e => (e.k, e.v)) := by rw [h]; exact List.mem_map.2 ⟨p, hp, rfl⟩
  obtain ⟨e, he, hq⟩ := List.mem_map.1 this
  simp only [Prod.mk.injEq] at hq
  exact ⟨e, he, hq.1, hq.2⟩

/-- What is known of the best one while the entries go by. -/
structure Best (key : Int) (es : List (Ent (Int × Int))) (seen : Array Nat) (b : Int) : Prop where
  pos : 0 ≤ b
  all : ∀ e ∈ es, e.born ∈ seen → ∀ f : Fa, e.v = .agg f.cells → Hit key (e.k, f) → e.k.2 ≤ b
  one : b = 0 ∨ ∃ e ∈ es, ∃ f : Fa, e.v = .agg f.cells ∧ Hit key (e.k, f) ∧ e.k.2 = b
theorem cells_inj {f g : Fa} (h : Value.agg f.cells = .agg g.cells) : f = g := by
  cases f; cases g
  simp [Fa.cells] at h
  simp [h]
theorem Best.best {key : Int} {es : List (Ent (Int × Int))} {seen : Array Nat} {b : Int} {F : Fs} (h : Best key es seen b) (hr : es.map (fun e => (e.k, e.v)) = Fs.rows F) (hall : ∀ e ∈ es, e.born ∈ seen) : b = bestA key F := by
  refine best_is h.pos (fun p hp hh => ?_) ?_
  · obtain ⟨e, he, hk, hv⟩ := rows_mem hr hp
    have := h.all e he (hall e he) p.2 hv (by rw [hk]; exact hh)
    rw [hk] at this
    exact this
  · rcases h.one with h0 | ⟨e, he, f, hv, hh, hb⟩
    · exact .inl h0
    · obtain ⟨g, hg, hv2⟩ := mem_rows hr he
      rw [hv] at hv2
      cases cells_inj hv2
      exact .inr ⟨_, hg, hh, hb⟩
theorem Best.skip {key : Int} {es : List (Ent (Int × Int))} {seen : Array Nat} {b : Int} (h : Best key es seen b) (hd : (es.map (·.born)).Nodup) {e : Ent (Int × Int)} (he : e ∈ es) {f : Fa} (hv : e.v = .agg f.cells) (hn : ¬ (e.k.1 = key ∧ 0 < f.ba ∧ b < e.k.2)) : Best key es (seen.push e.born) b := by
  refine ⟨h.pos, fun e' he' hs f' hv' hh => ?_, h.one⟩
  rcases Array.mem_push.1 hs with hs | hs
  · exact h.all e' he' hs f' hv' hh
  · have := nodup_map_inj hd he' he hs
    subst this
    rw [hv] at hv'
    cases cells_inj hv'
    have : ¬ b < e'.k.2 := fun hl => hn ⟨hh.1, hh.2, hl⟩
    omega
theorem Best.take {key : Int} {es : List (Ent (Int × Int))} {seen : Array Nat} {b : Int} (h : Best key es seen b) (hd : (es.map (·.born)).Nodup) {e : Ent (Int × Int)} (he : e ∈ es) {f : Fa} (hv : e.v = .agg f.cells) (h1 : e.k.1 = key) (h2 : 0 < f.ba) (h3 : b < e.k.2) : Best key es (seen.push e.born) e.k.2 := by
  refine ⟨by have := h.pos; omega, fun e' he' hs f' hv' hh => ?_, .inr ⟨e, he, f, hv, ⟨h1, h2⟩, rfl⟩⟩
  rcases Array.mem_push.1 hs with hs | hs
  · have := h.all e' he' hs f' hv' hh
    omega
  · have := nodup_map_inj hd he' he hs
    subst this
    exact Int.le_refl _

section
variable {W : World} {n mf : Nat} {pv : Value} {q : StP} {F : Fs} {S : St} {D : Dk}
set_option maxRecDepth 100000 in
set_option maxHeartbeats 6400000 in
theorem acc_query (h : AccAt W n mf pv q F S D) (key : Int) :
    Calls Tryz.prog 102 #[.pointer (some ⟨n, 0, none⟩), .int .i64 key] W fun e w' => ∃ v, e = .returned (.agg #[.int .i64 0, .int .i64 (bestA key F), .int .i64 (F.get (key, bestA key F)).pr, .int .i64 (F.get (key, bestA key F)).ba, .bool (F.get (key, bestA key F)).le, v]) ∧ Bs w' v (F.get (key, bestA key F)).va ∧ (∀ g, v.ownBlock = some g → W.heap.size ≤ g) ∧ Below W.heap.size W w' := by
  obtain ⟨es, clock, hm, hrows⟩ := h.facts
  obtain ⟨W1, hW1⟩ : ∃ W1, W.alloc (.cells #[.int .i64 0, .int .i64 0, .int .i64 0, .int .i64 0, .bool false, .slice none 0 0] 44) = W1 := ⟨_, rfl⟩
  have b1 : Below W.heap.size W W1 := by rw [← hW1]; exact (Below.refl _ W).alloc (Nat.le_refl _) _
  have s1 : W.heap.size < W1.heap.size := by rw [← hW1]; simp
  have kr : Blk W1 W.heap.size #[.int .i64 0, .int .i64 0, .int .i64 0, .int .i64 0, .bool false, .slice none 0 0] 44 := by rw [← hW1]; exact Blk.new W _ _
  obtain ⟨W2, hW2⟩ : ∃ W2, W1.alloc (.cells #[.int .i64 0, .int .i64 0] 180) = W2 := ⟨_, rfl⟩
  have b2 : Below W1.heap.size W1 W2 := by rw [← hW2]; exact (Below.refl _ W1).alloc (Nat.le_refl _) _
  have kb : Blk W2 W1.heap.size #[.int .i64 0, .int .i64 0] 180 := by rw [← hW2]; exact Blk.new W1 _ _
  have x0 := kb.cell (o := 0) rfl
  have x1 := kb.cell (o := 1) rfl
  have f0 := kb.free 0
  have f1 := kb.free 1
  obtain ⟨W3, hW3⟩ : ∃ W3, (W2.setCell ⟨W1.heap.size, 0, none⟩ (.int .i64 key)).setCell ⟨W1.heap.size, 1, none⟩ (.int .i64 0) = W3 := ⟨_, rfl⟩
  have kb3 := (kb.set (o := 0) (.int .i64 key)).set (o := 1) (.int .i64 0)
  rw [hW3] at kb3
  simp only [List.setIfInBounds_toArray, List.set_cons_zero, List.set_cons_succ] at kb3
  have e3 : Ext (fun b => b = W1.heap.size) W2 W3 := by rw [← hW3]; exact ((Ext.refl (fun b => b = W1.heap.size) W2).setCell (.inl rfl) _).setCell (.inl rfl) _
  have b3 : Below W1.heap.size W2 W3 := e3.belowOf b2.size (fun b hb e => by have e9 : b = W1.heap.size := e; omega)
  have b13 : Below W1.heap.size W1 W3 := b2.trans b3
  have s13 := kb3.lt
  have hm3 := (hm.keep b1).keep b13
  obtain ⟨hrg, hit⟩ := run_range_raw (P := Tryz.prog) hm3 Tryz.underlying93
  obtain ⟨W4, hW4⟩ : ∃ W4, W3.alloc (.mapIter (some mf) clock #[] clock) = W4 := ⟨_, rfl⟩
  rw [hW4] at hrg hit
  have b4 : Below W3.heap.size W3 W4 := by rw [← hW4]; exact (Below.refl _ W3).alloc (Nat.le_refl _) _
  have a3 := (h.keep b1).keep b13
  have hn2 := a3.cell.cell (o := 2) rfl
  have b14 := b13.trans (b4.mono b13.size)
  have s4 : W3.heap.size < W4.heap.size := by rw [← hW4]; simp
  have HA := hid (a3.keep b4)
  have HR := hid ((kr.keep b13).keep b4)
  have HB := hid (kb3.keep b4)
  have HW := hid (b1.trans (b14.mono b1.size))
  have HM := hid (hm3.keep b4)
  have HI := hid hit
  have HRW := hid hrows
  have hmlt := hm.lt
  have hnlt := h.cell.lt
  have HQ := hid (show ∀ b, q.all b → b < W.heap.size from fun b hb => h.st.size hb)
  have HZ := hid (And.intro s1 (And.intro s13 (And.intro s4 (And.intro hmlt hnlt))))
  have HBn := hid hm.born
  have HBd := hid hm.borns
  clear a3 b1 b2 b3 b4 b13 b14 kr kb kb3 e3 hm hm3 hit hrows h s1 s13 s4 hmlt hnlt
  go_enter Tryz.func102, Tryz.ntmps102
  go_wp2_with fail
  go_loopw [6] (fun _ wr => ∃ seen b, IterAt wr W3.heap.size mf clock seen clock ∧ Best key es seen b ∧ Blk wr W1.heap.size #[.int .i64 key, .int .i64 b] 180 ∧ Ext (fun b => b = W1.heap.size ∨ b = W3.heap.size) W4 wr) (fun _ wr => unseen es (seenOf wr W3.heap.size))
  case atStart => exact ⟨#[], 0, HI.out, ⟨Int.le_refl _, fun e _ hs => by simp at hs, .inl rfl⟩, HB.out, Ext.refl _ _⟩
  case round =>
    obtain ⟨seen, b, hit, hbest, kb, hx⟩ := hrel
    have hz := HZ.out
    have hm := HM.out.ext hx (by omega)
    rcases run_next_raw (P := Tryz.prog) hm hit HBn.out (by cases es with | nil => exact .inr (.inl rfl) | cons a l => exact .inr (.inr ⟨a, by simp, HBn.out a (by simp)⟩)) 0 with ⟨hall, hr⟩ | ⟨e, he, hn, w1, hr, hit1, hx1⟩
    · obtain rfl := hbest.best HRW.out hall
      have HX := hid hx
      have kbk := hid kb
      clear hx kb hm hbest hit hall hz hrg hW1 hW2 hW3 hW4 x0 x1 f0 f1 hn2
      go_wp2_with fail
      have HA5 := hid ((HA.out.ext2 HX.out (fun b hb hc => by have := HQ.out _ hc; have := HZ.out; rcases hb with hb | hb <;> omega) (by have := HZ.out; omega) (by have := HZ.out; omega)))
      have HB5 := kbk
      have HR5 := hid (HR.out.ext HX.out (by have := HZ.out; omega))
      have HS5 := hid (show W.heap.size < wr.heap.size by have := HX.out.size; have := HZ.out; omega)
      have HW5 := hid (HW.out.trans (HX.out.belowOf HW.out.size (fun b hb hc => by have := HZ.out; omega)))
      refine wp_region_tail 8 rfl Grows (fun i v x => match i with
          | 0 => v = .agg #[.int .i64 key, .int .i64 (bestA key F)]
          | 1 => v = .pointer (some ⟨n, 0, none⟩)
          | 2 => v = .pointer (some ⟨n, 0, none⟩)
          | 3 => v = .pointer (some ⟨n, 2, none⟩)
          | 4 => v = .map (some mf)
          | 5 => v = .agg #[.int .i64 key, .int .i64 (bestA key F)]
          | 6 => v = .agg (F.get (key, bestA key F)).cells
          | 7 => ∃ v9, v = .agg #[.int .i64 0, .int .i64 (bestA key F), .int .i64 (F.get (key, bestA key F)).pr, .int .i64 (F.get (key, bestA key F)).ba, .bool (F.get (key, bestA key F)).le, v9] ∧ Bs x v9 (F.get (key, bestA key F)).va ∧ ∀ g, v9.ownBlock = some g → W.heap.size < g
          | _ => True) (by kernel_rfl) (Grows.refl _) Grows.trans ?rstab ?rsteps ?rfin
      case rstab =>
        intro i v x y hg h
        match i with
        | 0 | 1 | 2 | 3 | 4 | 5 | 6 => exact h
        | 7 => exact (by obtain ⟨v9, e9, h9, g9⟩ := h; exact ⟨v9, e9, h9.keep hg, g9⟩)
        | n + 8 => trivial
      case rsteps =>
        simp only [List.take_succ_cons, List.take_zero]
        refine ⟨?_, ?_, ?_, ?_, ?_, ?_, ?_, ?_, trivial⟩
        · intro a x hA
          have t5 := hA.at_ 5 (by first | rfl | kernel_rfl) rfl
          have hB := HB5.out.keep hA.grown
          have hb0 := hB.cell (o := 0) rfl
          have hb1 := hB.cell (o := 1) rfl
          clear hB
          refine step_value (w' := x) (v := .agg #[.int .i64 key, .int .i64 (bestA key F)]) ?_ (Grows.refl _) rfl
          clear hA
          go_simp
        · intro a x hA
          have t0 := hA.at_ 0 (by first | rfl | kernel_rfl) rfl
          refine step_value (w' := x) (v := .pointer (some ⟨n, 0, none⟩)) ?_ (Grows.refl _) ?_
          · go_simp
          · rfl
        · intro a x hA
          have t38 : a.tmps[38]?.getD undef = .pointer (some ⟨n, 0, none⟩) := hA.dep_ ⟨1, .data⟩ (by simp) _ 38 rfl rfl
          refine step_value (w' := x) (v := .pointer (some ⟨n, 0, none⟩)) ?_ (Grows.refl _) ?_
          · go_simp
          · rfl
        · intro a x hA
          have t39 : a.tmps[39]?.getD undef = .pointer (some ⟨n, 0, none⟩) := hA.dep_ ⟨2, .data⟩ (by simp) _ 39 rfl rfl
          refine step_value (w' := x) (v := .pointer (some ⟨n, 2, none⟩)) ?_ (Grows.refl _) ?_
          · go_simp
          · rfl
        · intro a x hA
          have t40 : a.tmps[40]?.getD undef = .pointer (some ⟨n, 2, none⟩) := hA.dep_ ⟨3, .data⟩ (by simp) _ 40 rfl rfl
          have hN := HA5.out.cell.keep hA.grown
          have hn2 := hN.cell (o := 2) rfl
          clear hN
          refine step_value (w' := x) (v := .map (some mf)) ?_ (Grows.refl _) rfl
          clear hA
          go_simp
        · intro a x hA
          have t5 := hA.at_ 5 (by first | rfl | kernel_rfl) rfl
          have hB := HB5.out.keep hA.grown
          have hb0 := hB.cell (o := 0) rfl
          have hb1 := hB.cell (o := 1) rfl
          clear hB
          refine step_value (w' := x) (v := .agg #[.int .i64 key, .int .i64 (bestA key F)]) ?_ (Grows.refl _) rfl
          clear hA
          go_simp
        · intro a x hA
          have t41 : a.tmps[41]?.getD undef = .map (some mf) := hA.dep_ ⟨4, .data⟩ (by simp) _ 41 rfl rfl
          have t42 : a.tmps[42]?.getD undef = .agg #[.int .i64 key, .int .i64 (bestA key F)] := hA.dep_ ⟨5, .data⟩ (by simp) _ 42 rfl rfl
          have hlk := (HA5.out.keep hA.grown).look (key, bestA key F)
          simp only [encS] at hlk
          refine step_value (w' := x) (v := .agg (F.get (key, bestA key F)).cells) ?_ (Grows.refl _) rfl
          clear hA
          go_simp
        · intro a x hA
          have t37 : a.tmps[37]?.getD undef = .agg #[.int .i64 key, .int .i64 (bestA key F)] := hA.dep_ ⟨0, .data⟩ (by simp) _ 37 rfl rfl
          have t43 : a.tmps[43]?.getD undef = .agg (F.get (key, bestA key F)).cells := hA.dep_ ⟨6, .data⟩ (by simp) _ 43 rfl rfl
          have hs := Nat.lt_of_lt_of_le HS5.out hA.grow.size
          refine step_call (f := 107) (args := #[encS (key, bestA key F), .agg (F.get (key, bestA key F)).cells, .int .i64 0]) (by unfold encS; go_simp) ((acc_told (key, bestA key F) (F.get (key, bestA key F)) 0 x (by have := (Fs.get_ok HA5.out.small (key, bestA key F)).va; omega)).mono ?_)
          rintro e w' ⟨v, rfl, hbs, ho, hb⟩
          exact ⟨_, rfl, hb, v, rfl, hbs, fun g hg => Nat.lt_of_lt_of_le hs (ho g hg)⟩
      case rfin =>
        intro y W' hg hV
        simp only [List.take_succ_cons, List.take_zero, AllVals] at hV
        obtain ⟨_, _, _, _, _, _, _, ⟨v9, e9, h9, g9⟩, _⟩ := hV
        have hg2 := Below.trans (below_of_drewN _ _ 1) hg
        have kr := HR5.out.keep hg2
        have bw := HW5.out.trans (Below.mono hg2 HW5.out.size)
        have HV := hid (And.intro h9 g9)
        obtain ⟨av, cv, eF⟩ := h9.form
        clear hg hg2 h9 g9
        simp only [List.take_succ_cons, List.take_zero, List.drop_succ_cons, List.drop_zero, putAll, Act.put, List.setIfInBounds_toArray, List.set_cons_zero, List.set_cons_succ]
        rw [e9]
        clear e9
        rw [eF] at HV ⊢
        clear eF
        have r0 := kr.cell (o := 0) rfl
        have f0 := kr.free 0
        have r1 := kr.cell (o := 1) rfl
        have f1 := kr.free 1
        have r2 := kr.cell (o := 2) rfl
        have f2 := kr.free 2
        have r3 := kr.cell (o := 3) rfl
        have f3 := kr.free 3
        have r4 := kr.cell (o := 4) rfl
        have f4 := kr.free 4
        have r5 := kr.cell (o := 5) rfl
        have f5 := kr.free 5
        obtain ⟨W7, hW7⟩ : ∃ W7, ((((((W'.setCell ⟨W.heap.size, 0, none⟩ (.int .i64 0)).setCell ⟨W.heap.size, 1, none⟩ (.int .i64 (bestA key F))).setCell ⟨W.heap.size, 2, none⟩ (.int .i64 (F.get (key, bestA key F)).pr)).setCell ⟨W.heap.size, 3, none⟩ (.int .i64 (F.get (key, bestA key F)).ba)).setCell ⟨W.heap.size, 4, none⟩ (.bool (F.get (key, bestA key F)).le)).setCell ⟨W.heap.size, 5, none⟩ (.slice av (F.get (key, bestA key F)).va.length cv)) = W7 := ⟨_, rfl⟩
        have k7 := ((((((kr.set (o := 0) (.int .i64 0)).set (o := 1) (.int .i64 (bestA key F))).set (o := 2) (.int .i64 (F.get (key, bestA key F)).pr)).set (o := 3) (.int .i64 (F.get (key, bestA key F)).ba)).set (o := 4) (.bool (F.get (key, bestA key F)).le)).set (o := 5) (.slice av (F.get (key, bestA key F)).va.length cv))
        rw [hW7] at k7
        simp only [List.setIfInBounds_toArray, List.set_cons_zero, List.set_cons_succ] at k7
        have x7 : Ext (fun b => b = W.heap.size) W' W7 := by rw [← hW7]; exact (((((((Ext.refl (fun b => b = W.heap.size) W').setCell (.inl rfl) _).setCell (.inl rfl) _).setCell (.inl rfl) _).setCell (.inl rfl) _).setCell (.inl rfl) _).setCell (.inl rfl) _)
        have b7 : Below W.heap.size W W7 := bw.trans (x7.belowOf bw.size (fun b hb e => by have e2 : b = W.heap.size := e; omega))
        have s7 : Bs W7 (.slice av (F.get (key, bestA key F)).va.length cv) (F.get (key, bestA key F)).va := HV.out.1.ext x7 (fun k hk _ e => by
          have e2 : k = W.heap.size := e
          have := HV.out.2 k hk
          omega)
        have HH := hid (And.intro k7 (And.intro b7 s7))
        have HW7 := hid hW7
        clear k7 b7 hW7 x7 s7 bw kr
        go_wp2_with fail
        rw [HW7.out]
        have hld := run_loadVar_row (P := Tryz.prog) W7 W.heap.size 44 44 _ (0, 0) _ HH.out.1 Tryz.underlying44 rfl size_ans
        refine bodyPost_ret (v := .agg #[.int .i64 0, .int .i64 (bestA key F), .int .i64 (F.get (key, bestA key F)).pr, .int .i64 (F.get (key, bestA key F)).ba, .bool (F.get (key, bestA key F)).le, .slice av (F.get (key, bestA key F)).va.length cv]) ?_ rfl ?_
        · simp [results, Tryz.results102, hld, asAddr]
        · exact ⟨_, rfl, HH.out.2.2, fun g hg => Nat.le_of_lt (HV.out.2 g hg), HH.out.2.1⟩
    · obtain ⟨f, hf, hev⟩ := mem_rows HRW.out he
      have hent := run_entry_raw (P := Tryz.prog) (hm.ext hx1 (by omega)) he hit1
      rw [hev] at hr hent
      obtain ⟨k1, k2, hek⟩ : ∃ k1 k2, e.k = (k1, k2) := ⟨_, _, rfl⟩
      have hsk := fun hb => hbest.skip HBd.out he hev (f := f) hb
      have htk := fun h1 h2 h3 => hbest.take HBd.out he hev (f := f) h1 h2 h3
      simp only [hek] at hsk htk
      rw [hek] at hr hent
      simp only [encS, Fa.cells] at hr hent
      have hus : unseen es (seen.push e.born) < unseen es (seenOf wr W3.heap.size) := by rw [seenOf_at hit]; exact unseen_push he hn
      have hz2 := hx1.size
      have hz3 := hx.size
      have kb1 := kb.ext hx1 (by omega)
      have hx1' : Ext (fun b => b = W1.heap.size ∨ b = W3.heap.size) W4 w1 := hx.trans hx1 (fun b hb => .inl (.inr hb))
      obtain ⟨W5, hW5⟩ : ∃ W5, w1.alloc (.cells #[.int .i64 0, .int .i64 0] 180) = W5 := ⟨_, rfl⟩
      have b5 : Below w1.heap.size w1 W5 := by rw [← hW5]; exact (Below.refl _ w1).alloc (Nat.le_refl _) _
      have kx : Blk W5 w1.heap.size #[.int .i64 0, .int .i64 0] 180 := by rw [← hW5]; exact Blk.new w1 _ _
      obtain ⟨W6, hW6⟩ : ∃ W6, W5.alloc (.cells #[.int .i64 0, .int .i64 0, .bool false, .string ⟨#[]⟩] 178) = W6 := ⟨_, rfl⟩
      have b6 : Below W5.heap.size W5 W6 := by rw [← hW6]; exact (Below.refl _ W5).alloc (Nat.le_refl _) _
      have ky : Blk W6 W5.heap.size #[.int .i64 0, .int .i64 0, .bool false, .string ⟨#[]⟩] 178 := by rw [← hW6]; exact Blk.new W5 _ _
      have kx6 := kx.keep b6
      have s5 := kx.lt
      have s6 := ky.lt
      have b16 : Below w1.heap.size w1 W6 := b5.trans (b6.mono b5.size)
      have x0 := kx6.cell (o := 0) rfl
      have x1 := kx6.cell (o := 1) rfl
      have xf0 := kx6.free 0
      have xf1 := kx6.free 1
      obtain ⟨W7, hW7⟩ : ∃ W7, ((W6.setCell ⟨w1.heap.size, 0, none⟩ (.int .i64 k1)).setCell ⟨w1.heap.size, 1, none⟩ (.int .i64 k2)) = W7 := ⟨_, rfl⟩
      have kx7 := ((kx6.set (o := 0) (.int .i64 k1)).set (o := 1) (.int .i64 k2))
      rw [hW7] at kx7
      simp only [List.setIfInBounds_toArray, List.set_cons_zero, List.set_cons_succ] at kx7
      have e7 : Ext (fun b => b = w1.heap.size) W6 W7 := by rw [← hW7]; exact (((Ext.refl (fun b => b = w1.heap.size) W6).setCell (.inl rfl) _).setCell (.inl rfl) _)
      have b17 : Below w1.heap.size w1 W7 := b16.trans (e7.belowOf b16.size (fun b hb e => by have e9 : b = w1.heap.size := e; omega))
      have ky7 := ky.ext e7 (by omega)
      have y0 := ky7.cell (o := 0) rfl
      have y1 := ky7.cell (o := 1) rfl
      have y2 := ky7.cell (o := 2) rfl
      have y3 := ky7.cell (o := 3) rfl
      have yf0 := ky7.free 0
      have yf1 := ky7.free 1
      have yf2 := ky7.free 2
      have yf3 := ky7.free 3
      obtain ⟨W8, hW8⟩ : ∃ W8, ((((W7.setCell ⟨W5.heap.size, 0, none⟩ (.int .i64 f.pr)).setCell ⟨W5.heap.size, 1, none⟩ (.int .i64 f.ba)).setCell ⟨W5.heap.size, 2, none⟩ (.bool f.le)).setCell ⟨W5.heap.size, 3, none⟩ (.string ⟨f.va.toArray⟩)) = W8 := ⟨_, rfl⟩
      have ky8 := ((((ky7.set (o := 0) (.int .i64 f.pr)).set (o := 1) (.int .i64 f.ba)).set (o := 2) (.bool f.le)).set (o := 3) (.string ⟨f.va.toArray⟩))
      rw [hW8] at ky8
      simp only [List.setIfInBounds_toArray, List.set_cons_zero, List.set_cons_succ] at ky8
      have e8 : Ext (fun b => b = W5.heap.size) W7 W8 := by rw [← hW8]; exact (((((Ext.refl (fun b => b = W5.heap.size) W7).setCell (.inl rfl) _).setCell (.inl rfl) _).setCell (.inl rfl) _).setCell (.inl rfl) _)
      have b18 : Below w1.heap.size w1 W8 := b17.trans (e8.belowOf b17.size (fun b hb e => by have e9 : b = W5.heap.size := e; omega))
      have kx8 := kx7.ext e8 (by omega)
      have kb8 := kb1.keep b18
      have u0 := kx8.cell (o := 0) rfl
      have u1 := kx8.cell (o := 1) rfl
      have v1 := ky8.cell (o := 1) rfl
      have t0 := kb8.cell (o := 0) rfl
      have t1 := kb8.cell (o := 1) rfl
      have tf0 := kb8.free 0
      have tf1 := kb8.free 1
      have HI8 := hid (hit1.keep b18)
      have HX8 := hid (hx1'.then b18)
      have HK8 := hid kb8
      have HSK := hid hsk
      have HTK := hid htk
      have HUS := hid hus
      have hbne : W1.heap.size < w1.heap.size := by omega
      clear kx kx6 kx7 kx8 ky ky7 ky8 kb8 e7 e8 b5 b6 b16 b17 b18 kb kb1 hx hx1 hx1' hsk htk hus hit hit1 hbest hm hz hz2 hz3 he hev hf hn hek hrg
      by_cases c1 : k1 = key
      · subst c1
        by_cases c2 : 0 < f.ba
        · by_cases c3 : b < k2
          · have d2 : decide (0 < f.ba) = true := decide_eq_true c2
            have d3 : decide (b < k2) = true := decide_eq_true c3
            go_wp2_with fail
            go_roundw
            case rel => exact ⟨seen.push e.born, k2, HI8.out.ext (((Ext.refl (fun b => b = W1.heap.size) W8).setCell (.inl rfl) _).setCell (.inl rfl) _) (by have := HZ.out; omega), HTK.out rfl c2 c3, by simpa only [List.setIfInBounds_toArray, List.set_cons_zero, List.set_cons_succ] using (HK8.out.set (o := 0) (.int .i64 k1)).set (o := 1) (.int .i64 k2), (HX8.out.setCell (.inl (.inl rfl)) _).setCell (.inl (.inl rfl)) _⟩
            case measure =>
              rw [seenOf_at (HI8.out.ext (((Ext.refl (fun b => b = W1.heap.size) W8).setCell (.inl rfl) _).setCell (.inl rfl) _) (by have := HZ.out; omega))]
              exact HUS.out
          · have d2 : decide (0 < f.ba) = true := decide_eq_true c2
            have d3 : decide (b < k2) = false := decide_eq_false c3
            go_wp2_with fail
            go_roundw
            case rel => exact ⟨seen.push e.born, b, HI8.out, HSK.out (fun hh => c3 hh.2.2), HK8.out, HX8.out⟩
            case measure => rw [seenOf_at HI8.out]; exact HUS.out
        · have d2 : decide (0 < f.ba) = false := decide_eq_false c2
          go_wp2_with fail
          go_roundw
          case rel => exact ⟨seen.push e.born, b, HI8.out, HSK.out (fun hh => c2 hh.2.1), HK8.out, HX8.out⟩
          case measure => rw [seenOf_at HI8.out]; exact HUS.out
      · have d1 : (k1 == key) = false := by simpa using c1
        go_wp2_with fail
        go_roundw
        case rel => exact ⟨seen.push e.born, b, HI8.out, HSK.out (fun hh => c1 hh.1), HK8.out, HX8.out⟩
        case measure => rw [seenOf_at HI8.out]; exact HUS.out
end
end Go.Proofs.YtcdcjoofcbdilaaGreat
