import Derived.Test.YtcdcjoofcbdilaaGreatMRgE
import Derived.Sort.CutIn
/-! Package register: what hear lays down: answers in a row, the one that is learned. -/
namespace Go.Proofs.YtcdcjoofcbdilaaGreat
open Go.RowKit

def acell (r : An) (v : Value) : List Value := [.int .i64 r.e, .int .i64 r.ver, .int .i64 r.pr, .int .i64 r.ba, .bool r.le, v]
def acells (ps : List (An × Value)) : List Value := ps.flatMap (fun q => acell q.1 q.2)
theorem acells_append (a b : List (An × Value)) : acells (a ++ b) = acells a ++ acells b := by simp [acells]
theorem acells_length : ∀ (ps : List (An × Value)), (acells ps).length = ps.length * 6
  | [] => rfl
  | q :: ps => by
    have h := acells_length ps
    show (acell q.1 q.2 ++ acells ps).length = _
    rw [List.length_append, h]
    simp [acell]
    omega
theorem acells_at : ∀ {ps : List (An × Value)} {i : Nat} {q : An × Value} (o : Nat), o < 6 → ps[i]? = some q → (acells ps)[i * 6 + o]? = (acell q.1 q.2)[o]?
  | [], i, q, o, ho, h => by simp at h
  | x :: ps, 0, q, o, ho, h => by
    simp at h
    subst h
    show (acell x.1 x.2 ++ acells ps)[0 * 6 + o]? = _
    rw [List.getElem?_append_left (by simp [acell]; omega), Nat.zero_mul, Nat.zero_add]
  | x :: ps, i + 1, q, o, ho, h => by
    have h2 := acells_at (ps := ps) (i := i) (q := q) o ho (by simpa using h)
    show (acell x.1 x.2 ++ acells ps)[(i + 1) * 6 + o]? = _
    rw [List.getElem?_append_right (by simp [acell]; omega)]
    have e : (i + 1) * 6 + o - (acell x.1 x.2).length = i * 6 + o := by simp [acell]; omega
    rw [e]
    exact h2
abbrev OwnA (w : World) (base : Nat) (v : Value) (ps : List (An × Value)) : Prop := w.ownsRow base 44 6 v ps.length (acells ps)
theorem info_ans : ((Tryz.prog.info? 44).map (fun i => (i.zero, i.size, i.bytes))) = some (some (.agg #[.int .i64 0, .int .i64 0, .int .i64 0, .int .i64 0, .bool false, .slice none 0 0]), 6, 64) := by kernel_rfl
theorem OwnA.ext {fp : Nat → Prop} {w w' : World} {base : Nat} {v : Value} {ps : List (An × Value)} (h : OwnA w base v ps) (he : Ext fp w w') (hn : ∀ k, v.ownBlock = some k → ¬ fp k) : OwnA w' base v ps := by
  refine ⟨h.1, h.2.imp id ?_⟩
  rintro ⟨g, cap, cur, e, h1, h2, r⟩
  refine ⟨g, cap, cur, e, h1, (he.block g (Array.getElem?_eq_some_iff.1 h2).1 (hn g (by rw [e]; rfl))).trans h2, r⟩
theorem OwnA.form {w : World} {base : Nat} {v : Value} {ps : List (An × Value)} (h : OwnA w base v ps) : (v = .slice none 0 0 ∧ ps = []) ∨ ∃ g c, v = .slice (some ⟨g, 0, none⟩) ps.length c := by
  rcases h.2 with ⟨e, h0⟩ | ⟨g, cap, cur, e, _⟩
  · exact .inl ⟨e, List.eq_nil_of_length_eq_zero h0⟩
  · exact .inr ⟨g, cap, e⟩
theorem OwnA.cells {w : World} {base g n cap : Nat} {ps : List (An × Value)} (h : OwnA w base (.slice (some ⟨g, 0, none⟩) n cap) ps) {j : Nat} {u : Value} (hu : (acells ps)[j]? = some u) : w.cell? ⟨g, j, none⟩ = some u := by
  rcases h.2 with ⟨e, _⟩ | ⟨g2, cap2, cur, e, hb, hg, hnc, hcm, hcs, htk⟩
  · cases e
  · injection e with e1 e2 e3
    injection e1 with e1
    injection e1 with e1
    subst e1 e3
    rw [← htk, List.getElem?_take] at hu
    split at hu
    · simp [World.cell?, hg]
      simpa using hu
    · cases hu
theorem OwnA.typed {w : World} {base : Nat} {v : Value} {ps : List (An × Value)} (h : OwnA w base v ps) : ∀ g, v.ownBlock = some g → ∃ cs, w.heap[g]? = some (.cells cs 44) := by
  rcases h.2 with ⟨rfl, _⟩ | ⟨g, cap, cur, rfl, _, hg, _⟩
  · intro g hg; cases hg
  · intro g2 hg2
    cases hg2
    exact ⟨_, hg⟩
theorem Own8.typed {w : World} {base : Nat} {v : Value} {l : List UInt8} (h : Own8 w base 5 v l) : ∀ g, v.ownBlock = some g → ∃ cs, w.heap[g]? = some (.cells cs 5) := by
  rcases h.2 with ⟨rfl, _⟩ | ⟨g, cap, cur, rfl, _, hg, _⟩
  · intro g hg; cases hg
  · intro g2 hg2
    cases hg2
    exact ⟨_, hg⟩
theorem Own8.extV {fp : Nat → Prop} {w w' : World} {base : Nat} {t : TypeId} {v : Value} {l : List UInt8} (h : Own8 w base t v l) (he : Ext fp w w') (hn : ∀ k, v.ownBlock = some k → ¬ fp k) : Own8 w' base t v l := by
  refine ⟨h.1, h.2.imp id ?_⟩
  rintro ⟨g, cap, cur, e, h1, h2, r⟩
  refine ⟨g, cap, cur, e, h1, (he.block g (Array.getElem?_eq_some_iff.1 h2).1 (hn g (by rw [e]; rfl))).trans h2, r⟩
/-- An answer's bytes, in a block of nobody's. -/
def ValAt (W : World) (al : Nat → Prop) (M : Nat) (r : An) (v : Value) : Prop := Own8 W M 5 v r.b ∧ ∀ g, v.ownBlock = some g → ¬ al g
def GoodAt (W : World) (al : Nat → Prop) (M : Nat) (gv : Value) (gs : List An) : Prop := ∃ ps, ps.map (·.1) = gs ∧ OwnA W M gv ps ∧ (∀ q ∈ ps, ValAt W al M q.1 q.2) ∧ ∀ g, gv.ownBlock = some g → ¬ al g
def LearnAt (W : World) (al : Nat → Prop) (M : Nat) (gv lp : Value) : Option An → Prop
  | none => lp = .pointer none
  | some r => ∃ X v, lp = .pointer (some ⟨X, 0, none⟩) ∧ Blk W X (acell r v).toArray 44 ∧ ¬ al X ∧ M ≤ X ∧ gv.ownBlock ≠ some X ∧ ValAt W al M r v
theorem GoodAt.lt {W : World} {al : Nat → Prop} {M : Nat} {gv : Value} {gs : List An} (h : GoodAt W al M gv gs) : ∀ g, gv.ownBlock = some g → M ≤ g ∧ g < W.heap.size := by
  obtain ⟨ps, _, h2, _⟩ := h
  exact World.ownsRow.lt h2
theorem GoodAt.typed {W : World} {al : Nat → Prop} {M : Nat} {gv : Value} {gs : List An} (h : GoodAt W al M gv gs) : ∀ g, gv.ownBlock = some g → ∃ cs, W.heap[g]? = some (.cells cs 44) := by
  obtain ⟨ps, _, h2, _⟩ := h
  exact h2.typed
theorem GoodAt.form {W : World} {al : Nat → Prop} {M : Nat} {gv : Value} {gs : List An} (h : GoodAt W al M gv gs) : ∃ a c, gv = .slice a gs.length c := by
  obtain ⟨ps, h1, h2, _⟩ := h
  rcases h2.form with ⟨e, e2⟩ | ⟨g, c, e⟩
  · exact ⟨none, 0, by rw [e, ← h1, e2]; rfl⟩
  · exact ⟨_, c, by rw [e, ← h1, List.length_map]⟩
section
variable {W W' : World} {al al' fp : Nat → Prop} {M : Nat} {gv gv' lp : Value}
theorem ValAt.move {r : An} {v : Value} (h : ValAt W al M r v) (he : Ext fp W W') (hf : ∀ b, fp b → al b ∨ b < M ∨ W.heap.size ≤ b ∨ ∃ cs, W.heap[b]? = some (.cells cs 44)) (ha : ∀ b, al' b → al b ∨ W.heap.size ≤ b) : ValAt W' al' M r v := by
  refine ⟨h.1.extV he (fun g hg hc => ?_), fun g hg hc => ?_⟩
  · have hb := h.1.blk g hg
    rcases hf g hc with h1 | h1 | h1 | ⟨cs, h1⟩
    · exact h.2 g hg h1
    · omega
    · omega
    · obtain ⟨cs2, h2⟩ := h.1.typed g hg
      rw [h1] at h2
      injection h2 with h2
      injection h2 with _ h2
      exact absurd h2 (by decide)
  · have hb := h.1.blk g hg
    rcases ha g hc with h1 | h1
    · exact h.2 g hg h1
    · omega
theorem GoodAt.move {gs : List An} (h : GoodAt W al M gv gs) (he : Ext fp W W') (hf : ∀ b, fp b → al b ∨ b < M ∨ W.heap.size ≤ b) (ha : ∀ b, al' b → al b ∨ W.heap.size ≤ b) : GoodAt W' al' M gv gs := by
  have hl := h.lt
  obtain ⟨ps, h1, h2, h3, h4⟩ := h
  refine ⟨ps, h1, h2.ext he (fun g hg hc => ?_), fun q hq => (h3 q hq).move he (fun b hb => (hf b hb).imp id (fun h => h.imp id .inl)) ha, fun g hg hc => ?_⟩
  · have := hl g hg
    rcases hf g hc with h9 | h9 | h9
    · exact h4 g hg h9
    · omega
    · omega
  · have := hl g hg
    rcases ha g hc with h9 | h9
    · exact h4 g hg h9
    · omega
theorem LearnAt.move {lo : Option An} (h : LearnAt W al M gv lp lo) (ht : ∀ g, gv.ownBlock = some g → ∃ cs, W.heap[g]? = some (.cells cs 44)) (he : Ext fp W W') (hf : ∀ b, fp b → al b ∨ b < M ∨ W.heap.size ≤ b ∨ gv.ownBlock = some b) (ha : ∀ b, al' b → al b ∨ W.heap.size ≤ b) (hg : ∀ b, gv'.ownBlock = some b → gv.ownBlock = some b ∨ W.heap.size ≤ b) : LearnAt W' al' M gv' lp lo := by
  cases lo with
  | none => exact h
  | some r =>
    obtain ⟨X, v, h1, h2, h3, h4, h5, h6⟩ := h
    have hX := h2.lt
    refine ⟨X, v, h1, h2.ext he (fun hc => ?_), fun hc => ?_, h4, fun hc => ?_, h6.move he (fun b hb => (hf b hb).imp id (fun h => h.imp id (fun h => h.imp id (ht b)))) ha⟩
    · rcases hf X hc with h9 | h9 | h9 | h9
      · exact h3 h9
      · omega
      · omega
      · exact h5 h9
    · rcases ha X hc with h9 | h9
      · exact h3 h9
      · omega
    · rcases hg X hc with h9 | h9
      · exact h5 h9
      · omega
theorem OwnA.low {w : World} {base base' : Nat} {v : Value} {ps : List (An × Value)} (h : OwnA w base v ps) (hb : base' ≤ base) : OwnA w base' v ps := by
  refine ⟨h.1, h.2.imp id ?_⟩
  rintro ⟨g, cap, cur, e, h1, r⟩
  exact ⟨g, cap, cur, e, Nat.le_trans hb h1, r⟩
theorem ValAt.low {M' : Nat} {r : An} {v : Value} (h : ValAt W al M r v) (hm : M' ≤ M) : ValAt W al M' r v := ⟨h.1.mono hm, h.2⟩
theorem GoodAt.low {M' : Nat} {gs : List An} (h : GoodAt W al M gv gs) (hm : M' ≤ M) : GoodAt W al M' gv gs := by
  obtain ⟨ps, h1, h2, h3, h4⟩ := h
  exact ⟨ps, h1, h2.low hm, fun q hq => (h3 q hq).low hm, h4⟩
theorem LearnAt.low {M' : Nat} {lo : Option An} (h : LearnAt W al M gv lp lo) (hm : M' ≤ M) : LearnAt W al M' gv lp lo := by
  cases lo with
  | none => exact h
  | some r =>
    obtain ⟨X, v, h1, h2, h3, h4, h5, h6⟩ := h
    exact ⟨X, v, h1, h2, h3, Nat.le_trans hm h4, h5, h6.low hm⟩
/-- An answer more: the row grows. -/
theorem good_add {gs : List An} {r : An} {v : Value} (h : GoodAt W al M gv gs) (hv : ValAt W al M r v) (hM : M ≤ W.heap.size) (hal : ∀ b, al b → b < W.heap.size) (hl : (gs.length + 1) * 64 ≤ 140737488355328) (g0 c0 : Nat) (hg0 : Blk W g0 (acell r v).toArray 44) :
    ∃ gv' W', (Builtin.append_ #[81, 81] 81 #[gv, .slice (some ⟨g0, 0, none⟩) 1 c0]).run Tryz.prog W = .ok gv' W' ∧ GoodAt W' al M gv' (gs ++ [r]) ∧ (∀ b, gv'.ownBlock = some b → gv.ownBlock = some b ∨ W.heap.size ≤ b) ∧ Ext (fun b => gv.ownBlock = some b) W W' := by
  have hty := h.typed
  obtain ⟨ps, h1, h2, h3, h4⟩ := h
  have hpl : ps.length = gs.length := by rw [← h1]; simp
  have i0 : ∃ i, Tryz.prog.info? 44 = some i ∧ i.zero = some (.agg #[.int .i64 0, .int .i64 0, .int .i64 0, .int .i64 0, .bool false, .slice none 0 0]) ∧ i.size = 6 ∧ i.bytes = 64 := by
    obtain ⟨i, hi, hz0⟩ := Option.map_eq_some_iff.1 info_ans
    simp only [Prod.mk.injEq] at hz0
    exact ⟨i, hi, hz0.1, hz0.2.1, hz0.2.2⟩
  obtain ⟨i, hi, hz0, hz1, hz2⟩ := i0
  have hvs : v.oneCell' = true := by
    obtain ⟨a, c, rfl⟩ := hv.1.form
    rfl
  obtain ⟨gv', W', hr, q1, q2, _, q3⟩ := run_append_own_at (P := Tryz.prog) W M 81 81 44 i _ 6 64 Tryz.underlying81 hi hz0 hz1 hz2 rfl (by decide) gv ps.length (acells ps) h2 ⟨g0, 0, none⟩ 1 c0 (acells [(r, v)]) (by simp [acells, acell]) (fun j u hu => add_cell (by
      rw [Nat.zero_add]
      refine hg0.cell ?_
      have e : acells [(r, v)] = acell r v := by simp [acells]
      rw [e] at hu
      simpa using hu)) (fun u hu => by
      have e : acells [(r, v)] = acell r v := by simp [acells]
      rw [e] at hu
      simp only [acell, List.mem_cons, List.not_mem_nil, or_false] at hu
      rcases hu with rfl | rfl | rfl | rfl | rfl | rfl
      · rfl
      · rfl
      · rfl
      · rfl
      · rfl
      · exact hvs) (by unfold maxLen; omega) (by rw [hpl]; exact hl) hM
  rw [← acells_append] at q1
  have hown : ∀ b, gv'.ownBlock = some b → gv.ownBlock = some b ∨ W.heap.size ≤ b := fun b hb => q3.elim (fun e => .inl (by rw [← e]; exact hb)) (fun e => .inr (by rw [e] at hb; injection hb with hb; omega))
  have hE : Ext (fun b => gv.ownBlock = some b) W W' := (Ext.refl _ W).grown q2 (fun k e => .inl e)
  have q1' : OwnA W' M gv' (ps ++ [(r, v)]) := by unfold OwnA; rw [List.length_append]; exact q1
  have hfp : ∀ b, gv.ownBlock = some b → al b ∨ b < M ∨ W.heap.size ≤ b ∨ ∃ cs, W.heap[b]? = some (.cells cs 44) := fun b hb => .inr (.inr (.inr (hty b hb)))
  refine ⟨gv', W', hr, ⟨ps ++ [(r, v)], by simp [h1], q1', fun q hq => ?_, fun g hg hc => ?_⟩, hown, hE⟩
  · rcases List.mem_append.1 hq with hq | hq
    · exact (h3 q hq).move hE hfp (fun b hb => .inl hb)
    · simp at hq
      subst hq
      exact hv.move hE hfp (fun b hb => .inl hb)
  · rcases hown g hg with h9 | h9
    · exact h4 g h9 hc
    · have := hal g hc; omega
end
end Go.Proofs.YtcdcjoofcbdilaaGreat

/-! XRangeL's law once more, where the round's body is told what held ahead of the answer's coming too. -/
namespace Go.Proofs.YtcdcjoofcbdilaaGreat
open Go.RowKit
section
variable {P : Program}
theorem wpIn_rangeM {g : Operand} {ps : Array Tmp} {assign body : Code} {Q : Exit → Act → World → Prop} {a : Act} {w : World} {n : Nat} {gf : Nat} {lb : Array Value}
    (hg : a.eval g = .func (.func gf) #[] lb) (eg : ∀ args w, (callFunc gf args).run P w = .ok (.enter gf args) w)
    {N : Nat} {Y : Nat → (Nat → Prop) → World → Array Value → Prop} {kp : Nat → Prop} {Fin : (Nat → Prop) → World → Prop} {FinX : Nat → (Nat → Prop) → World → Prop} {al0 : Nat → Prop} {M : Nat}
    (hM : w.heap.size + 2 ≤ M)
    (hit : ∀ W, Below w.heap.size w W → W.heap.size = w.heap.size + 2 → IterL P gf lb N Y kp Fin FinX al0 M W)
    (I : Nat → (Nat → Prop) → World → Prop) (Ix : Code → Nat → (Nat → Prop) → World → Prop)
    (hI : ∀ k, StaysL w.heap.size M (I k)) (hIx : ∀ c k, StaysL w.heap.size M (Ix c k))
    (hYs : ∀ k al A args, Y k al A args → args.size = ps.size)
    (hFin : ∀ al A B, Fin al A → Ext (fun b => ¬ al b) A B → Fin al B) (hFinX : ∀ k al A B, FinX k al A → Ext (fun b => ¬ al b) A B → FinX k al B)
    (hal : ∀ b, al0 b → b < w.heap.size) (hkp : ∀ b, kp b → b < w.heap.size) (h0 : I 0 al0 w) (upd : Array Value → World → Array Value → Array Value) (asgW : Array Value → World → World) (hAW : ∀ k al W args, Y k al W args → Below W.heap.size W (asgW args W))
    (hassign : ∀ (m k : Nat) (al : Nat → Prop) (args : Array Value) (W : World) (K : Act → World → Prop), Y k al W args → K { tmps := upd args W ((ps.zip args).foldl (fun t (p, v) => t.setIfInBounds p v) a.tmps), defers := [] } (asgW args W) →
      assign.wpIn (Fence.wide.inRound (w.heap.size + 1)) m P (Exit.then K (fun _ _ _ => False)) { tmps := (ps.zip args).foldl (fun t (p, v) => t.setIfInBounds p v) a.tmps, defers := [] } W)
    (hbody : ∀ (m k : Nat) (al : Nat → Prop) (W0 W : World) (args : Array Value), k < N → (¬ al w.heap.size ∧ ¬ al (w.heap.size + 1)) → I k al W0 → I k al W → Y k al W0 args → M ≤ W0.heap.size → Ext (fun b => b = w.heap.size + 1) (asgW args W0) W →
      body.wpIn (Fence.wide.inRound (w.heap.size + 1)) m P (roundEndL al kp w.heap.size M I Ix k W) { tmps := upd args W0 ((ps.zip args).foldl (fun t (p, v) => t.setIfInBounds p v) a.tmps), defers := [] } W)
    (hdone : ∀ (al : Nat → Prop) (W : World), I N al W → Fin al W → ¬ al w.heap.size → W.heap[w.heap.size]? = some (.deferred (some [])) → Q .normal { a with defers := { target := .collected w.heap.size, args := #[] } :: a.defers } W)
    (hstop : ∀ (c : Code) (k : Nat) (al : Nat → Prop) (W : World), Ix c k al W → FinX k al W → ¬ al w.heap.size → W.heap[w.heap.size]? = some (.deferred (some [])) → c.wpIn Fence.wide n P Q { a with defers := { target := .collected w.heap.size, args := #[] } :: a.defers } W) :
    (Code.rangeFunc g ps assign body).wpIn Fence.wide n P Q a w := by
  refine wpIn_rangeFunc ?_
  intro fn hfn
  obtain ⟨rec, hrec⟩ : ∃ rec : LoopState → Option Code → Loop, rec = fun st pe => { state := st, pending := pe, fn, tmps := a.tmps, params := ps, assign, body, defers := w.heap.size } := ⟨_, rfl⟩
  obtain ⟨W1, hW1⟩ : ∃ W1, (w.alloc (.deferred (some []))).alloc (.loop (rec .ready none)) = W1 := ⟨_, rfl⟩
  have hL1 : W1.heap[w.heap.size + 1]? = some (.loop (rec .ready none)) := by
    rw [← hW1]; have := World.alloc_heap_new (w.alloc (.deferred (some []))) (.loop (rec .ready none)); rwa [World.size_alloc] at this
  have hK1 : W1.heap[w.heap.size]? = some (.deferred (some [])) := by
    rw [← hW1]; exact (Below.heap_alloc _ _ _ (by simp)).trans (World.alloc_heap_new w _)
  have hb1 : Below w.heap.size w W1 := by rw [← hW1]; exact ((Below.refl _ w).alloc (Nat.le_refl _) _).alloc (by simp) _
  have hs1 : W1.heap.size = w.heap.size + 2 := by rw [← hW1]; simp
  have hI1 : I 0 al0 W1 := hI 0 al0 al0 w W1 h0 (Ext.ofBelow hb1) (fun b h => .inl h)
  refine ⟨w.heap.size + 1, [{ target := .collected w.heap.size, args := #[] }], W1, { target := .fn (.func gf) lb, args := #[.func (.yield (w.heap.size + 1)) #[] #[]] }, W1, gf,
    #[.func (.yield (w.heap.size + 1)) #[] #[]] ++ lb, W1, ?_, ?_, ?_, ?_, fun h => by simp [Fence.wide] at h, ?_⟩
  · rw [← hW1, hrec]; exact run_enterLoop_outer _ _ _ _ _
  · simp only [resolve, hg]
    simp [go_sem]
  · intro f' hf'; trivial
  · simp [invoke, go_sem, eg]
  · have hext : ∀ (W : World) (o : Obj), Ext (fun b => b = w.heap.size + 1) W (W.putObj (w.heap.size + 1) o) := fun W o => ext_putObj _ _ _
    have hin : ∀ {al : Nat → Prop} {A B : World}, Ext (fun b => b = w.heap.size + 1) A B → Ext (fun b => al b ∨ (w.heap.size ≤ b ∧ b < M)) A B := fun h => h.mono (fun b _ e => .inr (by omega))
    have hmine : ∀ {al : Nat → Prop} {A B : World}, ¬ al (w.heap.size + 1) → Ext (fun b => b = w.heap.size + 1) A B → Ext (fun b => ¬ al b) A B := fun hn h => h.mono (fun b _ e => by rw [e]; exact hn)
    refine (hit W1 hb1 hs1 (n - 1) (w.heap.size + 1)
      (fun k al W => I k al W ∧ (W.heap[w.heap.size + 1]? = some (.loop (rec .ready none)) ∧ W.heap[w.heap.size]? = some (.deferred (some []))) ∧ (¬ al w.heap.size ∧ ¬ al (w.heap.size + 1)) ∧ w.heap.size + 2 ≤ W.heap.size)
      (fun k al W => ∃ c, Ix c k al W ∧ (W.heap[w.heap.size + 1]? = some (.loop (rec .done (some c))) ∧ W.heap[w.heap.size]? = some (.deferred (some []))) ∧ (¬ al w.heap.size ∧ ¬ al (w.heap.size + 1)) ∧ w.heap.size + 2 ≤ W.heap.size)
      ?_ ?_ ?_ ⟨hI1, ⟨hL1, hK1⟩, ⟨fun h => by have := hal _ h; omega, fun h => by have := hal _ h; omega⟩, by omega⟩).mono ?_
    · rintro k al al' A B ⟨h1, ⟨h2, h3⟩, ⟨h4, h5⟩, h6⟩ he hg'
      refine ⟨hI k al al' A B h1 (he.mono (fun b _ h => h.imp id (fun h => by omega))) hg', ⟨?_, ?_⟩, ⟨fun h => (hg' _ h).elim h4 (fun h => by omega), fun h => (hg' _ h).elim h5 (fun h => by omega)⟩, Nat.le_trans h6 he.size⟩
      · rw [he.block _ (Array.getElem?_eq_some_iff.1 h2).1 (fun h => h.elim h5 (fun h => by omega))]; exact h2
      · rw [he.block _ (Array.getElem?_eq_some_iff.1 h3).1 (fun h => h.elim h4 (fun h => by omega))]; exact h3
    · rintro k al al' A B ⟨c, h1, ⟨h2, h3⟩, ⟨h4, h5⟩, h6⟩ he hg'
      refine ⟨c, hIx c k al al' A B h1 (he.mono (fun b _ h => h.imp id (fun h => by omega))) hg', ⟨?_, ?_⟩, ⟨fun h => (hg' _ h).elim h4 (fun h => by omega), fun h => (hg' _ h).elim h5 (fun h => by omega)⟩, Nat.le_trans h6 he.size⟩
      · rw [he.block _ (Array.getElem?_eq_some_iff.1 h2).1 (fun h => h.elim h5 (fun h => by omega))]; exact h2
      · rw [he.block _ (Array.getElem?_eq_some_iff.1 h3).1 (fun h => h.elim h4 (fun h => by omega))]; exact h3
    · rintro m k al W args hk ⟨hi, ⟨hl, hd⟩, hna, hsz2⟩ hy hsz
      have hyr := run_yield (P := P) (args := args) hl (by rw [hrec]; exact hYs k al W args hy)
      rw [hrec] at hyr
      refine ⟨fn, _, assign, body, hyr, roundIn_of_wpIn trivial (hassign m k al args W _ hy ⟨_, run_beginRound (P := P) (World.heap_below hl (hAW k al W args hy)) (by rw [hrec]), ?_⟩)⟩
      have hbA := hAW k al W args hy
      have hlA := World.heap_below hl hbA
      obtain ⟨W2, hW2⟩ : ∃ W2, (asgW args W).putObj (w.heap.size + 1) (.loop { rec .ready none with state := .busy }) = W2 := ⟨_, rfl⟩
      have e2' : Ext (fun b => b = w.heap.size + 1) (asgW args W) W2 := hW2 ▸ hext (asgW args W) _
      have e2 : Ext (fun b => b = w.heap.size + 1) W W2 := (Ext.ofBelow hbA : Ext (fun b => b = w.heap.size + 1) W _).trans' e2'
      have hl2 : W2.heap[w.heap.size + 1]? = some (.loop { rec .ready none with state := .busy }) := hW2 ▸ World.putObj_heap_same (Array.getElem?_eq_some_iff.1 hlA).1
      have hd2 : W2.heap[w.heap.size]? = some (.deferred (some [])) := (e2.block _ (Array.getElem?_eq_some_iff.1 hd).1 (by omega)).trans hd
      rw [hW2]
      refine wpIn_mono (hbody m k al W W2 args hk hna hi (hI k al al W W2 hi (hin e2) (fun b h => .inl h)) hy hsz e2') ?_
      have fin : ∀ (jump : Option Code) (W3 : World), Ext (fun b => ¬ al b ∧ ¬ kp b ∧ ¬ (w.heap.size ≤ b ∧ b < M)) W2 W3 →
          (Instr.endRound (w.heap.size + 1) jump).run P W3 = .ok (.bool jump.isNone) (W3.putObj (w.heap.size + 1) (.loop (rec (if jump.isNone then .ready else .done) jump))) ∧
          Ext (fun b => ¬ al b ∧ ¬ kp b ∧ ¬ (W1.heap.size ≤ b ∧ b < M)) W (W3.putObj (w.heap.size + 1) (.loop (rec (if jump.isNone then .ready else .done) jump))) ∧
          ((W3.putObj (w.heap.size + 1) (.loop (rec (if jump.isNone then .ready else .done) jump))).heap[w.heap.size + 1]? = some (.loop (rec (if jump.isNone then .ready else .done) jump)) ∧
          (W3.putObj (w.heap.size + 1) (.loop (rec (if jump.isNone then .ready else .done) jump))).heap[w.heap.size]? = some (.deferred (some []))) ∧ w.heap.size + 2 ≤ (W3.putObj (w.heap.size + 1) (.loop (rec (if jump.isNone then .ready else .done) jump))).heap.size := fun jump W3 he => by
        have hl3 : W3.heap[w.heap.size + 1]? = some (.loop { rec .ready none with state := .busy }) := (he.block _ (Array.getElem?_eq_some_iff.1 hl2).1 (fun h => h.2.2 (by omega))).trans hl2
        have hd3 : W3.heap[w.heap.size]? = some (.deferred (some [])) := (he.block _ (Array.getElem?_eq_some_iff.1 hd2).1 (fun h => h.2.2 (by omega))).trans hd2
        have := run_endRound (P := P) jump hl3
        rw [hrec] at this ⊢
        refine ⟨this, ?_, ⟨World.putObj_heap_same (Array.getElem?_eq_some_iff.1 hl3).1, (World.putObj_heap_other (by omega)).trans hd3⟩, Nat.le_trans hsz2 (Nat.le_trans e2.size (Nat.le_trans he.size (hext W3 _).size))⟩
        have hc : Ext (fun b => ¬ al b ∧ ¬ kp b ∧ ¬ (W1.heap.size ≤ b ∧ b < M)) W W2 := e2.mono (fun b _ e => by rw [e]; exact ⟨hna.2, fun h => by have := hkp _ h; omega, by omega⟩)
        have hc2 : Ext (fun b => ¬ al b ∧ ¬ kp b ∧ ¬ (W1.heap.size ≤ b ∧ b < M)) W2 W3 := he.mono (fun b _ h => ⟨h.1, h.2.1, fun h' => h.2.2 (by omega)⟩)
        have hc3 : Ext (fun b => ¬ al b ∧ ¬ kp b ∧ ¬ (W1.heap.size ≤ b ∧ b < M)) W3 (W3.putObj (w.heap.size + 1) (.loop { state := if jump.isNone then .ready else .done, pending := jump, fn, tmps := a.tmps, params := ps, assign, body, defers := w.heap.size })) := (hext W3 _).mono (fun b _ e => by rw [e]; exact ⟨hna.2, fun h => by have := hkp _ h; omega, by omega⟩)
        exact (hc.trans' hc2).trans' hc3
      rintro e a3 W3 hp
      cases e with
      | normal =>
        obtain ⟨he, hi3⟩ := hp
        obtain ⟨hr, hx, hl4, hs4⟩ := fin none W3 he
        exact ⟨_, _, hr, .inl ⟨rfl, ⟨hI _ _ _ _ _ hi3 (hin (hext W3 _)) (fun b h => .inl h), hl4, hna, hs4⟩, hx⟩⟩
      | ret =>
        obtain ⟨he, hi3⟩ := hp
        obtain ⟨hr, hx, hl4, hs4⟩ := fin (some .ret) W3 he
        exact ⟨_, _, hr, .inr ⟨rfl, ⟨.ret, hIx _ _ _ _ _ _ hi3 (hin (hext W3 _)) (fun b h => .inl h), hl4, hna, hs4⟩, hx⟩⟩
      | exit id =>
        obtain ⟨he, hi3⟩ := hp
        obtain ⟨hr, hx, hl4, hs4⟩ := fin (some (.exit id)) W3 he
        exact ⟨_, _, hr, .inr ⟨rfl, ⟨.exit id, hIx _ _ _ _ _ _ hi3 (hin (hext W3 _)) (fun b h => .inl h), hl4, hna, hs4⟩, hx⟩⟩
      | goto t =>
        obtain ⟨he, hi3⟩ := hp
        obtain ⟨hr, hx, hl4, hs4⟩ := fin (some (.goto t)) W3 he
        exact ⟨_, _, hr, .inr ⟨rfl, ⟨.goto t, hIx _ _ _ _ _ _ hi3 (hin (hext W3 _)) (fun b h => .inl h), hl4, hna, hs4⟩, hx⟩⟩
      | panic ch => exact hp.elim
      | outgrown => exact hp.elim
    · rintro e W2 ⟨⟨v, rfl⟩, (⟨al, ⟨hi, ⟨hl, hd⟩, hna, hs⟩, hf⟩ | ⟨k, al, ⟨c, hi, ⟨hl, hd⟩, hna, hs⟩, hf⟩)⟩
      · refine ⟨none, _, by have := run_endLoop (P := P) hl (by rw [hrec]; simp); rw [hrec] at this; exact this, hdone al _ (hI _ _ _ _ _ hi (hin (hext W2 _)) (fun b h => .inl h)) (hFin _ _ _ hf (hmine hna.2 (hext W2 _))) hna.1 ((World.putObj_heap_other (by omega)).trans hd)⟩
      · refine ⟨some c, _, by have := run_endLoop (P := P) hl (by rw [hrec]; simp); rw [hrec] at this; exact this, hstop _ k al _ (hIx _ _ _ _ _ _ hi (hin (hext W2 _)) (fun b h => .inl h)) (hFinX _ _ _ _ hf (hmine hna.2 (hext W2 _))) hna.1 ((World.putObj_heap_other (by omega)).trans hd)⟩
end
end Go.Proofs.YtcdcjoofcbdilaaGreat

/-! Package register: hear. -/
namespace Go.Proofs.YtcdcjoofcbdilaaGreat
open Go.RowKit
attribute [local go_sem] Oper.semAt_some

theorem wpListIn_append_run {F : Fence} {n : Nat} {P : Program} (w : World) {ops : Array Oper} {rest : List Oper} {o : Oper} {a : Act} {Q : Exit → Act → World → Prop} (hgd : o.guard = none) (s x : Operand) (t tn : TypeId)
    (ho : o.op = .call { callee := .builtin .append, args := #[s, x], argTypes := #[t, tn] }) (vs vx : Value) (hs : a.eval s = vs) (hx : a.eval x = vx)
    (v' : Value) (w' : World) (hr : (Builtin.append_ #[t, tn] o.type #[vs, vx]).run P w = .ok v' w') (hK : wpListIn F n P ops Q rest (a.put o.dst v') w') : wpListIn F n P ops Q (o :: rest) a w := by
  refine wpListIn_plain hgd fun K hK' => ?_
  unfold Oper.wpIn
  refine ⟨?_, ?_⟩
  · simp [Oper.about, ho, resolve, Target.leads, Sem.run_pure]
  · rw [Oper.semAt_plain F _ _ (by rw [ho]; intro c hc'; cases hc')]
    simp [execOp, ho, resolve, invoke, builtin, hs, hx, hr, Result.andThen]
    exact hK' _ _ hK

theorem goodR_snoc (a : List An) (r : An) : goodR (a ++ [r]) = goodR a ++ (if r.e = 0 then [r] else []) := by
  unfold goodR
  rw [List.filter_append]
  congr 1
  by_cases h : r.e = 0
  · simp [h]
  · simp [h]
theorem learnR_snoc (a : List An) (r : An) : learnR (a ++ [r]) = (learnR a).or (if r.le = true then some r else none) := by
  unfold learnR
  rw [List.find?_append]
  congr 1
  cases h : r.le <;> simp [h]
theorem promR_snoc (a : List An) (r : An) : promR (a ++ [r]) = max (promR a) r.pr := by
  unfold promR
  rw [List.foldl_append]
  rfl
theorem accR_snoc (a : List An) (r : An) : accR (a ++ [r]) = (accR a || decide (0 < r.ba)) := by
  unfold accR
  rw [List.any_append]
  simp
theorem fullR_snoc (a : List An) (r : An) : fullR (a ++ [r]) = (fullR a || decide (r.e = 7)) := by
  unfold fullR
  rw [List.any_append]
  simp

/-- What a round turns: hear's own block, and new ones. -/
def hfp (n0 : Nat) (al : Nat → Prop) (b : Nat) : Prop := b = n0 + 2 ∨ (n0 + 7 ≤ b ∧ ¬ al b)
structure HMid (n0 X : Nat) (al : Nat → Prop) (A : World) (gs : List An) (lo : Option An) (pr : Int) (ac fu : Bool) (r : An) (v gv lp : Value) (WX : World) : Prop where
  h : Blk WX (n0 + 2) #[gv, lp, .int .i64 pr, .bool ac, .bool fu] 84
  good : GoodAt WX al (n0 + 7) gv gs
  lrn : LearnAt WX al (n0 + 7) gv lp lo
  x : Blk WX X (acell r v).toArray 44
  vl : ValAt WX al (n0 + 7) r v
  gx : gv.ownBlock ≠ some X
  ext : Ext (hfp n0 al) A WX
  far : n0 + 7 ≤ X ∧ ¬ al X ∧ (∀ b, al b → b < WX.heap.size) ∧ n0 + 7 ≤ WX.heap.size ∧ ¬ al (n0 + 2)
section
variable {n0 X : Nat} {al : Nat → Prop} {A WX : World} {gs : List An} {lo : Option An} {pr : Int} {ac fu : Bool} {r : An} {v gv lp : Value}
theorem HMid.turn (m : HMid n0 X al A gs lo pr ac fu r v gv lp WX) {W2 : World} (he : Ext (fun b => b = n0 + 2) WX W2) :
    GoodAt W2 al (n0 + 7) gv gs ∧ LearnAt W2 al (n0 + 7) gv lp lo ∧ Blk W2 X (acell r v).toArray 44 ∧ ValAt W2 al (n0 + 7) r v ∧ Ext (hfp n0 al) A W2 ∧ (n0 + 7 ≤ X ∧ ¬ al X ∧ (∀ b, al b → b < W2.heap.size) ∧ n0 + 7 ≤ W2.heap.size ∧ ¬ al (n0 + 2)) := by
  have hs := he.size
  obtain ⟨f1, f2, f3, f4, f5⟩ := m.far
  refine ⟨m.good.move he (fun b e => .inr (.inl (by omega))) (fun b h => .inl h), m.lrn.move m.good.typed he (fun b e => .inr (.inl (by omega))) (fun b h => .inl h) (fun b h => .inl h), m.x.ext he (by omega), m.vl.move he (fun b e => .inr (.inl (by omega))) (fun b h => .inl h), m.ext.trans' (he.mono (fun b _ e => .inl e)), f1, f2, fun b hb => Nat.lt_of_lt_of_le (f3 b hb) hs, Nat.le_trans f4 hs, f5⟩
theorem HMid.prom (m : HMid n0 X al A gs lo pr ac fu r v gv lp WX) (pr' : Int) : HMid n0 X al A gs lo pr' ac fu r v gv lp (WX.setCell ⟨n0 + 2, 2, none⟩ (.int .i64 pr')) := by
  obtain ⟨h1, h2, h3, h4, h5, h6⟩ := m.turn ((Ext.refl (fun b => b = n0 + 2) WX).setCell (a := ⟨n0 + 2, 2, none⟩) (.inl rfl) (.int .i64 pr'))
  exact ⟨m.h.set (o := 2) (.int .i64 pr'), h1, h2, h3, h4, m.gx, h5, h6⟩
theorem HMid.acc (m : HMid n0 X al A gs lo pr ac fu r v gv lp WX) (b : Bool) : HMid n0 X al A gs lo pr b fu r v gv lp (WX.setCell ⟨n0 + 2, 3, none⟩ (.bool b)) := by
  obtain ⟨h1, h2, h3, h4, h5, h6⟩ := m.turn ((Ext.refl (fun b => b = n0 + 2) WX).setCell (a := ⟨n0 + 2, 3, none⟩) (.inl rfl) (.bool b))
  exact ⟨m.h.set (o := 3) (.bool b), h1, h2, h3, h4, m.gx, h5, h6⟩
theorem HMid.full (m : HMid n0 X al A gs lo pr ac fu r v gv lp WX) (b : Bool) : HMid n0 X al A gs lo pr ac b r v gv lp (WX.setCell ⟨n0 + 2, 4, none⟩ (.bool b)) := by
  obtain ⟨h1, h2, h3, h4, h5, h6⟩ := m.turn ((Ext.refl (fun b => b = n0 + 2) WX).setCell (a := ⟨n0 + 2, 4, none⟩) (.inl rfl) (.bool b))
  exact ⟨m.h.set (o := 4) (.bool b), h1, h2, h3, h4, m.gx, h5, h6⟩
theorem HMid.learn (m : HMid n0 X al A gs lo pr ac fu r v gv lp WX) : HMid n0 X al A gs (some r) pr ac fu r v gv (.pointer (some ⟨X, 0, none⟩)) (WX.setCell ⟨n0 + 2, 1, none⟩ (.pointer (some ⟨X, 0, none⟩))) := by
  obtain ⟨h1, h2, h3, h4, h5, h6⟩ := m.turn ((Ext.refl (fun b => b = n0 + 2) WX).setCell (a := ⟨n0 + 2, 1, none⟩) (.inl rfl) (.pointer (some ⟨X, 0, none⟩)))
  exact ⟨m.h.set (o := 1) (.pointer (some ⟨X, 0, none⟩)), h1, ⟨X, v, rfl, h3, h6.2.1, h6.1, m.gx, h4⟩, h3, h4, m.gx, h5, h6⟩
theorem HMid.good_more (m : HMid n0 X al A gs lo pr ac fu r v gv lp WX) (hl : (gs.length + 1) * 64 ≤ 140737488355328) (c0 : Nat) :
    ∃ gv' W', (Builtin.append_ #[81, 81] 81 #[gv, .slice (some ⟨WX.heap.size, 0, none⟩) 1 c0]).run Tryz.prog (WX.alloc (.cells (acell r v).toArray 44)) = .ok gv' W' ∧ (∃ a c, gv' = .slice a (gs.length + 1) c) ∧
      Blk W' (n0 + 2) #[gv, lp, .int .i64 pr, .bool ac, .bool fu] 84 ∧ HMid n0 X al A (gs ++ [r]) lo pr ac fu r v gv' lp (W'.setCell ⟨n0 + 2, 0, none⟩ gv') := by
  obtain ⟨f1, f2, f3, f4, f5⟩ := m.far
  have b1 : Below WX.heap.size WX (WX.alloc (.cells (acell r v).toArray 44)) := (Below.refl _ _).alloc (Nat.le_refl _) _
  have e1 : Ext (fun b => b = n0 + 2) WX (WX.alloc (.cells (acell r v).toArray 44)) := Ext.ofBelow b1
  obtain ⟨h1, h2, h3, h4, h5, h6⟩ := m.turn e1
  have hX := m.x.lt
  have g1 := good_add h1 h4 h6.2.2.2.1 h6.2.2.1 hl WX.heap.size c0 (Blk.new _ _ _)
  have hty := h1.typed
  have hgl := h1.lt
  have hgl0 := m.good.lt
  have hgal : ∀ g, gv.ownBlock = some g → ¬ al g := by obtain ⟨_, _, _, _, q⟩ := h1; exact q
  obtain ⟨gv', W', hr, hg, ho, hE⟩ := g1
  have hn2 : gv.ownBlock ≠ some (n0 + 2) := fun hc => by have := hgl0 _ hc; omega
  have hB := (m.h.keep b1).ext hE hn2
  have hE2 : Ext (fun b => b = n0 + 2 ∨ gv.ownBlock = some b) (WX.alloc (.cells (acell r v).toArray 44)) (W'.setCell ⟨n0 + 2, 0, none⟩ gv') := (hE.mono (fun b _ h => .inr h)).setCell (a := ⟨n0 + 2, 0, none⟩) (.inl (.inl rfl)) gv'
  have hE3 : Ext (fun b => b = n0 + 2) W' (W'.setCell ⟨n0 + 2, 0, none⟩ gv') := (Ext.refl (fun b => b = n0 + 2) W').setCell (a := ⟨n0 + 2, 0, none⟩) (.inl rfl) gv'
  have ha : ∀ {w : World} (b : Nat), al b → al b ∨ w.heap.size ≤ b := fun b h => .inl h
  obtain ⟨a9, c9, e9⟩ := hg.form
  refine ⟨gv', W', hr, ⟨a9, c9, by rw [e9, List.length_append]; rfl⟩, hB, hB.set (o := 0) gv', hg.move hE3 (fun b e => .inr (.inl (by omega))) ha, ?_, ?_, ?_, fun hc => ?_, ?_, f1, f2, fun b hb => ?_, ?_, f5⟩
  · exact h2.move hty hE2 (fun b e => e.elim (fun e => .inr (.inl (by omega))) (fun e => .inr (.inr (.inr e)))) ha ho
  · exact h3.ext hE2 (fun e => e.elim (fun e => by omega) m.gx)
  · exact h4.move hE2 (fun b e => e.elim (fun e => .inr (.inl (by omega))) (fun e => .inr (.inr (.inr (hty b e))))) ha
  · rcases ho X hc with h | h
    · exact m.gx h
    · have := b1.size; omega
  · refine h5.trans' (hE2.mono (fun b _ e => e.elim .inl (fun e => .inr ⟨(hgl b e).1, hgal b e⟩)))
  · exact Nat.lt_of_lt_of_le (h6.2.2.1 b hb) hE2.size
  · exact Nat.le_trans h6.2.2.2.1 hE2.size
theorem HMid.cells (m : HMid n0 X al A gs lo pr ac fu r v gv lp WX) : WX.cell? ⟨n0 + 2, 0, none⟩ = some gv ∧ WX.cell? ⟨n0 + 2, 1, none⟩ = some lp ∧ WX.cell? ⟨n0 + 2, 2, none⟩ = some (.int .i64 pr) ∧ WX.cell? ⟨n0 + 2, 3, none⟩ = some (.bool ac) ∧ WX.cell? ⟨n0 + 2, 4, none⟩ = some (.bool fu) ∧ (∀ o, WX.frozen? ⟨n0 + 2, o, none⟩ = false) :=
  ⟨m.h.cell (o := 0) rfl, m.h.cell (o := 1) rfl, m.h.cell (o := 2) rfl, m.h.cell (o := 3) rfl, m.h.cell (o := 4) rfl, fun o => m.h.free o⟩
theorem HMid.xs (m : HMid n0 X al A gs lo pr ac fu r v gv lp WX) : WX.cell? ⟨X, 0, none⟩ = some (.int .i64 r.e) ∧ WX.cell? ⟨X, 1, none⟩ = some (.int .i64 r.ver) ∧ WX.cell? ⟨X, 2, none⟩ = some (.int .i64 r.pr) ∧ WX.cell? ⟨X, 3, none⟩ = some (.int .i64 r.ba) ∧ WX.cell? ⟨X, 4, none⟩ = some (.bool r.le) ∧ WX.cell? ⟨X, 5, none⟩ = some v :=
  ⟨m.x.cell (o := 0) rfl, m.x.cell (o := 1) rfl, m.x.cell (o := 2) rfl, m.x.cell (o := 3) rfl, m.x.cell (o := 4) rfl, m.x.cell (o := 5) rfl⟩
end
end Go.Proofs.YtcdcjoofcbdilaaGreat
