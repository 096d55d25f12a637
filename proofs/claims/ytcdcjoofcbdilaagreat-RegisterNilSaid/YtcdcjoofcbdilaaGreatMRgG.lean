import Derived.Test.YtcdcjoofcbdilaaGreatMRangeL
import Derived.Test.YtcdcjoofcbdilaaGreatMRgF
/-! XRangeL's law once more, where the round's body is told what held ahead of the answer's coming too. -/
namespace Go.Proofs.YtcdcjoofcbdilaaGreat
open Go.RowKit
section
variable {P : Program}
theorem wpIn_rangeM {g : Operand} {ps : Array Tmp} {assign body : Code} {Q : Exit → Act → World → Prop} {a : Act} {w : World} {n : Nat} {gf : Nat} {lb : Array Value}
    (hg : a.eval g = .func (.func gf) #[] lb) (eg : ∀ args w, (callFunc gf args).run P w = .ok (.enter gf args) w)
    {N : Nat} {Y : Nat → (Nat → Prop) → World → Array Value → Prop} {kp : Nat → Prop} {Fin : (Nat → Prop) → World → Prop} {FinX : Nat → (Nat → Prop) → World → Prop} {al0 : Nat → Prop} {M : Nat}
    (hM : w.heap.size + 2 ≤ M)
    (hit : ∀ W, Below w.heap.size w W → W.heap.size = w.heap.size + 2 → IterL P gf lb N Y kp Fin FinX al0 M W)
    (I : Nat → (Nat → Prop) → World → Prop) (Ix : Code → Nat → (Nat → Prop) → World → Prop)
    (hI : ∀ k, StaysL w.heap.size M (I k)) (hIx : ∀ c k, StaysL w.heap.size M (Ix c k))
    (hYs : ∀ k al A args, Y k al A args → args.size = ps.size)
    (hFin : ∀ al A B, Fin al A → Ext (fun b => ¬ al b) A B → Fin al B) (hFinX : ∀ k al A B, FinX k al A → Ext (fun b => ¬ al b) A B → FinX k al B)
    (hal : ∀ b, al0 b → b < w.heap.size) (hkp : ∀ b, kp b → b < w.heap.size) (h0 : I 0 al0 w) (upd : Array Value → World → Array Value → Array Value) (asgW : Array Value → World → World) (hAW : ∀ k al W args, Y k al W args → Below W.heap.size W (asgW args W))
    (hassign : ∀ (m k : Nat) (al : Nat → Prop) (args : Array Value) (W : World) (K : Act → World → Prop), Y k al W args → K { tmps := upd args W ((ps.zip args).foldl (fun t (p, v) => t.setIfInBounds p v) a.tmps), defers := [] } (asgW args W) →
      assign.wpIn (Fence.wide.inRound (w.heap.size + 1)) m P (Exit.then K (fun _ _ _ => False)) { tmps := (ps.zip args).foldl (fun t (p, v) => t.setIfInBounds p v) a.tmps, defers := [] } W)
    (hbody : ∀ (m k : Nat) (al : Nat → Prop) (W0 W : World) (args : Array Value), k < N → (¬ al w.heap.size ∧ ¬ al (w.heap.size + 1)) → I k al W0 → I k al W → Y k al W0 args → M ≤ W0.heap.size → Ext (fun b => b = w.heap.size + 1) (asgW args W0) W →
      body.wpIn (Fence.wide.inRound (w.heap.size + 1)) m P (roundEndL al kp w.heap.size M I Ix k W) { tmps := upd args W0 ((ps.zip args).foldl (fun t (p, v) => t.setIfInBounds p v) a.tmps), defers := [] } W)
    (hdone : ∀ (al : Nat → Prop) (W : World), I N al W → Fin al W → ¬ al w.heap.size → W.heap[w.heap.size]? = some (.deferred (some [])) → Q .normal { a with defers := { target := .collected w.heap.size, args := #[] } :: a.defers } W)
    (hstop : ∀ (c : Code) (k : Nat) (al : Nat → Prop) (W : World), Ix c k al W → FinX k al W → ¬ al w.heap.size → W.heap[w.heap.size]? = some (.deferred (some [])) → c.wpIn Fence.wide n P Q { a with defers := { target := .collected w.heap.size, args := #[] } :: a.defers } W) :
    (Code.rangeFunc g ps assign body).wpIn Fence.wide n P Q a w := by
  refine wpIn_rangeFunc ?_
  intro fn hfn
  obtain ⟨rec, hrec⟩ : ∃ rec : LoopState → Option Code → Loop, rec = fun st pe => { state := st, pending := pe, fn, tmps := a.tmps, params := ps, assign, body, defers := w.heap.size } := ⟨_, rfl⟩
  obtain ⟨W1, hW1⟩ : ∃ W1, (w.alloc (.deferred (some []))).alloc (.loop (rec .ready none)) = W1 := ⟨_, rfl⟩
  have hL1 : W1.heap[w.heap.size + 1]? = some (.loop (rec .ready none)) := by
    rw [← hW1]; have := World.alloc_heap_new (w.alloc (.deferred (some []))) (.loop (rec .ready none)); rwa [World.size_alloc] at this
  have hK1 : W1.heap[w.heap.size]? = some (.deferred (some [])) := by
    rw [← hW1]; exact (Below.heap_alloc _ _ _ (by simp)).trans (World.alloc_heap_new w _)
  have hb1 : Below w.heap.size w W1 := by rw [← hW1]; exact ((Below.refl _ w).alloc (Nat.le_refl _) _).alloc (by simp) _
  have hs1 : W1.heap.size = w.heap.size + 2 := by rw [← hW1]; simp
  have hI1 : I 0 al0 W1 := hI 0 al0 al0 w W1 h0 (Ext.ofBelow hb1) (fun b h => .inl h)
  refine ⟨w.heap.size + 1, [{ target := .collected w.heap.size, args := #[] }], W1, { target := .fn (.func gf) lb, args := #[.func (.yield (w.heap.size + 1)) #[] #[]] }, W1, gf,
    #[.func (.yield (w.heap.size + 1)) #[] #[]] ++ lb, W1, ?_, ?_, ?_, ?_, fun h => by simp [Fence.wide] at h, ?_⟩
  · rw [← hW1, hrec]; exact run_enterLoop_outer _ _ _ _ _
  · simp only [resolve, hg]
    simp [go_sem]
  · intro f' hf'; trivial
  · simp [invoke, go_sem, eg]
  · have hext : ∀ (W : World) (o : Obj), Ext (fun b => b = w.heap.size + 1) W (W.putObj (w.heap.size + 1) o) := fun W o => ext_putObj _ _ _
    have hin : ∀ {al : Nat → Prop} {A B : World}, Ext (fun b => b = w.heap.size + 1) A B → Ext (fun b => al b ∨ (w.heap.size ≤ b ∧ b < M)) A B := fun h => h.mono (fun b _ e => .inr (by omega))
    have hmine : ∀ {al : Nat → Prop} {A B : World}, ¬ al (w.heap.size + 1) → Ext (fun b => b = w.heap.size + 1) A B → Ext (fun b => ¬ al b) A B := fun hn h => h.mono (fun b _ e => by rw [e]; exact hn)
    refine (hit W1 hb1 hs1 (n - 1) (w.heap.size + 1)
      (fun k al W => I k al W ∧ (W.heap[w.heap.size + 1]? = some (.loop (rec .ready none)) ∧ W.heap[w.heap.size]? = some (.deferred (some []))) ∧ (¬ al w.heap.size ∧ ¬ al (w.heap.size + 1)) ∧ w.heap.size + 2 ≤ W.heap.size)
      (fun k al W => ∃ c, Ix c k al W ∧ (W.heap[w.heap.size + 1]? = some (.loop (rec .done (some c))) ∧ W.heap[w.heap.size]? = some (.deferred (some []))) ∧ (¬ al w.heap.size ∧ ¬ al (w.heap.size + 1)) ∧ w.heap.size + 2 ≤ W.heap.size)
      ?_ ?_ ?_ ⟨hI1, ⟨hL1, hK1⟩, ⟨fun h => by have := hal _ h; omega, fun h => by have := hal _ h; omega⟩, by omega⟩).mono ?_
    · rintro k al al' A B ⟨h1, ⟨h2, h3⟩, ⟨h4, h5⟩, h6⟩ he hg'
      refine ⟨hI k al al' A B h1 (he.mono (fun b _ h => h.imp id (fun h => by omega))) hg', ⟨?_, ?_⟩, ⟨fun h => (hg' _ h).elim h4 (fun h => by omega), fun h => (hg' _ h).elim h5 (fun h => by omega)⟩, Nat.le_trans h6 he.size⟩
      · rw [he.block _ (Array.getElem?_eq_some_iff.1 h2).1 (fun h => h.elim h5 (fun h => by omega))]; exact h2
      · rw [he.block _ (Array.getElem?_eq_some_iff.1 h3).1 (fun h => h.elim h4 (fun h => by omega))]; exact h3
    · rintro k al al' A B ⟨c, h1, ⟨h2, h3⟩, ⟨h4, h5⟩, h6⟩ he hg'
      refine ⟨c, hIx c k al al' A B h1 (he.mono (fun b _ h => h.imp id (fun h => by omega))) hg', ⟨?_, ?_⟩, ⟨fun h => (hg' _ h).elim h4 (fun h => by omega), fun h => (hg' _ h).elim h5 (fun h => by omega)⟩, Nat.le_trans h6 he.size⟩
      · rw [he.block _ (Array.getElem?_eq_some_iff.1 h2).1 (fun h => h.elim h5 (fun h => by omega))]; exact h2
      · rw [he.block _ (Array.getElem?_eq_some_iff.1 h3).1 (fun h => h.elim h4 (fun h => by omega))]; exact h3
    · rintro m k al W args hk ⟨hi, ⟨hl, hd⟩, hna, hsz2⟩ hy hsz
      have hyr := run_yield (P := P) (args := args) hl (by rw [hrec]; exact hYs k al W args hy)
      rw [hrec] at hyr
      refine ⟨fn, _, assign, body, hyr, roundIn_of_wpIn trivial (hassign m k al args W _ hy ⟨_, run_beginRound (P := P) (World.heap_below hl (hAW k al W args hy)) (by rw [hrec]), ?_⟩)⟩
      have hbA := hAW k al W args hy
      have hlA := World.heap_below hl hbA
      obtain ⟨W2, hW2⟩ : ∃ W2, (asgW args W).putObj (w.heap.size + 1) (.loop { rec .ready none with state := .busy }) = W2 := ⟨_, rfl⟩
      have e2' : Ext (fun b => b = w.heap.size + 1) (asgW args W) W2 := hW2 ▸ hext (asgW args W) _
      have e2 : Ext (fun b => b = w.heap.size + 1) W W2 := (Ext.ofBelow hbA : Ext (fun b => b = w.heap.size + 1) W _).trans' e2'
      have hl2 : W2.heap[w.heap.size + 1]? = some (.loop { rec .ready none with state := .busy }) := hW2 ▸ World.putObj_heap_same (Array.getElem?_eq_some_iff.1 hlA).1
      have hd2 : W2.heap[w.heap.size]? = some (.deferred (some [])) := (e2.block _ (Array.getElem?_eq_some_iff.1 hd).1 (by omega)).trans hd
      rw [hW2]
      refine wpIn_mono (hbody m k al W W2 args hk hna hi (hI k al al W W2 hi (hin e2) (fun b h => .inl h)) hy hsz e2') ?_
      have fin : ∀ (jump : Option Code) (W3 : World), Ext (fun b => ¬ al b ∧ ¬ kp b ∧ ¬ (w.heap.size ≤ b ∧ b < M)) W2 W3 →
          (Instr.endRound (w.heap.size + 1) jump).run P W3 = .ok (.bool jump.isNone) (W3.putObj (w.heap.size + 1) (.loop (rec (if jump.isNone then .ready else .done) jump))) ∧
          Ext (fun b => ¬ al b ∧ ¬ kp b ∧ ¬ (W1.heap.size ≤ b ∧ b < M)) W (W3.putObj (w.heap.size + 1) (.loop (rec (if jump.isNone then .ready else .done) jump))) ∧
          ((W3.putObj (w.heap.size + 1) (.loop (rec (if jump.isNone then .ready else .done) jump))).heap[w.heap.size + 1]? = some (.loop (rec (if jump.isNone then .ready else .done) jump)) ∧
          (W3.putObj (w.heap.size + 1) (.loop (rec (if jump.isNone then .ready else .done) jump))).heap[w.heap.size]? = some (.deferred (some []))) ∧ w.heap.size + 2 ≤ (W3.putObj (w.heap.size + 1) (.loop (rec (if jump.isNone then .ready else .done) jump))).heap.size := fun jump W3 he => by
        have hl3 : W3.heap[w.heap.size + 1]? = some (.loop { rec .ready none with state := .busy }) := (he.block _ (Array.getElem?_eq_some_iff.1 hl2).1 (fun h => h.2.2 (by omega))).trans hl2
        have hd3 : W3.heap[w.heap.size]? = some (.deferred (some [])) := (he.block _ (Array.getElem?_eq_some_iff.1 hd2).1 (fun h => h.2.2 (by omega))).trans hd2
        have := run_endRound (P := P) jump hl3
        rw [hrec] at this ⊢
        refine ⟨this, ?_, ⟨World.putObj_heap_same (Array.getElem?_eq_some_iff.1 hl3).1, (World.putObj_heap_other (by omega)).trans hd3⟩, Nat.le_trans hsz2 (Nat.le_trans e2.size (Nat.le_trans he.size (hext W3 _).size))⟩
        have hc : Ext (fun b => ¬ al b ∧ ¬ kp b ∧ ¬ (W1.heap.size ≤ b ∧ b < M)) W W2 := e2.mono (fun b _ e => by rw [e]; exact ⟨hna.2, fun h => by have := hkp _ h; omega, by omega⟩)
        have hc2 : Ext (fun b => ¬ al b ∧ ¬ kp b ∧ ¬ (W1.heap.size ≤ b ∧ b < M)) W2 W3 := he.mono (fun b _ h => ⟨h.1, h.2.1, fun h' => h.2.2 (by omega)⟩)
        have hc3 : Ext (fun b => ¬ al b ∧ ¬ kp b ∧ ¬ (W1.heap.size ≤ b ∧ b < M)) W3 (W3.putObj (w.heap.size + 1) (.loop { state := if jump.isNone then .ready else .done, pending := jump, fn, tmps := a.tmps, params := ps, assign, body, defers := w.heap.size })) := (hext W3 _).mono (fun b _ e => by rw [e]; exact ⟨hna.2, fun h => by have := hkp _ h; omega, by omega⟩)
        exact (hc.trans' hc2).trans' hc3
      rintro e a3 W3 hp
      cases e with
      | normal =>
        obtain ⟨he, hi3⟩ := hp
        obtain ⟨hr, hx, hl4, hs4⟩ := fin none W3 he
        exact ⟨_, _, hr, .inl ⟨rfl, ⟨hI _ _ _ _ _ hi3 (hin (hext W3 _)) (fun b h => .inl h), hl4, hna, hs4⟩, hx⟩⟩
      | ret =>
        obtain ⟨he, hi3⟩ := hp
        obtain ⟨hr, hx, hl4, hs4⟩ := fin (some .ret) W3 he
        exact ⟨_, _, hr, .inr ⟨rfl, ⟨.ret, hIx _ _ _ _ _ _ hi3 (hin (hext W3 _)) (fun b h => .inl h), hl4, hna, hs4⟩, hx⟩⟩
      | exit id =>
        obtain ⟨he, hi3⟩ := hp
        obtain ⟨hr, hx, hl4, hs4⟩ := fin (some (.exit id)) W3 he
        exact ⟨_, _, hr, .inr ⟨rfl, ⟨.exit id, hIx _ _ _ _ _ _ hi3 (hin (hext W3 _)) (fun b h => .inl h), hl4, hna, hs4⟩, hx⟩⟩
      | goto t =>
        obtain ⟨he, hi3⟩ := hp
        obtain ⟨hr, hx, hl4, hs4⟩ := fin (some (.goto t)) W3 he
        exact ⟨_, _, hr, .inr ⟨rfl, ⟨.goto t, hIx _ _ _ _ _ _ hi3 (hin (hext W3 _)) (fun b h => .inl h), hl4, hna, hs4⟩, hx⟩⟩
      | panic ch => exact hp.elim
      | outgrown => exact hp.elim
    · rintro e W2 ⟨⟨v, rfl⟩, (⟨al, ⟨hi, ⟨hl, hd⟩, hna, hs⟩, hf⟩ | ⟨k, al, ⟨c, hi, ⟨hl, hd⟩, hna, hs⟩, hf⟩)⟩
      · refine ⟨none, _, by have := run_endLoop (P := P) hl (by rw [hrec]; simp); rw [hrec] at this; exact this, hdone al _ (hI _ _ _ _ _ hi (hin (hext W2 _)) (fun b h => .inl h)) (hFin _ _ _ hf (hmine hna.2 (hext W2 _))) hna.1 ((World.putObj_heap_other (by omega)).trans hd)⟩
      · refine ⟨some c, _, by have := run_endLoop (P := P) hl (by rw [hrec]; simp); rw [hrec] at this; exact this, hstop _ k al _ (hIx _ _ _ _ _ _ hi (hin (hext W2 _)) (fun b h => .inl h)) (hFinX _ _ _ _ hf (hmine hna.2 (hext W2 _))) hna.1 ((World.putObj_heap_other (by omega)).trans hd)⟩
end
end Go.Proofs.YtcdcjoofcbdilaaGreat

/-! Package register: hear. -/
namespace Go.Proofs.YtcdcjoofcbdilaaGreat
open Go.RowKit
attribute [local go_sem] Oper.semAt_some

theorem wpListIn_append_run {F : Fence} {n : Nat} {P : Program} (w : World) {ops : Array Oper} {rest : List Oper} {o : Oper} {a : Act} {Q : Exit → Act → World → Prop} (hgd : o.guard = none) (s x : Operand) (t tn : TypeId)
    (ho : o.op = .call { callee := .builtin .append, args := #[s, x], argTypes := #[t, tn] }) (vs vx : Value) (hs : a.eval s = vs) (hx : a.eval x = vx)
    (v' : Value) (w' : World) (hr : (Builtin.append_ #[t, tn] o.type #[vs, vx]).run P w = .ok v' w') (hK : wpListIn F n P ops Q rest (a.put o.dst v') w') : wpListIn F n P ops Q (o :: rest) a w := by
  refine wpListIn_plain hgd fun K hK' => ?_
  unfold Oper.wpIn
  refine ⟨?_, ?_⟩
  · simp [Oper.about, ho, resolve, Target.leads, Sem.run_pure]
  · rw [Oper.semAt_plain F _ _ (by rw [ho]; intro c hc'; cases hc')]
    simp [execOp, ho, resolve, invoke, builtin, hs, hx, hr, Result.andThen]
    exact hK' _ _ hK

theorem goodR_snoc (a : List An) (r : An) : goodR (a ++ [r]) = goodR a ++ (if r.e = 0 then [r] else []) := by
  unfold goodR
  rw [List.filter_append]
  congr 1
  by_cases h : r.e = 0
  · simp [h]
  · simp [h]
theorem learnR_snoc (a : List An) (r : An) : learnR (a ++ [r]) = (learnR a).or (if r.le = true then some r else none) := by
  unfold learnR
  rw [List.find?_append]
  congr 1
  cases h : r.le <;> simp [h]
theorem promR_snoc (a : List An) (r : An) : promR (a ++ [r]) = max (promR a) r.pr := by
  unfold promR
  rw [List.foldl_append]
  rfl
theorem accR_snoc (a : List An) (r : An) : accR (a ++ [r]) = (accR a || decide (0 < r.ba)) := by
  unfold accR
  rw [List.any_append]
  simp
theorem fullR_snoc (a : List An) (r : An) : fullR (a ++ [r]) = (fullR a || decide (r.e = 7)) := by
  unfold fullR
  rw [List.any_append]
  simp

/-- What a round turns: hear's own block, and new ones. -/
def hfp (n0 : Nat) (al : Nat → Prop) (b : Nat) : Prop := b = n0 + 2 ∨ (n0 + 7 ≤ b ∧ ¬ al b)
structure HMid (n0 X : Nat) (al : Nat → Prop) (A : World) (gs : List An) (lo : Option An) (pr : Int) (ac fu : Bool) (r : An) (v gv lp : Value) (WX : World) : Prop where
  h : Blk WX (n0 + 2) #[gv, lp, .int .i64 pr, .bool ac, .bool fu] 84
  good : GoodAt WX al (n0 + 7) gv gs
  lrn : LearnAt WX al (n0 + 7) gv lp lo
  x : Blk WX X (acell r v).toArray 44
  vl : ValAt WX al (n0 + 7) r v
  gx : gv.ownBlock ≠ some X
  ext : Ext (hfp n0 al) A WX
  far : n0 + 7 ≤ X ∧ ¬ al X ∧ (∀ b, al b → b < WX.heap.size) ∧ n0 + 7 ≤ WX.heap.size ∧ ¬ al (n0 + 2)
section
variable {n0 X : Nat} {al : Nat → Prop} {A WX : World} {gs : List An} {lo : Option An} {pr : Int} {ac fu : Bool} {r : An} {v gv lp : Value}
theorem HMid.turn (m : HMid n0 X al A gs lo pr ac fu r v gv lp WX) {W2 : World} (he : Ext (fun b => b = n0 + 2) WX W2) :
    GoodAt W2 al (n0 + 7) gv gs ∧ LearnAt W2 al (n0 + 7) gv lp lo ∧ Blk W2 X (acell r v).toArray 44 ∧ ValAt W2 al (n0 + 7) r v ∧ Ext (hfp n0 al) A W2 ∧ (n0 + 7 ≤ X ∧ ¬ al X ∧ (∀ b, al b → b < W2.heap.size) ∧ n0 + 7 ≤ W2.heap.size ∧ ¬ al (n0 + 2)) := by
  have hs := he.size
  obtain ⟨f1, f2, f3, f4, f5⟩ := m.far
  refine ⟨m.good.move he (fun b e => .inr (.inl (by omega))) (fun b h => .inl h), m.lrn.move m.good.typed he (fun b e => .inr (.inl (by omega))) (fun b h => .inl h) (fun b h => .inl h), m.x.ext he (by omega), m.vl.move he (fun b e => .inr (.inl (by omega))) (fun b h => .inl h), m.ext.trans' (he.mono (fun b _ e => .inl e)), f1, f2, fun b hb => Nat.lt_of_lt_of_le (f3 b hb) hs, Nat.le_trans f4 hs, f5⟩
theorem HMid.prom (m : HMid n0 X al A gs lo pr ac fu r v gv lp WX) (pr' : Int) : HMid n0 X al A gs lo pr' ac fu r v gv lp (WX.setCell ⟨n0 + 2, 2, none⟩ (.int .i64 pr')) := by
  obtain ⟨h1, h2, h3, h4, h5, h6⟩ := m.turn ((Ext.refl (fun b => b = n0 + 2) WX).setCell (a := ⟨n0 + 2, 2, none⟩) (.inl rfl) (.int .i64 pr'))
  exact ⟨m.h.set (o := 2) (.int .i64 pr'), h1, h2, h3, h4, m.gx, h5, h6⟩
theorem HMid.acc (m : HMid n0 X al A gs lo pr ac fu r v gv lp WX) (b : Bool) : HMid n0 X al A gs lo pr b fu r v gv lp (WX.setCell ⟨n0 + 2, 3, none⟩ (.bool b)) := by
  obtain ⟨h1, h2, h3, h4, h5, h6⟩ := m.turn ((Ext.refl (fun b => b = n0 + 2) WX).setCell (a := ⟨n0 + 2, 3, none⟩) (.inl rfl) (.bool b))
  exact ⟨m.h.set (o := 3) (.bool b), h1, h2, h3, h4, m.gx, h5, h6⟩
theorem HMid.full (m : HMid n0 X al A gs lo pr ac fu r v gv lp WX) (b : Bool) : HMid n0 X al A gs lo pr ac b r v gv lp (WX.setCell ⟨n0 + 2, 4, none⟩ (.bool b)) := by
  obtain ⟨h1, h2, h3, h4, h5, h6⟩ := m.turn ((Ext.refl (fun b => b = n0 + 2) WX).setCell (a := ⟨n0 + 2, 4, none⟩) (.inl rfl) (.bool b))
  exact ⟨m.h.set (o := 4) (.bool b), h1, h2, h3, h4, m.gx, h5, h6⟩
theorem HMid.learn (m : HMid n0 X al A gs lo pr ac fu r v gv lp WX) : HMid n0 X al A gs (some r) pr ac fu r v gv (.pointer (some ⟨X, 0, none⟩)) (WX.setCell ⟨n0 + 2, 1, none⟩ (.pointer (some ⟨X, 0, none⟩))) := by
  obtain ⟨h1, h2, h3, h4, h5, h6⟩ := m.turn ((Ext.refl (fun b => b = n0 + 2) WX).setCell (a := ⟨n0 + 2, 1, none⟩) (.inl rfl) (.pointer (some ⟨X, 0, none⟩)))
  exact ⟨m.h.set (o := 1) (.pointer (some ⟨X, 0, none⟩)), h1, ⟨X, v, rfl, h3, h6.2.1, h6.1, m.gx, h4⟩, h3, h4, m.gx, h5, h6⟩
theorem HMid.good_more (m : HMid n0 X al A gs lo pr ac fu r v gv lp WX) (hl : (gs.length + 1) * 64 ≤ 140737488355328) (c0 : Nat) :
    ∃ gv' W', (Builtin.append_ #[81, 81] 81 #[gv, .slice (some ⟨WX.heap.size, 0, none⟩) 1 c0]).run Tryz.prog (WX.alloc (.cells (acell r v).toArray 44)) = .ok gv' W' ∧ (∃ a c, gv' = .slice a (gs.length + 1) c) ∧
      Blk W' (n0 + 2) #[gv, lp, .int .i64 pr, .bool ac, .bool fu] 84 ∧ HMid n0 X al A (gs ++ [r]) lo pr ac fu r v gv' lp (W'.setCell ⟨n0 + 2, 0, none⟩ gv') := by
  obtain ⟨f1, f2, f3, f4, f5⟩ := m.far
  have b1 : Below WX.heap.size WX (WX.alloc (.cells (acell r v).toArray 44)) := (Below.refl _ _).alloc (Nat.le_refl _) _
  have e1 : Ext (fun b => b = n0 + 2) WX (WX.alloc (.cells (acell r v).toArray 44)) := Ext.ofBelow b1
  obtain ⟨h1, h2, h3, h4, h5, h6⟩ := m.turn e1
  have hX := m.x.lt
  have g1 := good_add h1 h4 h6.2.2.2.1 h6.2.2.1 hl WX.heap.size c0 (Blk.new _ _ _)
  have hty := h1.typed
  have hgl := h1.lt
  have hgl0 := m.good.lt
  have hgal : ∀ g, gv.ownBlock = some g → ¬ al g := by obtain ⟨_, _, _, _, q⟩ := h1; exact q
  obtain ⟨gv', W', hr, hg, ho, hE⟩ := g1
  have hn2 : gv.ownBlock ≠ some (n0 + 2) := fun hc => by have := hgl0 _ hc; omega
  have hB := (m.h.keep b1).ext hE hn2
  have hE2 : Ext (fun b => b = n0 + 2 ∨ gv.ownBlock = some b) (WX.alloc (.cells (acell r v).toArray 44)) (W'.setCell ⟨n0 + 2, 0, none⟩ gv') := (hE.mono (fun b _ h => .inr h)).setCell (a := ⟨n0 + 2, 0, none⟩) (.inl (.inl rfl)) gv'
  have hE3 : Ext (fun b => b = n0 + 2) W' (W'.setCell ⟨n0 + 2, 0, none⟩ gv') := (Ext.refl (fun b => b = n0 + 2) W').setCell (a := ⟨n0 + 2, 0, none⟩) (.inl rfl) gv'
  have ha : ∀ {w : World} (b : Nat), al b → al b ∨ w.heap.size ≤ b := fun b h => .inl h
  obtain ⟨a9, c9, e9⟩ := hg.form
  refine ⟨gv', W', hr, ⟨a9, c9, by rw [e9, List.length_append]; rfl⟩, hB, hB.set (o := 0) gv', hg.move hE3 (fun b e => .inr (.inl (by omega))) ha, ?_, ?_, ?_, fun hc => ?_, ?_, f1, f2, fun b hb => ?_, ?_, f5⟩
  · exact h2.move hty hE2 (fun b e => e.elim (fun e => .inr (.inl (by omega))) (fun e => .inr (.inr (.inr e)))) ha ho
  · exact h3.ext hE2 (fun e => e.elim (fun e => by omega) m.gx)
  · exact h4.move hE2 (fun b e => e.elim (fun e => .inr (.inl (by omega))) (fun e => .inr (.inr (.inr (hty b e))))) ha
  · rcases ho X hc with h | h
    · exact m.gx h
    · have := b1.size; omega
  · refine h5.trans' (hE2.mono (fun b _ e => e.elim .inl (fun e => .inr ⟨(hgl b e).1, hgal b e⟩)))
  · exact Nat.lt_of_lt_of_le (h6.2.2.1 b hb) hE2.size
  · exact Nat.le_trans h6.2.2.2.1 hE2.size
theorem HMid.cells (m : HMid n0 X al A gs lo pr ac fu r v gv lp WX) : WX.cell? ⟨n0 + 2, 0, none⟩ = some gv ∧ WX.cell? ⟨n0 + 2, 1, none⟩ = some lp ∧ WX.cell? ⟨n0 + 2, 2, none⟩ = some (.int .i64 pr) ∧ WX.cell? ⟨n0 + 2, 3, none⟩ = some (.bool ac) ∧ WX.cell? ⟨n0 + 2, 4, none⟩ = some (.bool fu) ∧ (∀ o, WX.frozen? ⟨n0 + 2, o, none⟩ = false) :=
  ⟨m.h.cell (o := 0) rfl, m.h.cell (o := 1) rfl, m.h.cell (o := 2) rfl, m.h.cell (o := 3) rfl, m.h.cell (o := 4) rfl, fun o => m.h.free o⟩
theorem HMid.xs (m : HMid n0 X al A gs lo pr ac fu r v gv lp WX) : WX.cell? ⟨X, 0, none⟩ = some (.int .i64 r.e) ∧ WX.cell? ⟨X, 1, none⟩ = some (.int .i64 r.ver) ∧ WX.cell? ⟨X, 2, none⟩ = some (.int .i64 r.pr) ∧ WX.cell? ⟨X, 3, none⟩ = some (.int .i64 r.ba) ∧ WX.cell? ⟨X, 4, none⟩ = some (.bool r.le) ∧ WX.cell? ⟨X, 5, none⟩ = some v :=
  ⟨m.x.cell (o := 0) rfl, m.x.cell (o := 1) rfl, m.x.cell (o := 2) rfl, m.x.cell (o := 3) rfl, m.x.cell (o := 4) rfl, m.x.cell (o := 5) rfl⟩
end
end Go.Proofs.YtcdcjoofcbdilaaGreat
