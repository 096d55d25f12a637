import Derived.Test.YtnbeagcmfcdklaaGreatMRegionC
import Derived.Test.YtnbeagcmfcdklaaGreatMap
import Derived.RangeFuncNested
import Derived.RangeFuncLeaves
/-! A range over a function, at the wide fence: what an iterator owes, and the statement's law. No program is named here. -/
namespace Go.Proofs.YtnbeagcmfcdklaaGreat
open Go.RowKit

section
variable {P : Program}

theorem roundIn_n {n m l : Nat} {f : FuncId} {tmps : Array Value} {assign body : Code} {w : World} {R : Ending → World → Prop} (h : RoundIn Fence.wide n P l f tmps assign body w R) : RoundIn Fence.wide m P l f tmps assign body w R :=
  ⟨h.1, fun c cs _ => h.2 c cs (room_wide _)⟩
theorem yieldAt_n {n m l : Nat} {args : Array Value} {w : World} {R : Ending → World → Prop} (h : YieldAt Fence.wide n P l args w R) : YieldAt Fence.wide m P l args w R := by
  obtain ⟨fn, tmps, assign, body, h1, h2⟩ := h
  exact ⟨fn, tmps, assign, body, h1, roundIn_n h2⟩
theorem callsIn_n {n m : Nat} {f : FuncId} {args : Array Value} {w : World} {R : Ending → World → Prop} (h : CallsIn Fence.wide n P f args w R) : CallsIn Fence.wide m P f args w R := callsIn_wide.2 (callsIn_wide.1 h)

/-- What is asked of a round, and what an iterator over N things then does. -/
def Round (P : Program) (N : Nat) (Y : Nat → World → Array Value → Prop) (fp : Nat → Prop) (M : Nat) (l : Nat) (J Jx : Nat → World → Prop) : Prop :=
  ∀ n k W1 args, k < N → J k W1 → Y k W1 args → M ≤ W1.heap.size →
    YieldAt Fence.wide n P l args W1 (fun e W' => (e = .returned (.bool true) ∧ J (k + 1) W' ∧ Ext fp W1 W') ∨ (e = .returned (.bool false) ∧ (∃ k, Jx k W') ∧ Ext fp W1 W'))

def Iter (P : Program) (gf : FuncId) (lb : Array Value) (N : Nat) (Y : Nat → World → Array Value → Prop) (fp : Nat → Prop) (M : Nat) (W : World) : Prop :=
  ∀ (n l : Nat) (J Jx : Nat → World → Prop),
    (∀ k A B, J k A → Ext (fun b => W.heap.size ≤ b ∧ b < M) A B → J k B) → (∀ k A B, Jx k A → Ext (fun b => W.heap.size ≤ b ∧ b < M) A B → Jx k B) →
    Round P N Y fp M l J Jx → J 0 W →
    CallsIn Fence.wide n P gf (#[.func (.yield l) #[] #[]] ++ lb) W (fun e W' => (∃ v, e = .returned v) ∧ (J N W' ∨ ∃ k, Jx k W'))

/-- How the body of a round may be left. -/
def roundEnd (fp : Nat → Prop) (I : Nat → World → Prop) (Ix : Code → Nat → World → Prop) (k : Nat) (W : World) : Exit → Act → World → Prop
  | .normal, _, W' => Ext fp W W' ∧ I (k + 1) W'
  | .ret, _, W' => Ext fp W W' ∧ ∃ k, Ix .ret k W'
  | .exit id, _, W' => Ext fp W W' ∧ ∃ k, Ix (.exit id) k W'
  | .goto t, _, W' => Ext fp W W' ∧ ∃ k, Ix (.goto t) k W'
  | .panic _, _, _ => False
  | .outgrown, _, _ => False

/-- The activation in which a round's body begins: the arguments in their slots, and in the variables that the assignment sets. -/
def rangeAct (a : Act) (ps qs : Array Tmp) (args : Array Value) : Act := { tmps := (qs.zip args).foldl (fun t (p, v) => t.setIfInBounds p v) ((ps.zip args).foldl (fun t (p, v) => t.setIfInBounds p v) a.tmps), defers := [] }

theorem rangeAct_one (a : Act) (p q : Tmp) (v : Value) : rangeAct a #[p] #[q] #[v] = { tmps := (a.tmps.setIfInBounds p v).setIfInBounds q v, defers := [] } := by simp [rangeAct]
theorem rangeAct_two (a : Act) (p p' q q' : Tmp) (v v' : Value) : rangeAct a #[p, p'] #[q, q'] #[v, v'] = { tmps := (((a.tmps.setIfInBounds p v).setIfInBounds p' v').setIfInBounds q v).setIfInBounds q' v', defers := [] } := by simp [rangeAct]

theorem wpIn_range {g : Operand} {ps : Array Tmp} {assign body : Code} {Q : Exit → Act → World → Prop} {a : Act} {w : World} {n : Nat} {gf : Nat} {lb : Array Value}
    (hg : a.eval g = .func (.func gf) #[] lb) (eg : ∀ args w, (callFunc gf args).run P w = .ok (.enter gf args) w)
    {N : Nat} {Y : Nat → World → Array Value → Prop} {fp : Nat → Prop} {M : Nat}
    (hM : w.heap.size + 2 ≤ M)
    (hit : ∀ W, Below w.heap.size w W → W.heap.size = w.heap.size + 2 → Iter P gf lb N Y (fun b => fp b ∨ b = w.heap.size + 1) M W)
    (I : Nat → World → Prop) (Ix : Code → Nat → World → Prop)
    (hI : ∀ k A B, I k A → Ext (fun b => w.heap.size ≤ b ∧ b < M) A B → I k B) (hIx : ∀ c k A B, Ix c k A → Ext (fun b => w.heap.size ≤ b ∧ b < M) A B → Ix c k B)
    (hY : ∀ k A B args, Y k A args → Ext (fun b => b = w.heap.size + 1) A B → Y k B args) (hYs : ∀ k A args, Y k A args → args.size = ps.size)
    (hfp : ∀ b, fp b → b ≠ w.heap.size ∧ b ≠ w.heap.size + 1) (h0 : I 0 w) (a₁ : Array Value → Act)
    (hassign : ∀ (m : Nat) (args : Array Value) (W : World) (K : Act → World → Prop), args.size = ps.size → K (a₁ args) W →
      assign.wpIn (Fence.wide.inRound (w.heap.size + 1)) m P (Exit.then K (fun _ _ _ => False)) { tmps := (ps.zip args).foldl (fun t (p, v) => t.setIfInBounds p v) a.tmps, defers := [] } W)
    (hbody : ∀ (m k : Nat) (W : World) (args : Array Value), k < N → I k W → Y k W args → M ≤ W.heap.size → body.wpIn (Fence.wide.inRound (w.heap.size + 1)) m P (roundEnd fp I Ix k W) (a₁ args) W)
    (hdone : ∀ (W : World), I N W → W.heap[w.heap.size]? = some (.deferred (some [])) → Q .normal { a with defers := { target := .collected w.heap.size, args := #[] } :: a.defers } W)
    (hstop : ∀ (c : Code) (k : Nat) (W : World), Ix c k W → W.heap[w.heap.size]? = some (.deferred (some [])) → c.wpIn Fence.wide n P Q { a with defers := { target := .collected w.heap.size, args := #[] } :: a.defers } W) :
    (Code.rangeFunc g ps assign body).wpIn Fence.wide n P Q a w := by
  refine wpIn_rangeFunc ?_
  intro fn hfn
  obtain ⟨rec, hrec⟩ : ∃ rec : LoopState → Option Code → Loop, rec = fun st pe => { state := st, pending := pe, fn, tmps := a.tmps, params := ps, assign, body, defers := w.heap.size } := ⟨_, rfl⟩
  obtain ⟨W1, hW1⟩ : ∃ W1, (w.alloc (.deferred (some []))).alloc (.loop (rec .ready none)) = W1 := ⟨_, rfl⟩
  have hL1 : W1.heap[w.heap.size + 1]? = some (.loop (rec .ready none)) := by
    rw [← hW1]; have := World.alloc_heap_new (w.alloc (.deferred (some []))) (.loop (rec .ready none)); rwa [World.size_alloc] at this
  have hK1 : W1.heap[w.heap.size]? = some (.deferred (some [])) := by
    rw [← hW1]; exact (Below.heap_alloc _ _ _ (by simp)).trans (World.alloc_heap_new w _)
  have hb1 : Below w.heap.size w W1 := by rw [← hW1]; exact ((Below.refl _ w).alloc (Nat.le_refl _) _).alloc (by simp) _
  have hs1 : W1.heap.size = w.heap.size + 2 := by rw [← hW1]; simp
  have hI1 : I 0 W1 := hI 0 w W1 h0 (Ext.ofBelow hb1)
  refine ⟨w.heap.size + 1, [{ target := .collected w.heap.size, args := #[] }], W1, { target := .fn (.func gf) lb, args := #[.func (.yield (w.heap.size + 1)) #[] #[]] }, W1, gf,
    #[.func (.yield (w.heap.size + 1)) #[] #[]] ++ lb, W1, ?_, ?_, ?_, ?_, fun h => by simp [Fence.wide] at h, ?_⟩
  · rw [← hW1, hrec]; exact run_enterLoop_outer _ _ _ _ _
  · simp only [resolve, hg]
    simp [go_sem]
  · intro f' hf'; trivial
  · simp [invoke, go_sem, eg]
  · have hext : ∀ (W : World) (o : Obj), Ext (fun b => b = w.heap.size + 1) W (W.putObj (w.heap.size + 1) o) := fun W o => ext_putObj _ _ _
    have hin : ∀ {A B : World}, Ext (fun b => b = w.heap.size + 1) A B → Ext (fun b => w.heap.size ≤ b ∧ b < M) A B := fun h => h.mono (fun b _ e => by omega)
    refine (hit W1 hb1 hs1 (n - 1) (w.heap.size + 1)
      (fun k W => I k W ∧ W.heap[w.heap.size + 1]? = some (.loop (rec .ready none)) ∧ W.heap[w.heap.size]? = some (.deferred (some [])))
      (fun k W => ∃ c, Ix c k W ∧ W.heap[w.heap.size + 1]? = some (.loop (rec .done (some c))) ∧ W.heap[w.heap.size]? = some (.deferred (some [])))
      ?_ ?_ ?_ ⟨hI1, hL1, hK1⟩).mono ?_
    · rintro k A B ⟨h1, h2, h3⟩ he
      refine ⟨hI k A B h1 (he.mono (fun b _ h => by omega)), ?_, ?_⟩
      · rw [he.block _ (Array.getElem?_eq_some_iff.1 h2).1 (by omega)]; exact h2
      · rw [he.block _ (Array.getElem?_eq_some_iff.1 h3).1 (by omega)]; exact h3
    · rintro k A B ⟨c, h1, h2, h3⟩ he
      refine ⟨c, hIx c k A B h1 (he.mono (fun b _ h => by omega)), ?_, ?_⟩
      · rw [he.block _ (Array.getElem?_eq_some_iff.1 h2).1 (by omega)]; exact h2
      · rw [he.block _ (Array.getElem?_eq_some_iff.1 h3).1 (by omega)]; exact h3
    · rintro m k W args hk ⟨hi, hl, hd⟩ hy hsz
      have hyr := run_yield (P := P) (args := args) hl (by rw [hrec]; exact hYs k W args hy)
      rw [hrec] at hyr
      refine ⟨fn, _, assign, body, hyr, roundIn_of_wpIn trivial (hassign m args W _ (hYs k W args hy) ⟨_, run_beginRound hl (by rw [hrec]), ?_⟩)⟩
      obtain ⟨W2, hW2⟩ : ∃ W2, W.putObj (w.heap.size + 1) (.loop { rec .ready none with state := .busy }) = W2 := ⟨_, rfl⟩
      have e2 : Ext (fun b => b = w.heap.size + 1) W W2 := hW2 ▸ hext W _
      have hl2 : W2.heap[w.heap.size + 1]? = some (.loop { rec .ready none with state := .busy }) := hW2 ▸ World.putObj_heap_same (Array.getElem?_eq_some_iff.1 hl).1
      have hd2 : W2.heap[w.heap.size]? = some (.deferred (some [])) := (e2.block _ (Array.getElem?_eq_some_iff.1 hd).1 (by omega)).trans hd
      rw [hW2]
      refine wpIn_mono (hbody m k W2 args hk (hI k W W2 hi (hin e2)) (hY k W W2 args hy e2) (Nat.le_trans hsz e2.size)) ?_
      have fin : ∀ (jump : Option Code) (W3 : World), Ext fp W2 W3 →
          (Instr.endRound (w.heap.size + 1) jump).run P W3 = .ok (.bool jump.isNone) (W3.putObj (w.heap.size + 1) (.loop (rec (if jump.isNone then .ready else .done) jump))) ∧
          Ext (fun b => fp b ∨ b = w.heap.size + 1) W (W3.putObj (w.heap.size + 1) (.loop (rec (if jump.isNone then .ready else .done) jump))) ∧
          (W3.putObj (w.heap.size + 1) (.loop (rec (if jump.isNone then .ready else .done) jump))).heap[w.heap.size + 1]? = some (.loop (rec (if jump.isNone then .ready else .done) jump)) ∧
          (W3.putObj (w.heap.size + 1) (.loop (rec (if jump.isNone then .ready else .done) jump))).heap[w.heap.size]? = some (.deferred (some [])) := fun jump W3 he => by
        have hl3 : W3.heap[w.heap.size + 1]? = some (.loop { rec .ready none with state := .busy }) := (he.block _ (Array.getElem?_eq_some_iff.1 hl2).1 (fun h => (hfp _ h).2 rfl)).trans hl2
        have hd3 : W3.heap[w.heap.size]? = some (.deferred (some [])) := (he.block _ (Array.getElem?_eq_some_iff.1 hd2).1 (fun h => (hfp _ h).1 rfl)).trans hd2
        have := run_endRound (P := P) jump hl3
        rw [hrec] at this ⊢
        refine ⟨this, ?_, World.putObj_heap_same (Array.getElem?_eq_some_iff.1 hl3).1, (World.putObj_heap_other (by omega)).trans hd3⟩
        exact ((e2.mono (fun b _ e => .inr e)).trans (he.mono (fun b _ e => .inl e) : Ext (fun b => fp b ∨ b = w.heap.size + 1) W2 W3) (fun b h => .inl h)).trans (hext W3 _) (fun b h => .inl (.inr h))
      rintro e a3 W3 hp
      cases e with
      | normal =>
        obtain ⟨he, hi3⟩ := hp
        obtain ⟨hr, hx, hl4, hd4⟩ := fin none W3 he
        exact ⟨_, _, hr, .inl ⟨rfl, ⟨hI _ _ _ hi3 (hin (hext W3 _)), hl4, hd4⟩, hx⟩⟩
      | ret =>
        obtain ⟨he, k', hi3⟩ := hp
        obtain ⟨hr, hx, hl4, hd4⟩ := fin (some .ret) W3 he
        exact ⟨_, _, hr, .inr ⟨rfl, ⟨k', .ret, hIx _ _ _ _ hi3 (hin (hext W3 _)), hl4, hd4⟩, hx⟩⟩
      | exit id =>
        obtain ⟨he, k', hi3⟩ := hp
        obtain ⟨hr, hx, hl4, hd4⟩ := fin (some (.exit id)) W3 he
        exact ⟨_, _, hr, .inr ⟨rfl, ⟨k', .exit id, hIx _ _ _ _ hi3 (hin (hext W3 _)), hl4, hd4⟩, hx⟩⟩
      | goto t =>
        obtain ⟨he, k', hi3⟩ := hp
        obtain ⟨hr, hx, hl4, hd4⟩ := fin (some (.goto t)) W3 he
        exact ⟨_, _, hr, .inr ⟨rfl, ⟨k', .goto t, hIx _ _ _ _ hi3 (hin (hext W3 _)), hl4, hd4⟩, hx⟩⟩
      | panic ch => exact hp.elim
      | outgrown => exact hp.elim
    · rintro e W2 ⟨⟨v, rfl⟩, (⟨hi, hl, hd⟩ | ⟨k, c, hi, hl, hd⟩)⟩
      · refine ⟨none, _, by have := run_endLoop (P := P) hl (by rw [hrec]; simp); rw [hrec] at this; exact this, hdone _ (hI _ _ _ hi (hin (hext W2 _))) ((World.putObj_heap_other (by omega)).trans hd)⟩
      · refine ⟨some c, _, by have := run_endLoop (P := P) hl (by rw [hrec]; simp); rw [hrec] at this; exact this, hstop _ k _ (hIx _ _ _ _ hi (hin (hext W2 _))) ((World.putObj_heap_other (by omega)).trans hd)⟩

theorem wpIn_rangeQ {g : Operand} {ps : Array Tmp} {assign body : Code} {Q : Exit → Act → World → Prop} {a : Act} {w : World} {n : Nat} {gf : Nat} {lb : Array Value}
    (hg : a.eval g = .func (.func gf) #[] lb) (eg : ∀ args w, (callFunc gf args).run P w = .ok (.enter gf args) w)
    {N : Nat} {Y : Nat → World → Array Value → Prop} {fp : Nat → Prop} {M : Nat}
    (hM : w.heap.size + 2 ≤ M)
    (hit : ∀ W, Below w.heap.size w W → W.heap.size = w.heap.size + 2 → Iter P gf lb N Y (fun b => fp b ∨ b = w.heap.size + 1) M W)
    (I : Nat → World → Prop) (Ix : Code → Nat → World → Prop)
    (hI : ∀ k A B, I k A → Ext (fun b => w.heap.size ≤ b ∧ b < M) A B → I k B) (hIx : ∀ c k A B, Ix c k A → Ext (fun b => w.heap.size ≤ b ∧ b < M) A B → Ix c k B)
    (hY : ∀ k A B args, Y k A args → Ext (fun b => b = w.heap.size + 1) A B → Y k B args) (hYs : ∀ k A args, Y k A args → args.size = ps.size)
    (hfp : ∀ b, fp b → b ≠ w.heap.size ∧ b ≠ w.heap.size + 1) (h0 : I 0 w) (qs : Array Tmp)
    (hassign : ∀ (m : Nat) (args : Array Value) (W : World) (K : Act → World → Prop), args.size = ps.size → K (rangeAct a ps qs args) W →
      assign.wpIn (Fence.wide.inRound (w.heap.size + 1)) m P (Exit.then K (fun _ _ _ => False)) { tmps := (ps.zip args).foldl (fun t (p, v) => t.setIfInBounds p v) a.tmps, defers := [] } W)
    (hbody : ∀ (m k : Nat) (W : World) (args : Array Value), k < N → I k W → Y k W args → M ≤ W.heap.size → body.wpIn (Fence.wide.inRound (w.heap.size + 1)) m P (roundEnd fp I Ix k W) (rangeAct a ps qs args) W)
    (hdone : ∀ (W : World), I N W → W.heap[w.heap.size]? = some (.deferred (some [])) → Q .normal { a with defers := { target := .collected w.heap.size, args := #[] } :: a.defers } W)
    (hstop : ∀ (c : Code) (k : Nat) (W : World), Ix c k W → W.heap[w.heap.size]? = some (.deferred (some [])) → c.wpIn Fence.wide n P Q { a with defers := { target := .collected w.heap.size, args := #[] } :: a.defers } W) :
    (Code.rangeFunc g ps assign body).wpIn Fence.wide n P Q a w :=
  wpIn_range hg eg hM hit I Ix hI hIx hY hYs hfp h0 (rangeAct a ps qs) hassign hbody hdone hstop
end
end Go.Proofs.YtnbeagcmfcdklaaGreat
