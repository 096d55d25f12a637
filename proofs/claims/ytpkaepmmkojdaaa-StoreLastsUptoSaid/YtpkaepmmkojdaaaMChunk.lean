import Derived.Test.YtpkaepmmkojdaaaMRegionC
import Derived.Test.YtpkaepmmkojdaaaMap
import Derived.RangeFuncNested
import Derived.RangeFuncLeaves
import Derived.Test.YtpkaepmmkojdaaaMDisk
import Derived.OwnWalkIn
import Derived.TacticsInMore
import Derived.LoopNIn
import Derived.LoopIn
/-! A range over a function, at the wide fence: what an iterator owes, and the statement's law. No program is named here. -/
namespace Go.Proofs.Ytpkaepmmkojdaaa
open Go.RowKit

section
variable {P : Program}

theorem roundIn_n {n m l : Nat} {f : FuncId} {tmps : Array Value} {assign body : Code} {w : World} {R : Ending → World → Prop} (h : RoundIn Fence.wide n P l f tmps assign body w R) : RoundIn Fence.wide m P l f tmps assign body w R :=
  ⟨h.1, fun c cs _ => h.2 c cs (room_wide _)⟩
theorem yieldAt_n {n m l : Nat} {args : Array Value} {w : World} {R : Ending → World → Prop} (h : YieldAt Fence.wide n P l args w R) : YieldAt Fence.wide m P l args w R := by
  obtain ⟨fn, tmps, assign, body, h1, h2⟩ := h
  exact ⟨fn, tmps, assign, body, h1, roundIn_n h2⟩
theorem callsIn_n {n m : Nat} {f : FuncId} {args : Array Value} {w : World} {R : Ending → World → Prop} (h : CallsIn Fence.wide n P f args w R) : CallsIn Fence.wide m P f args w R := callsIn_wide.2 (callsIn_wide.1 h)

/-- What is asked of a round, and what an iterator over N things then does. -/
def Round (P : Program) (N : Nat) (Y : Nat → World → Array Value → Prop) (fp : Nat → Prop) (M : Nat) (l : Nat) (J Jx : Nat → World → Prop) : Prop :=
  ∀ n k W1 args, k < N → J k W1 → Y k W1 args → M ≤ W1.heap.size →
    YieldAt Fence.wide n P l args W1 (fun e W' => (e = .returned (.bool true) ∧ J (k + 1) W' ∧ Ext fp W1 W') ∨ (e = .returned (.bool false) ∧ (∃ k, Jx k W') ∧ Ext fp W1 W'))

def Iter (P : Program) (gf : FuncId) (lb : Array Value) (N : Nat) (Y : Nat → World → Array Value → Prop) (fp : Nat → Prop) (M : Nat) (W : World) : Prop :=
  ∀ (n l : Nat) (J Jx : Nat → World → Prop),
    (∀ k A B, J k A → Ext (fun b => W.heap.size ≤ b ∧ b < M) A B → J k B) → (∀ k A B, Jx k A → Ext (fun b => W.heap.size ≤ b ∧ b < M) A B → Jx k B) →
    Round P N Y fp M l J Jx → J 0 W →
    CallsIn Fence.wide n P gf (#[.func (.yield l) #[] #[]] ++ lb) W (fun e W' => (∃ v, e = .returned v) ∧ (J N W' ∨ ∃ k, Jx k W'))

/-- How the body of a round may be left. -/
def roundEnd (fp : Nat → Prop) (I : Nat → World → Prop) (Ix : Code → Nat → World → Prop) (k : Nat) (W : World) : Exit → Act → World → Prop
  | .normal, _, W' => Ext fp W W' ∧ I (k + 1) W'
  | .ret, _, W' => Ext fp W W' ∧ ∃ k, Ix .ret k W'
  | .exit id, _, W' => Ext fp W W' ∧ ∃ k, Ix (.exit id) k W'
  | .goto t, _, W' => Ext fp W W' ∧ ∃ k, Ix (.goto t) k W'
  | .panic _, _, _ => False
  | .outgrown, _, _ => False

/-- The activation in which a round's body begins: the arguments in their slots, and in the variables that the assignment sets. -/
def rangeAct (a : Act) (ps qs : Array Tmp) (args : Array Value) : Act := { tmps := (qs.zip args).foldl (fun t (p, v) => t.setIfInBounds p v) ((ps.zip args).foldl (fun t (p, v) => t.setIfInBounds p v) a.tmps), defers := [] }

theorem rangeAct_one (a : Act) (p q : Tmp) (v : Value) : rangeAct a #[p] #[q] #[v] = { tmps := (a.tmps.setIfInBounds p v).setIfInBounds q v, defers := [] } := by simp [rangeAct]
theorem rangeAct_two (a : Act) (p p' q q' : Tmp) (v v' : Value) : rangeAct a #[p, p'] #[q, q'] #[v, v'] = { tmps := (((a.tmps.setIfInBounds p v).setIfInBounds p' v').setIfInBounds q v).setIfInBounds q' v', defers := [] } := by simp [rangeAct]

theorem wpIn_range {g : Operand} {ps : Array Tmp} {assign body : Code} {Q : Exit → Act → World → Prop} {a : Act} {w : World} {n : Nat} {gf : Nat} {lb : Array Value}
    (hg : a.eval g = .func (.func gf) #[] lb) (eg : ∀ args w, (callFunc gf args).run P w = .ok (.enter gf args) w)
    {N : Nat} {Y : Nat → World → Array Value → Prop} {fp : Nat → Prop} {M : Nat}
    (hM : w.heap.size + 2 ≤ M)
    (hit : ∀ W, Below w.heap.size w W → W.heap.size = w.heap.size + 2 → Iter P gf lb N Y (fun b => fp b ∨ b = w.heap.size + 1) M W)
    (I : Nat → World → Prop) (Ix : Code → Nat → World → Prop)
    (hI : ∀ k A B, I k A → Ext (fun b => w.heap.size ≤ b ∧ b < M) A B → I k B) (hIx : ∀ c k A B, Ix c k A → Ext (fun b => w.heap.size ≤ b ∧ b < M) A B → Ix c k B)
    (hY : ∀ k A B args, Y k A args → Ext (fun b => b = w.heap.size + 1) A B → Y k B args) (hYs : ∀ k A args, Y k A args → args.size = ps.size)
    (hfp : ∀ b, fp b → b ≠ w.heap.size ∧ b ≠ w.heap.size + 1) (h0 : I 0 w) (a₁ : Array Value → Act)
    (hassign : ∀ (m : Nat) (args : Array Value) (W : World) (K : Act → World → Prop), args.size = ps.size → K (a₁ args) W →
      assign.wpIn (Fence.wide.inRound (w.heap.size + 1)) m P (Exit.then K (fun _ _ _ => False)) { tmps := (ps.zip args).foldl (fun t (p, v) => t.setIfInBounds p v) a.tmps, defers := [] } W)
    (hbody : ∀ (m k : Nat) (W : World) (args : Array Value), k < N → I k W → Y k W args → M ≤ W.heap.size → body.wpIn (Fence.wide.inRound (w.heap.size + 1)) m P (roundEnd fp I Ix k W) (a₁ args) W)
    (hdone : ∀ (W : World), I N W → W.heap[w.heap.size]? = some (.deferred (some [])) → Q .normal { a with defers := { target := .collected w.heap.size, args := #[] } :: a.defers } W)
    (hstop : ∀ (c : Code) (k : Nat) (W : World), Ix c k W → W.heap[w.heap.size]? = some (.deferred (some [])) → c.wpIn Fence.wide n P Q { a with defers := { target := .collected w.heap.size, args := #[] } :: a.defers } W) :
    (Code.rangeFunc g ps assign body).wpIn Fence.wide n P Q a w := by
  refine wpIn_rangeFunc ?_
  intro fn hfn
  obtain ⟨rec, hrec⟩ : ∃ rec : LoopState → Option Code → Loop, rec = fun st pe => { state := st, pending := pe, fn, tmps := a.tmps, params := ps, assign, body, defers := w.heap.size } := ⟨_, rfl⟩
  obtain ⟨W1, hW1⟩ : ∃ W1, (w.alloc (.deferred (some []))).alloc (.loop (rec .ready none)) = W1 := ⟨_, rfl⟩
  have hL1 : W1.heap[w.heap.size + 1]? = some (.loop (rec .ready none)) := by
    rw [← hW1]; have := World.alloc_heap_new (w.alloc (.deferred (some []))) (.loop (rec .ready none)); rwa [World.size_alloc] at this
  have hK1 : W1.heap[w.heap.size]? = some (.deferred (some [])) := by
    rw [← hW1]; exact (Below.heap_alloc _ _ _ (by simp)).trans (World.alloc_heap_new w _)
  have hb1 : Below w.heap.size w W1 := by rw [← hW1]; exact ((Below.refl _ w).alloc (Nat.le_refl _) _).alloc (by simp) _
  have hs1 : W1.heap.size = w.heap.size + 2 := by rw [← hW1]; simp
  have hI1 : I 0 W1 := hI 0 w W1 h0 (Ext.ofBelow hb1)
  refine ⟨w.heap.size + 1, [{ target := .collected w.heap.size, args := #[] }], W1, { target := .fn (.func gf) lb, args := #[.func (.yield (w.heap.size + 1)) #[] #[]] }, W1, gf,
    #[.func (.yield (w.heap.size + 1)) #[] #[]] ++ lb, W1, ?_, ?_, ?_, ?_, fun h => by simp [Fence.wide] at h, ?_⟩
  · rw [← hW1, hrec]; exact run_enterLoop_outer _ _ _ _ _
  · simp only [resolve, hg]
    simp [go_sem]
  · intro f' hf'; trivial
  · simp [invoke, go_sem, eg]
  · have hext : ∀ (W : World) (o : Obj), Ext (fun b => b = w.heap.size + 1) W (W.putObj (w.heap.size + 1) o) := fun W o => ext_putObj _ _ _
    have hin : ∀ {A B : World}, Ext (fun b => b = w.heap.size + 1) A B → Ext (fun b => w.heap.size ≤ b ∧ b < M) A B := fun h => h.mono (fun b _ e => by omega)
    refine (hit W1 hb1 hs1 (n - 1) (w.heap.size + 1)
      (fun k W => I k W ∧ W.heap[w.heap.size + 1]? = some (.loop (rec .ready none)) ∧ W.heap[w.heap.size]? = some (.deferred (some [])))
      (fun k W => ∃ c, Ix c k W ∧ W.heap[w.heap.size + 1]? = some (.loop (rec .done (some c))) ∧ W.heap[w.heap.size]? = some (.deferred (some [])))
      ?_ ?_ ?_ ⟨hI1, hL1, hK1⟩).mono ?_
    · rintro k A B ⟨h1, h2, h3⟩ he
      refine ⟨hI k A B h1 (he.mono (fun b _ h => by omega)), ?_, ?_⟩
      · rw [he.block _ (Array.getElem?_eq_some_iff.1 h2).1 (by omega)]; exact h2
      · rw [he.block _ (Array.getElem?_eq_some_iff.1 h3).1 (by omega)]; exact h3
    · rintro k A B ⟨c, h1, h2, h3⟩ he
      refine ⟨c, hIx c k A B h1 (he.mono (fun b _ h => by omega)), ?_, ?_⟩
      · rw [he.block _ (Array.getElem?_eq_some_iff.1 h2).1 (by omega)]; exact h2
      · rw [he.block _ (Array.getElem?_eq_some_iff.1 h3).1 (by omega)]; exact h3
    · rintro m k W args hk ⟨hi, hl, hd⟩ hy hsz
      have hyr := run_yield (P := P) (args := args) hl (by rw [hrec]; exact hYs k W args hy)
      rw [hrec] at hyr
      refine ⟨fn, _, assign, body, hyr, roundIn_of_wpIn trivial (hassign m args W _ (hYs k W args hy) ⟨_, run_beginRound hl (by rw [hrec]), ?_⟩)⟩
      obtain ⟨W2, hW2⟩ : ∃ W2, W.putObj (w.heap.size + 1) (.loop { rec .ready none with state := .busy }) = W2 := ⟨_, rfl⟩
      have e2 : Ext (fun b => b = w.heap.size + 1) W W2 := hW2 ▸ hext W _
      have hl2 : W2.heap[w.heap.size + 1]? = some (.loop { rec .ready none with state := .busy }) := hW2 ▸ World.putObj_heap_same (Array.getElem?_eq_some_iff.1 hl).1
      have hd2 : W2.heap[w.heap.size]? = some (.deferred (some [])) := (e2.block _ (Array.getElem?_eq_some_iff.1 hd).1 (by omega)).trans hd
      rw [hW2]
      refine wpIn_mono (hbody m k W2 args hk (hI k W W2 hi (hin e2)) (hY k W W2 args hy e2) (Nat.le_trans hsz e2.size)) ?_
      have fin : ∀ (jump : Option Code) (W3 : World), Ext fp W2 W3 →
          (Instr.endRound (w.heap.size + 1) jump).run P W3 = .ok (.bool jump.isNone) (W3.putObj (w.heap.size + 1) (.loop (rec (if jump.isNone then .ready else .done) jump))) ∧
          Ext (fun b => fp b ∨ b = w.heap.size + 1) W (W3.putObj (w.heap.size + 1) (.loop (rec (if jump.isNone then .ready else .done) jump))) ∧
          (W3.putObj (w.heap.size + 1) (.loop (rec (if jump.isNone then .ready else .done) jump))).heap[w.heap.size + 1]? = some (.loop (rec (if jump.isNone then .ready else .done) jump)) ∧
          (W3.putObj (w.heap.size + 1) (.loop (rec (if jump.isNone then .ready else .done) jump))).heap[w.heap.size]? = some (.deferred (some [])) := fun jump W3 he => by
        have hl3 : W3.heap[w.heap.size + 1]? = some (.loop { rec .ready none with state := .busy }) := (he.block _ (Array.getElem?_eq_some_iff.1 hl2).1 (fun h => (hfp _ h).2 rfl)).trans hl2
        have hd3 : W3.heap[w.heap.size]? = some (.deferred (some [])) := (he.block _ (Array.getElem?_eq_some_iff.1 hd2).1 (fun h => (hfp _ h).1 rfl)).trans hd2
        have := run_endRound (P := P) jump hl3
        rw [hrec] at this ⊢
        refine ⟨this, ?_, World.putObj_heap_same (Array.getElem?_eq_some_iff.1 hl3).1, (World.putObj_heap_other (by omega)).trans hd3⟩
        exact ((e2.mono (fun b _ e => .inr e)).trans (he.mono (fun b _ e => .inl e) : Ext (fun b => fp b ∨ b = w.heap.size + 1) W2 W3) (fun b h => .inl h)).trans (hext W3 _) (fun b h => .inl (.inr h))
      rintro e a3 W3 hp
      cases e with
      | normal =>
        obtain ⟨he, hi3⟩ := hp
        obtain ⟨hr, hx, hl4, hd4⟩ := fin none W3 he
        exact ⟨_, _, hr, .inl ⟨rfl, ⟨hI _ _ _ hi3 (hin (hext W3 _)), hl4, hd4⟩, hx⟩⟩
      | ret =>
        obtain ⟨he, k', hi3⟩ := hp
        obtain ⟨hr, hx, hl4, hd4⟩ := fin (some .ret) W3 he
        exact ⟨_, _, hr, .inr ⟨rfl, ⟨k', .ret, hIx _ _ _ _ hi3 (hin (hext W3 _)), hl4, hd4⟩, hx⟩⟩
      | exit id =>
        obtain ⟨he, k', hi3⟩ := hp
        obtain ⟨hr, hx, hl4, hd4⟩ := fin (some (.exit id)) W3 he
        exact ⟨_, _, hr, .inr ⟨rfl, ⟨k', .exit id, hIx _ _ _ _ hi3 (hin (hext W3 _)), hl4, hd4⟩, hx⟩⟩
      | goto t =>
        obtain ⟨he, k', hi3⟩ := hp
        obtain ⟨hr, hx, hl4, hd4⟩ := fin (some (.goto t)) W3 he
        exact ⟨_, _, hr, .inr ⟨rfl, ⟨k', .goto t, hIx _ _ _ _ hi3 (hin (hext W3 _)), hl4, hd4⟩, hx⟩⟩
      | panic ch => exact hp.elim
      | outgrown => exact hp.elim
    · rintro e W2 ⟨⟨v, rfl⟩, (⟨hi, hl, hd⟩ | ⟨k, c, hi, hl, hd⟩)⟩
      · refine ⟨none, _, by have := run_endLoop (P := P) hl (by rw [hrec]; simp); rw [hrec] at this; exact this, hdone _ (hI _ _ _ hi (hin (hext W2 _))) ((World.putObj_heap_other (by omega)).trans hd)⟩
      · refine ⟨some c, _, by have := run_endLoop (P := P) hl (by rw [hrec]; simp); rw [hrec] at this; exact this, hstop _ k _ (hIx _ _ _ _ hi (hin (hext W2 _))) ((World.putObj_heap_other (by omega)).trans hd)⟩

theorem wpIn_rangeQ {g : Operand} {ps : Array Tmp} {assign body : Code} {Q : Exit → Act → World → Prop} {a : Act} {w : World} {n : Nat} {gf : Nat} {lb : Array Value}
    (hg : a.eval g = .func (.func gf) #[] lb) (eg : ∀ args w, (callFunc gf args).run P w = .ok (.enter gf args) w)
    {N : Nat} {Y : Nat → World → Array Value → Prop} {fp : Nat → Prop} {M : Nat}
    (hM : w.heap.size + 2 ≤ M)
    (hit : ∀ W, Below w.heap.size w W → W.heap.size = w.heap.size + 2 → Iter P gf lb N Y (fun b => fp b ∨ b = w.heap.size + 1) M W)
    (I : Nat → World → Prop) (Ix : Code → Nat → World → Prop)
    (hI : ∀ k A B, I k A → Ext (fun b => w.heap.size ≤ b ∧ b < M) A B → I k B) (hIx : ∀ c k A B, Ix c k A → Ext (fun b => w.heap.size ≤ b ∧ b < M) A B → Ix c k B)
    (hY : ∀ k A B args, Y k A args → Ext (fun b => b = w.heap.size + 1) A B → Y k B args) (hYs : ∀ k A args, Y k A args → args.size = ps.size)
    (hfp : ∀ b, fp b → b ≠ w.heap.size ∧ b ≠ w.heap.size + 1) (h0 : I 0 w) (qs : Array Tmp)
    (hassign : ∀ (m : Nat) (args : Array Value) (W : World) (K : Act → World → Prop), args.size = ps.size → K (rangeAct a ps qs args) W →
      assign.wpIn (Fence.wide.inRound (w.heap.size + 1)) m P (Exit.then K (fun _ _ _ => False)) { tmps := (ps.zip args).foldl (fun t (p, v) => t.setIfInBounds p v) a.tmps, defers := [] } W)
    (hbody : ∀ (m k : Nat) (W : World) (args : Array Value), k < N → I k W → Y k W args → M ≤ W.heap.size → body.wpIn (Fence.wide.inRound (w.heap.size + 1)) m P (roundEnd fp I Ix k W) (rangeAct a ps qs args) W)
    (hdone : ∀ (W : World), I N W → W.heap[w.heap.size]? = some (.deferred (some [])) → Q .normal { a with defers := { target := .collected w.heap.size, args := #[] } :: a.defers } W)
    (hstop : ∀ (c : Code) (k : Nat) (W : World), Ix c k W → W.heap[w.heap.size]? = some (.deferred (some [])) → c.wpIn Fence.wide n P Q { a with defers := { target := .collected w.heap.size, args := #[] } :: a.defers } W) :
    (Code.rangeFunc g ps assign body).wpIn Fence.wide n P Q a w :=
  wpIn_range hg eg hM hit I Ix hI hIx hY hYs hfp h0 (rangeAct a ps qs) hassign hbody hdone hstop
end
end Go.Proofs.Ytpkaepmmkojdaaa

/-! The iterator of slices.Chunk at bytes, by 240. -/
namespace Go.Proofs.Ytpkaepmmkojdaaa
open Go.RowKit
attribute [local go_sem] Oper.semAt_some

/-- The world stays. -/
def Stays (x y : World) : Prop := y = x
theorem Stays.refl (w : World) : Stays w w := rfl
theorem Stays.trans {x y z : World} (h : Stays x y) (k : Stays y z) : Stays x z := Eq.trans k h

def chunkOf (l : List UInt8) (k : Nat) : List UInt8 := (l.drop (240 * k)).take 240
def chunks (l : List UInt8) : Nat := (l.length + 239) / 240
theorem chunkOf_length (l : List UInt8) (k : Nat) : (chunkOf l k).length = min 240 (l.length - 240 * k) := by simp [chunkOf]

def ChunkY (l : List UInt8) (ob : Option Nat) (k : Nat) (W : World) (args : Array Value) : Prop := ∃ v, args = #[v] ∧ Bs W v (chunkOf l k) ∧ ∀ g, v.ownBlock = some g → ob = some g

theorem run_slice_3 {P : Program} {T E : TypeId} (hT : P.underlying T = some (.slice E)) (hE : (P.info? E).map (·.size) = some 1) (a : Option Addr) (n c : Nat) (lo hi : Int) (h0 : 0 ≤ lo) (h1 : lo ≤ hi) (h2 : hi ≤ c) (W : World) :
    (Instr.slice T (.slice a n c) (some (.int .i64 lo)) (some (.int .i64 hi)) (some (.int .i64 hi))).run P W = .ok (.slice (sla a hi.toNat lo.toNat) (hi.toNat - lo.toNat) (hi.toNat - lo.toNat)) W := by
  have hs : (sizeOf E).run P W = .ok 1 W := by
    cases hq : P.info? E with
    | none => simp [hq] at hE
    | some i =>
      simp [hq] at hE
      simp [sizeOf, typeInfo, hq, hE]
  have e1 : ∀ (code : BoundsCode), (Instr.sliceBound (.int .i64 hi) c code).run P W = .ok hi.toNat W := fun code => run_sliceBound (P := P) (w := W) .i64 hi c code (by omega) h2
  have e1' : ∀ (code : BoundsCode), (Instr.sliceBound (.int .i64 hi) hi.toNat code).run P W = .ok hi.toNat W := fun code => run_sliceBound (P := P) (w := W) .i64 hi hi.toNat code (by omega) (by omega)
  have e2 : ∀ (code : BoundsCode), (Instr.sliceBound (.int .i64 lo) hi.toNat code).run P W = .ok lo.toNat W := fun code => run_sliceBound (P := P) (w := W) .i64 lo hi.toNat code h0 (by omega)
  simp [Instr.slice, Instr.sliceBounds, run_underlying hT, e1, e1', e2, hs, sla, Sem.run_bind]

theorem ownBlock_sla {a : Option Addr} {c lo n n' c' c'' g : Nat} (h : (Value.slice (sla a c lo) n c').ownBlock = some g) : (Value.slice a n' c'').ownBlock = some g := by
  unfold sla at h
  split at h
  · cases a <;> exact h
  · cases a with
    | none => exact h
    | some ad =>
      have e : (ad.add lo).block = ad.block := by unfold Addr.add; split <;> rfl
      simp only [Option.map_some, Value.ownBlock] at h ⊢
      rw [← h]
      first | rfl | simp [e]
theorem Bs.trim {w : World} {a : Option Addr} {n c hi : Nat} {l : List UInt8} (h : Bs w (.slice a n c) l) (h2 : hi ≤ n) : Bs w (.slice a hi hi) (l.take hi) := by
  obtain ⟨a', c', e, hc, hm, h0, hs, hr⟩ := h
  injection e with e1 e2 e3
  subst e1 e2 e3
  have hlen : (l.take hi).length = hi := by simp; omega
  refine ⟨a, hi, by rw [hlen], by omega, by omega, fun hn => ?_, fun ad hd hcn => hs ad hd (by omega), fun i u hi' => ?_⟩
  · have := h0 hn
    omega
  · rw [List.getElem?_take] at hi'
    split at hi'
    · exact hr i u hi'
    · cases hi'
theorem Bs.slice3 {w : World} {a : Option Addr} {n c lo hi : Nat} {l : List UInt8} (h : Bs w (.slice a n c) l) (h1 : lo ≤ hi) (h2 : hi ≤ n) : Bs w (.slice (sla a hi lo) (hi - lo) (hi - lo)) ((l.drop lo).take (hi - lo)) := by
  have h3 := (h.trim h2).slice h1 (Nat.le_refl _)
  rw [List.drop_take, List.take_take, Nat.min_self] at h3
  exact h3

set_option maxRecDepth 100000 in
set_option maxHeartbeats 1600000 in
theorem chunk_iter (sb nb : Nat) (a0 : Option Addr) (c0 : Nat) (l : List UInt8) (fp : Nat → Prop) (w : World) (hs : Blk w sb #[.slice a0 l.length c0] 40) (hn : Blk w nb #[.int .i64 240] 3) (hv : Bs w (.slice a0 l.length c0) l) (hl : l.length ≤ 1000000000)
    (f1 : ¬ fp sb) (f2 : ¬ fp nb) (f3 : ∀ g, (Value.slice a0 l.length c0).ownBlock = some g → ¬ fp g) :
    Iter Try.prog 78 #[.pointer (some ⟨sb, 0, none⟩), .pointer (some ⟨nb, 0, none⟩)] (chunks l) (ChunkY l (Value.slice a0 l.length c0).ownBlock) fp w.heap.size w := by
  intro n l0 J Jx hJ hJx hR h0
  have hcl : l.length ≤ c0 := by obtain ⟨_, _, e, h, _⟩ := hv; cases e; exact h
  refine callsIn_of_wp Try.func78 rfl trivial ?_ rfl
  simp only [Try.ntmps78, List.size_toArray, List.length_cons, List.length_nil, Nat.reduceAdd, Nat.reduceSub, Array.replicate_succ, Array.replicate_zero, List.push_toArray, List.append_toArray, List.nil_append, List.cons_append]
  gi_wp2
  gi_loopw [4, 5] (fun i e wr => ∃ k : Nat, k ≤ chunks l ∧ i = .int .i64 ((240 * k : Nat) : Int) ∧ J k wr ∧ Ext fp w wr) (fun i _ _ => l.length + 240 - (intOf i).toNat)
  case atStart => exact ⟨0, by omega, rfl, h0, Ext.refl _ _⟩
  case round =>
    obtain ⟨k, hk, rfl, hJk, hx⟩ := hrel
    have hsw := hs.ext hx f1
    have hnw := hn.ext hx f2
    have hvw := hv.ext hx (fun g hg _ => f3 g hg)
    have cs0 : wr.cell? ⟨sb, 0, none⟩ = some (.slice a0 l.length c0) := hsw.cell (o := 0) rfl
    have cn0 : wr.cell? ⟨nb, 0, none⟩ = some (.int .i64 240) := hnw.cell (o := 0) rfl
    by_cases hlt : 240 * k < l.length
    · have hkc : k < chunks l := by unfold chunks; omega
      obtain ⟨i0, hi0⟩ : ∃ i0, 240 * k = i0 := ⟨_, rfl⟩
      obtain ⟨e0, he0⟩ : ∃ e0, e0 = min 240 (l.length - i0) := ⟨_, rfl⟩
      have hse : Bs wr.drew (.slice (sla a0 (i0 + e0) i0) e0 e0) (chunkOf l k) := by
        have h3 : Bs wr.drew _ _ := hvw.slice3 (lo := i0) (hi := i0 + e0) (by omega) (by omega)
        rw [show i0 + e0 - i0 = e0 from by omega] at h3
        have : (l.drop i0).take e0 = chunkOf l k := by
          unfold chunkOf
          rw [hi0]
          rcases Nat.le_total 240 (l.length - i0) with h | h
          · rw [show e0 = 240 from by omega]
          · rw [List.take_of_length_le (by simp; omega), List.take_of_length_le (by simp; omega)]
        rw [← this]; exact h3
      have hRound := hR (n - 1) k wr.drew #[.slice (sla a0 (i0 + e0) i0) e0 e0] hkc (hJ k wr wr.drew hJk ((Ext.refl _ _).drew)) ⟨_, rfl, hse, fun g hg => ownBlock_sla hg⟩ (show w.heap.size ≤ wr.heap.size from hx.size)
      have hsl1 : ∀ W, (Instr.slice 40 (.slice a0 l.length c0) (some (.int .i64 (i0 : Int))) none none).run Try.prog W = .ok (.slice (sla a0 c0 i0) (l.length - i0) (c0 - i0)) W := fun W =>
        run_slice_from Try.underlying40 szu8 a0 l.length c0 (i0 : Int) (by omega) (by omega) W
      have hsl2 : ∀ W, (Instr.slice 40 (.slice a0 l.length c0) (some (.int .i64 (i0 : Int))) (some (.int .i64 ((i0 : Int) + (e0 : Int)))) (some (.int .i64 ((i0 : Int) + (e0 : Int))))).run Try.prog W = .ok (.slice (sla a0 (i0 + e0) i0) e0 e0) W := fun W => by
        rw [run_slice_3 Try.underlying40 szu8 a0 l.length c0 (i0 : Int) ((i0 : Int) + (e0 : Int)) (by omega) (by omega) (by omega) W]
        rw [show ((i0 : Int) + (e0 : Int)).toNat = i0 + e0 from by omega, Int.toNat_natCast, show i0 + e0 - i0 = e0 from by omega]
      have he240 : e0 ≤ 240 := by omega
      have hmin : (if ((l.length - i0 : Nat) : Int) < 240 then ((l.length - i0 : Nat) : Int) else 240) = (e0 : Int) := by split <;> omega
      rw [hi0] at hlt ⊢
      have Hi0 := hid hi0
      have hd : decide ((i0 : Int) < (l.length : Int)) = true := by simp; omega
      clear hse hR hv hvw hsw hnw hs hk hi0 he0
      gi_wp2
      refine wpIn_region_inv rfl Stays (fun i v x => match i with
          | 0 => v = .int .i64 240
          | 1 => v = .slice a0 l.length c0
          | 2 => v = .int .i64 (i0 : Int)
          | 3 => v = .slice (sla a0 c0 i0) (l.length - i0) (c0 - i0)
          | 4 => v = .int .i64 ((l.length - i0 : Nat) : Int)
          | 5 => v = .int .i64 (e0 : Int)
          | 6 => v = .int .i64 (e0 : Int)
          | _ => True) (by kernel_rfl) (Stays.refl _) Stays.trans ?stab ?steps ?fin
      case stab =>
        intro i v x y hg h
        match i with
        | 0 | 1 | 2 | 3 | 4 | 5 | 6 => exact h
        | n + 7 => trivial
      case steps =>
        refine ⟨?_, ?_, ?_, ?_, ?_, ?_, ?_, trivial⟩
        · intro a x hA
          have t2 := hA.at_ 2 (by rfl) rfl
          have hxe : x = wr.drew := hA.grow
          have cs1 : x.cell? ⟨sb, 0, none⟩ = some (.slice a0 l.length c0) := by rw [hxe]; exact cs0
          have cn1 : x.cell? ⟨nb, 0, none⟩ = some (.int .i64 240) := by rw [hxe]; exact cn0
          clear hxe
          refine stepIn_value (fun _ => trivial) rfl (w' := x) (v := .int .i64 240) ?_ (Stays.refl _) ?_
          · go_simp
          · rfl
        · intro a x hA
          have t1 := hA.at_ 1 (by rfl) rfl
          have hxe : x = wr.drew := hA.grow
          have cs1 : x.cell? ⟨sb, 0, none⟩ = some (.slice a0 l.length c0) := by rw [hxe]; exact cs0
          have cn1 : x.cell? ⟨nb, 0, none⟩ = some (.int .i64 240) := by rw [hxe]; exact cn0
          clear hxe
          refine stepIn_value (fun _ => trivial) rfl (w' := x) (v := .slice a0 l.length c0) ?_ (Stays.refl _) ?_
          · go_simp
          · rfl
        · intro a x hA
          have t4 := hA.at_ 4 (by rfl) rfl
          refine stepIn_value (fun _ => trivial) rfl (w' := x) (v := .int .i64 (i0 : Int)) ?_ (Stays.refl _) ?_
          · go_simp
          · rfl
        · intro a x hA
          have t14 : a.tmps[14]?.getD undef = .slice a0 l.length c0 := hA.dep_ ⟨1, .data⟩ (by simp) _ 14 rfl rfl
          have t15 : a.tmps[15]?.getD undef = .int .i64 (i0 : Int) := hA.dep_ ⟨2, .data⟩ (by simp) _ 15 rfl rfl
          refine stepIn_value (fun _ => trivial) rfl (w' := x) (v := .slice (sla a0 c0 i0) (l.length - i0) (c0 - i0)) ?_ (Stays.refl _) ?_
          · go_simp
          · rfl
        · intro a x hA
          have t16 : a.tmps[16]?.getD undef = .slice (sla a0 c0 i0) (l.length - i0) (c0 - i0) := hA.dep_ ⟨3, .data⟩ (by simp) _ 16 rfl rfl
          refine stepIn_value (fun _ => trivial) rfl (w' := x) (v := .int .i64 ((l.length - i0 : Nat) : Int)) ?_ (Stays.refl _) ?_
          · go_simp
          · rfl
        · intro a x hA
          have t13 : a.tmps[13]?.getD undef = .int .i64 240 := hA.dep_ ⟨0, .data⟩ (by simp) _ 13 rfl rfl
          have t17 : a.tmps[17]?.getD undef = .int .i64 ((l.length - i0 : Nat) : Int) := hA.dep_ ⟨4, .data⟩ (by simp) _ 17 rfl rfl
          refine stepIn_value (fun _ => trivial) rfl (w' := x) (v := .int .i64 (e0 : Int)) ?_ (Stays.refl _) ?_
          · go_simp
          · rfl
        · intro a x hA
          have t18 : a.tmps[18]?.getD undef = .int .i64 (e0 : Int) := hA.dep_ ⟨5, .data⟩ (by simp) _ 18 rfl rfl
          refine stepIn_value (fun _ => trivial) rfl (w' := x) (v := .int .i64 (e0 : Int)) ?_ (Stays.refl _) ?_
          · go_simp
          · rfl
      case fin =>
        intro y W' hg hV
        simp only [AllVals] at hV
        obtain ⟨_, _, _, _, _, _, h6, _⟩ := hV
        obtain rfl : W' = wr.drew := hg
        simp only [putAll, Act.put, List.setIfInBounds_toArray, List.set_cons_zero, List.set_cons_succ]
        rw [h6]
        obtain ⟨fn, tmps, assign, body, hy, hRR⟩ := hRound
        gi_wp2
        refine ⟨fun h => by simp [Fence.wide] at h, hRR.mono ?_⟩
        rintro e W3 (⟨rfl, hJ3, hx3⟩ | ⟨rfl, ⟨k', hJx3⟩, _⟩)
        · have hxx := (hx.drew).trans' hx3
          have cn3 := (hn.ext hxx f2).cell (o := 0) rfl
          gi_wp2
          go_roundw
          case rel => exact ⟨k + 1, by omega, by rw [← Hi0.out]; congr 1, hJ3, hxx⟩
          case measure => simp [intOf]; omega
        · gi_wp2
          refine bodyPost_ret (results_none rfl _ _ _) rfl ?_
          exact ⟨⟨_, rfl⟩, .inr ⟨k', hJx3⟩⟩

    · obtain rfl : k = chunks l := by unfold chunks at *; omega
      have hd : decide (((240 * chunks l : Nat) : Int) < (l.length : Int)) = false := by simp; omega
      generalize 240 * chunks l = i0 at *
      gi_wp2
      go_end0
      exact ⟨⟨_, rfl⟩, .inl hJk⟩

end Go.Proofs.Ytpkaepmmkojdaaa
