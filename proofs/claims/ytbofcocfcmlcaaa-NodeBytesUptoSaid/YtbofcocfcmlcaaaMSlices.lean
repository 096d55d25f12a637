import Derived.Test.YtbofcocfcmlcaaaMRegionC
import Derived.Test.YtbofcocfcmlcaaaMap
import Derived.RangeFuncNested
import Derived.RangeFuncLeaves
import Derived.Test.YtbofcocfcmlcaaaMFrame
import Derived.Lib.AppendZeros
/-! A range over a function, at the wide fence: what an iterator owes, and the statement's law. No program is named here. -/
namespace Go.Proofs.Ytbofcocfcmlcaaa
open Go.RowKit

section
variable {P : Program}

theorem roundIn_n {n m l : Nat} {f : FuncId} {tmps : Array Value} {assign body : Code} {w : World} {R : Ending → World → Prop} (h : RoundIn Fence.wide n P l f tmps assign body w R) : RoundIn Fence.wide m P l f tmps assign body w R :=
  ⟨h.1, fun c cs _ => h.2 c cs (room_wide _)⟩
theorem yieldAt_n {n m l : Nat} {args : Array Value} {w : World} {R : Ending → World → Prop} (h : YieldAt Fence.wide n P l args w R) : YieldAt Fence.wide m P l args w R := by
  obtain ⟨fn, tmps, assign, body, h1, h2⟩ := h
  exact ⟨fn, tmps, assign, body, h1, roundIn_n h2⟩
theorem callsIn_n {n m : Nat} {f : FuncId} {args : Array Value} {w : World} {R : Ending → World → Prop} (h : CallsIn Fence.wide n P f args w R) : CallsIn Fence.wide m P f args w R := callsIn_wide.2 (callsIn_wide.1 h)

/-- What is asked of a round, and what an iterator over N things then does. -/
def Round (P : Program) (N : Nat) (Y : Nat → World → Array Value → Prop) (fp : Nat → Prop) (M : Nat) (l : Nat) (J Jx : Nat → World → Prop) : Prop :=
  ∀ n k W1 args, k < N → J k W1 → Y k W1 args → M ≤ W1.heap.size →
    YieldAt Fence.wide n P l args W1 (fun e W' => (e = .returned (.bool true) ∧ J (k + 1) W' ∧ Ext fp W1 W') ∨ (e = .returned (.bool false) ∧ (∃ k, Jx k W') ∧ Ext fp W1 W'))

def Iter (P : Program) (gf : FuncId) (lb : Array Value) (N : Nat) (Y : Nat → World → Array Value → Prop) (fp : Nat → Prop) (M : Nat) (W : World) : Prop :=
  ∀ (n l : Nat) (J Jx : Nat → World → Prop),
    (∀ k A B, J k A → Ext (fun b => W.heap.size ≤ b ∧ b < M) A B → J k B) → (∀ k A B, Jx k A → Ext (fun b => W.heap.size ≤ b ∧ b < M) A B → Jx k B) →
    Round P N Y fp M l J Jx → J 0 W →
    CallsIn Fence.wide n P gf (#[.func (.yield l) #[] #[]] ++ lb) W (fun e W' => (∃ v, e = .returned v) ∧ (J N W' ∨ ∃ k, Jx k W'))

/-- How the body of a round may be left. -/
def roundEnd (fp : Nat → Prop) (I : Nat → World → Prop) (Ix : Code → Nat → World → Prop) (k : Nat) (W : World) : Exit → Act → World → Prop
  | .normal, _, W' => Ext fp W W' ∧ I (k + 1) W'
  | .ret, _, W' => Ext fp W W' ∧ ∃ k, Ix .ret k W'
  | .exit id, _, W' => Ext fp W W' ∧ ∃ k, Ix (.exit id) k W'
  | .goto t, _, W' => Ext fp W W' ∧ ∃ k, Ix (.goto t) k W'
  | .panic _, _, _ => False
  | .outgrown, _, _ => False

/-- The activation in which a round's body begins: the arguments in their slots, and in the variables that the assignment sets. -/
def rangeAct (a : Act) (ps qs : Array Tmp) (args : Array Value) : Act := { tmps := (qs.zip args).foldl (fun t (p, v) => t.setIfInBounds p v) ((ps.zip args).foldl (fun t (p, v) => t.setIfInBounds p v) a.tmps), defers := [] }

theorem rangeAct_one (a : Act) (p q : Tmp) (v : Value) : rangeAct a #[p] #[q] #[v] = { tmps := (a.tmps.setIfInBounds p v).setIfInBounds q v, defers := [] } := by simp [rangeAct]
theorem rangeAct_two (a : Act) (p p' q q' : Tmp) (v v' : Value) : rangeAct a #[p, p'] #[q, q'] #[v, v'] = { tmps := (((a.tmps.setIfInBounds p v).setIfInBounds p' v').setIfInBounds q v).setIfInBounds q' v', defers := [] } := by simp [rangeAct]

theorem wpIn_range {g : Operand} {ps : Array Tmp} {assign body : Code} {Q : Exit → Act → World → Prop} {a : Act} {w : World} {n : Nat} {gf : Nat} {lb : Array Value}
    (hg : a.eval g = .func (.func gf) #[] lb) (eg : ∀ args w, (callFunc gf args).run P w = .ok (.enter gf args) w)
    {N : Nat} {Y : Nat → World → Array Value → Prop} {fp : Nat → Prop} {M : Nat}
    (hM : w.heap.size + 2 ≤ M)
    (hit : ∀ W, Below w.heap.size w W → W.heap.size = w.heap.size + 2 → Iter P gf lb N Y (fun b => fp b ∨ b = w.heap.size + 1) M W)
    (I : Nat → World → Prop) (Ix : Code → Nat → World → Prop)
    (hI : ∀ k A B, I k A → Ext (fun b => w.heap.size ≤ b ∧ b < M) A B → I k B) (hIx : ∀ c k A B, Ix c k A → Ext (fun b => w.heap.size ≤ b ∧ b < M) A B → Ix c k B)
    (hY : ∀ k A B args, Y k A args → Ext (fun b => b = w.heap.size + 1) A B → Y k B args) (hYs : ∀ k A args, Y k A args → args.size = ps.size)
    (hfp : ∀ b, fp b → b ≠ w.heap.size ∧ b ≠ w.heap.size + 1) (h0 : I 0 w) (a₁ : Array Value → Act)
    (hassign : ∀ (m : Nat) (args : Array Value) (W : World) (K : Act → World → Prop), args.size = ps.size → K (a₁ args) W →
      assign.wpIn (Fence.wide.inRound (w.heap.size + 1)) m P (Exit.then K (fun _ _ _ => False)) { tmps := (ps.zip args).foldl (fun t (p, v) => t.setIfInBounds p v) a.tmps, defers := [] } W)
    (hbody : ∀ (m k : Nat) (W : World) (args : Array Value), k < N → I k W → Y k W args → M ≤ W.heap.size → body.wpIn (Fence.wide.inRound (w.heap.size + 1)) m P (roundEnd fp I Ix k W) (a₁ args) W)
    (hdone : ∀ (W : World), I N W → W.heap[w.heap.size]? = some (.deferred (some [])) → Q .normal { a with defers := { target := .collected w.heap.size, args := #[] } :: a.defers } W)
    (hstop : ∀ (c : Code) (k : Nat) (W : World), Ix c k W → W.heap[w.heap.size]? = some (.deferred (some [])) → c.wpIn Fence.wide n P Q { a with defers := { target := .collected w.heap.size, args := #[] } :: a.defers } W) :
    (Code.rangeFunc g ps assign body).wpIn Fence.wide n P Q a w := by
  refine wpIn_rangeFunc ?_
  intro fn hfn
  obtain ⟨rec, hrec⟩ : ∃ rec : LoopState → Option Code → Loop, rec = fun st pe => { state := st, pending := pe, fn, tmps := a.tmps, params := ps, assign, body, defers := w.heap.size } := ⟨_, rfl⟩
  obtain ⟨W1, hW1⟩ : ∃ W1, (w.alloc (.deferred (some []))).alloc (.loop (rec .ready none)) = W1 := ⟨_, rfl⟩
  have hL1 : W1.heap[w.heap.size + 1]? = some (.loop (rec .ready none)) := by
    rw [← hW1]; have := World.alloc_heap_new (w.alloc (.deferred (some []))) (.loop (rec .ready none)); rwa [World.size_alloc] at this
  have hK1 : W1.heap[w.heap.size]? = some (.deferred (some [])) := by
    rw [← hW1]; exact (Below.heap_alloc _ _ _ (by simp)).trans (World.alloc_heap_new w _)
  have hb1 : Below w.heap.size w W1 := by rw [← hW1]; exact ((Below.refl _ w).alloc (Nat.le_refl _) _).alloc (by simp) _
  have hs1 : W1.heap.size = w.heap.size + 2 := by rw [← hW1]; simp
  have hI1 : I 0 W1 := hI 0 w W1 h0 (Ext.ofBelow hb1)
  refine ⟨w.heap.size + 1, [{ target := .collected w.heap.size, args := #[] }], W1, { target := .fn (.func gf) lb, args := #[.func (.yield (w.heap.size + 1)) #[] #[]] }, W1, gf,
    #[.func (.yield (w.heap.size + 1)) #[] #[]] ++ lb, W1, ?_, ?_, ?_, ?_, fun h => by simp [Fence.wide] at h, ?_⟩
  · rw [← hW1, hrec]; exact run_enterLoop_outer _ _ _ _ _
  · simp only [resolve, hg]
    simp [go_sem]
  · intro f' hf'; trivial
  · simp [invoke, go_sem, eg]
  · have hext : ∀ (W : World) (o : Obj), Ext (fun b => b = w.heap.size + 1) W (W.putObj (w.heap.size + 1) o) := fun W o => ext_putObj _ _ _
    have hin : ∀ {A B : World}, Ext (fun b => b = w.heap.size + 1) A B → Ext (fun b => w.heap.size ≤ b ∧ b < M) A B := fun h => h.mono (fun b _ e => by omega)
    refine (hit W1 hb1 hs1 (n - 1) (w.heap.size + 1)
      (fun k W => I k W ∧ W.heap[w.heap.size + 1]? = some (.loop (rec .ready none)) ∧ W.heap[w.heap.size]? = some (.deferred (some [])))
      (fun k W => ∃ c, Ix c k W ∧ W.heap[w.heap.size + 1]? = some (.loop (rec .done (some c))) ∧ W.heap[w.heap.size]? = some (.deferred (some [])))
      ?_ ?_ ?_ ⟨hI1, hL1, hK1⟩).mono ?_
    · rintro k A B ⟨h1, h2, h3⟩ he
      refine ⟨hI k A B h1 (he.mono (fun b _ h => by omega)), ?_, ?_⟩
      · rw [he.block _ (Array.getElem?_eq_some_iff.1 h2).1 (by omega)]; exact h2
      · rw [he.block _ (Array.getElem?_eq_some_iff.1 h3).1 (by omega)]; exact h3
    · rintro k A B ⟨c, h1, h2, h3⟩ he
      refine ⟨c, hIx c k A B h1 (he.mono (fun b _ h => by omega)), ?_, ?_⟩
      · rw [he.block _ (Array.getElem?_eq_some_iff.1 h2).1 (by omega)]; exact h2
      · rw [he.block _ (Array.getElem?_eq_some_iff.1 h3).1 (by omega)]; exact h3
    · rintro m k W args hk ⟨hi, hl, hd⟩ hy hsz
      have hyr := run_yield (P := P) (args := args) hl (by rw [hrec]; exact hYs k W args hy)
      rw [hrec] at hyr
      refine ⟨fn, _, assign, body, hyr, roundIn_of_wpIn trivial (hassign m args W _ (hYs k W args hy) ⟨_, run_beginRound hl (by rw [hrec]), ?_⟩)⟩
      obtain ⟨W2, hW2⟩ : ∃ W2, W.putObj (w.heap.size + 1) (.loop { rec .ready none with state := .busy }) = W2 := ⟨_, rfl⟩
      have e2 : Ext (fun b => b = w.heap.size + 1) W W2 := hW2 ▸ hext W _
      have hl2 : W2.heap[w.heap.size + 1]? = some (.loop { rec .ready none with state := .busy }) := hW2 ▸ World.putObj_heap_same (Array.getElem?_eq_some_iff.1 hl).1
      have hd2 : W2.heap[w.heap.size]? = some (.deferred (some [])) := (e2.block _ (Array.getElem?_eq_some_iff.1 hd).1 (by omega)).trans hd
      rw [hW2]
      refine wpIn_mono (hbody m k W2 args hk (hI k W W2 hi (hin e2)) (hY k W W2 args hy e2) (Nat.le_trans hsz e2.size)) ?_
      have fin : ∀ (jump : Option Code) (W3 : World), Ext fp W2 W3 →
          (Instr.endRound (w.heap.size + 1) jump).run P W3 = .ok (.bool jump.isNone) (W3.putObj (w.heap.size + 1) (.loop (rec (if jump.isNone then .ready else .done) jump))) ∧
          Ext (fun b => fp b ∨ b = w.heap.size + 1) W (W3.putObj (w.heap.size + 1) (.loop (rec (if jump.isNone then .ready else .done) jump))) ∧
          (W3.putObj (w.heap.size + 1) (.loop (rec (if jump.isNone then .ready else .done) jump))).heap[w.heap.size + 1]? = some (.loop (rec (if jump.isNone then .ready else .done) jump)) ∧
          (W3.putObj (w.heap.size + 1) (.loop (rec (if jump.isNone then .ready else .done) jump))).heap[w.heap.size]? = some (.deferred (some [])) := fun jump W3 he => by
        have hl3 : W3.heap[w.heap.size + 1]? = some (.loop { rec .ready none with state := .busy }) := (he.block _ (Array.getElem?_eq_some_iff.1 hl2).1 (fun h => (hfp _ h).2 rfl)).trans hl2
        have hd3 : W3.heap[w.heap.size]? = some (.deferred (some [])) := (he.block _ (Array.getElem?_eq_some_iff.1 hd2).1 (fun h => (hfp _ h).1 rfl)).trans hd2
        have := run_endRound (P := P) jump hl3
        rw [hrec] at this ⊢
        refine ⟨this, ?_, World.putObj_heap_same (Array.getElem?_eq_some_iff.1 hl3).1, (World.putObj_heap_other (by omega)).trans hd3⟩
        exact ((e2.mono (fun b _ e => .inr e)).trans (he.mono (fun b _ e => .inl e) : Ext (fun b => fp b ∨ b = w.heap.size + 1) W2 W3) (fun b h => .inl h)).trans (hext W3 _) (fun b h => .inl (.inr h))
      rintro e a3 W3 hp
      cases e with
      | normal =>
        obtain ⟨he, hi3⟩ := hp
        obtain ⟨hr, hx, hl4, hd4⟩ := fin none W3 he
        exact ⟨_, _, hr, .inl ⟨rfl, ⟨hI _ _ _ hi3 (hin (hext W3 _)), hl4, hd4⟩, hx⟩⟩
      | ret =>
        obtain ⟨he, k', hi3⟩ := hp
        obtain ⟨hr, hx, hl4, hd4⟩ := fin (some .ret) W3 he
        exact ⟨_, _, hr, .inr ⟨rfl, ⟨k', .ret, hIx _ _ _ _ hi3 (hin (hext W3 _)), hl4, hd4⟩, hx⟩⟩
      | exit id =>
        obtain ⟨he, k', hi3⟩ := hp
        obtain ⟨hr, hx, hl4, hd4⟩ := fin (some (.exit id)) W3 he
        exact ⟨_, _, hr, .inr ⟨rfl, ⟨k', .exit id, hIx _ _ _ _ hi3 (hin (hext W3 _)), hl4, hd4⟩, hx⟩⟩
      | goto t =>
        obtain ⟨he, k', hi3⟩ := hp
        obtain ⟨hr, hx, hl4, hd4⟩ := fin (some (.goto t)) W3 he
        exact ⟨_, _, hr, .inr ⟨rfl, ⟨k', .goto t, hIx _ _ _ _ hi3 (hin (hext W3 _)), hl4, hd4⟩, hx⟩⟩
      | panic ch => exact hp.elim
      | outgrown => exact hp.elim
    · rintro e W2 ⟨⟨v, rfl⟩, (⟨hi, hl, hd⟩ | ⟨k, c, hi, hl, hd⟩)⟩
      · refine ⟨none, _, by have := run_endLoop (P := P) hl (by rw [hrec]; simp); rw [hrec] at this; exact this, hdone _ (hI _ _ _ hi (hin (hext W2 _))) ((World.putObj_heap_other (by omega)).trans hd)⟩
      · refine ⟨some c, _, by have := run_endLoop (P := P) hl (by rw [hrec]; simp); rw [hrec] at this; exact this, hstop _ k _ (hIx _ _ _ _ hi (hin (hext W2 _))) ((World.putObj_heap_other (by omega)).trans hd)⟩

theorem wpIn_rangeQ {g : Operand} {ps : Array Tmp} {assign body : Code} {Q : Exit → Act → World → Prop} {a : Act} {w : World} {n : Nat} {gf : Nat} {lb : Array Value}
    (hg : a.eval g = .func (.func gf) #[] lb) (eg : ∀ args w, (callFunc gf args).run P w = .ok (.enter gf args) w)
    {N : Nat} {Y : Nat → World → Array Value → Prop} {fp : Nat → Prop} {M : Nat}
    (hM : w.heap.size + 2 ≤ M)
    (hit : ∀ W, Below w.heap.size w W → W.heap.size = w.heap.size + 2 → Iter P gf lb N Y (fun b => fp b ∨ b = w.heap.size + 1) M W)
    (I : Nat → World → Prop) (Ix : Code → Nat → World → Prop)
    (hI : ∀ k A B, I k A → Ext (fun b => w.heap.size ≤ b ∧ b < M) A B → I k B) (hIx : ∀ c k A B, Ix c k A → Ext (fun b => w.heap.size ≤ b ∧ b < M) A B → Ix c k B)
    (hY : ∀ k A B args, Y k A args → Ext (fun b => b = w.heap.size + 1) A B → Y k B args) (hYs : ∀ k A args, Y k A args → args.size = ps.size)
    (hfp : ∀ b, fp b → b ≠ w.heap.size ∧ b ≠ w.heap.size + 1) (h0 : I 0 w) (qs : Array Tmp)
    (hassign : ∀ (m : Nat) (args : Array Value) (W : World) (K : Act → World → Prop), args.size = ps.size → K (rangeAct a ps qs args) W →
      assign.wpIn (Fence.wide.inRound (w.heap.size + 1)) m P (Exit.then K (fun _ _ _ => False)) { tmps := (ps.zip args).foldl (fun t (p, v) => t.setIfInBounds p v) a.tmps, defers := [] } W)
    (hbody : ∀ (m k : Nat) (W : World) (args : Array Value), k < N → I k W → Y k W args → M ≤ W.heap.size → body.wpIn (Fence.wide.inRound (w.heap.size + 1)) m P (roundEnd fp I Ix k W) (rangeAct a ps qs args) W)
    (hdone : ∀ (W : World), I N W → W.heap[w.heap.size]? = some (.deferred (some [])) → Q .normal { a with defers := { target := .collected w.heap.size, args := #[] } :: a.defers } W)
    (hstop : ∀ (c : Code) (k : Nat) (W : World), Ix c k W → W.heap[w.heap.size]? = some (.deferred (some [])) → c.wpIn Fence.wide n P Q { a with defers := { target := .collected w.heap.size, args := #[] } :: a.defers } W) :
    (Code.rangeFunc g ps assign body).wpIn Fence.wide n P Q a w :=
  wpIn_range hg eg hM hit I Ix hI hIx hY hYs hfp h0 (rangeAct a ps qs) hassign hbody hdone hstop
end
end Go.Proofs.Ytbofcocfcmlcaaa

/-! The walks of package slices (Grow, Concat, Clone) and bytes (Equal) at bytes. -/
namespace Go.Proofs.Ytbofcocfcmlcaaa
open Go.RowKit

theorem run_slice_to {P : Program} {T E : TypeId} (hT : P.underlying T = some (.slice E)) (hE : (P.info? E).map (·.size) = some 1) (a : Option Addr) (n c : Nat) (hi : Int) (h1 : 0 ≤ hi) (h2 : hi ≤ c) (W : World) :
    (Instr.slice T (.slice a n c) none (some (.int .i64 hi)) none).run P W = .ok (.slice a hi.toNat c) W := by
  have hs : (sizeOf E).run P W = .ok 1 W := by
    cases hq : P.info? E with
    | none => simp [hq] at hE
    | some i =>
      simp [hq] at hE
      simp [sizeOf, typeInfo, hq, hE]
  have e1 : ∀ (code : BoundsCode), (Instr.sliceBound (.int .i64 hi) c code).run P W = .ok hi.toNat W := fun code => run_sliceBound (P := P) (w := W) .i64 hi c code h1 h2
  have e3 : (if c = 0 then a else a.map (·.add (0 * 1))) = a := by
    split
    · rfl
    · cases a <;> simp [Addr.add]
  simp [Instr.slice, Instr.sliceBounds, run_underlying hT, e1, hs, Sem.run_bind]
  intro _
  cases a <;> simp [Addr.add]

theorem own8_grown {w : World} {c : Array Value} {t : TypeId} {cap : Nat} (hs : c.size = cap) (hm : cap ≤ maxLen) : Own8 (w.alloc (.cells c t)) w.heap.size t (.slice (some ⟨w.heap.size, 0, none⟩) 0 cap) [] :=
  own8_mk (Nat.le_refl _) (Blk.new w c t) rfl (Nat.zero_le _) hm hs (fun i u h => by simp at h)

set_option maxRecDepth 100000 in
set_option maxHeartbeats 800000 in
theorem slices_Grow (n : Int) (w : World) (h0 : 0 ≤ n) (h1 : n ≤ 1073741824) :
    Calls Try.prog 102 #[.slice none 0 0, .int .i64 n] w fun e w' => ∃ v, e = .returned v ∧ Own8 w' w.heap.size 5 v [] ∧ Below w.heap.size w w' := by
  obtain ⟨i0, hi, hz0, hz1, hz2⟩ := info_parts info_u8
  obtain ⟨m, rfl⟩ := Int.eq_ofNat_of_zero_le h0
  by_cases hm : m = 0
  · subst hm
    go_enter Try.func102, Try.ntmps102
    go_wp2_with fail
    go_ret
    exact ⟨_, rfl, Own8.nil _ _ _, Below.refl _ _⟩
  · have hpos : 0 < m := by omega
    have hra := Lib.run_append_nil_zeros (P := Try.prog) w 34 3 34 5 i0 (.int .u8 0) .i64 .i64 Try.underlying34 Try.underlying3 hi hz0 m hpos (by omega) (by omega) (by rw [hz2]; omega)
    have hcap : grownCap w m 0 5 ≤ maxLen := grownCap_le_maxLen w m 0 _ (by unfold maxLen; omega)
    have hge := grownCap_ge w m 0 5
    have hsz : (Builtin.zeroCells (Value.int .u8 0).cells m ++ Builtin.zeroCells (Value.int .u8 0).cells (grownCap w m 0 5 - m)).size = grownCap w m 0 5 := by
      rw [Array.size_append, size_zeroCells, size_zeroCells]
      simp [Value.cells]
      omega
    have hsl1 : ∀ W, (Instr.slice 34 (.slice none 0 0) none (some (.int .i64 0)) none).run Try.prog W = .ok (.slice none 0 0) W := fun W => by kernel_rfl
    have ho := own8_grown (w := w.drew) (t := 5) hsz hcap
    have hbb : Below w.heap.size w (w.drew.alloc (.cells (Builtin.zeroCells (Value.int .u8 0).cells m ++ Builtin.zeroCells (Value.int .u8 0).cells (grownCap w m 0 5 - m)) 5)) := (Below.refl _ w).drew.alloc (Nat.le_refl _) _
    generalize hW : w.drew.alloc (.cells (Builtin.zeroCells (Value.int .u8 0).cells m ++ Builtin.zeroCells (Value.int .u8 0).cells (grownCap w m 0 5 - m)) 5) = W at *
    generalize grownCap w m 0 5 = cap at *
    clear hW hsz
    have hsl2 : ∀ W, (Instr.slice 34 (.slice (some ⟨w.heap.size, 0, none⟩) m cap) none (some (.int .i64 0)) none).run Try.prog W = .ok (.slice (some ⟨w.heap.size, 0, none⟩) 0 cap) W := fun W =>
      run_slice_to Try.underlying34 szu8 _ m cap 0 (by omega) (by omega) W
    go_enter Try.func102, Try.ntmps102
    go_wp2_with (at_builtin; refine Lib.wpList_append_run w rfl _ _ _ _ rfl _ _ rfl rfl _ _ hra ?_)
    go_ret
    exact ⟨_, rfl, ho, hbb⟩

theorem sum_len_le (ls : List (List UInt8)) (j : Nat) : (ls.take j).flatten.length ≤ ls.flatten.length := by
  conv => rhs; rw [← List.take_append_drop j ls, List.flatten_append, List.length_append]
  omega

set_option maxRecDepth 100000 in
set_option maxHeartbeats 1600000 in
theorem slices_Concat (g n c : Nat) (vs : List Value) (ls : List (List UInt8)) (w : World) (hn : n = vs.length) (hp : Parts w g vs ls) (hvs : vs.length ≤ 64) (hls : ls.flatten.length ≤ 1073741824) :
    Calls Try.prog 66 #[.slice (some ⟨g, 0, none⟩) n c] w fun e w' => ∃ v, e = .returned v ∧ Own8 w' w.heap.size 5 v ls.flatten ∧ Below w.heap.size w w' := by
  subst hn
  obtain ⟨i0, hi, hz0, hz1, hz2⟩ := info_parts info_u8
  go_enter Try.func66, Try.ntmps66
  go_wp2_with fail
  go_loop [3, 5, 11] (fun sz t i => ∃ j : Nat, j ≤ vs.length ∧ i = .int .i64 j ∧ sz = .int .i64 (((ls.take j).flatten.length : Nat) : Int)) (fun _ _ i => vs.length - (intOf i).toNat)
  case atStart => exact ⟨0, by omega, rfl, rfl⟩
  case round =>
    obtain ⟨j, hj, rfl, rfl⟩ := hrel
    have hle := sum_len_le ls j
    by_cases hlt : j < vs.length
    · obtain ⟨x, hx⟩ : ∃ x, vs[j]? = some x := ⟨vs[j], by simp⟩
      obtain ⟨l, hl⟩ : ∃ l, ls[j]? = some l := ⟨ls[j]'(by have := hp.1; omega), by simp⟩
      have hc := hp.2.1 j x hx
      have hB := hp.2.2 j x l hx hl
      obtain ⟨ax, cx, rfl⟩ := hB.form
      have hlen := take_flat_le ls j l hl
      have HE := hid (congrArg List.length (take_flat ls j l hl))
      generalize hq : (ls.take j).flatten.length = q at *
      have Hq := hid hq
      clear hB hq
      go_wp2_with fail
      go_round
      case rel => exact ⟨j + 1, by omega, by go_num, by rw [HE.out, List.length_append, Hq.out]; rfl⟩
      case measure => simp [intOf]; omega
    · obtain rfl : j = vs.length := by omega
      rw [hp.1, List.take_length] at *
      have hd : decide ((ls.length : Int) < (ls.length : Int)) = false := by simp
      have hpl := hp.1
      generalize hq : ls.flatten.length = q at *
      have Hq := hid hq
      clear hq
      have Hpl := hid hpl
      clear hpl
      go_wp2_with fail
      refine (slices_Grow _ _ (by omega) (by omega)).mono ?_
      rintro e W1 ⟨v1, rfl, o1, b1⟩
      have hp1 := hp.keep b1
      go_wp2_with fail
      go_loopw [6, 8, 27] (fun v t i wr => ∃ j : Nat, j ≤ ls.length ∧ i = .int .i64 j ∧ Own8 wr w.heap.size 5 v (ls.take j).flatten ∧ Below w.heap.size w wr) (fun _ _ i _ => ls.length - (intOf i).toNat)
      case atStart => exact ⟨0, by omega, rfl, o1, b1⟩
      case round =>
        obtain ⟨j, hj, rfl, ho, hb⟩ := hrel
        by_cases hlt : j < ls.length
        · obtain ⟨x, hx⟩ : ∃ x, vs[j]? = some x := ⟨vs[j]'(by rw [Hpl.out]; exact hlt), by simp⟩
          obtain ⟨l, hl⟩ : ∃ l, ls[j]? = some l := ⟨ls[j], by simp⟩
          have hp' := hp.keep hb
          have hc := hp'.2.1 j x hx
          have hB := hp'.2.2 j x l hx hl
          have hlen : (ls.take j).flatten.length + l.length ≤ 1073741824 := by
            have h1 := take_flat_le ls j l hl
            have h2 := Hq.out
            omega
          have HE := hid (take_flat ls j l hl)
          go_wp2_with (at_builtin; refine wpList_append8 Try.underlying34 hi hz0 hz1 hz2 rfl _ _ rfl w.heap.size rfl rfl ho hB (by omega) hb.size ?_; intro v' w1 ho' hg _)
          go_roundw
          case rel => exact ⟨j + 1, by omega, by go_num, by rw [HE.out]; exact ho', hb.grown hg hb.size (fun k hk => (ho.blk k hk).1)⟩
          case measure => simp [intOf]; omega
        · obtain rfl : j = ls.length := by omega
          rw [List.take_length] at ho
          have hd : decide ((ls.length : Int) < (ls.length : Int)) = false := by simp
          go_wp2_with fail
          go_ret
          exact ⟨_, rfl, ho, hb⟩

theorem fold_push (l : List UInt8) : ∀ (s : ByteArray), (l.map (fun b => ((b.toNat : Nat) : Int))).foldl (fun r n => r.push (UInt8.ofNat n.toNat)) s = ⟨s.data ++ l.toArray⟩ := by
  induction l with
  | nil => intro s; simp
  | cons x l ih =>
    intro s
    rw [List.map_cons, List.foldl_cons, ih]
    simp [ByteArray.push]

theorem run_bytes_string {P : Program} {T S E : TypeId} (hT : P.underlying T = some (.slice E)) (hE : P.underlying E = some (.int .u8)) (hS : P.underlying S = some .string) {w : World} {v : Value} {l : List UInt8} (hv : Bs w v l) :
    (convert T S v).run P w = .ok (.string ⟨l.toArray⟩) w := by
  rcases hv.cases with ⟨rfl, rfl⟩ | ⟨g, o, c, rfl, hc, hm, hr⟩
  · rw [run_convert_bytes_string w T S E _ _ _ hT hE hS]
    simp [Conv.bytesToString]
    rfl
  · rw [run_convert_bytes_string w T S E _ _ _ hT hE hS, run_bytesToString w ⟨g, o, none⟩ l.length c (l.map (fun b => ((b.toNat : Nat) : Int))), fold_push]
    · rw [show ByteArray.empty.data ++ l.toArray = l.toArray from by simp [ByteArray.empty, ByteArray.emptyWithCapacity]; rfl]
    · have := run_loadCells_list (P := P) w ⟨g, o, none⟩ (l.map bv) (fun j u hu => by
        simp only [List.getElem?_map, Option.map_eq_some_iff] at hu
        obtain ⟨b, hb, rfl⟩ := hu
        have := hr j b hb
        unfold Addr.add
        split
        · rename_i hz
          subst hz
          simpa using this
        · exact this)
      rw [List.length_map] at this
      rw [this, List.map_map]
      rfl

theorem bytes_beq (l m : List UInt8) : ((⟨l.toArray⟩ : ByteArray).toList == (⟨m.toArray⟩ : ByteArray).toList) = (l == m) := by
  rw [ByteArray.toList_mk, ByteArray.toList_mk]

set_option maxRecDepth 100000 in
set_option maxHeartbeats 800000 in
theorem slices_Clone (v : Value) (l : List UInt8) (w : World) (hv : Bs w v l) (hl : l.length ≤ 1073741824) :
    Calls Try.prog 75 #[v] w fun e w' => ∃ v', e = .returned v' ∧ Bs w' v' l ∧ Own8 w' w.heap.size 5 v' l ∧ Below w.heap.size w w' := by
  obtain ⟨i0, hi, hz0, hz1, hz2⟩ := info_parts info_u8
  rcases hv.cases with ⟨rfl, rfl⟩ | ⟨g, o, c, rfl, hc, hm, hr⟩
  · have hen := fun W => Lib.run_eql_slice_nil (P := Try.prog) W 34 5 none 0 0 0 0 Try.underlying34
    go_enter Try.func75, Try.ntmps75
    go_wp2_with fail
    go_ret
    exact ⟨_, rfl, Bs.nil _, Own8.nil _ _ _, Below.refl _ _⟩
  · have hen := fun W => Lib.run_eql_slice_nil (P := Try.prog) W 34 5 (some ⟨g, o, none⟩) l.length c 0 0 Try.underlying34
    go_enter Try.func75, Try.ntmps75
    have hpos := hv
    have ho : Own8 (w.alloc (.cells #[] 5)) w.heap.size 5 (.slice (some ⟨w.heap.size, 0, none⟩) 0 0) [] := own8_mk (Nat.le_refl _) (Blk.new _ _ _) rfl (Nat.le_refl _) (Nat.zero_le _) rfl (fun i u h => by simp at h)
    have hb : Below w.heap.size w (w.alloc (.cells #[] 5)) := (Below.refl _ w).alloc (Nat.le_refl _) _
    have hv1 := hv.keep hb
    clear hr hv hpos
    go_wp2_with (at_builtin; refine wpList_append8 Try.underlying34 hi hz0 hz1 hz2 rfl _ _ rfl w.heap.size rfl rfl ho hv1 (by simp; omega) (by simp) ?_; intro v' w1 ho' hg _)
    have hb1 := hb.grown hg (by simp) (fun k hk => by cases hk; exact Nat.le_refl _)
    obtain ⟨a', c', rfl⟩ := ho'.form
    go_wp2_with fail
    go_ret
    exact ⟨_, rfl, ho'.bs, ho', hb1⟩

set_option maxRecDepth 100000 in
set_option maxHeartbeats 800000 in
theorem bytes_Equal (v x : Value) (l m : List UInt8) (w : World) (hv : Bs w v l) (hx : Bs w x m) :
    Calls Try.prog 55 #[v, x] w fun e w' => e = .returned (.bool (l == m)) ∧ w = w' := by
  have h1 := run_bytes_string (P := Try.prog) Try.underlying34 Try.underlying5 Try.underlying9 hv
  have h2 := run_bytes_string (P := Try.prog) Try.underlying34 Try.underlying5 Try.underlying9 hx
  have hbq := bytes_beq l m
  obtain ⟨a, c, rfl⟩ := hv.form
  obtain ⟨a', c', rfl⟩ := hx.form
  clear hv hx
  generalize (⟨l.toArray⟩ : ByteArray) = s1 at *
  generalize (⟨m.toArray⟩ : ByteArray) = s2 at *
  go_enter Try.func55, Try.ntmps55
  go_wp2_with fail
  go_ret
  exact ⟨by rw [← hbq]; rfl, rfl⟩

end Go.Proofs.Ytbofcocfcmlcaaa
