import Derived.Test.YtcdcjoofcbdilaaGreatMRegionC
import Derived.Test.YtcdcjoofcbdilaaGreatMap
import Derived.RangeFuncNested
import Derived.RangeFuncLeaves
import Derived.Test.YtcdcjoofcbdilaaGreatProg
import Derived.Test.YtcdcjoofcbdilaaGreatBase
import Derived.BigQuiet
import Derived.Deep.QuietTactic
/-! A range over a function, at the wide fence: what an iterator owes, and the statement's law. No program is named here. -/
namespace Go.Proofs.YtcdcjoofcbdilaaGreat
open Go.RowKit

section
variable {P : Program}

theorem roundIn_n {n m l : Nat} {f : FuncId} {tmps : Array Value} {assign body : Code} {w : World} {R : Ending → World → Prop} (h : RoundIn Fence.wide n P l f tmps assign body w R) : RoundIn Fence.wide m P l f tmps assign body w R :=
  ⟨h.1, fun c cs _ => h.2 c cs (room_wide _)⟩
theorem yieldAt_n {n m l : Nat} {args : Array Value} {w : World} {R : Ending → World → Prop} (h : YieldAt Fence.wide n P l args w R) : YieldAt Fence.wide m P l args w R := by
  obtain ⟨fn, tmps, assign, body, h1, h2⟩ := h
  exact ⟨fn, tmps, assign, body, h1, roundIn_n h2⟩
theorem callsIn_n {n m : Nat} {f : FuncId} {args : Array Value} {w : World} {R : Ending → World → Prop} (h : CallsIn Fence.wide n P f args w R) : CallsIn Fence.wide m P f args w R := callsIn_wide.2 (callsIn_wide.1 h)

/-- What is asked of a round, and what an iterator over N things then does. -/
def Round (P : Program) (N : Nat) (Y : Nat → World → Array Value → Prop) (fp : Nat → Prop) (M : Nat) (l : Nat) (J Jx : Nat → World → Prop) : Prop :=
  ∀ n k W1 args, k < N → J k W1 → Y k W1 args → M ≤ W1.heap.size →
    YieldAt Fence.wide n P l args W1 (fun e W' => (e = .returned (.bool true) ∧ J (k + 1) W' ∧ Ext fp W1 W') ∨ (e = .returned (.bool false) ∧ (∃ k, Jx k W') ∧ Ext fp W1 W'))

def Iter (P : Program) (gf : FuncId) (lb : Array Value) (N : Nat) (Y : Nat → World → Array Value → Prop) (fp : Nat → Prop) (M : Nat) (W : World) : Prop :=
  ∀ (n l : Nat) (J Jx : Nat → World → Prop),
    (∀ k A B, J k A → Ext (fun b => W.heap.size ≤ b ∧ b < M) A B → J k B) → (∀ k A B, Jx k A → Ext (fun b => W.heap.size ≤ b ∧ b < M) A B → Jx k B) →
    Round P N Y fp M l J Jx → J 0 W →
    CallsIn Fence.wide n P gf (#[.func (.yield l) #[] #[]] ++ lb) W (fun e W' => (∃ v, e = .returned v) ∧ (J N W' ∨ ∃ k, Jx k W'))

/-- How the body of a round may be left. -/
def roundEnd (fp : Nat → Prop) (I : Nat → World → Prop) (Ix : Code → Nat → World → Prop) (k : Nat) (W : World) : Exit → Act → World → Prop
  | .normal, _, W' => Ext fp W W' ∧ I (k + 1) W'
  | .ret, _, W' => Ext fp W W' ∧ ∃ k, Ix .ret k W'
  | .exit id, _, W' => Ext fp W W' ∧ ∃ k, Ix (.exit id) k W'
  | .goto t, _, W' => Ext fp W W' ∧ ∃ k, Ix (.goto t) k W'
  | .panic _, _, _ => False
  | .outgrown, _, _ => False

/-- The activation in which a round's body begins: the arguments in their slots, and in the variables that the assignment sets. -/
def rangeAct (a : Act) (ps qs : Array Tmp) (args : Array Value) : Act := { tmps := (qs.zip args).foldl (fun t (p, v) => t.setIfInBounds p v) ((ps.zip args).foldl (fun t (p, v) => t.setIfInBounds p v) a.tmps), defers := [] }

theorem rangeAct_one (a : Act) (p q : Tmp) (v : Value) : rangeAct a #[p] #[q] #[v] = { tmps := (a.tmps.setIfInBounds p v).setIfInBounds q v, defers := [] } := by simp [rangeAct]
theorem rangeAct_two (a : Act) (p p' q q' : Tmp) (v v' : Value) : rangeAct a #[p, p'] #[q, q'] #[v, v'] = { tmps := (((a.tmps.setIfInBounds p v).setIfInBounds p' v').setIfInBounds q v).setIfInBounds q' v', defers := [] } := by simp [rangeAct]

theorem wpIn_range {g : Operand} {ps : Array Tmp} {assign body : Code} {Q : Exit → Act → World → Prop} {a : Act} {w : World} {n : Nat} {gf : Nat} {lb : Array Value}
    (hg : a.eval g = .func (.func gf) #[] lb) (eg : ∀ args w, (callFunc gf args).run P w = .ok (.enter gf args) w)
    {N : Nat} {Y : Nat → World → Array Value → Prop} {fp : Nat → Prop} {M : Nat}
    (hM : w.heap.size + 2 ≤ M)
    (hit : ∀ W, Below w.heap.size w W → W.heap.size = w.heap.size + 2 → Iter P gf lb N Y (fun b => fp b ∨ b = w.heap.size + 1) M W)
    (I : Nat → World → Prop) (Ix : Code → Nat → World → Prop)
    (hI : ∀ k A B, I k A → Ext (fun b => w.heap.size ≤ b ∧ b < M) A B → I k B) (hIx : ∀ c k A B, Ix c k A → Ext (fun b => w.heap.size ≤ b ∧ b < M) A B → Ix c k B)
    (hY : ∀ k A B args, Y k A args → Ext (fun b => b = w.heap.size + 1) A B → Y k B args) (hYs : ∀ k A args, Y k A args → args.size = ps.size)
    (hfp : ∀ b, fp b → b ≠ w.heap.size ∧ b ≠ w.heap.size + 1) (h0 : I 0 w) (a₁ : Array Value → Act)
    (hassign : ∀ (m : Nat) (args : Array Value) (W : World) (K : Act → World → Prop), args.size = ps.size → K (a₁ args) W →
      assign.wpIn (Fence.wide.inRound (w.heap.size + 1)) m P (Exit.then K (fun _ _ _ => False)) { tmps := (ps.zip args).foldl (fun t (p, v) => t.setIfInBounds p v) a.tmps, defers := [] } W)
    (hbody : ∀ (m k : Nat) (W : World) (args : Array Value), k < N → I k W → Y k W args → M ≤ W.heap.size → body.wpIn (Fence.wide.inRound (w.heap.size + 1)) m P (roundEnd fp I Ix k W) (a₁ args) W)
    (hdone : ∀ (W : World), I N W → W.heap[w.heap.size]? = some (.deferred (some [])) → Q .normal { a with defers := { target := .collected w.heap.size, args := #[] } :: a.defers } W)
    (hstop : ∀ (c : Code) (k : Nat) (W : World), Ix c k W → W.heap[w.heap.size]? = some (.deferred (some [])) → c.wpIn Fence.wide n P Q { a with defers := { target := .collected w.heap.size, args := #[] } :: a.defers } W) :
    (Code.rangeFunc g ps assign body).wpIn Fence.wide n P Q a w := by
  refine wpIn_rangeFunc ?_
  intro fn hfn
  obtain ⟨rec, hrec⟩ : ∃ rec : LoopState → Option Code → Loop, rec = fun st pe => { state := st, pending := pe, fn, tmps := a.tmps, params := ps, assign, body, defers := w.heap.size } := ⟨_, rfl⟩
  obtain ⟨W1, hW1⟩ : ∃ W1, (w.alloc (.deferred (some []))).alloc (.loop (rec .ready none)) = W1 := ⟨_, rfl⟩
  have hL1 : W1.heap[w.heap.size + 1]? = some (.loop (rec .ready none)) := by
    rw [← hW1]; have := World.alloc_heap_new (w.alloc (.deferred (some []))) (.loop (rec .ready none)); rwa [World.size_alloc] at this
  have hK1 : W1.heap[w.heap.size]? = some (.deferred (some [])) := by
    rw [← hW1]; exact (Below.heap_alloc _ _ _ (by simp)).trans (World.alloc_heap_new w _)
  have hb1 : Below w.heap.size w W1 := by rw [← hW1]; exact ((Below.refl _ w).alloc (Nat.le_refl _) _).alloc (by simp) _
  have hs1 : W1.heap.size = w.heap.size + 2 := by rw [← hW1]; simp
  have hI1 : I 0 W1 := hI 0 w W1 h0 (Ext.ofBelow hb1)
  refine ⟨w.heap.size + 1, [{ target := .collected w.heap.size, args := #[] }], W1, { target := .fn (.func gf) lb, args := #[.func (.yield (w.heap.size + 1)) #[] #[]] }, W1, gf,
    #[.func (.yield (w.heap.size + 1)) #[] #[]] ++ lb, W1, ?_, ?_, ?_, ?_, fun h => by simp [Fence.wide] at h, ?_⟩
  · rw [← hW1, hrec]; exact run_enterLoop_outer _ _ _ _ _
  · simp only [resolve, hg]
    simp [go_sem]
  · intro f' hf'; trivial
  · simp [invoke, go_sem, eg]
  · have hext : ∀ (W : World) (o : Obj), Ext (fun b => b = w.heap.size + 1) W (W.putObj (w.heap.size + 1) o) := fun W o => ext_putObj _ _ _
    have hin : ∀ {A B : World}, Ext (fun b => b = w.heap.size + 1) A B → Ext (fun b => w.heap.size ≤ b ∧ b < M) A B := fun h => h.mono (fun b _ e => by omega)
    refine (hit W1 hb1 hs1 (n - 1) (w.heap.size + 1)
      (fun k W => I k W ∧ W.heap[w.heap.size + 1]? = some (.loop (rec .ready none)) ∧ W.heap[w.heap.size]? = some (.deferred (some [])))
      (fun k W => ∃ c, Ix c k W ∧ W.heap[w.heap.size + 1]? = some (.loop (rec .done (some c))) ∧ W.heap[w.heap.size]? = some (.deferred (some [])))
      ?_ ?_ ?_ ⟨hI1, hL1, hK1⟩).mono ?_
    · rintro k A B ⟨h1, h2, h3⟩ he
      refine ⟨hI k A B h1 (he.mono (fun b _ h => by omega)), ?_, ?_⟩
      · rw [he.block _ (Array.getElem?_eq_some_iff.1 h2).1 (by omega)]; exact h2
      · rw [he.block _ (Array.getElem?_eq_some_iff.1 h3).1 (by omega)]; exact h3
    · rintro k A B ⟨c, h1, h2, h3⟩ he
      refine ⟨c, hIx c k A B h1 (he.mono (fun b _ h => by omega)), ?_, ?_⟩
      · rw [he.block _ (Array.getElem?_eq_some_iff.1 h2).1 (by omega)]; exact h2
      · rw [he.block _ (Array.getElem?_eq_some_iff.1 h3).1 (by omega)]; exact h3
    · rintro m k W args hk ⟨hi, hl, hd⟩ hy hsz
      have hyr := run_yield (P := P) (args := args) hl (by rw [hrec]; exact hYs k W args hy)
      rw [hrec] at hyr
      refine ⟨fn, _, assign, body, hyr, roundIn_of_wpIn trivial (hassign m args W _ (hYs k W args hy) ⟨_, run_beginRound hl (by rw [hrec]), ?_⟩)⟩
      obtain ⟨W2, hW2⟩ : ∃ W2, W.putObj (w.heap.size + 1) (.loop { rec .ready none with state := .busy }) = W2 := ⟨_, rfl⟩
      have e2 : Ext (fun b => b = w.heap.size + 1) W W2 := hW2 ▸ hext W _
      have hl2 : W2.heap[w.heap.size + 1]? = some (.loop { rec .ready none with state := .busy }) := hW2 ▸ World.putObj_heap_same (Array.getElem?_eq_some_iff.1 hl).1
      have hd2 : W2.heap[w.heap.size]? = some (.deferred (some [])) := (e2.block _ (Array.getElem?_eq_some_iff.1 hd).1 (by omega)).trans hd
      rw [hW2]
      refine wpIn_mono (hbody m k W2 args hk (hI k W W2 hi (hin e2)) (hY k W W2 args hy e2) (Nat.le_trans hsz e2.size)) ?_
      have fin : ∀ (jump : Option Code) (W3 : World), Ext fp W2 W3 →
          (Instr.endRound (w.heap.size + 1) jump).run P W3 = .ok (.bool jump.isNone) (W3.putObj (w.heap.size + 1) (.loop (rec (if jump.isNone then .ready else .done) jump))) ∧
          Ext (fun b => fp b ∨ b = w.heap.size + 1) W (W3.putObj (w.heap.size + 1) (.loop (rec (if jump.isNone then .ready else .done) jump))) ∧
          (W3.putObj (w.heap.size + 1) (.loop (rec (if jump.isNone then .ready else .done) jump))).heap[w.heap.size + 1]? = some (.loop (rec (if jump.isNone then .ready else .done) jump)) ∧
          (W3.putObj (w.heap.size + 1) (.loop (rec (if jump.isNone then .ready else .done) jump))).heap[w.heap.size]? = some (.deferred (some [])) := fun jump W3 he => by
        have hl3 : W3.heap[w.heap.size + 1]? = some (.loop { rec .ready none with state := .busy }) := (he.block _ (Array.getElem?_eq_some_iff.1 hl2).1 (fun h => (hfp _ h).2 rfl)).trans hl2
        have hd3 : W3.heap[w.heap.size]? = some (.deferred (some [])) := (he.block _ (Array.getElem?_eq_some_iff.1 hd2).1 (fun h => (hfp _ h).1 rfl)).trans hd2
        have := run_endRound (P := P) jump hl3
        rw [hrec] at this ⊢
        refine ⟨this, ?_, World.putObj_heap_same (Array.getElem?_eq_some_iff.1 hl3).1, (World.putObj_heap_other (by omega)).trans hd3⟩
        exact ((e2.mono (fun b _ e => .inr e)).trans (he.mono (fun b _ e => .inl e) : Ext (fun b => fp b ∨ b = w.heap.size + 1) W2 W3) (fun b h => .inl h)).trans (hext W3 _) (fun b h => .inl (.inr h))
      rintro e a3 W3 hp
      cases e with
      | normal =>
        obtain ⟨he, hi3⟩ := hp
        obtain ⟨hr, hx, hl4, hd4⟩ := fin none W3 he
        exact ⟨_, _, hr, .inl ⟨rfl, ⟨hI _ _ _ hi3 (hin (hext W3 _)), hl4, hd4⟩, hx⟩⟩
      | ret =>
        obtain ⟨he, k', hi3⟩ := hp
        obtain ⟨hr, hx, hl4, hd4⟩ := fin (some .ret) W3 he
        exact ⟨_, _, hr, .inr ⟨rfl, ⟨k', .ret, hIx _ _ _ _ hi3 (hin (hext W3 _)), hl4, hd4⟩, hx⟩⟩
      | exit id =>
        obtain ⟨he, k', hi3⟩ := hp
        obtain ⟨hr, hx, hl4, hd4⟩ := fin (some (.exit id)) W3 he
        exact ⟨_, _, hr, .inr ⟨rfl, ⟨k', .exit id, hIx _ _ _ _ hi3 (hin (hext W3 _)), hl4, hd4⟩, hx⟩⟩
      | goto t =>
        obtain ⟨he, k', hi3⟩ := hp
        obtain ⟨hr, hx, hl4, hd4⟩ := fin (some (.goto t)) W3 he
        exact ⟨_, _, hr, .inr ⟨rfl, ⟨k', .goto t, hIx _ _ _ _ hi3 (hin (hext W3 _)), hl4, hd4⟩, hx⟩⟩
      | panic ch => exact hp.elim
      | outgrown => exact hp.elim
    · rintro e W2 ⟨⟨v, rfl⟩, (⟨hi, hl, hd⟩ | ⟨k, c, hi, hl, hd⟩)⟩
      · refine ⟨none, _, by have := run_endLoop (P := P) hl (by rw [hrec]; simp); rw [hrec] at this; exact this, hdone _ (hI _ _ _ hi (hin (hext W2 _))) ((World.putObj_heap_other (by omega)).trans hd)⟩
      · refine ⟨some c, _, by have := run_endLoop (P := P) hl (by rw [hrec]; simp); rw [hrec] at this; exact this, hstop _ k _ (hIx _ _ _ _ hi (hin (hext W2 _))) ((World.putObj_heap_other (by omega)).trans hd)⟩

theorem wpIn_rangeQ {g : Operand} {ps : Array Tmp} {assign body : Code} {Q : Exit → Act → World → Prop} {a : Act} {w : World} {n : Nat} {gf : Nat} {lb : Array Value}
    (hg : a.eval g = .func (.func gf) #[] lb) (eg : ∀ args w, (callFunc gf args).run P w = .ok (.enter gf args) w)
    {N : Nat} {Y : Nat → World → Array Value → Prop} {fp : Nat → Prop} {M : Nat}
    (hM : w.heap.size + 2 ≤ M)
    (hit : ∀ W, Below w.heap.size w W → W.heap.size = w.heap.size + 2 → Iter P gf lb N Y (fun b => fp b ∨ b = w.heap.size + 1) M W)
    (I : Nat → World → Prop) (Ix : Code → Nat → World → Prop)
    (hI : ∀ k A B, I k A → Ext (fun b => w.heap.size ≤ b ∧ b < M) A B → I k B) (hIx : ∀ c k A B, Ix c k A → Ext (fun b => w.heap.size ≤ b ∧ b < M) A B → Ix c k B)
    (hY : ∀ k A B args, Y k A args → Ext (fun b => b = w.heap.size + 1) A B → Y k B args) (hYs : ∀ k A args, Y k A args → args.size = ps.size)
    (hfp : ∀ b, fp b → b ≠ w.heap.size ∧ b ≠ w.heap.size + 1) (h0 : I 0 w) (qs : Array Tmp)
    (hassign : ∀ (m : Nat) (args : Array Value) (W : World) (K : Act → World → Prop), args.size = ps.size → K (rangeAct a ps qs args) W →
      assign.wpIn (Fence.wide.inRound (w.heap.size + 1)) m P (Exit.then K (fun _ _ _ => False)) { tmps := (ps.zip args).foldl (fun t (p, v) => t.setIfInBounds p v) a.tmps, defers := [] } W)
    (hbody : ∀ (m k : Nat) (W : World) (args : Array Value), k < N → I k W → Y k W args → M ≤ W.heap.size → body.wpIn (Fence.wide.inRound (w.heap.size + 1)) m P (roundEnd fp I Ix k W) (rangeAct a ps qs args) W)
    (hdone : ∀ (W : World), I N W → W.heap[w.heap.size]? = some (.deferred (some [])) → Q .normal { a with defers := { target := .collected w.heap.size, args := #[] } :: a.defers } W)
    (hstop : ∀ (c : Code) (k : Nat) (W : World), Ix c k W → W.heap[w.heap.size]? = some (.deferred (some [])) → c.wpIn Fence.wide n P Q { a with defers := { target := .collected w.heap.size, args := #[] } :: a.defers } W) :
    (Code.rangeFunc g ps assign body).wpIn Fence.wide n P Q a w :=
  wpIn_range hg eg hM hit I Ix hI hIx hY hYs hfp h0 (rangeAct a ps qs) hassign hbody hdone hstop
end
end Go.Proofs.YtcdcjoofcbdilaaGreat


/-! The walks of package wire: numbers as bytes and back, the sum. -/
namespace Go.Proofs.YtcdcjoofcbdilaaGreat
open Go.RowKit

theorem info_u8 : (Tryz.prog.info? 5).map (fun i => (i.zero, i.size, i.bytes)) = some (some (.int .u8 0), 1, 1) := by kernel_rfl

theorem run_make_u8 (k : Nat) (hk : k ≤ 1073741824) (w : World) : (Instr.makeSlice 30 (.int .i64 (k : Int)) (.int .i64 (k : Int))).run Tryz.prog w = .ok (.slice (some ⟨w.heap.size, 0, none⟩) k k) (w.alloc (.cells (madeCells #[.int .u8 0] k) 5)) := by
  obtain ⟨i0, hi, hz0, hz1, hz2⟩ := info_parts info_u8
  have h := run_make (P := Tryz.prog) w 30 5 i0 _ Tryz.underlying30 hi hz0 .i64 .i64 (k : Int) (k : Int) (by omega) (by omega) (by rw [hz2]; omega) (by omega)
  rw [hz1] at h
  simpa [Value.cells] using h

/-- Byte j of a number. -/
def byteOf (n : Int) (j : Nat) : UInt8 := UInt8.ofNat (n / 2 ^ (8 * j) % 256).toNat
theorem byteOf_val (n : Int) (j : Nat) : (((byteOf n j).toNat : Nat) : Int) = n / 2 ^ (8 * j) % 256 := by
  unfold byteOf
  have h1 : 0 ≤ n / 2 ^ (8 * j) % 256 := Int.emod_nonneg _ (by decide)
  have h2 : n / 2 ^ (8 * j) % 256 < 256 := Int.emod_lt_of_pos _ (by decide)
  rw [toNat_ofNat_u8 (by omega)]
  omega
/-- A number as bytes, the lowest first. -/
def lowB (n : Int) (k : Nat) : List UInt8 := (List.range k).map (byteOf n)
theorem lowB_length (n : Int) (k : Nat) : (lowB n k).length = k := by simp [lowB]
theorem lowB_get (n : Int) (k j : Nat) (u : UInt8) (h : (lowB n k)[j]? = some u) : j < k ∧ u = byteOf n j := by
  unfold lowB at h
  rw [List.getElem?_map] at h
  by_cases hj : j < k
  · rw [List.getElem?_range hj] at h
    simp at h
    exact ⟨hj, h.symm⟩
  · rw [List.getElem?_eq_none (by simp; omega)] at h
    cases h

set_option maxHeartbeats 400000 in
theorem wire_low (n k : Int) (w : World) (h0 : 0 ≤ n) (hk0 : 0 ≤ k) (hk : k ≤ 8) :
    Calls Tryz.prog 97 #[.int .i64 n, .int .i64 k] w fun e w' => ∃ v, e = .returned v ∧ Own8 w' w.heap.size 5 v (lowB n k.toNat) ∧ Below w.heap.size w w' := by
  obtain ⟨k, rfl⟩ := Int.eq_ofNat_of_zero_le hk0
  rw [Int.toNat_natCast]
  have hmk := run_make_u8 k (by omega)
  go_enter Tryz.func97, Tryz.ntmps97
  go_wp2_with fail
  go_loopw [6, 11] (fun t i wr => ∃ j : Nat, j ≤ k ∧ i = .int .i64 j ∧ ∃ c : Array Value, Blk wr w.heap.size c 5 ∧ c.size = k ∧ (∀ i, i < j → c[i]? = some (bv (byteOf n i))) ∧ Below w.heap.size w wr) (fun _ i _ => k - (intOf i).toNat)
  case atStart => exact ⟨0, by omega, rfl, _, Blk.new _ _ _, by simp [madeCells], fun i h => absurd h (by omega), (Below.refl _ _).alloc (Nat.le_refl _) _⟩
  case round =>
    obtain ⟨j, hj, rfl, c, hB, hs, hc, hb⟩ := hrel
    by_cases hlt : j < k
    · obtain ⟨v0, _, hcell⟩ := hB.cellAt (o := j) (by omega)
      have hfree := hB.free j
      have HB := hid hB; clear hB
      have HC := hid hc; clear hc
      have Hs := hid hs; clear hs
      go_wp2
      go_roundw
      case rel =>
        refine ⟨j + 1, by omega, by go_num, _, HB.out.set _, by simp [Hs.out], ?_, hb.setCell (Nat.le_refl _) _⟩
        intro i hi
        rw [Array.getElem?_setIfInBounds]
        split
        · subst i
          rw [if_pos (by rw [Hs.out]; omega), bv, byteOf_val]
        · exact HC.out i (by omega)
      case measure => simp [intOf]; omega
    · have : j = k := by omega
      subst this
      go_wp2
      go_ret
      refine ⟨.slice (some ⟨w.heap.size, 0, none⟩) j j, rfl, ?_, hb⟩
      exact own8_mk (l := lowB n j) (cap := j) (Nat.le_refl _) hB (lowB_length n j) (Nat.le_refl _) (by unfold maxLen; omega) hs (fun i u hi => by
        obtain ⟨h1, rfl⟩ := lowB_get n j i u hi
        exact hc i h1)

set_option maxHeartbeats 400000 in
theorem wire_Put (n k : Int) (w : World) (h0 : 0 ≤ n) (h1 : 1 ≤ k) (hk : k ≤ 6) (hn : n < 2 ^ (8 * k.toNat)) :
    Calls Tryz.prog 100 #[.int .i64 n, .int .i64 k] w fun e w' => ∃ v, e = .returned (.tuple #[v, .int .i64 0]) ∧ Own8 w' w.heap.size 5 v (lowB n k.toNat) ∧ Below w.heap.size w w' := by
  obtain rfl | rfl | rfl | rfl | rfl | rfl : k = 1 ∨ k = 2 ∨ k = 3 ∨ k = 4 ∨ k = 5 ∨ k = 6 := by omega
  all_goals
    simp only [Int.reduceToNat, Nat.reduceMul, Int.reducePow] at hn
    go_enter Tryz.func100, Tryz.ntmps100
    go_wp2_with fail
    refine (wire_low _ _ _ h0 (by omega) (by omega)).mono ?_
    rintro e w' ⟨v, rfl, ho, hb⟩
    go_wp2_with fail
    go_ret2
    exact ⟨v, rfl, ho, hb⟩

set_option maxHeartbeats 400000 in
theorem store_low (n k : Int) (w : World) (h0 : 0 ≤ n) (h1 : 1 ≤ k) (hk : k ≤ 6) (hn : n < 2 ^ (8 * k.toNat)) :
    Calls Tryz.prog 207 #[.int .i64 n, .int .i64 k] w fun e w' => ∃ v, e = .returned v ∧ Own8 w' w.heap.size 5 v (lowB n k.toNat) ∧ Below w.heap.size w w' := by
  go_enter Tryz.func207, Tryz.ntmps207
  go_wp2_with fail
  refine (wire_Put _ _ _ h0 h1 hk hn).mono ?_
  rintro e w' ⟨v, rfl, ho, hb⟩
  go_wp2_with fail
  go_ret
  exact ⟨v, rfl, ho, hb⟩

/-! The sum: one bit, eight bits, a table of them, bytes. -/
def crcBit (c : Nat) : Nat := (c / 2) ^^^ (2197175160 * (c % 2))
def crcBits (k : Nat) (c : Nat) : Nat := k.repeat crcBit c
theorem crcBits_succ (k c : Nat) : crcBits (k + 1) c = crcBit (crcBits k c) := rfl
theorem crcBit_lt {c : Nat} (h : c < 4294967296) : crcBit c < 4294967296 := by
  unfold crcBit
  refine Nat.xor_lt_two_pow (n := 32) (by omega) ?_
  have := Nat.mod_two_eq_zero_or_one c
  rcases this with h | h <;> rw [h] <;> decide
theorem crcBits_lt (k : Nat) {c : Nat} (h : c < 4294967296) : crcBits k c < 4294967296 := by
  induction k with
  | zero => exact h
  | succ k ih => rw [crcBits_succ]; exact crcBit_lt ih
def crcTab : Array Value := ((List.range 256).map fun i => Value.int .u32 ((crcBits 8 i : Nat) : Int)).toArray

theorem crcTab_get {i : Nat} (h : i < 256) : crcTab[i]? = some (.int .u32 ((crcBits 8 i : Nat) : Int)) := by
  unfold crcTab
  simp [List.getElem?_map, List.getElem?_range h]
theorem crcTab_size : crcTab.size = 256 := by simp [crcTab]
theorem crcTab_all : crcTab.all (·.oneCell') = true := by
  rw [Array.all_eq_true_iff_forall_mem]
  intro v hv
  simp only [crcTab, List.mem_toArray, List.mem_map] at hv
  obtain ⟨i, _, rfl⟩ := hv
  rfl
theorem crcTab_ext {c : Array Value} (hs : c.size = 256) (hc : ∀ i, i < 256 → c[i]? = some (.int .u32 ((crcBits 8 i : Nat) : Int))) : c = crcTab := by
  apply Array.ext_getElem?
  intro i
  by_cases h : i < 256
  · rw [hc i h, crcTab_get h]
  · rw [Array.getElem?_eq_none (by omega), Array.getElem?_eq_none (by rw [crcTab_size]; omega)]

theorem info_t168 : (Tryz.prog.info? 250).map (·.size) = some 256 := by kernel_rfl

theorem zc168 : Tryz.zeroCells250.size = 256 := by kernel_rfl

/-- One bit of the sum, as the walk spells it. -/
theorem crc_step (c : Nat) (h : c < 4294967296) : bits .xor .u32 ((c : Int) / 2) (2197175160 * bits .and .u32 (c : Int) 1 % 4294967296) = ((crcBit c : Nat) : Int) := by
  unfold crcBit
  have h1 : bits .and .u32 (c : Int) 1 = ((c % 2 : Nat) : Int) := by
    rw [show (1 : Int) = ((1 : Nat) : Int) from rfl, u32_and_nat _ _ h (by decide), Nat.and_one_is_mod]
  rw [h1]
  have h2 : 2197175160 * ((c % 2 : Nat) : Int) % 4294967296 = ((2197175160 * (c % 2) : Nat) : Int) := by omega
  rw [h2, show ((c : Int) / 2) = ((c / 2 : Nat) : Int) from by omega, u32_xor_nat _ _ (by omega) (by omega)]

set_option maxRecDepth 100000 in
set_option maxHeartbeats 800000 in
theorem wire_table (w : World) :
    Calls Tryz.prog 145 #[] w fun e w' => e = .returned (.agg crcTab) ∧ Below w.heap.size w w' := by
  go_enter Tryz.func145, Tryz.ntmps145
  go_wp2_with fail
  go_loopw [2, 3, 4, 9] (fun t c i k wr => ∃ j : Nat, j ≤ 256 ∧ i = .int .i64 j ∧ ∃ c : Array Value, Blk wr w.heap.size Tryz.zeroCells250 250 ∧ Blk wr (w.heap.size + 1) c 250 ∧ c.size = 256 ∧ (∀ i, i < j → c[i]? = some (.int .u32 ((crcBits 8 i : Nat) : Int))) ∧ Below w.heap.size w wr) (fun _ _ i _ _ => 256 - (intOf i).toNat)
  case atStart =>
    exact ⟨0, by omega, rfl, _, (Blk.new _ _ _).alloc _, Blk.new' _ _ (by simp) _ _, zc168, fun i h => absurd h (by omega), ((Below.refl _ _).alloc (Nat.le_refl _) _).alloc (by simp) _⟩
  case round =>
    obtain ⟨j, hj, rfl, c, hB0, hB, hs, hc, hb⟩ := hrel
    obtain ⟨wo, rfl⟩ : ∃ wo : World, wo = wr := ⟨_, rfl⟩
    by_cases hlt : j < 256
    · obtain ⟨v0, _, hcell⟩ := hB.cellAt (o := j) (by omega)
      have hfree := hB.free j
      have HB0 := hid hB0; clear hB0
      have HB := hid hB; clear hB
      have HC := hid hc; clear hc
      have Hs := hid hs; clear hs
      have hd : decide ((j : Int) < 256) = true := by simp; omega
      go_wp2_with fail
      go_loop [3, 9] (fun c k => ∃ m : Nat, m ≤ 8 ∧ k = .int .i64 m ∧ c = .int .u32 ((crcBits m j : Nat) : Int)) (fun _ k => 8 - (intOf k).toNat)
      case atStart => exact ⟨0, by omega, rfl, rfl⟩
      case round =>
        obtain ⟨m, hm, rfl, rfl⟩ := hrel
        have hcl := crcBits_lt m (c := j) (by omega)
        have Hcs := hid (crcBits_succ m j)
        by_cases hml : m < 8
        · generalize crcBits m j = cc at *
          go_wp2
          go_round
          case rel =>
            refine ⟨m + 1, by omega, by go_num, ?_⟩
            rw [Hcs.out, ← crc_step _ hcl]
          case measure => simp [intOf]; omega
        · obtain rfl : m = 8 := by omega
          clear Hcs
          have Hcc := hid (show crcBits 8 j = crcBits 8 j from rfl)
          generalize hcc : crcBits 8 j = cc at *
          clear Hcc
          have Hcc := hid hcc
          clear hcc
          go_wp2
          go_roundw
          case rel =>
            refine ⟨j + 1, by omega, by go_num, _, HB0.out.setOther (by simp) _, HB.out.set _, by simp [Hs.out], ?_, hb.setCell (p := ⟨w.heap.size + 1, j, none⟩) (by simp) _⟩
            intro i hi
            rw [Array.getElem?_setIfInBounds]
            split
            · subst i
              rw [if_pos (by rw [Hs.out]; omega), Hcc.out]
            · exact HC.out i (by omega)
          case measure => simp [intOf]; omega
    · obtain rfl : j = 256 := by omega
      obtain rfl := crcTab_ext hs (fun i hi => hc i hi)
      have hz := zc168
      clear hs hc
      go_wp2_with (first | (refine wpList_load_row rfl 250 _ rfl (w.heap.size + 1) rfl 250 crcTab (0, 0) _ hB rfl rfl (by rw [crcTab_size]; exact info_t168) ?_) | (refine wpList_store_row rfl 250 _ _ rfl w.heap.size crcTab rfl rfl 250 _ hB0 (by rw [crcTab_size]; exact info_t168) (by rw [crcTab_size]; exact hz) crcTab_all ?_))
      refine bodyPost_ret (results_cell_row rfl _ _ w.heap.size 250 crcTab (0, 0) _ rfl (hB0.setRow crcTab) rfl rfl (by rw [crcTab_size]; exact info_t168)) rfl ⟨rfl, hb.grown (setRow_grown _ _ _) hb.size (fun k h => by cases h; exact Nat.le_refl _)⟩

/-- The sum of bytes, from a state on. -/
def crcStep (c : Nat) (x : UInt8) : Nat := crcBits 8 ((c % 256) ^^^ x.toNat) ^^^ (c / 256)
def crcOf (l : List UInt8) : Nat := 4294967295 - l.foldl crcStep 4294967295
theorem xor8_lt (c : Nat) (x : UInt8) : (c % 256) ^^^ x.toNat < 256 := Nat.xor_lt_two_pow (n := 8) (by omega) (by have := x.toNat_lt; omega)
theorem crcStep_lt {c : Nat} (h : c < 4294967296) (x : UInt8) : crcStep c x < 4294967296 := by
  unfold crcStep
  have h8 := xor8_lt c x
  exact Nat.xor_lt_two_pow (n := 32) (crcBits_lt 8 (by omega)) (by omega)
theorem crcFold_lt (l : List UInt8) : ∀ {c : Nat}, c < 4294967296 → l.foldl crcStep c < 4294967296 := by
  induction l with
  | nil => intro c h; exact h
  | cons x l ih => intro c h; exact ih (crcStep_lt h x)
theorem crcOf_lt (l : List UInt8) : crcOf l < 4294967296 := by unfold crcOf; omega

theorem take_snoc8 (l : List UInt8) (k : Nat) (u : UInt8) (h : l[k]? = some u) : l.take (k + 1) = l.take k ++ [u] := by
  rw [List.take_add_one, h]; rfl

theorem u32_not {c : Nat} (h : c < 4294967296) : bits .xor .u32 IntKind.u32.max (c : Int) = ((4294967295 - c : Nat) : Int) := by
  rw [show IntKind.u32.max = ((4294967295 : Nat) : Int) from rfl, u32_xor_nat _ _ (by decide) h]
  congr 1
  apply Nat.eq_of_testBit_eq
  intro i
  rw [Nat.testBit_xor, show 4294967295 - c = 2 ^ 32 - (c + 1) from by omega, Nat.testBit_two_pow_sub_succ (by omega), show (4294967295 : Nat) = 2 ^ 32 - 1 from rfl, Nat.testBit_two_pow_sub_one]
  by_cases hi : i < 32
  · simp [hi]
  · simp only [hi, decide_false, Bool.false_and, Bool.false_xor]
    exact Nat.testBit_lt_two_pow (Nat.lt_of_lt_of_le h (show 2 ^ 32 ≤ 2 ^ i from Nat.pow_le_pow_right (by decide) (by omega)))

/-- A byte's step of the sum, as the walk spells it. -/
theorem crc_index (c : Nat) (x : UInt8) : bits .xor .u8 ((c : Int) % 256) ((x.toNat : Nat) : Int) = (((c % 256) ^^^ x.toNat : Nat) : Int) := by
  rw [show ((c : Int) % 256) = ((c % 256 : Nat) : Int) from by omega, u8_xor_nat _ _ (by omega) (by have := x.toNat_lt; omega)]
theorem crc_mix (a c : Nat) (ha : a < 4294967296) (h : c < 4294967296) : bits .xor .u32 (a : Int) ((c : Int) / 256) = ((a ^^^ (c / 256) : Nat) : Int) := by
  rw [show ((c : Int) / 256) = ((c / 256 : Nat) : Int) from by omega, u32_xor_nat _ _ ha (by omega)]

set_option maxRecDepth 100000 in
set_option maxHeartbeats 800000 in
theorem wire_Crc (v : Value) (l : List UInt8) (w : World) (hv : Bs w v l) (hl : l.length ≤ 1073741824) :
    Calls Tryz.prog 98 #[v] w fun e w' => e = .returned (.int .u32 ((crcOf l : Nat) : Int)) ∧ Below w.heap.size w w' := by
  obtain ⟨a, c, rfl, hc, hm, ha, hsp, hr⟩ := hv
  have hz := zc168
  go_enter Tryz.func98, Tryz.ntmps98
  go_wp2_with fail
  refine (wire_table _).mono ?_
  rintro e w1 ⟨rfl, hb1⟩
  go_wp2_with (refine wpList_store_row rfl 250 _ _ rfl w1.heap.size crcTab rfl rfl 250 _ (Blk.new _ _ _) (by rw [crcTab_size]; exact info_t168) (by rw [crcTab_size]; exact hz) crcTab_all ?_)
  have hB := (Blk.new w1 Tryz.zeroCells250 250).setRow crcTab
  have hb2 : Below w.heap.size w ((w1.alloc (.cells Tryz.zeroCells250 250)).setRow w1.heap.size crcTab) := (hb1.alloc hb1.size _).grown (setRow_grown _ _ _) (by have := hb1.size; simp; omega) (fun k h => by cases h; exact hb1.size)
  generalize (w1.alloc (.cells Tryz.zeroCells250 250)).setRow w1.heap.size crcTab = W at hB hb2
  go_loop [4, 6, 10] (fun c x i => ∃ j : Nat, j ≤ l.length ∧ i = .int .i64 j ∧ c = .int .u32 (((l.take j).foldl crcStep 4294967295 : Nat) : Int)) (fun _ _ i => l.length - (intOf i).toNat)
  case atStart => exact ⟨0, by omega, rfl, rfl⟩
  case round =>
    obtain ⟨j, hj, rfl, rfl⟩ := hrel
    have hlt := crcFold_lt (l.take j) (c := 4294967295) (by omega)
    by_cases hjl : j < l.length
    · obtain ⟨u, hu⟩ : ∃ u, l[j]? = some u := ⟨l[j], by simp⟩
      obtain ⟨ad, rfl, hcell⟩ := hr j u hu
      obtain ⟨g, o, s⟩ := ad
      obtain rfl := hsp _ rfl (by omega)
      have hcell := (Bs.keep (v := .slice (some ⟨g, o, none⟩) l.length c) ⟨some ⟨g, o, none⟩, c, rfl, hc, hm, ha, hsp, hr⟩ hb2)
      obtain ⟨_, _, e0, _, _, _, _, hr2⟩ := hcell
      cases e0
      obtain ⟨_, e0, hcell⟩ := hr2 j u hu
      cases e0
      simp only at hcell
      have Hf := hid (show (l.take (j + 1)).foldl crcStep 4294967295 = crcStep ((l.take j).foldl crcStep 4294967295) u by rw [take_snoc8 _ _ _ hu, List.foldl_append]; rfl)
      generalize (l.take j).foldl crcStep 4294967295 = cc at *
      have hi := xor8_lt cc u
      have hx := crc_index cc u
      have hmx := crc_mix (crcBits 8 ((cc % 256) ^^^ u.toNat)) cc (crcBits_lt 8 (by omega)) hlt
      have hread := hB.cell (o := (cc % 256) ^^^ u.toNat) (crcTab_get hi)
      have hlt' : decide ((j : Int) < (l.length : Int)) = true := by simp; omega
      clear hr hr2 hu
      have Hmx := hid hmx
      clear hmx
      go_wp2
      go_round
      case rel =>
        refine ⟨j + 1, by omega, by go_num, ?_⟩
        rw [Hf.out, crcStep, ← Hmx.out]
      case measure => simp [intOf]; omega
    · obtain rfl : j = l.length := by omega
      have hd : decide ((l.length : Int) < (l.length : Int)) = false := by simp
      have Hf := hid (show crcOf l = 4294967295 - (l.take l.length).foldl crcStep 4294967295 by rw [List.take_length]; rfl)
      generalize (l.take l.length).foldl crcStep 4294967295 = cc at *
      clear hr
      have hne : IntKind.u32.signed = false := rfl
      go_wp2
      go_ret
      refine ⟨?_, hb2⟩
      rw [Hf.out, ← u32_not hlt]
      rfl

end Go.Proofs.YtcdcjoofcbdilaaGreat
