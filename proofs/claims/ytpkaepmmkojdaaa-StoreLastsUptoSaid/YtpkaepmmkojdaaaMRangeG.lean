import Derived.Test.YtpkaepmmkojdaaaMSSeal
import Derived.Test.YtpkaepmmkojdaaaMOpenB
import Derived.Test.YtpkaepmmkojdaaaMChunk
/-! Package store: what Open finds on a disk, and what it blanks, in plain words. -/
namespace Go.Proofs.Ytpkaepmmkojdaaa
open Go.RowKit
/-- An entry: its kind, loglet, place, bytes. -/
abbrev Entv := Nat × Nat × Nat × List UInt8
/-- What an entry does to the slots and the states. -/
def actF (S : St) (e : Entv) : St := if e.1 = 1 then applyPut S e.2.1 e.2.2.1 e.2.2.2 else if e.1 = 2 then applySeal S e.2.1 else applyTrim S e.2.1 e.2.2.1
def doF (S : St) (e : Entv) (n : Nat) : St := { actF S e with fin := S.fin + n, num := S.num + 1 }
/-- The entry that Open meets at a store's end. -/
def Dk.meet (D : Dk) (S : St) : Option (Entv × Nat) := if S.fin < D.texts.length then D.next S.num S.fin else none
def Dk.openGo (D : Dk) : Nat → St → St
  | 0, S => S
  | f + 1, S => match D.meet S with
    | none => S
    | some (e, n) => D.openGo f (doF S e n)
/-- No entry that Open meets is over a slot's size. -/
def Dk.small (D : Dk) : Nat → St → Prop
  | 0, _ => True
  | f + 1, S => match D.meet S with
    | none => True
    | some (e, n) => e.2.2.2.length ≤ 65536 ∧ D.small f (doF S e n)
theorem Dk.openGo_none {D : Dk} {S : St} (h : D.meet S = none) : ∀ f, D.openGo f S = S
  | 0 => rfl
  | f + 1 => by unfold Dk.openGo; rw [h]
theorem Dk.openGo_some {D : Dk} {S : St} {e : Entv} {n : Nat} (h : D.meet S = some (e, n)) (f : Nat) : D.openGo (f + 1) S = D.openGo f (doF S e n) := by
  show (match D.meet S with | none => S | some (e, n) => D.openGo f (doF S e n)) = _
  rw [h]
theorem Dk.small_some {D : Dk} {S : St} {e : Entv} {n : Nat} (h : D.meet S = some (e, n)) (f : Nat) (hs : D.small (f + 1) S) : e.2.2.2.length ≤ 65536 ∧ D.small f (doF S e n) := by
  have h9 : (match D.meet S with | none => True | some (e, n) => e.2.2.2.length ≤ 65536 ∧ D.small f (doF S e n)) := hs
  rw [h] at h9
  exact h9
theorem Dk.next_bound {D : Dk} {num fin : Nat} {e : Entv} {n : Nat} (h : D.next num fin = some (e, n)) : 1 ≤ e.1 ∧ e.1 ≤ 3 ∧ e.2.1 < 2 ^ 48 ∧ e.2.2.1 < 2 ^ 48 ∧ 1 ≤ n ∧ n ≤ D.texts.length - fin := by
  unfold Dk.next at h
  split at h
  · cases h
  · split at h
    · cases h
    · rename_i hn
      split at h
      · cases h
      · split at h
        · rename_i hh
          injection h with h
          injection h with h1 h2
          subst h1 h2
          have b6 : ∀ l : List UInt8, numOf (l.take 6) < 2 ^ 48 := fun l => by
            have h9 := numOf_lt (l.take 6)
            have h8 : 2 ^ (8 * (l.take 6).length) ≤ 2 ^ (8 * 6) := Nat.pow_le_pow_right (by omega) (by have := List.length_take_le 6 l; omega)
            omega
          exact ⟨hh.2.1, hh.2.2, b6 _, b6 _, by omega, by omega⟩
        · cases h
theorem Dk.meet_bound {D : Dk} {S : St} {e : Entv} {n : Nat} (h : D.meet S = some (e, n)) : 1 ≤ e.1 ∧ e.1 ≤ 3 ∧ e.2.1 < 2 ^ 48 ∧ e.2.2.1 < 2 ^ 48 ∧ 1 ≤ n ∧ S.fin + n ≤ D.texts.length ∧ S.fin < D.texts.length ∧ D.next S.num S.fin = some (e, n) := by
  unfold Dk.meet at h
  split at h
  · rename_i hl
    obtain ⟨h1, h2, h3, h4, h5, h6⟩ := Dk.next_bound h
    exact ⟨h1, h2, h3, h4, h5, by omega, hl, h⟩
  · cases h
/-- Nothing but zeros, and not bad. -/
def Dk.blank (D : Dk) (i : Nat) : Bool := !D.bad (i : Int) && D.texts[i]? == some (List.replicate 256 0)
/-- The disk where the blocks from fin on, k of them looked at, are blanked that are not blank. -/
def Dk.blanked (D : Dk) (fin k : Nat) : Dk := { D with vers := fun i => if (fin : Int) ≤ i ∧ i < (k : Int) ∧ D.blank i.toNat = false then some (List.replicate 256 0) else D.vers i }
theorem Dk.blanked_zero (D : Dk) (fin : Nat) : D.blanked fin fin = D := by
  unfold Dk.blanked
  have : (fun i => if (fin : Int) ≤ i ∧ i < (fin : Int) ∧ D.blank i.toNat = false then some (List.replicate 256 0) else D.vers i) = D.vers := by
    funext i
    rw [if_neg (by omega)]
  rw [this]
theorem Dk.blanked_skip (D : Dk) (fin k : Nat) (h : D.blank k = true) : D.blanked fin (k + 1) = D.blanked fin k := by
  unfold Dk.blanked
  congr 1
  funext i
  by_cases hi : i = (k : Int)
  · subst hi
    rw [if_neg (by rintro ⟨_, _, h3⟩; rw [Int.toNat_natCast, h] at h3; cases h3), if_neg (by omega)]
  · have hiff : ((fin : Int) ≤ i ∧ i < ((k + 1 : Nat) : Int) ∧ D.blank i.toNat = false) ↔ ((fin : Int) ≤ i ∧ i < (k : Int) ∧ D.blank i.toNat = false) := by constructor <;> rintro ⟨h1, h2, h3⟩ <;> exact ⟨h1, by omega, h3⟩
    by_cases h2 : (fin : Int) ≤ i ∧ i < (k : Int) ∧ D.blank i.toNat = false
    · rw [if_pos h2, if_pos (hiff.2 h2)]
    · rw [if_neg h2, if_neg (fun h => h2 (hiff.1 h))]
theorem Dk.blanked_write (D : Dk) (fin k : Nat) (hk : fin ≤ k) (h : D.blank k = false) : (D.blanked fin k).write (k : Int) (List.replicate 256 0) = D.blanked fin (k + 1) := by
  unfold Dk.blanked Dk.write
  congr 1
  funext i
  by_cases hi : i = (k : Int)
  · subst hi
    rw [if_pos rfl, if_pos ⟨by omega, by omega, by rw [Int.toNat_natCast]; exact h⟩]
  · rw [if_neg hi]
    have hiff : ((fin : Int) ≤ i ∧ i < ((k + 1 : Nat) : Int) ∧ D.blank i.toNat = false) ↔ ((fin : Int) ≤ i ∧ i < (k : Int) ∧ D.blank i.toNat = false) := by constructor <;> rintro ⟨h1, h2, h3⟩ <;> exact ⟨h1, by omega, h3⟩
    show (if (fin : Int) ≤ i ∧ i < (k : Int) ∧ D.blank i.toNat = false then some (List.replicate 256 0) else D.vers i) = _
    by_cases h2 : (fin : Int) ≤ i ∧ i < (k : Int) ∧ D.blank i.toNat = false
    · rw [if_pos h2, if_pos (hiff.2 h2)]
    · rw [if_neg h2, if_neg (fun h => h2 (hiff.1 h))]
/-- What Open finds; the disk behind it. -/
def Dk.openS (D : Dk) : St := D.openGo D.texts.length St.fresh
def Dk.openD (D : Dk) : Dk := (D.blanked D.openS.fin D.texts.length).synced
end Go.Proofs.Ytpkaepmmkojdaaa

/-! Package store with a fuse: what a call does, in plain words. -/
namespace Go.Proofs.Ytpkaepmmkojdaaa
open Go.RowKit
/-- The disk where k operations are done. -/
def Dk.burn (D : Dk) (k : Nat) : Dk := { D with fuse := if D.fuse < 0 then D.fuse else D.fuse - (k : Int) }
/-- Is there power for k operations? -/
def Dk.lives (D : Dk) (k : Nat) : Prop := D.fuse < 0 ∨ (k : Int) ≤ D.fuse
instance (D : Dk) (k : Nat) : Decidable (D.lives k) := by unfold Dk.lives; infer_instance
theorem Dk.burn_zero (D : Dk) : D.burn 0 = D := by
  unfold Dk.burn
  have : (if D.fuse < 0 then D.fuse else D.fuse - ((0 : Nat) : Int)) = D.fuse := by split <;> omega
  rw [this]
theorem Dk.burn_fuse (D : Dk) (k : Nat) : (D.burn k).fuse = if D.fuse < 0 then D.fuse else D.fuse - (k : Int) := rfl
theorem Dk.burn_goes (D : Dk) (k : Nat) (hoff : D.off = false) (hl : D.lives (k + 1)) : (D.burn k).goes = true := by
  have h1 : (D.burn k).off = false := hoff
  have h2 : ¬ (D.burn k).fuse = 0 := by
    rw [Dk.burn_fuse]
    rcases hl with h | h
    · rw [if_pos h]; omega
    · rw [if_neg (by omega)]; omega
  unfold Dk.goes
  rw [h1, beq_eq_false_iff_ne.2 h2]
  rfl
theorem Dk.burn_stops (D : Dk) (k : Nat) (hl : D.lives k) (hn : ¬ D.lives (k + 1)) : (D.burn k).goes = false := by
  have h2 : (D.burn k).fuse = 0 := by
    rw [Dk.burn_fuse]
    have h3 : ¬ D.fuse < 0 := fun h => hn (.inl h)
    have h4 : ¬ ((k + 1 : Nat) : Int) ≤ D.fuse := fun h => hn (.inr h)
    rcases hl with h | h
    · exact absurd h h3
    · rw [if_neg h3]; omega
  unfold Dk.goes
  rw [h2]
  simp
theorem Dk.burn_spent (D : Dk) (k : Nat) (hl : D.lives (k + 1)) : (D.burn k).spent = D.burn (k + 1) := by
  unfold Dk.spent
  have : (if 0 < (D.burn k).fuse then (D.burn k).fuse - 1 else (D.burn k).fuse) = (D.burn (k + 1)).fuse := by
    rw [Dk.burn_fuse, Dk.burn_fuse]
    rcases hl with h | h
    · rw [if_pos h, if_pos h, if_neg (by omega)]
    · have h3 : ¬ D.fuse < 0 := by omega
      rw [if_neg h3, if_neg h3, if_pos (by omega)]
      omega
  rw [this]
  rfl
theorem Dk.lives_le {D : Dk} {k j : Nat} (h : D.lives k) (hj : j ≤ k) : D.lives j := h.imp id (fun h => by omega)
theorem Dk.lives_zero {D : Dk} (h : -1 ≤ D.fuse) : D.lives 0 := by unfold Dk.lives; omega
/-- The last operation that is done. -/
theorem Dk.lives_last {D : Dk} {k : Nat} (h : -1 ≤ D.fuse) (hn : ¬ D.lives k) : ∃ m, m < k ∧ D.lives m ∧ ¬ D.lives (m + 1) ∧ (m : Int) = D.fuse := by
  have h3 : ¬ D.fuse < 0 := fun h => hn (.inl h)
  have h4 : ¬ (k : Int) ≤ D.fuse := fun h => hn (.inr h)
  refine ⟨D.fuse.toNat, by omega, .inr (by omega), ?_, by omega⟩
  rintro (h | h) <;> omega
/-- The disk behind the operation that the power goes at, m blocks of an entry being written. -/
def Dk.cutAt (D : Dk) (fin : Nat) (EB : List UInt8) (num : Int) (m : Nat) : Dk := { D.wrote fin EB num m with off := true, fuse := -1 }
/-- What an entry's write does: the code, the store, the disk. -/
def writeP (S S1 : St) (D : Dk) (kd lo po : Int) (l : List UInt8) : Int × St × Dk :=
  if S.fin + chunks (entryB kd lo po l) ≤ D.texts.length then
    (if D.lives (chunks (entryB kd lo po l) + 1) then (0, { S1 with fin := S.fin + chunks (entryB kd lo po l), num := S.num + 1 }, ((D.burn (chunks (entryB kd lo po l) + 1)).wrote S.fin (entryB kd lo po l) S.num (chunks (entryB kd lo po l))).synced)
    else (8, { S with fallen := true }, D.cutAt S.fin (entryB kd lo po l) S.num D.fuse.toNat)) else (7, S, D)
def putP (S : St) (D : Dk) (lo po : Int) (l : List UInt8) (repair : Bool) : Int × St × Dk :=
  if (S.fallen || D.off) = true then (8, S, D) else
  if po < (S.get lo).2.1 then (32, S, D) else
  match S.slots (lo, po) with
  | some old => if old = l then (0, S, D) else (31, S, D)
  | none => if (S.get lo).2.2 && !repair then (30, S, D) else writeP S (applyPut S lo po l) D 1 lo po l
def sealP (S : St) (D : Dk) (lo : Int) : Int × St × Dk :=
  if (S.fallen || D.off) = true then (8, S, D) else if (S.get lo).2.2 then (0, S, D) else writeP S (applySeal S lo) D 2 lo 0 []
def trimP (S : St) (D : Dk) (lo po : Int) : Int × St × Dk :=
  if (S.fallen || D.off) = true then (8, S, D) else if po ≤ (S.get lo).2.1 then (0, S, D) else writeP S (applyTrim S lo po) D 3 lo po []
/-- Where power is on, nothing is pending. -/
def Quiet (D : Dk) : Prop := D.off = false → ∀ k, D.vers k = none
theorem writeP_quiet {S S1 : St} {D : Dk} (h : Quiet D) (kd lo po : Int) (l : List UInt8) : Quiet (writeP S S1 D kd lo po l).2.2 := by
  unfold writeP
  split
  · split
    · exact fun _ _ => rfl
    · exact fun h => by cases h
  · exact h
theorem putP_quiet {S : St} {D : Dk} (h : Quiet D) (lo po : Int) (l : List UInt8) (r : Bool) : Quiet (putP S D lo po l r).2.2 := by
  unfold putP
  split
  · exact h
  split
  · exact h
  split
  · split <;> exact h
  · split
    · exact h
    · exact writeP_quiet h _ _ _ _
theorem sealP_quiet {S : St} {D : Dk} (h : Quiet D) (lo : Int) : Quiet (sealP S D lo).2.2 := by
  unfold sealP
  split
  · exact h
  split
  · exact h
  · exact writeP_quiet h _ _ _ _
theorem trimP_quiet {S : St} {D : Dk} (h : Quiet D) (lo po : Int) : Quiet (trimP S D lo po).2.2 := by
  unfold trimP
  split
  · exact h
  split
  · exact h
  · exact writeP_quiet h _ _ _ _
end Go.Proofs.Ytpkaepmmkojdaaa

/-! A range over a function whose iterator's rounds are told apart by a ghost: what was handed so far. -/
namespace Go.Proofs.Ytpkaepmmkojdaaa
open Go.RowKit

section
variable {P : Program} {G : Type}
/-- What is asked of a round from the ghost g to g'. -/
def RoundG (P : Program) (G : Type) (Y : G → G → World → Array Value → Prop) (fp : Nat → Prop) (M : Nat) (l : Nat) (J : G → World → Prop) (Jx : Nat → World → Prop) : Prop :=
  ∀ n g g' W1 args, J g W1 → Y g g' W1 args → M ≤ W1.heap.size →
    YieldAt Fence.wide n P l args W1 (fun e W' => (e = .returned (.bool true) ∧ J g' W' ∧ Ext fp W1 W') ∨ (e = .returned (.bool false) ∧ (∃ k, Jx k W') ∧ Ext fp W1 W'))
def IterG (P : Program) (gf : FuncId) (lb : Array Value) (G : Type) (g0 : G) (Fin : G → Prop) (Y : G → G → World → Array Value → Prop) (fp : Nat → Prop) (M : Nat) (W : World) : Prop :=
  ∀ (n l : Nat) (J : G → World → Prop) (Jx : Nat → World → Prop),
    (∀ k A B, J k A → Ext (fun b => W.heap.size ≤ b ∧ b < M) A B → J k B) → (∀ k A B, Jx k A → Ext (fun b => W.heap.size ≤ b ∧ b < M) A B → Jx k B) →
    RoundG P G Y fp M l J Jx → J g0 W →
    CallsIn Fence.wide n P gf (#[.func (.yield l) #[] #[]] ++ lb) W (fun e W' => (∃ v, e = .returned v) ∧ ((∃ g, Fin g ∧ J g W') ∨ ∃ k, Jx k W'))
def roundEndG (fp : Nat → Prop) (I : G → World → Prop) (Ix : Code → Nat → World → Prop) (k : G) (W : World) : Exit → Act → World → Prop
  | .normal, _, W' => Ext fp W W' ∧ I k W'
  | .ret, _, W' => Ext fp W W' ∧ ∃ k, Ix .ret k W'
  | .exit id, _, W' => Ext fp W W' ∧ ∃ k, Ix (.exit id) k W'
  | .goto t, _, W' => Ext fp W W' ∧ ∃ k, Ix (.goto t) k W'
  | .panic _, _, _ => False
  | .outgrown, _, _ => False

theorem wpIn_rangeG {g : Operand} {ps : Array Tmp} {assign body : Code} {Q : Exit → Act → World → Prop} {a : Act} {w : World} {n : Nat} {gf : Nat} {lb : Array Value}
    (hg : a.eval g = .func (.func gf) #[] lb) (eg : ∀ args w, (callFunc gf args).run P w = .ok (.enter gf args) w)
    {g0 : G} {Fin : G → Prop} {Y : G → G → World → Array Value → Prop} {fp : Nat → Prop} {M : Nat}
    (hM : w.heap.size + 2 ≤ M)
    (hit : ∀ W, Below w.heap.size w W → W.heap.size = w.heap.size + 2 → IterG P gf lb G g0 Fin Y (fun b => fp b ∨ b = w.heap.size + 1) M W)
    (I : G → World → Prop) (Ix : Code → Nat → World → Prop)
    (hI : ∀ k A B, I k A → Ext (fun b => w.heap.size ≤ b ∧ b < M) A B → I k B) (hIx : ∀ c k A B, Ix c k A → Ext (fun b => w.heap.size ≤ b ∧ b < M) A B → Ix c k B)
    (hY : ∀ k k' A B args, Y k k' A args → Ext (fun b => b = w.heap.size + 1) A B → Y k k' B args) (hYs : ∀ k k' A args, Y k k' A args → args.size = ps.size)
    (hfp : ∀ b, fp b → b ≠ w.heap.size ∧ b ≠ w.heap.size + 1) (h0 : I g0 w) (a₁ : Array Value → Act)
    (hassign : ∀ (m : Nat) (args : Array Value) (W : World) (K : Act → World → Prop), args.size = ps.size → K (a₁ args) W →
      assign.wpIn (Fence.wide.inRound (w.heap.size + 1)) m P (Exit.then K (fun _ _ _ => False)) { tmps := (ps.zip args).foldl (fun t (p, v) => t.setIfInBounds p v) a.tmps, defers := [] } W)
    (hbody : ∀ (m : Nat) (k k' : G) (W : World) (args : Array Value), I k W → Y k k' W args → M ≤ W.heap.size → body.wpIn (Fence.wide.inRound (w.heap.size + 1)) m P (roundEndG fp I Ix k' W) (a₁ args) W)
    (hdone : ∀ (g : G) (W : World), Fin g → I g W → W.heap[w.heap.size]? = some (.deferred (some [])) → Q .normal { a with defers := { target := .collected w.heap.size, args := #[] } :: a.defers } W)
    (hstop : ∀ (c : Code) (k : Nat) (W : World), Ix c k W → W.heap[w.heap.size]? = some (.deferred (some [])) → c.wpIn Fence.wide n P Q { a with defers := { target := .collected w.heap.size, args := #[] } :: a.defers } W) :
    (Code.rangeFunc g ps assign body).wpIn Fence.wide n P Q a w := by
  refine wpIn_rangeFunc ?_
  intro fn hfn
  obtain ⟨rec, hrec⟩ : ∃ rec : LoopState → Option Code → Loop, rec = fun st pe => { state := st, pending := pe, fn, tmps := a.tmps, params := ps, assign, body, defers := w.heap.size } := ⟨_, rfl⟩
  obtain ⟨W1, hW1⟩ : ∃ W1, (w.alloc (.deferred (some []))).alloc (.loop (rec .ready none)) = W1 := ⟨_, rfl⟩
  have hL1 : W1.heap[w.heap.size + 1]? = some (.loop (rec .ready none)) := by
    rw [← hW1]; have := World.alloc_heap_new (w.alloc (.deferred (some []))) (.loop (rec .ready none)); rwa [World.size_alloc] at this
  have hK1 : W1.heap[w.heap.size]? = some (.deferred (some [])) := by
    rw [← hW1]; exact (Below.heap_alloc _ _ _ (by simp)).trans (World.alloc_heap_new w _)
  have hb1 : Below w.heap.size w W1 := by rw [← hW1]; exact ((Below.refl _ w).alloc (Nat.le_refl _) _).alloc (by simp) _
  have hs1 : W1.heap.size = w.heap.size + 2 := by rw [← hW1]; simp
  have hI1 : I g0 W1 := hI g0 w W1 h0 (Ext.ofBelow hb1)
  refine ⟨w.heap.size + 1, [{ target := .collected w.heap.size, args := #[] }], W1, { target := .fn (.func gf) lb, args := #[.func (.yield (w.heap.size + 1)) #[] #[]] }, W1, gf,
    #[.func (.yield (w.heap.size + 1)) #[] #[]] ++ lb, W1, ?_, ?_, ?_, ?_, fun h => by simp [Fence.wide] at h, ?_⟩
  · rw [← hW1, hrec]; exact run_enterLoop_outer _ _ _ _ _
  · simp only [resolve, hg]
    simp [go_sem]
  · intro f' hf'; trivial
  · simp [invoke, go_sem, eg]
  · have hext : ∀ (W : World) (o : Obj), Ext (fun b => b = w.heap.size + 1) W (W.putObj (w.heap.size + 1) o) := fun W o => ext_putObj _ _ _
    have hin : ∀ {A B : World}, Ext (fun b => b = w.heap.size + 1) A B → Ext (fun b => w.heap.size ≤ b ∧ b < M) A B := fun h => h.mono (fun b _ e => by omega)
    refine (hit W1 hb1 hs1 (n - 1) (w.heap.size + 1)
      (fun k W => I k W ∧ W.heap[w.heap.size + 1]? = some (.loop (rec .ready none)) ∧ W.heap[w.heap.size]? = some (.deferred (some [])))
      (fun k W => ∃ c, Ix c k W ∧ W.heap[w.heap.size + 1]? = some (.loop (rec .done (some c))) ∧ W.heap[w.heap.size]? = some (.deferred (some [])))
      ?_ ?_ ?_ ⟨hI1, hL1, hK1⟩).mono ?_
    · rintro k A B ⟨h1, h2, h3⟩ he
      refine ⟨hI k A B h1 (he.mono (fun b _ h => by omega)), ?_, ?_⟩
      · rw [he.block _ (Array.getElem?_eq_some_iff.1 h2).1 (by omega)]; exact h2
      · rw [he.block _ (Array.getElem?_eq_some_iff.1 h3).1 (by omega)]; exact h3
    · rintro k A B ⟨c, h1, h2, h3⟩ he
      refine ⟨c, hIx c k A B h1 (he.mono (fun b _ h => by omega)), ?_, ?_⟩
      · rw [he.block _ (Array.getElem?_eq_some_iff.1 h2).1 (by omega)]; exact h2
      · rw [he.block _ (Array.getElem?_eq_some_iff.1 h3).1 (by omega)]; exact h3
    · rintro m k k' W args ⟨hi, hl, hd⟩ hy hsz
      have hyr := run_yield (P := P) (args := args) hl (by rw [hrec]; exact hYs k k' W args hy)
      rw [hrec] at hyr
      refine ⟨fn, _, assign, body, hyr, roundIn_of_wpIn trivial (hassign m args W _ (hYs k k' W args hy) ⟨_, run_beginRound hl (by rw [hrec]), ?_⟩)⟩
      obtain ⟨W2, hW2⟩ : ∃ W2, W.putObj (w.heap.size + 1) (.loop { rec .ready none with state := .busy }) = W2 := ⟨_, rfl⟩
      have e2 : Ext (fun b => b = w.heap.size + 1) W W2 := hW2 ▸ hext W _
      have hl2 : W2.heap[w.heap.size + 1]? = some (.loop { rec .ready none with state := .busy }) := hW2 ▸ World.putObj_heap_same (Array.getElem?_eq_some_iff.1 hl).1
      have hd2 : W2.heap[w.heap.size]? = some (.deferred (some [])) := (e2.block _ (Array.getElem?_eq_some_iff.1 hd).1 (by omega)).trans hd
      rw [hW2]
      refine wpIn_mono (hbody m k k' W2 args (hI k W W2 hi (hin e2)) (hY k k' W W2 args hy e2) (Nat.le_trans hsz e2.size)) ?_
      have fin : ∀ (jump : Option Code) (W3 : World), Ext fp W2 W3 →
          (Instr.endRound (w.heap.size + 1) jump).run P W3 = .ok (.bool jump.isNone) (W3.putObj (w.heap.size + 1) (.loop (rec (if jump.isNone then .ready else .done) jump))) ∧
          Ext (fun b => fp b ∨ b = w.heap.size + 1) W (W3.putObj (w.heap.size + 1) (.loop (rec (if jump.isNone then .ready else .done) jump))) ∧
          (W3.putObj (w.heap.size + 1) (.loop (rec (if jump.isNone then .ready else .done) jump))).heap[w.heap.size + 1]? = some (.loop (rec (if jump.isNone then .ready else .done) jump)) ∧
          (W3.putObj (w.heap.size + 1) (.loop (rec (if jump.isNone then .ready else .done) jump))).heap[w.heap.size]? = some (.deferred (some [])) := fun jump W3 he => by
        have hl3 : W3.heap[w.heap.size + 1]? = some (.loop { rec .ready none with state := .busy }) := (he.block _ (Array.getElem?_eq_some_iff.1 hl2).1 (fun h => (hfp _ h).2 rfl)).trans hl2
        have hd3 : W3.heap[w.heap.size]? = some (.deferred (some [])) := (he.block _ (Array.getElem?_eq_some_iff.1 hd2).1 (fun h => (hfp _ h).1 rfl)).trans hd2
        have := run_endRound (P := P) jump hl3
        rw [hrec] at this ⊢
        refine ⟨this, ?_, World.putObj_heap_same (Array.getElem?_eq_some_iff.1 hl3).1, (World.putObj_heap_other (by omega)).trans hd3⟩
        exact ((e2.mono (fun b _ e => .inr e)).trans (he.mono (fun b _ e => .inl e) : Ext (fun b => fp b ∨ b = w.heap.size + 1) W2 W3) (fun b h => .inl h)).trans (hext W3 _) (fun b h => .inl (.inr h))
      rintro e a3 W3 hp
      cases e with
      | normal =>
        obtain ⟨he, hi3⟩ := hp
        obtain ⟨hr, hx, hl4, hd4⟩ := fin none W3 he
        exact ⟨_, _, hr, .inl ⟨rfl, ⟨hI _ _ _ hi3 (hin (hext W3 _)), hl4, hd4⟩, hx⟩⟩
      | ret =>
        obtain ⟨he, k9, hi3⟩ := hp
        obtain ⟨hr, hx, hl4, hd4⟩ := fin (some .ret) W3 he
        exact ⟨_, _, hr, .inr ⟨rfl, ⟨k9, .ret, hIx _ _ _ _ hi3 (hin (hext W3 _)), hl4, hd4⟩, hx⟩⟩
      | exit id =>
        obtain ⟨he, k9, hi3⟩ := hp
        obtain ⟨hr, hx, hl4, hd4⟩ := fin (some (.exit id)) W3 he
        exact ⟨_, _, hr, .inr ⟨rfl, ⟨k9, .exit id, hIx _ _ _ _ hi3 (hin (hext W3 _)), hl4, hd4⟩, hx⟩⟩
      | goto t =>
        obtain ⟨he, k9, hi3⟩ := hp
        obtain ⟨hr, hx, hl4, hd4⟩ := fin (some (.goto t)) W3 he
        exact ⟨_, _, hr, .inr ⟨rfl, ⟨k9, .goto t, hIx _ _ _ _ hi3 (hin (hext W3 _)), hl4, hd4⟩, hx⟩⟩
      | panic ch => exact hp.elim
      | outgrown => exact hp.elim
    · rintro e W2 ⟨⟨v, rfl⟩, (⟨gz, hfin, hi, hl, hd⟩ | ⟨k, c, hi, hl, hd⟩)⟩
      · refine ⟨none, _, by have := run_endLoop (P := P) hl (by rw [hrec]; simp); rw [hrec] at this; exact this, hdone gz _ hfin (hI _ _ _ hi (hin (hext W2 _))) ((World.putObj_heap_other (by omega)).trans hd)⟩
      · refine ⟨some c, _, by have := run_endLoop (P := P) hl (by rw [hrec]; simp); rw [hrec] at this; exact this, hstop _ k _ (hIx _ _ _ _ hi (hin (hext W2 _))) ((World.putObj_heap_other (by omega)).trans hd)⟩
theorem wpIn_rangeGQ {g : Operand} {ps : Array Tmp} {assign body : Code} {Q : Exit → Act → World → Prop} {a : Act} {w : World} {n : Nat} {gf : Nat} {lb : Array Value}
    (hg : a.eval g = .func (.func gf) #[] lb) (eg : ∀ args w, (callFunc gf args).run P w = .ok (.enter gf args) w)
    {g0 : G} {Fin : G → Prop} {Y : G → G → World → Array Value → Prop} {fp : Nat → Prop} {M : Nat}
    (hM : w.heap.size + 2 ≤ M)
    (hit : ∀ W, Below w.heap.size w W → W.heap.size = w.heap.size + 2 → IterG P gf lb G g0 Fin Y (fun b => fp b ∨ b = w.heap.size + 1) M W)
    (I : G → World → Prop) (Ix : Code → Nat → World → Prop)
    (hI : ∀ k A B, I k A → Ext (fun b => w.heap.size ≤ b ∧ b < M) A B → I k B) (hIx : ∀ c k A B, Ix c k A → Ext (fun b => w.heap.size ≤ b ∧ b < M) A B → Ix c k B)
    (hY : ∀ k k' A B args, Y k k' A args → Ext (fun b => b = w.heap.size + 1) A B → Y k k' B args) (hYs : ∀ k k' A args, Y k k' A args → args.size = ps.size)
    (hfp : ∀ b, fp b → b ≠ w.heap.size ∧ b ≠ w.heap.size + 1) (h0 : I g0 w) (qs : Array Tmp)
    (hassign : ∀ (m : Nat) (args : Array Value) (W : World) (K : Act → World → Prop), args.size = ps.size → K (rangeAct a ps qs args) W →
      assign.wpIn (Fence.wide.inRound (w.heap.size + 1)) m P (Exit.then K (fun _ _ _ => False)) { tmps := (ps.zip args).foldl (fun t (p, v) => t.setIfInBounds p v) a.tmps, defers := [] } W)
    (hbody : ∀ (m : Nat) (k k' : G) (W : World) (args : Array Value), I k W → Y k k' W args → M ≤ W.heap.size → body.wpIn (Fence.wide.inRound (w.heap.size + 1)) m P (roundEndG fp I Ix k' W) (rangeAct a ps qs args) W)
    (hdone : ∀ (g : G) (W : World), Fin g → I g W → W.heap[w.heap.size]? = some (.deferred (some [])) → Q .normal { a with defers := { target := .collected w.heap.size, args := #[] } :: a.defers } W)
    (hstop : ∀ (c : Code) (k : Nat) (W : World), Ix c k W → W.heap[w.heap.size]? = some (.deferred (some [])) → c.wpIn Fence.wide n P Q { a with defers := { target := .collected w.heap.size, args := #[] } :: a.defers } W) :
    (Code.rangeFunc g ps assign body).wpIn Fence.wide n P Q a w :=
  wpIn_rangeG hg eg hM hit I Ix hI hIx hY hYs hfp h0 (rangeAct a ps qs) hassign hbody hdone hstop
end
end Go.Proofs.Ytpkaepmmkojdaaa
