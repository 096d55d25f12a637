import Derived.Test.YtcdcjoofcbdilaaGreatRgC
import Derived.Test.YtcdcjoofcbdilaaGreatMWire
import Derived.OwnWalkIn
import Derived.TacticsInMore
import Derived.LoopNIn
import Derived.LoopIn
/-! Package register: Ask; plain words of all. -/
namespace Go.Proofs.YtcdcjoofcbdilaaGreat
open Go.RowKit

section
variable {W : World} {L : Nat} {p : RgL} {s : RgS}
theorem reg_Ask (h : RgAt W L p s) (hf : s.room 1) (to k key ver bal : Int) (v : Value) (l : List UInt8) (hv : Bs W v l) :
    Calls Tryz.prog 15 #[.pointer (some ⟨L, 0, none⟩), .int .i64 to, .agg #[.int .i64 k, .int .i64 key, .int .i64 ver, .int .i64 bal, v]] W (RAskPost W L p (askR s to k key ver bal l)) := by
  by_cases hn : askOk k key ver bal l.length = true ∧ 0 ≤ to ∧ to < s.acs.length
  · obtain ⟨hr, h0, h1⟩ := hn
    have hr2 := of_decide_eq_true hr
    obtain ⟨i, rfl⟩ := Int.eq_ofNat_of_zero_le h0
    obtain ⟨kn, rfl⟩ := Int.eq_ofNat_of_zero_le (show 0 ≤ k by omega)
    obtain ⟨kk, rfl⟩ := Int.eq_ofNat_of_zero_le (show 0 ≤ key by omega)
    obtain ⟨vn, rfl⟩ := Int.eq_ofNat_of_zero_le (show 0 ≤ ver by omega)
    obtain ⟨bn, rfl⟩ := Int.eq_ofNat_of_zero_le (show 0 ≤ bal by omega)
    exact reg_Ask_yes h hf i kn kk vn bn v l hv hr (by omega)
  · exact reg_Ask_no h to k key ver bal v l hv hn
end
theorem askR_late (s : RgS) (to k key ver bal : Int) (l : List UInt8) : (askR s to k key ver bal l).2.net.late.length ≤ s.net.late.length + 1 := by
  unfold askR
  split
  · exact s.net.send_late _ _
  · simp
theorem askR_acs (s : RgS) (to k key ver bal : Int) (l : List UInt8) : (askR s to k key ver bal l).2.acs.length = s.acs.length ∧ (askR s to k key ver bal l).2.base = s.base := by
  unfold askR
  split
  · exact ⟨by simp, rfl⟩
  · exact ⟨rfl, rfl⟩
theorem allR_late {k key ver bal : Int} {l : List UInt8} : ∀ (ns : List Int) (s : RgS), (allR s k key ver bal l ns).2.net.late.length ≤ s.net.late.length + ns.length
  | [], s => by simp [allR]
  | n :: r, s => by
    have h1 := askR_late s n k key ver bal l
    have h2 := allR_late (k := k) (key := key) (ver := ver) (bal := bal) (l := l) r (askR s n k key ver bal l).2
    show (allR (askR s n k key ver bal l).2 k key ver bal l r).2.net.late.length ≤ s.net.late.length + (r.length + 1)
    omega
theorem allR_acs {k key ver bal : Int} {l : List UInt8} : ∀ (ns : List Int) (s : RgS), (allR s k key ver bal l ns).2.acs.length = s.acs.length ∧ (allR s k key ver bal l ns).2.base = s.base
  | [], s => ⟨rfl, rfl⟩
  | n :: r, s => by
    have h1 := askR_acs s n k key ver bal l
    have h2 := allR_acs (k := k) (key := key) (ver := ver) (bal := bal) (l := l) r (askR s n k key ver bal l).2
    exact ⟨h2.1.trans h1.1, h2.2.trans h1.2⟩
theorem allR_room {k key ver bal : Int} {l : List UInt8} (ns : List Int) {s : RgS} {c : Nat} (h : s.room (ns.length + c)) : (allR s k key ver bal l ns).2.room c := by
  have := allR_late (k := k) (key := key) (ver := ver) (bal := bal) (l := l) ns s
  unfold RgS.room at *
  omega
theorem allR_append {k key ver bal : Int} {l : List UInt8} : ∀ (a b : List Int) (s : RgS), allR s k key ver bal l (a ++ b) = ((allR s k key ver bal l a).1 ++ (allR (allR s k key ver bal l a).2 k key ver bal l b).1, (allR (allR s k key ver bal l a).2 k key ver bal l b).2)
  | [], b, s => by simp [allR]
  | n :: a, b, s => by
    show allR s k key ver bal l (n :: (a ++ b)) = _
    simp only [allR]
    rw [allR_append a b]
    simp
/-- What holds behind the j-th answer. -/
def afterR (k key ver bal : Int) (l : List UInt8) : RgS → List Int → Nat → RgS
  | s, [], _ => s
  | s, n :: r, j => match (askR s n k key ver bal l).1, j with
    | none, j => afterR k key ver bal l (askR s n k key ver bal l).2 r j
    | some _, 0 => (askR s n k key ver bal l).2
    | some _, j + 1 => afterR k key ver bal l (askR s n k key ver bal l).2 r j
theorem afterR_append {k key ver bal : Int} {l : List UInt8} {n : Int} {b : List Int} {r : An} : ∀ (a : List Int) (s : RgS), (askR (allR s k key ver bal l a).2 n k key ver bal l).1 = some r → afterR k key ver bal l s (a ++ n :: b) (allR s k key ver bal l a).1.length = (askR (allR s k key ver bal l a).2 n k key ver bal l).2
  | [], s, h => by
    have h' : (askR s n k key ver bal l).1 = some r := h
    show afterR k key ver bal l s (n :: b) 0 = (askR s n k key ver bal l).2
    unfold afterR
    rw [h']
  | m :: a, s, h => by
    have ih := afterR_append (b := b) a (askR s m k key ver bal l).2 h
    show afterR k key ver bal l s (m :: (a ++ n :: b)) ((askR s m k key ver bal l).1.toList ++ (allR (askR s m k key ver bal l).2 k key ver bal l a).1).length = (askR (allR (askR s m k key ver bal l).2 k key ver bal l a).2 n k key ver bal l).2
    cases hm : (askR s m k key ver bal l).1 with
    | none =>
      unfold afterR
      rw [hm]
      simpa using ih
    | some x =>
      unfold afterR
      rw [hm]
      simp only [Option.toList_some, List.length_append, List.length_cons, List.length_nil]
      rw [show 0 + 1 + (allR (askR s m k key ver bal l).2 k key ver bal l a).1.length = (allR (askR s m k key ver bal l).2 k key ver bal l a).1.length + 1 from by omega]
      exact ih
end Go.Proofs.YtcdcjoofcbdilaaGreat

/-! A range over a function whose iterator has blocks of its own that it turns between two rounds (XRange's law, with the set of those blocks carried along). No program is named here. -/
namespace Go.Proofs.YtcdcjoofcbdilaaGreat
open Go.RowKit

theorem World.heap_below {w w' : World} {g : Nat} {o : Obj} (hg : w.heap[g]? = some o) (h : Below w.heap.size w w') : w'.heap[g]? = some o := below_ext h hg

section
variable {P : Program}

/-- A word that stays while the iterator turns its own blocks, al, and those between lo and hi; al may grow. -/
def StaysL (lo hi : Nat) (J : (Nat → Prop) → World → Prop) : Prop :=
  ∀ (al al' : Nat → Prop) A B, J al A → Ext (fun b => al b ∨ (lo ≤ b ∧ b < hi)) A B → (∀ b, al' b → al b ∨ A.heap.size ≤ b) → J al' B

def RoundL (P : Program) (N : Nat) (Y : Nat → (Nat → Prop) → World → Array Value → Prop) (kp : Nat → Prop) (lo hi : Nat) (l : Nat) (J Jx : Nat → (Nat → Prop) → World → Prop) : Prop :=
  ∀ n k al W1 args, k < N → J k al W1 → Y k al W1 args → hi ≤ W1.heap.size →
    YieldAt Fence.wide n P l args W1 (fun e W' => (e = .returned (.bool true) ∧ J (k + 1) al W' ∧ Ext (fun b => ¬ al b ∧ ¬ kp b ∧ ¬ (lo ≤ b ∧ b < hi)) W1 W') ∨ (e = .returned (.bool false) ∧ Jx k al W' ∧ Ext (fun b => ¬ al b ∧ ¬ kp b ∧ ¬ (lo ≤ b ∧ b < hi)) W1 W'))

def IterL (P : Program) (gf : FuncId) (lb : Array Value) (N : Nat) (Y : Nat → (Nat → Prop) → World → Array Value → Prop) (kp : Nat → Prop) (Fin : (Nat → Prop) → World → Prop) (FinX : Nat → (Nat → Prop) → World → Prop) (al0 : Nat → Prop) (M : Nat) (W : World) : Prop :=
  ∀ (n l : Nat) (J Jx : Nat → (Nat → Prop) → World → Prop),
    (∀ k, StaysL W.heap.size M (J k)) → (∀ k, StaysL W.heap.size M (Jx k)) →
    RoundL P N Y kp W.heap.size M l J Jx → J 0 al0 W →
    CallsIn Fence.wide n P gf (#[.func (.yield l) #[] #[]] ++ lb) W (fun e W' => (∃ v, e = .returned v) ∧ ((∃ al, J N al W' ∧ Fin al W') ∨ ∃ k al, Jx k al W' ∧ FinX k al W'))

/-- How the body of a round may be left. -/
def roundEndL (al kp : Nat → Prop) (lo hi : Nat) (I : Nat → (Nat → Prop) → World → Prop) (Ix : Code → Nat → (Nat → Prop) → World → Prop) (k : Nat) (W : World) : Exit → Act → World → Prop
  | .normal, _, W' => Ext (fun b => ¬ al b ∧ ¬ kp b ∧ ¬ (lo ≤ b ∧ b < hi)) W W' ∧ I (k + 1) al W'
  | .ret, _, W' => Ext (fun b => ¬ al b ∧ ¬ kp b ∧ ¬ (lo ≤ b ∧ b < hi)) W W' ∧ Ix .ret k al W'
  | .exit id, _, W' => Ext (fun b => ¬ al b ∧ ¬ kp b ∧ ¬ (lo ≤ b ∧ b < hi)) W W' ∧ Ix (.exit id) k al W'
  | .goto t, _, W' => Ext (fun b => ¬ al b ∧ ¬ kp b ∧ ¬ (lo ≤ b ∧ b < hi)) W W' ∧ Ix (.goto t) k al W'
  | .panic _, _, _ => False
  | .outgrown, _, _ => False

theorem zip_one (t : Array Value) (q : Tmp) (v : Value) : (#[q].zip #[v]).foldl (fun t (p, v) => t.setIfInBounds p v) t = t.setIfInBounds q v := by simp
theorem wpIn_rangeL {g : Operand} {ps : Array Tmp} {assign body : Code} {Q : Exit → Act → World → Prop} {a : Act} {w : World} {n : Nat} {gf : Nat} {lb : Array Value}
    (hg : a.eval g = .func (.func gf) #[] lb) (eg : ∀ args w, (callFunc gf args).run P w = .ok (.enter gf args) w)
    {N : Nat} {Y : Nat → (Nat → Prop) → World → Array Value → Prop} {kp : Nat → Prop} {Fin : (Nat → Prop) → World → Prop} {FinX : Nat → (Nat → Prop) → World → Prop} {al0 : Nat → Prop} {M : Nat}
    (hM : w.heap.size + 2 ≤ M)
    (hit : ∀ W, Below w.heap.size w W → W.heap.size = w.heap.size + 2 → IterL P gf lb N Y kp Fin FinX al0 M W)
    (I : Nat → (Nat → Prop) → World → Prop) (Ix : Code → Nat → (Nat → Prop) → World → Prop)
    (hI : ∀ k, StaysL w.heap.size M (I k)) (hIx : ∀ c k, StaysL w.heap.size M (Ix c k))
    (hYs : ∀ k al A args, Y k al A args → args.size = ps.size)
    (hFin : ∀ al A B, Fin al A → Ext (fun b => ¬ al b) A B → Fin al B) (hFinX : ∀ k al A B, FinX k al A → Ext (fun b => ¬ al b) A B → FinX k al B)
    (hal : ∀ b, al0 b → b < w.heap.size) (hkp : ∀ b, kp b → b < w.heap.size) (h0 : I 0 al0 w) (upd : Array Value → World → Array Value → Array Value) (asgW : Array Value → World → World) (hAW : ∀ k al W args, Y k al W args → Below W.heap.size W (asgW args W))
    (hassign : ∀ (m k : Nat) (al : Nat → Prop) (args : Array Value) (W : World) (K : Act → World → Prop), Y k al W args → K { tmps := upd args W ((ps.zip args).foldl (fun t (p, v) => t.setIfInBounds p v) a.tmps), defers := [] } (asgW args W) →
      assign.wpIn (Fence.wide.inRound (w.heap.size + 1)) m P (Exit.then K (fun _ _ _ => False)) { tmps := (ps.zip args).foldl (fun t (p, v) => t.setIfInBounds p v) a.tmps, defers := [] } W)
    (hbody : ∀ (m k : Nat) (al : Nat → Prop) (W0 W : World) (args : Array Value), k < N → (¬ al w.heap.size ∧ ¬ al (w.heap.size + 1)) → I k al W → Y k al W0 args → M ≤ W0.heap.size → Ext (fun b => b = w.heap.size + 1) (asgW args W0) W →
      body.wpIn (Fence.wide.inRound (w.heap.size + 1)) m P (roundEndL al kp w.heap.size M I Ix k W) { tmps := upd args W0 ((ps.zip args).foldl (fun t (p, v) => t.setIfInBounds p v) a.tmps), defers := [] } W)
    (hdone : ∀ (al : Nat → Prop) (W : World), I N al W → Fin al W → ¬ al w.heap.size → W.heap[w.heap.size]? = some (.deferred (some [])) → Q .normal { a with defers := { target := .collected w.heap.size, args := #[] } :: a.defers } W)
    (hstop : ∀ (c : Code) (k : Nat) (al : Nat → Prop) (W : World), Ix c k al W → FinX k al W → ¬ al w.heap.size → W.heap[w.heap.size]? = some (.deferred (some [])) → c.wpIn Fence.wide n P Q { a with defers := { target := .collected w.heap.size, args := #[] } :: a.defers } W) :
    (Code.rangeFunc g ps assign body).wpIn Fence.wide n P Q a w := by
  refine wpIn_rangeFunc ?_
  intro fn hfn
  obtain ⟨rec, hrec⟩ : ∃ rec : LoopState → Option Code → Loop, rec = fun st pe => { state := st, pending := pe, fn, tmps := a.tmps, params := ps, assign, body, defers := w.heap.size } := ⟨_, rfl⟩
  obtain ⟨W1, hW1⟩ : ∃ W1, (w.alloc (.deferred (some []))).alloc (.loop (rec .ready none)) = W1 := ⟨_, rfl⟩
  have hL1 : W1.heap[w.heap.size + 1]? = some (.loop (rec .ready none)) := by
    rw [← hW1]; have := World.alloc_heap_new (w.alloc (.deferred (some []))) (.loop (rec .ready none)); rwa [World.size_alloc] at this
  have hK1 : W1.heap[w.heap.size]? = some (.deferred (some [])) := by
    rw [← hW1]; exact (Below.heap_alloc _ _ _ (by simp)).trans (World.alloc_heap_new w _)
  have hb1 : Below w.heap.size w W1 := by rw [← hW1]; exact ((Below.refl _ w).alloc (Nat.le_refl _) _).alloc (by simp) _
  have hs1 : W1.heap.size = w.heap.size + 2 := by rw [← hW1]; simp
  have hI1 : I 0 al0 W1 := hI 0 al0 al0 w W1 h0 (Ext.ofBelow hb1) (fun b h => .inl h)
  refine ⟨w.heap.size + 1, [{ target := .collected w.heap.size, args := #[] }], W1, { target := .fn (.func gf) lb, args := #[.func (.yield (w.heap.size + 1)) #[] #[]] }, W1, gf,
    #[.func (.yield (w.heap.size + 1)) #[] #[]] ++ lb, W1, ?_, ?_, ?_, ?_, fun h => by simp [Fence.wide] at h, ?_⟩
  · rw [← hW1, hrec]; exact run_enterLoop_outer _ _ _ _ _
  · simp only [resolve, hg]
    simp [go_sem]
  · intro f' hf'; trivial
  · simp [invoke, go_sem, eg]
  · have hext : ∀ (W : World) (o : Obj), Ext (fun b => b = w.heap.size + 1) W (W.putObj (w.heap.size + 1) o) := fun W o => ext_putObj _ _ _
    have hin : ∀ {al : Nat → Prop} {A B : World}, Ext (fun b => b = w.heap.size + 1) A B → Ext (fun b => al b ∨ (w.heap.size ≤ b ∧ b < M)) A B := fun h => h.mono (fun b _ e => .inr (by omega))
    have hmine : ∀ {al : Nat → Prop} {A B : World}, ¬ al (w.heap.size + 1) → Ext (fun b => b = w.heap.size + 1) A B → Ext (fun b => ¬ al b) A B := fun hn h => h.mono (fun b _ e => by rw [e]; exact hn)
    refine (hit W1 hb1 hs1 (n - 1) (w.heap.size + 1)
      (fun k al W => I k al W ∧ (W.heap[w.heap.size + 1]? = some (.loop (rec .ready none)) ∧ W.heap[w.heap.size]? = some (.deferred (some []))) ∧ (¬ al w.heap.size ∧ ¬ al (w.heap.size + 1)) ∧ w.heap.size + 2 ≤ W.heap.size)
      (fun k al W => ∃ c, Ix c k al W ∧ (W.heap[w.heap.size + 1]? = some (.loop (rec .done (some c))) ∧ W.heap[w.heap.size]? = some (.deferred (some []))) ∧ (¬ al w.heap.size ∧ ¬ al (w.heap.size + 1)) ∧ w.heap.size + 2 ≤ W.heap.size)
      ?_ ?_ ?_ ⟨hI1, ⟨hL1, hK1⟩, ⟨fun h => by have := hal _ h; omega, fun h => by have := hal _ h; omega⟩, by omega⟩).mono ?_
    · rintro k al al' A B ⟨h1, ⟨h2, h3⟩, ⟨h4, h5⟩, h6⟩ he hg'
      refine ⟨hI k al al' A B h1 (he.mono (fun b _ h => h.imp id (fun h => by omega))) hg', ⟨?_, ?_⟩, ⟨fun h => (hg' _ h).elim h4 (fun h => by omega), fun h => (hg' _ h).elim h5 (fun h => by omega)⟩, Nat.le_trans h6 he.size⟩
      · rw [he.block _ (Array.getElem?_eq_some_iff.1 h2).1 (fun h => h.elim h5 (fun h => by omega))]; exact h2
      · rw [he.block _ (Array.getElem?_eq_some_iff.1 h3).1 (fun h => h.elim h4 (fun h => by omega))]; exact h3
    · rintro k al al' A B ⟨c, h1, ⟨h2, h3⟩, ⟨h4, h5⟩, h6⟩ he hg'
      refine ⟨c, hIx c k al al' A B h1 (he.mono (fun b _ h => h.imp id (fun h => by omega))) hg', ⟨?_, ?_⟩, ⟨fun h => (hg' _ h).elim h4 (fun h => by omega), fun h => (hg' _ h).elim h5 (fun h => by omega)⟩, Nat.le_trans h6 he.size⟩
      · rw [he.block _ (Array.getElem?_eq_some_iff.1 h2).1 (fun h => h.elim h5 (fun h => by omega))]; exact h2
      · rw [he.block _ (Array.getElem?_eq_some_iff.1 h3).1 (fun h => h.elim h4 (fun h => by omega))]; exact h3
    · rintro m k al W args hk ⟨hi, ⟨hl, hd⟩, hna, hsz2⟩ hy hsz
      have hyr := run_yield (P := P) (args := args) hl (by rw [hrec]; exact hYs k al W args hy)
      rw [hrec] at hyr
      refine ⟨fn, _, assign, body, hyr, roundIn_of_wpIn trivial (hassign m k al args W _ hy ⟨_, run_beginRound (P := P) (World.heap_below hl (hAW k al W args hy)) (by rw [hrec]), ?_⟩)⟩
      have hbA := hAW k al W args hy
      have hlA := World.heap_below hl hbA
      obtain ⟨W2, hW2⟩ : ∃ W2, (asgW args W).putObj (w.heap.size + 1) (.loop { rec .ready none with state := .busy }) = W2 := ⟨_, rfl⟩
      have e2' : Ext (fun b => b = w.heap.size + 1) (asgW args W) W2 := hW2 ▸ hext (asgW args W) _
      have e2 : Ext (fun b => b = w.heap.size + 1) W W2 := (Ext.ofBelow hbA : Ext (fun b => b = w.heap.size + 1) W _).trans' e2'
      have hl2 : W2.heap[w.heap.size + 1]? = some (.loop { rec .ready none with state := .busy }) := hW2 ▸ World.putObj_heap_same (Array.getElem?_eq_some_iff.1 hlA).1
      have hd2 : W2.heap[w.heap.size]? = some (.deferred (some [])) := (e2.block _ (Array.getElem?_eq_some_iff.1 hd).1 (by omega)).trans hd
      rw [hW2]
      refine wpIn_mono (hbody m k al W W2 args hk hna (hI k al al W W2 hi (hin e2) (fun b h => .inl h)) hy hsz e2') ?_
      have fin : ∀ (jump : Option Code) (W3 : World), Ext (fun b => ¬ al b ∧ ¬ kp b ∧ ¬ (w.heap.size ≤ b ∧ b < M)) W2 W3 →
          (Instr.endRound (w.heap.size + 1) jump).run P W3 = .ok (.bool jump.isNone) (W3.putObj (w.heap.size + 1) (.loop (rec (if jump.isNone then .ready else .done) jump))) ∧
          Ext (fun b => ¬ al b ∧ ¬ kp b ∧ ¬ (W1.heap.size ≤ b ∧ b < M)) W (W3.putObj (w.heap.size + 1) (.loop (rec (if jump.isNone then .ready else .done) jump))) ∧
          ((W3.putObj (w.heap.size + 1) (.loop (rec (if jump.isNone then .ready else .done) jump))).heap[w.heap.size + 1]? = some (.loop (rec (if jump.isNone then .ready else .done) jump)) ∧
          (W3.putObj (w.heap.size + 1) (.loop (rec (if jump.isNone then .ready else .done) jump))).heap[w.heap.size]? = some (.deferred (some []))) ∧ w.heap.size + 2 ≤ (W3.putObj (w.heap.size + 1) (.loop (rec (if jump.isNone then .ready else .done) jump))).heap.size := fun jump W3 he => by
        have hl3 : W3.heap[w.heap.size + 1]? = some (.loop { rec .ready none with state := .busy }) := (he.block _ (Array.getElem?_eq_some_iff.1 hl2).1 (fun h => h.2.2 (by omega))).trans hl2
        have hd3 : W3.heap[w.heap.size]? = some (.deferred (some [])) := (he.block _ (Array.getElem?_eq_some_iff.1 hd2).1 (fun h => h.2.2 (by omega))).trans hd2
        have := run_endRound (P := P) jump hl3
        rw [hrec] at this ⊢
        refine ⟨this, ?_, ⟨World.putObj_heap_same (Array.getElem?_eq_some_iff.1 hl3).1, (World.putObj_heap_other (by omega)).trans hd3⟩, Nat.le_trans hsz2 (Nat.le_trans e2.size (Nat.le_trans he.size (hext W3 _).size))⟩
        have hc : Ext (fun b => ¬ al b ∧ ¬ kp b ∧ ¬ (W1.heap.size ≤ b ∧ b < M)) W W2 := e2.mono (fun b _ e => by rw [e]; exact ⟨hna.2, fun h => by have := hkp _ h; omega, by omega⟩)
        have hc2 : Ext (fun b => ¬ al b ∧ ¬ kp b ∧ ¬ (W1.heap.size ≤ b ∧ b < M)) W2 W3 := he.mono (fun b _ h => ⟨h.1, h.2.1, fun h' => h.2.2 (by omega)⟩)
        have hc3 : Ext (fun b => ¬ al b ∧ ¬ kp b ∧ ¬ (W1.heap.size ≤ b ∧ b < M)) W3 (W3.putObj (w.heap.size + 1) (.loop { state := if jump.isNone then .ready else .done, pending := jump, fn, tmps := a.tmps, params := ps, assign, body, defers := w.heap.size })) := (hext W3 _).mono (fun b _ e => by rw [e]; exact ⟨hna.2, fun h => by have := hkp _ h; omega, by omega⟩)
        exact (hc.trans' hc2).trans' hc3
      rintro e a3 W3 hp
      cases e with
      | normal =>
        obtain ⟨he, hi3⟩ := hp
        obtain ⟨hr, hx, hl4, hs4⟩ := fin none W3 he
        exact ⟨_, _, hr, .inl ⟨rfl, ⟨hI _ _ _ _ _ hi3 (hin (hext W3 _)) (fun b h => .inl h), hl4, hna, hs4⟩, hx⟩⟩
      | ret =>
        obtain ⟨he, hi3⟩ := hp
        obtain ⟨hr, hx, hl4, hs4⟩ := fin (some .ret) W3 he
        exact ⟨_, _, hr, .inr ⟨rfl, ⟨.ret, hIx _ _ _ _ _ _ hi3 (hin (hext W3 _)) (fun b h => .inl h), hl4, hna, hs4⟩, hx⟩⟩
      | exit id =>
        obtain ⟨he, hi3⟩ := hp
        obtain ⟨hr, hx, hl4, hs4⟩ := fin (some (.exit id)) W3 he
        exact ⟨_, _, hr, .inr ⟨rfl, ⟨.exit id, hIx _ _ _ _ _ _ hi3 (hin (hext W3 _)) (fun b h => .inl h), hl4, hna, hs4⟩, hx⟩⟩
      | goto t =>
        obtain ⟨he, hi3⟩ := hp
        obtain ⟨hr, hx, hl4, hs4⟩ := fin (some (.goto t)) W3 he
        exact ⟨_, _, hr, .inr ⟨rfl, ⟨.goto t, hIx _ _ _ _ _ _ hi3 (hin (hext W3 _)) (fun b h => .inl h), hl4, hna, hs4⟩, hx⟩⟩
      | panic ch => exact hp.elim
      | outgrown => exact hp.elim
    · rintro e W2 ⟨⟨v, rfl⟩, (⟨al, ⟨hi, ⟨hl, hd⟩, hna, hs⟩, hf⟩ | ⟨k, al, ⟨c, hi, ⟨hl, hd⟩, hna, hs⟩, hf⟩)⟩
      · refine ⟨none, _, by have := run_endLoop (P := P) hl (by rw [hrec]; simp); rw [hrec] at this; exact this, hdone al _ (hI _ _ _ _ _ hi (hin (hext W2 _)) (fun b h => .inl h)) (hFin _ _ _ hf (hmine hna.2 (hext W2 _))) hna.1 ((World.putObj_heap_other (by omega)).trans hd)⟩
      · refine ⟨some c, _, by have := run_endLoop (P := P) hl (by rw [hrec]; simp); rw [hrec] at this; exact this, hstop _ k al _ (hIx _ _ _ _ _ _ hi (hin (hext W2 _)) (fun b h => .inl h)) (hFinX _ _ _ _ hf (hmine hna.2 (hext W2 _))) hna.1 ((World.putObj_heap_other (by omega)).trans hd)⟩
end
end Go.Proofs.YtcdcjoofcbdilaaGreat

/-! Package register: all, its iterator. -/
namespace Go.Proofs.YtcdcjoofcbdilaaGreat
open Go.RowKit

/-- The block of a slice's bytes, if it has any bytes. -/
def obk : Value → Option Nat
  | .slice (some ad) n _ => if n = 0 then none else some ad.block
  | _ => none
theorem obk_own {v : Value} {k : Nat} (h : obk v = some k) : v.ownBlock = some k := by
  unfold obk at h
  split at h
  · split at h
    · cases h
    · exact h
  · cases h
theorem Bs.extO {fp : Nat → Prop} {w w' : World} {v : Value} {l : List UInt8} (h : Bs w v l) (he : Ext fp w w') (hn : ∀ k, obk v = some k → k < w.heap.size → ¬ fp k) : Bs w' v l := by
  obtain ⟨a, c, rfl, hc, hm, h0, hs, hr⟩ := h
  refine ⟨a, c, rfl, hc, hm, h0, hs, fun i u hi => ?_⟩
  obtain ⟨ad, rfl, h⟩ := hr i u hi
  have hl : l.length ≠ 0 := fun hz => by
    have := List.eq_nil_of_length_eq_zero hz
    subst this
    simp at hi
  exact ⟨ad, rfl, ext_cell h he (hn ad.block (by show (if l.length = 0 then none else some ad.block) = some ad.block; rw [if_neg hl]) (World.block_lt_of_cell? w ⟨ad.block, ad.off + i, none⟩ h))⟩
attribute [local go_sem] Oper.semAt_some

/-- What the iterator of all hands on. -/
def AnY (rs : List An) (B : Nat) (j : Nat) (al : Nat → Prop) (W : World) (args : Array Value) : Prop := ∃ r v, rs[j]? = some r ∧ args = #[.agg #[.int .i64 r.e, .int .i64 r.ver, .int .i64 r.pr, .int .i64 r.ba, .bool r.le, v]] ∧ Own8 W B 5 v r.b ∧ (∀ g, v.ownBlock = some g → ¬ al g ∧ g < W.heap.size ∧ B ≤ g) ∧ ∀ b, al b → b < W.heap.size
def AnFin (L : Nat) (s : RgS) (al : Nat → Prop) (W : World) : Prop := ∃ p, al = p.all L ∧ RgAt W L p s
theorem AnFin.ext {L : Nat} {s : RgS} {al : Nat → Prop} {A B : World} (h : AnFin L s al A) (he : Ext (fun b => ¬ al b) A B) : AnFin L s al B := by
  obtain ⟨p, rfl, h⟩ := h
  exact ⟨p, rfl, h.ext he (fun b hb hc => hb hc)⟩

section
variable {w : World} {L : Nat} {p : RgL} {s : RgS}
theorem idxR_get : ∀ (n s t : Nat), t < n → (idxR s n)[t]? = some ((s + t : Nat) : Int)
  | 0, _, t, h => by omega
  | n + 1, s, 0, _ => by simp [idxR]
  | n + 1, s, t + 1, h => by
    have := idxR_get n (s + 1) t (by omega)
    show (idxR (s + 1) n)[t]? = _
    rw [this]
    congr 2
    omega
set_option maxRecDepth 100000 in
set_option maxHeartbeats 6400000 in
theorem all_iter (lb rb : Nat) (k key ver bal : Int) (dv : Value) (nodes : List Int) (l : List UInt8) (kp : Nat → Prop) (h : RgAt w L p s) (hnodes : nodes = idxR 0 s.acs.length) (hpr : s.room nodes.length)
    (hl : Blk w lb #[.pointer (some ⟨L, 0, none⟩)] 23) (hr : Blk w rb #[.int .i64 k, .int .i64 key, .int .i64 ver, .int .i64 bal, dv] 48) (hd : Bs w dv l)
    (k2 : kp lb ∧ ¬ p.all L lb) (k3 : kp rb ∧ ¬ p.all L rb) (k5 : ∀ g, obk dv = some g → (kp g ∧ ¬ p.all L g)) :
    IterL Tryz.prog 94 #[.pointer (some ⟨lb, 0, none⟩), .pointer (some ⟨rb, 0, none⟩)] (allR s k key ver bal l nodes).1.length (AnY (allR s k key ver bal l nodes).1 w.heap.size) kp
      (AnFin L (allR s k key ver bal l nodes).2) (fun j => AnFin L (afterR k key ver bal l s nodes j)) (p.all L) w.heap.size w := by
  intro n l0 J Jx hJ hJx hR h0
  obtain ⟨da, dc, hdv⟩ := hd.form
  subst hdv
  have x0 := hl.cell (o := 0) rfl
  have x1 := h.link.cell (o := 1) rfl
  have hfew := h.few
  have hlen : nodes.length = s.acs.length := by rw [hnodes]; exact idxR_length _ _
  have HLN := hid (And.intro hnodes hlen)
  refine callsIn_of_wp Tryz.func94 rfl trivial ?_ rfl
  simp only [Tryz.ntmps94, List.size_toArray, List.length_cons, List.length_nil, Nat.reduceAdd, Nat.reduceSub, Array.replicate_succ, Array.replicate_zero, List.push_toArray, List.append_toArray, List.nil_append, List.cons_append]
  have HLB := hid hl
  have HR := hid hr
  have HD := hid hd
  have HRR := hid hR
  have HJ := hid hJ
  have HJX := hid hJx
  have HH := hid h
  have HPR := hid hpr
  have hlw := h.link.lt
  clear hl hr hd hR hJ hJx hpr hnodes hlen
  obtain ⟨N, hN⟩ : ∃ N, s.acs.length = N := ⟨_, rfl⟩
  rw [hN] at x1 hfew
  have HNN := hid (show nodes.length = N ∧ nodes = idxR 0 N from ⟨by rw [HLN.out.2, hN], by rw [← hN]; exact HLN.out.1⟩)
  clear hN
  gi_wp2
  clear x0 x1
  gi_loopw [12] (fun i wr => ∃ (t : Nat) (pr : RgL), t ≤ N ∧ i = .int .i64 (t : Int) ∧ RgAt wr L pr (allR s k key ver bal l (nodes.take t)).2 ∧ J (allR s k key ver bal l (nodes.take t)).1.length (pr.all L) wr ∧ (∀ b, pr.all L b → p.all L b ∨ w.heap.size ≤ b) ∧ Ext (fun b => ¬ kp b ∨ p.all L b) w wr) (fun i _ => N - (intOf i).toNat)
  case atStart => exact ⟨0, p, Nat.zero_le _, rfl, h, h0, fun b hb => .inl hb, Ext.refl _ _⟩
  case round =>
    obtain ⟨t, pr, ht, rfl, hL, hJt, hgr, hx⟩ := hrel
    clear h h0
    by_cases hlt9 : t < N
    · have hlt : t < nodes.length := by rw [HNN.out.1]; exact hlt9
      obtain ⟨z, hz9⟩ : ∃ z : Int, (t : Int) = z := ⟨_, rfl⟩
      have hz : nodes[t]? = some z := by rw [HNN.out.2, idxR_get N 0 t hlt9, ← hz9, Nat.zero_add]
      have HZ9 := hid hz9
      have hd1 : decide ((t : Int) < (N : Int)) = true := decide_eq_true (by omega)
      have htk : nodes.take (t + 1) = nodes.take t ++ [z] := by rw [List.take_add_one, hz]; rfl
      have hall : nodes = nodes.take t ++ z :: nodes.drop (t + 1) := by
        have h1 := List.take_append_drop t nodes
        have h2 := List.drop_eq_getElem_cons hlt
        rw [h2] at h1
        rw [List.getElem?_eq_getElem hlt] at hz
        cases hz
        exact h1.symm
      have hno : ∀ b, kp b → ¬ p.all L b → ¬ (¬ kp b ∨ p.all L b) := fun b h1 h2 h3 => h3.elim (fun h => h h1) h2
      have kb := HLB.out.ext hx (hno _ k2.1 k2.2)
      have kr := HR.out.ext hx (hno _ k3.1 k3.2)
      have hdr := HD.out.extO hx (fun g hg _ => hno g (k5 g hg).1 (k5 g hg).2)
      have y0 := kb.cell (o := 0) rfl
      have z0 := kr.cell (o := 0) rfl
      have z1 := kr.cell (o := 1) rfl
      have z2 := kr.cell (o := 2) rfl
      have z3 := kr.cell (o := 3) rfl
      have z4 := kr.cell (o := 4) rfl
      have HAP := hid (And.intro htk hall)
      have hpt : (allR s k key ver bal l (nodes.take t)).2.room 1 := allR_room _ (HPR.out.le (by simp; omega))
      have HA := hid (reg_Ask hL hpt z k key ver bal _ l hdr)
      have HS := hid (And.intro hJt (And.intro hgr hx))
      clear hz htk hall kb kr hdr hpt hJt hgr hx hno hL
      have hz9 := HZ9.out
      gi_wp2
      refine ⟨trivial, fun h => by simp [Fence.wide] at h, callsIn_wide.2 (HA.out.mono ?_)⟩
      clear HA y0 z0 z1 z2 z3 z4
      rintro e w2 ⟨p2, h2, g2, x2, hres⟩
      have hsz := HS.out.2.2.size
      have hJ2 : ∀ w3 : World, Below w2.heap.size w2 w3 → J (allR s k key ver bal l (nodes.take t)).1.length (p2.all L) w3 := fun w3 hb => HJ.out _ (pr.all L) (p2.all L) wr w3 HS.out.1 ((x2.mono (fun b _ h => .inl h) : Ext (fun b => pr.all L b ∨ (w.heap.size ≤ b ∧ b < w.heap.size)) wr w2).then hb) g2
      have hgr2 : ∀ b, p2.all L b → p.all L b ∨ w.heap.size ≤ b := fun b hb => (g2 b hb).elim (HS.out.2.1 b) (fun h => .inr (by omega))
      have hx2 : Ext (fun b => ¬ kp b ∨ p.all L b) w w2 := HS.out.2.2.trans x2 (fun b hb => (HS.out.2.1 b hb).imp .inr id)
      have hst : (allR s k key ver bal l (nodes.take (t + 1))) = ((allR s k key ver bal l (nodes.take t)).1 ++ (askR (allR s k key ver bal l (nodes.take t)).2 z k key ver bal l).1.toList, (askR (allR s k key ver bal l (nodes.take t)).2 z k key ver bal l).2) := by
        rw [HAP.out.1, allR_append]
        simp [allR]
      have HST := hid hst
      have H2 := hid h2
      have HG := hid (And.intro hgr2 hx2)
      have HJ2 := hid hJ2
      clear hst h2 hgr2 hx2 hJ2 g2 x2
      cases hm : (askR (allR s k key ver bal l (nodes.take t)).2 z k key ver bal l).1 with
      | none =>
        rw [hm] at hres
        obtain ⟨a0, a1, a2, a3, a4, a, n9, c, rfl⟩ := hres
        have HM := hid hm
        clear hm
        gi_wp2
        refine ⟨(fun f hf => by cases hf), ?_⟩
        gi_wp2
        go_roundw
        case rel =>
          have hb9 : Below w2.heap.size w2 (w2.alloc (.cells #[.int .i64 a0, .int .i64 a1, .int .i64 a2, .int .i64 a3, .bool a4, .slice a n9 c] 44)) := (Below.refl _ _).alloc (Nat.le_refl _) _
          refine ⟨t + 1, p2, by omega, by go_num, ?_, ?_, HG.out.1, HG.out.2.then hb9⟩
          · rw [HST.out]
            exact H2.out.keep hb9
          · rw [HST.out, HM.out]
            simp only [Option.toList_none, List.append_nil]
            exact HJ2.out _ hb9
        case measure => simp [intOf]; omega
      | some r =>
        rw [hm] at hres
        obtain ⟨v, rfl, ov, hva⟩ := hres
        obtain ⟨va, vc, rfl⟩ := ov.form
        obtain ⟨W1, hW1⟩ : ∃ W1, w2.alloc (.cells #[.int .i64 r.e, .int .i64 r.ver, .int .i64 r.pr, .int .i64 r.ba, .bool r.le, .slice va r.b.length vc] 44) = W1 := ⟨_, rfl⟩
        have b1 : Below w2.heap.size w2 W1 := by rw [← hW1]; exact (Below.refl _ _).alloc (Nat.le_refl _) _
        have q1 : Blk W1 w2.heap.size #[.int .i64 r.e, .int .i64 r.ver, .int .i64 r.pr, .int .i64 r.ba, .bool r.le, .slice va r.b.length vc] 44 := by rw [← hW1]; exact Blk.new w2 _ _
        have hrs : (allR s k key ver bal l nodes).1[(allR s k key ver bal l (nodes.take t)).1.length]? = some r := by
          have h9 : ∀ (A B ns : List Int), ns = A ++ z :: B → (askR (allR s k key ver bal l A).2 z k key ver bal l).1 = some r → (allR s k key ver bal l ns).1[(allR s k key ver bal l A).1.length]? = some r := by
            rintro A B _ rfl h9
            rw [allR_append]
            simp [allR, h9]
          exact h9 _ _ _ HAP.out.2 hm
        have hRound := HRR.out (n - 1) _ (p2.all L) W1 #[.agg #[.int .i64 r.e, .int .i64 r.ver, .int .i64 r.pr, .int .i64 r.ba, .bool r.le, .slice va r.b.length vc]] (List.getElem?_eq_some_iff.1 hrs).1 (HJ2.out _ b1) ⟨r, _, hrs, rfl, (ov.keep b1).mono hsz, fun g hg => ⟨hva g hg, Nat.lt_of_lt_of_le (ov.blk g hg).2 b1.size, Nat.le_trans hsz (ov.blk g hg).1⟩, fun b hb => (H2.out.keep b1).size hb⟩ (Nat.le_trans HG.out.2.size b1.size)
        have HQ := hid q1
        have HB1 := hid b1
        have m0 := q1.cell (o := 0) rfl
        have mf0 := q1.free 0
        have m1 := q1.cell (o := 1) rfl
        have mf1 := q1.free 1
        have m2 := q1.cell (o := 2) rfl
        have mf2 := q1.free 2
        have m3 := q1.cell (o := 3) rfl
        have mf3 := q1.free 3
        have m4 := q1.cell (o := 4) rfl
        have mf4 := q1.free 4
        have m5 := q1.cell (o := 5) rfl
        have mf5 := q1.free 5
        have HM := hid hm
        clear q1 b1 hrs hm ov hva HJ2
        obtain ⟨fn, tmps, assign, body, hy, hRR⟩ := hRound
        gi_wp2
        clear hW1 m0 m1 m2 m3 m4 m5 mf0 mf1 mf2 mf3 mf4 mf5
        refine ⟨fun h => by simp [Fence.wide] at h, hRR.mono ?_⟩
        have hkb : ∀ {w3 : World}, Ext (fun b => ¬ p2.all L b ∧ ¬ kp b ∧ ¬ (w.heap.size ≤ b ∧ b < w.heap.size)) W1 w3 → RgAt w3 L p2 (askR (allR s k key ver bal l (nodes.take t)).2 z k key ver bal l).2 ∧ Ext (fun b => ¬ kp b ∨ p.all L b) w w3 := fun hx3 =>
          ⟨(H2.out.keep HB1.out).ext hx3 (fun b hb hc => hb.1 hc), (HG.out.2.then HB1.out).trans' (hx3.mono (fun b _ hb => .inl hb.2.1))⟩
        rintro e W3 (⟨rfl, hJ3, hx3⟩ | ⟨rfl, hJx3, hx3⟩)
        · obtain ⟨hL3, hx4⟩ := hkb hx3
          clear hkb hRR
          gi_wp2
          go_roundw
          case rel =>
            refine ⟨t + 1, p2, by omega, by go_num, ?_, ?_, HG.out.1, hx4⟩
            · rw [HST.out]
              exact hL3
            · rw [HST.out, HM.out]
              simp only [Option.toList_some, List.length_append, List.length_cons, List.length_nil]
              exact hJ3
          case measure => simp [intOf]; omega
        · obtain ⟨hL3, hx4⟩ := hkb hx3
          clear hkb hRR
          gi_wp2
          refine bodyPost_ret (results_none rfl _ _ _) rfl ?_
          refine ⟨⟨_, rfl⟩, .inr ⟨_, _, hJx3, p2, rfl, ?_⟩⟩
          have := afterR_append (k := k) (key := key) (ver := ver) (bal := bal) (l := l) (n := z) (b := nodes.drop (t + 1)) (r := r) (nodes.take t) s HM.out
          rw [← HAP.out.2] at this
          rw [this]
          exact hL3
    · obtain rfl : t = N := by omega
      have hd1 : decide ((t : Int) < (t : Int)) = false := decide_eq_false (by omega)
      rw [← HNN.out.1, List.take_length] at hL hJt
      gi_wp2
      go_end0
      exact ⟨⟨_, rfl⟩, .inl ⟨_, hJt, pr, rfl, hL⟩⟩
end
end Go.Proofs.YtcdcjoofcbdilaaGreat
