import Derived.Test.YtpkaepmmkojdaaaMEql
/-! StoreOnce: the plain law; what lies in memory in a round. -/
namespace Go.Proofs.Ytpkaepmmkojdaaa
open Go.RowKit

structure Step (S S' : St) (rep : Bool) : Prop where
  slots : ∀ k l, S.slots k = some l → S'.slots k = some l
  trim : ∀ a, (S.get a).2.1 ≤ (S'.get a).2.1
  sealed : ∀ a, (S.get a).2.2 = true → (S'.get a).2.2 = true
  fresh : ∀ a b, (S.get a).2.2 = true → rep = false → S.slots (a, b) = none → S'.slots (a, b) = none

theorem Step.refl (S : St) (rep : Bool) : Step S S rep := ⟨fun _ _ h => h, fun _ => Int.le_refl _, fun _ h => h, fun _ _ _ _ h => h⟩
theorem writeF_step {S S1 : St} {D : Dk} {rep : Bool} (h : Step S S1 rep) (kd lo po : Int) (l : List UInt8) : Step S (writeF S S1 D kd lo po l).2.1 rep := by
  unfold writeF
  split
  · exact ⟨h.slots, h.trim, h.sealed, h.fresh⟩
  · exact Step.refl S rep
theorem get_state (S : St) (lo a : Int) (x : Int × Int × Bool) : (S.setState lo x).get a = if a = lo then x else S.get a := by
  by_cases h : a = lo
  · subst h; rw [if_pos rfl, get_self]
  · rw [if_neg h, get_other S lo a x h]

theorem once_step (S : St) (D : Dk) (o : Opr) : Step S (callF S D o).2.1 o.rep := by
  unfold callF
  split
  · split
    · exact Step.refl _ _
    · unfold putF
      split
      · exact Step.refl _ _
      split
      · split <;> exact Step.refl _ _
      · rename_i hs
        split
        · exact Step.refl _ _
        · rename_i hse
          refine writeF_step ⟨fun k l hk => ?_, fun a => ?_, fun a ha => ?_, fun a b ha hr hn => ?_⟩ _ _ _ _
          · show (if k = _ then _ else _) = _
            rw [if_neg (fun e => by rw [e, hs] at hk; cases hk)]
            exact hk
          · unfold applyPut
            rw [get_state]
            split
            · rename_i e; rw [e]; exact Int.le_refl _
            · exact Int.le_refl _
          · unfold applyPut
            rw [get_state]
            split
            · rename_i e; rw [← e]; exact ha
            · exact ha
          · show (if (a, b) = _ then _ else _) = _
            rw [if_neg (fun e => ?_)]
            · exact hn
            · have e1 : a = mod3 o.lo 3 := congrArg Prod.fst e
              rw [← e1, ha, hr] at hse
              simp at hse
  split
  · unfold sealF
    split
    · exact Step.refl _ _
    · refine writeF_step (S := S) (S1 := applySeal S (mod3 o.lo 3)) ⟨fun k l hk => hk, fun a => ?_, fun a ha => ?_, fun a b ha hr hn => hn⟩ _ _ _ _
      · unfold applySeal
        rw [get_state]
        split
        · rename_i e; rw [e]; exact Int.le_refl _
        · exact Int.le_refl _
      · unfold applySeal
        rw [get_state]
        split
        · rfl
        · exact ha
  split
  · unfold trimF
    split
    · exact Step.refl _ _
    · refine writeF_step (S := S) (S1 := applyTrim S (mod3 o.lo 3) (mod3 o.po 6)) ⟨fun k l hk => hk, fun a => ?_, fun a ha => ?_, fun a b ha hr hn => hn⟩ _ _ _ _
      · unfold applyTrim
        rw [get_state]
        split
        · rename_i e; rw [e]; exact Int.le_max_left _ _
        · exact Int.le_refl _
      · unfold applyTrim
        rw [get_state]
        split
        · rename_i e; rw [← e]; exact ha
        · exact ha
  · exact Step.refl _ _

theorem writeF_code (S S1 : St) (D : Dk) (kd lo po : Int) (l : List UInt8) (h : (writeF S S1 D kd lo po l).1 ≠ 0) : (writeF S S1 D kd lo po l).2.1 = S ∧ (writeF S S1 D kd lo po l).2.2 = D := by
  unfold writeF at h ⊢
  split
  · rename_i hc; rw [if_pos hc] at h; exact absurd rfl h
  · exact ⟨rfl, rfl⟩
theorem once_code (S : St) (D : Dk) (o : Opr) (h : (callF S D o).1 ≠ 0) : (callF S D o).2.1 = S ∧ (callF S D o).2.2 = D := by
  unfold callF at h ⊢
  split at h
  · rename_i h0
    rw [if_pos h0]
    split at h
    · rename_i h1; rw [if_pos h1]; exact ⟨rfl, rfl⟩
    · rename_i h1
      rw [if_neg h1]
      unfold putF at h ⊢
      split at h
      · rename_i h2; rw [if_pos h2]; exact ⟨rfl, rfl⟩
      · rename_i h2
        rw [if_neg h2]
        cases hs : S.slots (mod3 o.lo 3, mod3 o.po 6) with
        | some old =>
          simp only
          split <;> exact ⟨rfl, rfl⟩
        | none =>
          rw [hs] at h
          simp only at h ⊢
          split at h
          · rename_i h3; rw [if_pos h3]; exact ⟨rfl, rfl⟩
          · rename_i h3; rw [if_neg h3]; exact writeF_code _ _ _ _ _ _ _ h
  · rename_i h0
    rw [if_neg h0]
    split at h
    · rename_i h1
      rw [if_pos h1]
      unfold sealF at h ⊢
      split at h
      · rename_i h2; rw [if_pos h2]; exact ⟨rfl, rfl⟩
      · rename_i h2; rw [if_neg h2]; exact writeF_code _ _ _ _ _ _ _ h
    · rename_i h1
      rw [if_neg h1]
      split at h
      · rename_i h2
        rw [if_pos h2]
        unfold trimF at h ⊢
        split at h
        · rename_i h3; rw [if_pos h3]; exact ⟨rfl, rfl⟩
        · rename_i h3; rw [if_neg h3]; exact writeF_code _ _ _ _ _ _ _ h
      · rename_i h2
        rw [if_neg h2]
        exact ⟨rfl, rfl⟩

/-! ### What is told, as flags -/
def thB (S : St) (a b : Nat) : Bool := decide ((getF S (a : Nat) (b : Nat)).1 = 0)
theorem tThere_eq (S : St) (a b : Nat) (hb : b < 6) : tThere S (a * 6 + b) = .bool (thB S a b) := by
  unfold tThere thB
  rw [show (a * 6 + b) / 6 = a from by omega, show (a * 6 + b) % 6 = b from by omega]
theorem tData_eq (S : St) (a b : Nat) (hb : b < 6) : tData S (a * 6 + b) = .string ⟨(getF S (a : Nat) (b : Nat)).2.toArray⟩ := by
  unfold tData
  rw [show (a * 6 + b) / 6 = a from by omega, show (a * 6 + b) % 6 = b from by omega]
theorem getF_zero {S : St} {lo po : Int} (h : (getF S lo po).1 = 0) : ¬ po < (S.get lo).2.1 ∧ ∃ l, S.slots (lo, po) = some l ∧ (getF S lo po).2 = l := by
  unfold getF at *
  by_cases h1 : po < (S.get lo).2.1
  · rw [if_pos h1] at h; cases h
  · rw [if_neg h1] at h ⊢
    cases hs : S.slots (lo, po) with
    | none => rw [hs] at h; cases h
    | some l => exact ⟨h1, l, rfl, rfl⟩
theorem getF_some {S : St} {lo po : Int} {l : List UInt8} (h1 : ¬ po < (S.get lo).2.1) (h : S.slots (lo, po) = some l) : getF S lo po = (0, l) := by
  unfold getF
  rw [if_neg h1, h]
theorem once_data {S S' : St} {rep : Bool} (h : Step S S' rep) {a b : Nat} (h1 : thB S a b = true) (h2 : thB S' a b = true) : (getF S' (a : Nat) (b : Nat)).2 = (getF S (a : Nat) (b : Nat)).2 := by
  obtain ⟨_, l, hs, hl⟩ := getF_zero (of_decide_eq_true h1)
  obtain ⟨_, l', hs', hl'⟩ := getF_zero (of_decide_eq_true h2)
  rw [h.slots _ _ hs] at hs'
  cases hs'
  rw [hl, hl']
theorem once_gone {S S' : St} {rep : Bool} (h : Step S S' rep) {a b : Nat} (h1 : thB S a b = true) (h2 : thB S' a b = false) : (b : Int) < (S'.get (a : Nat)).2.1 := by
  obtain ⟨_, l, hs, hl⟩ := getF_zero (of_decide_eq_true h1)
  refine Classical.byContradiction fun hc => ?_
  have := getF_some hc (h.slots _ _ hs)
  unfold thB at h2
  rw [this] at h2
  simp at h2
theorem once_new {S S' : St} {rep : Bool} (h : Step S S' rep) {a b : Nat} (h0 : (S.get (a : Nat)).2.2 = true) (hr : rep = false) (h1 : thB S a b = false) : thB S' a b = false := by
  refine Bool.eq_false_iff.2 fun h2 => ?_
  obtain ⟨ht, l', hs', hl'⟩ := getF_zero (of_decide_eq_true h2)
  cases hs : S.slots ((a : Int), (b : Int)) with
  | none => rw [h.fresh _ _ h0 hr hs] at hs'; cases hs'
  | some l =>
    have := h.trim (a : Nat)
    have := getF_some (S := S) (lo := (a : Nat)) (po := (b : Nat)) (by omega) hs
    unfold thB at h1
    rw [this] at h1
    simp at h1

/-! ### What lies in memory -/
structure OnceAt (W0 : World) (w : World) (q : StP) (S : St) (D : Dk) (TW : Nat) (S0 : St) : Prop where
  st : StAt w q S D
  on : On S D
  was : Blk w TW (told S0) 39
  out : ¬ q.all TW
  new : ∀ b, q.all b ∨ b = TW → W0.heap.size ≤ b
  below : Below W0.heap.size W0 w
theorem OnceAt.keep {W0 w w' : World} {q : StP} {S : St} {D : Dk} {TW : Nat} {S0 : St} (h : OnceAt W0 w q S D TW S0) (hb : Below w.heap.size w w') : OnceAt W0 w' q S D TW S0 :=
  ⟨h.st.keep hb, h.on, h.was.keep hb, h.out, h.new, h.below.trans (hb.mono h.below.size)⟩
theorem OnceAt.went {W0 w w' : World} {q q' : StP} {S S' : St} {D D' : Dk} {TW : Nat} {S0 : St} (h : OnceAt W0 w q S D TW S0) (h1 : StAt w' q' S' D') (ho : On S' D') (hw : Went q q' w.heap.size) (hx : Ext q.own w w') : OnceAt W0 w' q' S' D' TW S0 :=
  ⟨h1, ho, h.was.ext hx (fun hc => h.out (.inl hc)), fun hc => (hw.2.2.2.2 _ hc).elim h.out (fun hl => by have := h.was.lt; omega),
    fun b hb => hb.elim (fun hq => (hw.2.2.2.2 b hq).elim (fun hq => h.new b (.inl hq)) (fun hl => by have := h.below.size; omega)) (fun e => h.new b (.inr e)),
    h.below.trans (hx.belowOf h.below.size (fun b hb hc => by have := h.new b (.inl (.inl hc)); omega))⟩
theorem OnceAt.set {W0 w : World} {q : StP} {S : St} {D : Dk} {TW : Nat} {S0 : St} (h : OnceAt W0 w q S D TW S0) (S1 : St) : OnceAt W0 (w.setRow TW (told S1)) q S D TW S1 := by
  have hx : Ext (fun b => b = TW) w (w.setRow TW (told S1)) := (Ext.refl (fun b => b = TW) w).grown (setRow_grown _ _ _) (fun k h => by cases h; exact .inl rfl)
  exact ⟨h.st.ext hx (fun b e hq => h.out (e ▸ hq)), h.on, h.was.setRow (told S1), h.out, h.new, h.below.trans (hx.belowOf h.below.size (fun b hb e => by have := h.new b (.inr e); omega))⟩

theorem wp_neq_same {P : Program} {t : TypeId} {x y : Operand} {o : Oper} {t' : TypeId} {a : Act} {cs : Array Value} {w : World} {K : Act → World → Prop} {Q : Exit → Act → World → Prop} (ho : o.op = .binOp .neq t x y t') (hx : a.eval x = .agg cs) (hy : a.eval y = .agg cs) (hg : P.eqGuardType P.depth t = false) (hs : SameAt P Op.maxDepth t (.agg cs))
    (h : K (a.put o.dst (.bool false)) w) : o.wp P a w K Q := by
  unfold Oper.wp
  rw [run_neq_same ho hx hy hg hs w]
  exact h
end Go.Proofs.Ytpkaepmmkojdaaa
