import Derived.OrdersIn
import Derived.Test.YtpkaepmmkojdaaaMDiskB
import Derived.RangeFuncNested
/-! A region that draws its order and holds calls or makes memory: every operation has a word of its own on what it yields, which stays true while the world grows. One proof an operation serves every order. The same inside a fence, so in a round of a range over a function. No program is named here. -/
namespace Go.Proofs.Ytpkaepmmkojdaaa
open Go.RowKit

section
variable {F : Fence} {n : Nat} {P : Program} {ops : Array Oper} {Q : Exit → Act → World → Prop}

def StepAtIn (F : Fence) (n : Nat) (P : Program) (ops : Array Oper) (Q : Exit → Act → World → Prop) (Grow : World → World → Prop) (V : Nat → Value → World → Prop) (a0 : Act) (w0 : World) (i : Nat) (o : Oper) : Prop :=
  ∀ a w, Avail ops Grow V a0 w0 i o a w → o.wpIn F n P a w (Done Grow V i o a w) Q

def AllStepsIn (F : Fence) (n : Nat) (P : Program) (ops : Array Oper) (Q : Exit → Act → World → Prop) (Grow : World → World → Prop) (V : Nat → Value → World → Prop) (a0 : Act) (w0 : World) : List Oper → Nat → Prop
  | [], _ => True
  | o :: os, i => StepAtIn F n P ops Q Grow V a0 w0 i o ∧ AllStepsIn F n P ops Q Grow V a0 w0 os (i + 1)

theorem allStepsIn_at {Grow : World → World → Prop} {V : Nat → Value → World → Prop} {a0 : Act} {w0 : World} : ∀ (l : List Oper) (i : Nat), AllStepsIn F n P ops Q Grow V a0 w0 l i → ∀ (j : Nat) (o : Oper), l[j]? = some o → StepAtIn F n P ops Q Grow V a0 w0 (i + j) o
  | [], _, _, j, o, h => by simp at h
  | x :: l, i, hs, 0, o, h => by simp at h; subst h; exact hs.1
  | x :: l, i, hs, j + 1, o, h => by
    have := allStepsIn_at l (i + 1) hs.2 j o (by simpa using h)
    rw [show i + (j + 1) = i + 1 + j from by omega]
    exact this

theorem wpAnyIn_inv {Grow : World → World → Prop} {V : Nat → Value → World → Prop} {a0 : Act} {w0 : World}
    (htrans : ∀ {x y z : World}, Grow x y → Grow y z → Grow x z) (hstab : ∀ (i : Nat) (v : Value) (x y : World), Grow x y → V i v x → V i v y)
    (hguard : ∀ (i : Nat) (o : Oper), ops[i]? = some o → o.guard = none) (hbind : ∀ (i : Nat) (o : Oper), ops[i]? = some o → ∀ e ∈ o.after, Region.binds .any e = true ∧ e.on < i)
    (hdst : ∀ (i j : Nat) (o o' : Oper) (d : Nat), ops[i]? = some o → ops[j]? = some o' → o.dst = some d → o'.dst = some d → i = j) (hin : ∀ (i : Nat) (o : Oper) (d : Nat), ops[i]? = some o → o.dst = some d → d < a0.tmps.size)
    (hsteps : ∀ (i : Nat) (o : Oper), ops[i]? = some o → StepAtIn F n P ops Q Grow V a0 w0 i o)
    (hfin : ∀ a w, Inv ops Grow V a0 w0 (Array.replicate ops.size true) a w → Q .normal a w) :
    ∀ (fuel : Nat) (listed : Array Bool) (a : Act) (w : World), (listed.toList.count false) ≤ fuel → Inv ops Grow V a0 w0 listed a w → wpAnyIn F n P .any ops Q fuel listed a w := by
  have hdone : ∀ (listed : Array Bool) (a : Act) (w : World), Inv ops Grow V a0 w0 listed a w → Region.ready .any ops listed = [] → Q .normal a w := by
    intro listed a w hI hr
    have hall : ∀ n k, k ≤ n → k < ops.size → listed.getD k false = true := by
      intro n
      induction n with
      | zero =>
        intro k hk hlt
        obtain rfl : k = 0 := by omega
        refine Classical.byContradiction fun hf => ?_
        have hmem : 0 ∈ Region.ready .any ops listed := by
          unfold Region.ready
          rw [List.mem_filter]
          refine ⟨by simpa using hlt, ?_⟩
          obtain ⟨o, ho⟩ : ∃ o, ops[0]? = some o := ⟨ops[0], by simp [hlt]⟩
          have hl : listed.getD 0 true = false := by
            simp only [Array.getD_eq_getD_getElem?] at hf ⊢
            have : 0 < listed.size := by rw [hI.len]; exact hlt
            simp [Array.getElem?_eq_getElem this] at hf ⊢
            exact hf
          rw [hl, ho]
          simp only [Bool.not_false, Bool.true_and, Option.map_some, Option.getD_some]
          rw [Array.all_eq_true_iff_forall_mem]
          intro e he
          have := (hbind 0 o ho e he).2
          omega
        rw [hr] at hmem
        simp at hmem
      | succ n ih =>
        intro k hk hlt
        rcases Nat.lt_or_ge n k with h | h
        · obtain rfl : k = n + 1 := by omega
          refine Classical.byContradiction fun hf => ?_
          have hmem : n + 1 ∈ Region.ready .any ops listed := by
            unfold Region.ready
            rw [List.mem_filter]
            refine ⟨by simpa using hlt, ?_⟩
            obtain ⟨o, ho⟩ : ∃ o, ops[n + 1]? = some o := ⟨ops[n + 1], by simp [hlt]⟩
            have hl : listed.getD (n + 1) true = false := by
              simp only [Array.getD_eq_getD_getElem?] at hf ⊢
              have : n + 1 < listed.size := by rw [hI.len]; exact hlt
              simp [Array.getElem?_eq_getElem this] at hf ⊢
              exact hf
            rw [hl, ho]
            simp only [Bool.not_false, Bool.true_and, Option.map_some, Option.getD_some]
            rw [Array.all_eq_true_iff_forall_mem]
            intro e he
            have hb := hbind (n + 1) o ho e he
            rw [ih e.on (by omega) (by omega)]
            simp
          rw [hr] at hmem
          simp at hmem
        · exact ih k h hlt
    refine hfin a w ?_
    have hl : listed = Array.replicate ops.size true := by
      apply Array.ext
      · simp [hI.len]
      · intro k hk _
        have := hall k k (Nat.le_refl _) (by rw [← hI.len]; exact hk)
        simp only [Array.getD_eq_getD_getElem?, Array.getElem?_eq_getElem hk, Option.getD_some] at this
        simp [this]
    rw [← hl]; exact hI
  intro fuel
  induction fuel with
  | zero =>
    intro listed a w hc hI
    have hr : Region.ready .any ops listed = [] := by
      rw [List.eq_nil_iff_forall_not_mem]
      intro i hi
      unfold Region.ready at hi
      rw [List.mem_filter] at hi
      have h1 : listed.getD i true = false := by
        have := hi.2
        simp only [Bool.and_eq_true, Bool.not_eq_true'] at this
        exact this.1
      have hlt : i < listed.size := by rw [hI.len]; simpa using hi.1
      simp only [Array.getD_eq_getD_getElem?, Array.getElem?_eq_getElem hlt, Option.getD_some] at h1
      have : false ∈ listed.toList := by rw [← h1]; simp
      have := List.count_pos_iff.2 this
      omega
    exact ⟨hr, hdone listed a w hI hr⟩
  | succ fuel ih =>
    intro listed a w hc hI
    refine ⟨hdone listed a w hI, fun (i : Nat) hi => ?_⟩
    unfold Region.ready at hi
    rw [List.mem_filter] at hi
    obtain ⟨hi1, hi2⟩ := hi
    have hlt : i < ops.size := by simpa using hi1
    have hlt' : i < listed.size := by rw [hI.len]; exact hlt
    obtain ⟨o, ho⟩ : ∃ o, ops[i]? = some o := ⟨ops[i], by simp [hlt]⟩
    rw [ho] at hi2
    simp only [Bool.and_eq_true, Bool.not_eq_true', Option.map_some, Option.getD_some, Array.all_eq_true_iff_forall_mem] at hi2
    obtain ⟨hnl, hdeps⟩ := hi2
    have hnl' : listed.getD i false = false := by
      simp only [Array.getD_eq_getD_getElem?, Array.getElem?_eq_getElem hlt', Option.getD_some] at hnl ⊢
      exact hnl
    have hdep : ∀ e ∈ o.after, listed.getD e.on false = true := by
      intro e he
      have := hdeps e he
      rw [(hbind i o ho e he).1] at this
      simpa using this
    unfold wpOpIn
    rw [ho]
    simp only [Region.wanted, hguard i o ho, if_true]
    refine (Oper.wpIn_mono ?_ (hsteps i o ho a w ⟨fun e he o' d hk hd => hI.vals e.on o' d hk (hdep e he) hd, fun t ht => hI.out t (fun k o' hk hd => ?_), hI.grow⟩))
    · rintro a' w' ⟨v, rfl, hg, hv⟩
      have hget : ∀ k, (listed.setIfInBounds i true).getD k false = if k = i then true else listed.getD k false := by
        intro k
        simp only [Array.getD_eq_getD_getElem?, Array.getElem?_setIfInBounds]
        by_cases h : i = k
        · subst h; simp [hlt']
        · rw [if_neg h, if_neg (fun e => h e.symm)]
      have hput : ∀ t, (∀ d, o.dst = some d → t ≠ d) → (a.put o.dst v).tmps.getD t undef = a.tmps.getD t undef := by
        intro t ht
        cases hd : o.dst with
        | none => rfl
        | some d => rw [put_getD, if_neg (fun e => ht d hd e.1)]
      refine ih _ _ _ ?_ ⟨?_, ?_, ?_, ?_, ?_, ?_, htrans hI.grow hg⟩
      · rw [Array.toList_setIfInBounds]
        have hcount : (listed.toList.set i true).count false + 1 = listed.toList.count false := by
          have hf : listed.toList[i]'(by simpa using hlt') = false := by
            simp only [Array.getD_eq_getD_getElem?, Array.getElem?_eq_getElem hlt', Option.getD_some] at hnl
            simpa using hnl
          rw [List.count_set (by simpa using hlt'), hf]
          have hp : 0 < listed.toList.count false := List.count_pos_iff.2 (by rw [← hf]; exact List.getElem_mem _)
          show listed.toList.count false - 1 + 0 + 1 = listed.toList.count false
          omega
        omega
      · cases hd : o.dst <;> simp [Act.put, hI.size]
      · cases hd : o.dst <;> simp [Act.put, hI.defers]
      · simp [hI.len]
      · intro k o' hk hl e he
        rw [hget] at hl ⊢
        split at hl
        · rename_i hki
          subst hki
          rw [ho] at hk
          cases hk
          rw [hdep e he]
          simp
        · rw [hI.down k o' hk hl e he]
          simp
      · intro k o' d hk hl hd
        rw [hget] at hl
        split at hl
        · rename_i hki
          subst hki
          rw [ho] at hk
          cases hk
          have hsz : d < a.tmps.size := by rw [hI.size]; exact hin k o d ho hd
          rw [hd, put_getD, if_pos ⟨rfl, hsz⟩]
          exact hv
        · rename_i hki
          rw [hput d (fun d' hd' e => hki (hdst k i o' o d hk ho hd (by rw [hd', e])))]
          exact hstab k _ _ _ hg (hI.vals k o' d hk hl hd)
      · intro t ht
        rw [hput t (fun d hd e => by
          have := ht i o ho (by rw [hd, e])
          rw [hget, if_pos rfl] at this
          cases this)]
        refine hI.out t (fun k o' hk hd => ?_)
        have := ht k o' hk hd
        rw [hget] at this
        split at this
        · cases this
        · exact this
    · obtain ⟨e, he, hon⟩ := ht k o' hk hd
      cases hl : listed.getD k false with
      | false => rfl
      | true =>
        have := hI.down k o' hk hl e he
        rw [hon, hnl'] at this
        cases this

theorem wpIn_region_inv {id : Nat} {l : List Oper} {a : Act} {w : World} (hm : P.follows .mixedOrders = true) (Grow : World → World → Prop) (V : Nat → Value → World → Prop)
    (hok : regionOk l a.tmps.size = true)
    (hrefl : Grow w.drew w.drew) (htrans : ∀ {x y z : World}, Grow x y → Grow y z → Grow x z) (hstab : ∀ (i : Nat) (v : Value) (x y : World), Grow x y → V i v x → V i v y)
    (hsteps : AllStepsIn F n P l.toArray Q Grow V a w.drew l 0)
    (hfin : ∀ y w', Grow w.drew w' → AllVals V y w' l 0 → Q .normal (putAll y l a) w') : (Code.region id l.toArray true).wpIn F n P Q a w := by
  simp only [regionOk, Bool.and_eq_true, List.all_eq_true, decide_eq_true_eq] at hok
  obtain ⟨⟨h1, h2⟩, h3⟩ := hok
  have hidx : ∀ (i : Nat) (o : Oper), l.toArray[i]? = some o → o ∈ l := fun i o h => List.mem_of_getElem? (by simpa using h)
  refine wpIn_region_any hm (wpAnyIn_inv (Grow := Grow) (V := V) (a0 := a) (w0 := w.drew) @htrans hstab (fun i o ho => ?_) (fun i o ho e he => ?_) (fun i j o o' d hi hj hd hd' => nodup_dst l h3 i j o o' d (by simpa using hi) (by simpa using hj) hd hd') (fun i o d ho hd => ?_)
    (fun i o ho => by have := allStepsIn_at l 0 hsteps i o (by simpa using ho); rwa [Nat.zero_add] at this) ?_ _ _ _ _ ?_ ?_)
  · have := (h1 o (hidx i o ho)).1
    simpa using this
  · have hz : (o, i) ∈ l.zipIdx := by
      rw [List.mem_zipIdx_iff_getElem?]
      simpa using ho
    have := h2 (o, i) hz
    simp only [Array.all_eq_true_iff_forall_mem, Bool.and_eq_true, decide_eq_true_eq] at this
    exact this e he
  · have := (h1 o (hidx i o ho)).2
    rw [hd] at this
    simpa using this
  · intro a' w' hI
    have hlist : ∀ (k : Nat) (o : Oper), l.toArray[k]? = some o → (Array.replicate l.toArray.size true).getD k false = true := by
      intro k o hk
      have : k < l.length := (List.getElem?_eq_some_iff.1 (by simpa using hk : l[k]? = some o)).1
      simp [Array.getD_eq_getD_getElem?, this]
    have ha : a' = putAll (fun t => a'.tmps.getD t undef) l a := by
      have hs := putAll_size (fun t => a'.tmps.getD t undef) l a
      have ht : a'.tmps = (putAll (fun t => a'.tmps.getD t undef) l a).tmps := by
        apply Array.ext
        · rw [hs.1, hI.size]
        · intro t ht1 ht2
          have hta : t < a.tmps.size := by rw [← hI.size]; exact ht1
          have hp := putAll_getD (fun t => a'.tmps.getD t undef) l a t hta
          have e1 : a'.tmps.getD t undef = a'.tmps[t] := by simp [Array.getD_eq_getD_getElem?, ht1]
          have e2 : (putAll (fun t => a'.tmps.getD t undef) l a).tmps.getD t undef = (putAll (fun t => a'.tmps.getD t undef) l a).tmps[t] := by rw [Array.getD_eq_getD_getElem?, Array.getElem?_eq_getElem ht2]; rfl
          rw [← e1, ← e2, hp]
          by_cases hex : ∃ o ∈ l, o.dst = some t
          · rw [if_pos hex]
          · rw [if_neg hex]
            exact hI.out t (fun k o hk hd => absurd ⟨o, hidx k o hk, hd⟩ hex)
      have hd : a'.defers = (putAll (fun t => a'.tmps.getD t undef) l a).defers := by rw [hs.2, hI.defers]
      cases a'
      simp only at ht hd ⊢
      generalize putAll _ l a = b at *
      cases b
      simp only at ht hd
      rw [ht, hd]
    rw [ha]
    refine hfin _ w' hI.grow (allVals_mk l 0 (fun j o d hj hd => ?_))
    rw [Nat.zero_add]
    exact hI.vals j o d (by simpa using hj) (hlist j o (by simpa using hj)) hd
  · simp
  · refine ⟨rfl, rfl, by simp, ?_, ?_, fun _ _ => rfl, hrefl⟩
    · intro k o hk hl
      simp [Array.getD_eq_getD_getElem?] at hl
      have : k < l.length := (List.getElem?_eq_some_iff.1 (by simpa using hk : l[k]? = some o)).1
      simp [this] at hl
    · intro k o d hk hl
      have : k < l.length := (List.getElem?_eq_some_iff.1 (by simpa using hk : l[k]? = some o)).1
      simp [Array.getD_eq_getD_getElem?, this] at hl
end
end Go.Proofs.Ytpkaepmmkojdaaa

/-! Helpers for the steps of a region that draws its order, inside a fence. -/
namespace Go.Proofs.Ytpkaepmmkojdaaa
open Go.RowKit

section
variable {F : Fence} {n : Nat} {P : Program} {l : List Oper} {Q : Exit → Act → World → Prop} {Grow : World → World → Prop} {V : Nat → Value → World → Prop} {a0 : Act} {w0 : World}
theorem stepIn_value {i : Nat} {o : Oper} {a : Act} {w : World} {v : Value} {w' : World} (hF : ∀ f, F.fn f) (hs : o.semAt F.round a.eval = execOp a.eval o) (hr : (execOp a.eval o).run P w = .ok (.value v) w') (hg : Grow w w') (hv : V i v w') :
    o.wpIn F n P a w (Done Grow V i o a w) Q := by
  refine ⟨fun f _ => hF f, ?_⟩
  rw [hs, hr]
  exact ⟨v, rfl, hg, hv⟩
theorem stepIn_skip {i : Nat} {o : Oper} {a : Act} {w : World} {w' : World} (hF : ∀ f, F.fn f) (hs : o.semAt F.round a.eval = execOp a.eval o) (hr : (execOp a.eval o).run P w = .ok .skip w') (hg : Grow w w') (hv : V i undef w') :
    o.wpIn F n P a w (Done Grow V i o a w) Q := by
  refine ⟨fun f _ => hF f, ?_⟩
  rw [hs, hr]
  exact ⟨_, rfl, hg, hv⟩
theorem stepIn_call {i : Nat} {o : Oper} {a : Act} {w : World} {f : FuncId} {args : Array Value} {l₀ : Nat} (hs : o.semAt (Fence.wide.inRound l₀).round a.eval = execOp a.eval o) (hr : (execOp a.eval o).run P w = .ok (.enter f args) w)
    (hc : Calls P f args w fun e w' => ∃ v, e = .returned v ∧ Grow w w' ∧ V i v w') :
    o.wpIn (Fence.wide.inRound l₀) n P a w (Done Grow V i o a w) Q := by
  refine ⟨fun f _ => trivial, ?_⟩
  rw [hs, hr]
  refine ⟨fun h => by simp [Fence.wide, Fence.inRound] at h, CallsIn.inRound l₀ ((callsIn_wide.2 hc).mono ?_)⟩
  rintro e w' ⟨v, rfl, hg, hv⟩
  exact ⟨v, rfl, hg, hv⟩
theorem stepIn_yield {i : Nat} {o : Oper} {a : Act} {w : World} {l l₀ : Nat} {args : Array Value} (hs : o.semAt (Fence.wide.inRound l₀).round a.eval = execOp a.eval o) (hr : (execOp a.eval o).run P w = (Instr.yield l args).run P w)
    (hy : YieldAt Fence.wide (n - 1) P l args w fun e w' => ∃ v, e = .returned v ∧ Grow w w' ∧ V i v w') :
    o.wpIn (Fence.wide.inRound l₀) n P a w (Done Grow V i o a w) Q := by
  obtain ⟨fn, tmps, assign, body, h1, h2⟩ := hy
  refine ⟨fun f _ => trivial, ?_⟩
  rw [hs, hr, h1]
  refine ⟨fun h => by simp [Fence.wide, Fence.inRound] at h, ?_⟩
  refine RoundIn.mono (F := Fence.wide.inRound l₀) (show RoundIn (Fence.wide.inRound l₀) (n - 1) P l fn tmps assign body w _ from h2) ?_
  rintro e w' ⟨v, rfl, hg, hv⟩
  exact ⟨v, rfl, hg, hv⟩
end
end Go.Proofs.Ytpkaepmmkojdaaa
