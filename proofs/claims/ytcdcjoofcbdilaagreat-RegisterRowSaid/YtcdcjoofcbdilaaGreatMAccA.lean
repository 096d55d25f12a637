import Derived.Test.YtcdcjoofcbdilaaGreatMRegionB
import Derived.Test.YtcdcjoofcbdilaaGreatQNt
import Derived.Deep.Cut
import Derived.Test.YtcdcjoofcbdilaaGreatMQNetP
/-! XRegion's rule, for regions that hold edges that do not bind. No program is named here. -/
namespace Go.Proofs.YtcdcjoofcbdilaaGreat
open Go.RowKit

section
variable {P : Program} {ops : Array Oper} {Q : Exit → Act → World → Prop}

/-- What an operation may take for granted. -/
structure AvailW (ops : Array Oper) (Grow : World → World → Prop) (V : Nat → Value → World → Prop) (a0 : Act) (w0 : World) (i : Nat) (o : Oper) (a : Act) (w : World) : Prop where
  dep : ∀ e ∈ o.after, Region.binds .any e = true → ∀ (o' : Oper) (d : Nat), ops[e.on]? = some o' → o'.dst = some d → V e.on (a.tmps.getD d undef) w
  out : ∀ (t : Nat), (∀ (k : Nat) (o' : Oper), ops[k]? = some o' → o'.dst = some t → ∃ e ∈ o'.after, Region.binds .any e = true ∧ e.on = i) → a.tmps.getD t undef = a0.tmps.getD t undef
  grow : Grow w0 w

def StepAtW (P : Program) (ops : Array Oper) (Q : Exit → Act → World → Prop) (Grow : World → World → Prop) (V : Nat → Value → World → Prop) (a0 : Act) (w0 : World) (i : Nat) (o : Oper) : Prop :=
  ∀ a w, AvailW ops Grow V a0 w0 i o a w → o.wp P a w (Done Grow V i o a w) Q

def AllStepsW (P : Program) (ops : Array Oper) (Q : Exit → Act → World → Prop) (Grow : World → World → Prop) (V : Nat → Value → World → Prop) (a0 : Act) (w0 : World) : List Oper → Nat → Prop
  | [], _ => True
  | o :: os, i => StepAtW P ops Q Grow V a0 w0 i o ∧ AllStepsW P ops Q Grow V a0 w0 os (i + 1)

theorem allSteps_atW {Grow : World → World → Prop} {V : Nat → Value → World → Prop} {a0 : Act} {w0 : World} : ∀ (l : List Oper) (i : Nat), AllStepsW P ops Q Grow V a0 w0 l i → ∀ (j : Nat) (o : Oper), l[j]? = some o → StepAtW P ops Q Grow V a0 w0 (i + j) o
  | [], _, _, j, o, h => by simp at h
  | x :: l, i, hs, 0, o, h => by simp at h; subst h; exact hs.1
  | x :: l, i, hs, j + 1, o, h => by
    have := allSteps_atW l (i + 1) hs.2 j o (by simpa using h)
    rw [show i + (j + 1) = i + 1 + j from by omega]
    exact this

/-- All that holds while the operations go by. -/
structure InvW (ops : Array Oper) (Grow : World → World → Prop) (V : Nat → Value → World → Prop) (a0 : Act) (w0 : World) (listed : Array Bool) (a : Act) (w : World) : Prop where
  size : a.tmps.size = a0.tmps.size
  defers : a.defers = a0.defers
  len : listed.size = ops.size
  down : ∀ (k : Nat) (o : Oper), ops[k]? = some o → listed.getD k false = true → ∀ e ∈ o.after, Region.binds .any e = true → listed.getD e.on false = true
  vals : ∀ (k : Nat) (o : Oper) (d : Nat), ops[k]? = some o → listed.getD k false = true → o.dst = some d → V k (a.tmps.getD d undef) w
  out : ∀ (t : Nat), (∀ (k : Nat) (o : Oper), ops[k]? = some o → o.dst = some t → listed.getD k false = false) → a.tmps.getD t undef = a0.tmps.getD t undef
  grow : Grow w0 w

theorem wpAny_invW {Grow : World → World → Prop} {V : Nat → Value → World → Prop} {a0 : Act} {w0 : World}
    (htrans : ∀ {x y z : World}, Grow x y → Grow y z → Grow x z) (hstab : ∀ (i : Nat) (v : Value) (x y : World), Grow x y → V i v x → V i v y)
    (hguard : ∀ (i : Nat) (o : Oper), ops[i]? = some o → o.guard = none) (hbind : ∀ (i : Nat) (o : Oper), ops[i]? = some o → ∀ e ∈ o.after, Region.binds .any e = true → e.on < i)
    (hdst : ∀ (i j : Nat) (o o' : Oper) (d : Nat), ops[i]? = some o → ops[j]? = some o' → o.dst = some d → o'.dst = some d → i = j) (hin : ∀ (i : Nat) (o : Oper) (d : Nat), ops[i]? = some o → o.dst = some d → d < a0.tmps.size)
    (hsteps : ∀ (i : Nat) (o : Oper), ops[i]? = some o → StepAtW P ops Q Grow V a0 w0 i o)
    (hfin : ∀ a w, InvW ops Grow V a0 w0 (Array.replicate ops.size true) a w → Q .normal a w) :
    ∀ (fuel : Nat) (listed : Array Bool) (a : Act) (w : World), (listed.toList.count false) ≤ fuel → InvW ops Grow V a0 w0 listed a w → wpAny P .any ops Q fuel listed a w := by
  have hdone : ∀ (listed : Array Bool) (a : Act) (w : World), InvW ops Grow V a0 w0 listed a w → Region.ready .any ops listed = [] → Q .normal a w := by
    intro listed a w hI hr
    have hall : ∀ n k, k ≤ n → k < ops.size → listed.getD k false = true := by
      intro n
      induction n with
      | zero =>
        intro k hk hlt
        obtain rfl : k = 0 := by omega
        refine Classical.byContradiction fun hf => ?_
        have hmem : 0 ∈ Region.ready .any ops listed := by
          unfold Region.ready
          rw [List.mem_filter]
          refine ⟨by simpa using hlt, ?_⟩
          obtain ⟨o, ho⟩ : ∃ o, ops[0]? = some o := ⟨ops[0], by simp [hlt]⟩
          have hl : listed.getD 0 true = false := by
            simp only [Array.getD_eq_getD_getElem?] at hf ⊢
            have : 0 < listed.size := by rw [hI.len]; exact hlt
            simp [Array.getElem?_eq_getElem this] at hf ⊢
            exact hf
          rw [hl, ho]
          simp only [Bool.not_false, Bool.true_and, Option.map_some, Option.getD_some]
          rw [Array.all_eq_true_iff_forall_mem]
          intro e he
          cases hbe : Region.binds .any e with
          | false => rfl
          | true => have := hbind 0 o ho e he hbe; omega
        rw [hr] at hmem
        simp at hmem
      | succ n ih =>
        intro k hk hlt
        rcases Nat.lt_or_ge n k with h | h
        · obtain rfl : k = n + 1 := by omega
          refine Classical.byContradiction fun hf => ?_
          have hmem : n + 1 ∈ Region.ready .any ops listed := by
            unfold Region.ready
            rw [List.mem_filter]
            refine ⟨by simpa using hlt, ?_⟩
            obtain ⟨o, ho⟩ : ∃ o, ops[n + 1]? = some o := ⟨ops[n + 1], by simp [hlt]⟩
            have hl : listed.getD (n + 1) true = false := by
              simp only [Array.getD_eq_getD_getElem?] at hf ⊢
              have : n + 1 < listed.size := by rw [hI.len]; exact hlt
              simp [Array.getElem?_eq_getElem this] at hf ⊢
              exact hf
            rw [hl, ho]
            simp only [Bool.not_false, Bool.true_and, Option.map_some, Option.getD_some]
            rw [Array.all_eq_true_iff_forall_mem]
            intro e he
            cases hbe : Region.binds .any e with
            | false => rfl
            | true =>
              have hb := hbind (n + 1) o ho e he hbe
              rw [ih e.on (by omega) (by omega)]
              simp
          rw [hr] at hmem
          simp at hmem
        · exact ih k h hlt
    refine hfin a w ?_
    have hl : listed = Array.replicate ops.size true := by
      apply Array.ext
      · simp [hI.len]
      · intro k hk _
        have := hall k k (Nat.le_refl _) (by rw [← hI.len]; exact hk)
        simp only [Array.getD_eq_getD_getElem?, Array.getElem?_eq_getElem hk, Option.getD_some] at this
        simp [this]
    rw [← hl]; exact hI
  intro fuel
  induction fuel with
  | zero =>
    intro listed a w hc hI
    have hr : Region.ready .any ops listed = [] := by
      rw [List.eq_nil_iff_forall_not_mem]
      intro i hi
      unfold Region.ready at hi
      rw [List.mem_filter] at hi
      have h1 : listed.getD i true = false := by
        have := hi.2
        simp only [Bool.and_eq_true, Bool.not_eq_true'] at this
        exact this.1
      have hlt : i < listed.size := by rw [hI.len]; simpa using hi.1
      simp only [Array.getD_eq_getD_getElem?, Array.getElem?_eq_getElem hlt, Option.getD_some] at h1
      have : false ∈ listed.toList := by rw [← h1]; simp
      have := List.count_pos_iff.2 this
      omega
    exact ⟨hr, hdone listed a w hI hr⟩
  | succ fuel ih =>
    intro listed a w hc hI
    refine ⟨hdone listed a w hI, fun (i : Nat) hi => ?_⟩
    unfold Region.ready at hi
    rw [List.mem_filter] at hi
    obtain ⟨hi1, hi2⟩ := hi
    have hlt : i < ops.size := by simpa using hi1
    have hlt' : i < listed.size := by rw [hI.len]; exact hlt
    obtain ⟨o, ho⟩ : ∃ o, ops[i]? = some o := ⟨ops[i], by simp [hlt]⟩
    rw [ho] at hi2
    simp only [Bool.and_eq_true, Bool.not_eq_true', Option.map_some, Option.getD_some, Array.all_eq_true_iff_forall_mem] at hi2
    obtain ⟨hnl, hdeps⟩ := hi2
    have hnl' : listed.getD i false = false := by
      simp only [Array.getD_eq_getD_getElem?, Array.getElem?_eq_getElem hlt', Option.getD_some] at hnl ⊢
      exact hnl
    have hdep : ∀ e ∈ o.after, Region.binds .any e = true → listed.getD e.on false = true := by
      intro e he hbe
      have := hdeps e he
      rw [hbe] at this
      simpa using this
    unfold wpOp
    rw [ho]
    simp only [Region.wanted, hguard i o ho, if_true]
    refine .inl (Oper.wp_mono ?_ (hsteps i o ho a w ⟨fun e he hbe o' d hk hd => hI.vals e.on o' d hk (hdep e he hbe) hd, fun t ht => hI.out t (fun k o' hk hd => ?_), hI.grow⟩))
    · rintro a' w' ⟨v, rfl, hg, hv⟩
      have hget : ∀ k, (listed.setIfInBounds i true).getD k false = if k = i then true else listed.getD k false := by
        intro k
        simp only [Array.getD_eq_getD_getElem?, Array.getElem?_setIfInBounds]
        by_cases h : i = k
        · subst h; simp [hlt']
        · rw [if_neg h, if_neg (fun e => h e.symm)]
      have hput : ∀ t, (∀ d, o.dst = some d → t ≠ d) → (a.put o.dst v).tmps.getD t undef = a.tmps.getD t undef := by
        intro t ht
        cases hd : o.dst with
        | none => rfl
        | some d => rw [put_getD, if_neg (fun e => ht d hd e.1)]
      refine ih _ _ _ ?_ ⟨?_, ?_, ?_, ?_, ?_, ?_, htrans hI.grow hg⟩
      · rw [Array.toList_setIfInBounds]
        have hcount : (listed.toList.set i true).count false + 1 = listed.toList.count false := by
          have hf : listed.toList[i]'(by simpa using hlt') = false := by
            simp only [Array.getD_eq_getD_getElem?, Array.getElem?_eq_getElem hlt', Option.getD_some] at hnl
            simpa using hnl
          rw [List.count_set (by simpa using hlt'), hf]
          have hp : 0 < listed.toList.count false := List.count_pos_iff.2 (by rw [← hf]; exact List.getElem_mem _)
          show listed.toList.count false - 1 + 0 + 1 = listed.toList.count false
          omega
        omega
      · cases hd : o.dst <;> simp [Act.put, hI.size]
      · cases hd : o.dst <;> simp [Act.put, hI.defers]
      · simp [hI.len]
      · intro k o' hk hl e he hbe
        rw [hget] at hl ⊢
        split at hl
        · rename_i hki
          subst hki
          rw [ho] at hk
          cases hk
          rw [hdep e he hbe]
          simp
        · rw [hI.down k o' hk hl e he hbe]
          simp
      · intro k o' d hk hl hd
        rw [hget] at hl
        split at hl
        · rename_i hki
          subst hki
          rw [ho] at hk
          cases hk
          have hsz : d < a.tmps.size := by rw [hI.size]; exact hin k o d ho hd
          rw [hd, put_getD, if_pos ⟨rfl, hsz⟩]
          exact hv
        · rename_i hki
          rw [hput d (fun d' hd' e => hki (hdst k i o' o d hk ho hd (by rw [hd', e])))]
          exact hstab k _ _ _ hg (hI.vals k o' d hk hl hd)
      · intro t ht
        rw [hput t (fun d hd e => by
          have := ht i o ho (by rw [hd, e])
          rw [hget, if_pos rfl] at this
          cases this)]
        refine hI.out t (fun k o' hk hd => ?_)
        have := ht k o' hk hd
        rw [hget] at this
        split at this
        · cases this
        · exact this
    · obtain ⟨e, he, hbe, hon⟩ := ht k o' hk hd
      cases hl : listed.getD k false with
      | false => rfl
      | true =>
        have := hI.down k o' hk hl e he hbe
        rw [hon, hnl'] at this
        cases this

/-- The checks on a region's operations, closed. -/
def regionOkW (l : List Oper) (n : Nat) : Bool :=
  l.all (fun o => o.guard.isNone && (match o.dst with | some d => decide (d < n) | none => true)) &&
  (l.zipIdx.all fun (o, i) => o.after.all fun e => !Region.binds .any e || decide (e.on < i)) &&
  decide (l.filterMap (·.dst)).Nodup

theorem wp_region_invW {id : Nat} {l : List Oper} {a : Act} {w : World} (hm : P.follows .mixedOrders = true) (Grow : World → World → Prop) (V : Nat → Value → World → Prop)
    (hok : regionOkW l a.tmps.size = true)
    (hrefl : Grow w.drew w.drew) (htrans : ∀ {x y z : World}, Grow x y → Grow y z → Grow x z) (hstab : ∀ (i : Nat) (v : Value) (x y : World), Grow x y → V i v x → V i v y)
    (hsteps : AllStepsW P l.toArray Q Grow V a w.drew l 0)
    (hfin : ∀ y w', Grow w.drew w' → AllVals V y w' l 0 → Q .normal (putAll y l a) w') : (Code.region id l.toArray true).wp P Q a w := by
  simp only [regionOkW, Bool.and_eq_true, List.all_eq_true, decide_eq_true_eq] at hok
  obtain ⟨⟨h1, h2⟩, h3⟩ := hok
  have hidx : ∀ (i : Nat) (o : Oper), l.toArray[i]? = some o → o ∈ l := fun i o h => List.mem_of_getElem? (by simpa using h)
  refine wp_region_any hm (wpAny_invW (Grow := Grow) (V := V) (a0 := a) (w0 := w.drew) @htrans hstab (fun i o ho => ?_) (fun i o ho e he => ?_) (fun i j o o' d hi hj hd hd' => nodup_dst l h3 i j o o' d (by simpa using hi) (by simpa using hj) hd hd') (fun i o d ho hd => ?_)
    (fun i o ho => by have := allSteps_atW l 0 hsteps i o (by simpa using ho); rwa [Nat.zero_add] at this) ?_ _ _ _ _ ?_ ?_)
  · have := (h1 o (hidx i o ho)).1
    simpa using this
  · have hz : (o, i) ∈ l.zipIdx := by
      rw [List.mem_zipIdx_iff_getElem?]
      simpa using ho
    have := h2 (o, i) hz
    intro hbe
    have := Array.all_eq_true_iff_forall_mem.1 this e he
    rw [hbe] at this
    simpa using this
  · have := (h1 o (hidx i o ho)).2
    rw [hd] at this
    simpa using this
  · intro a' w' hI
    have hlist : ∀ (k : Nat) (o : Oper), l.toArray[k]? = some o → (Array.replicate l.toArray.size true).getD k false = true := by
      intro k o hk
      have : k < l.length := (List.getElem?_eq_some_iff.1 (by simpa using hk : l[k]? = some o)).1
      simp [Array.getD_eq_getD_getElem?, this]
    have ha : a' = putAll (fun t => a'.tmps.getD t undef) l a := by
      have hs := putAll_size (fun t => a'.tmps.getD t undef) l a
      have ht : a'.tmps = (putAll (fun t => a'.tmps.getD t undef) l a).tmps := by
        apply Array.ext
        · rw [hs.1, hI.size]
        · intro t ht1 ht2
          have hta : t < a.tmps.size := by rw [← hI.size]; exact ht1
          have hp := putAll_getD (fun t => a'.tmps.getD t undef) l a t hta
          have e1 : a'.tmps.getD t undef = a'.tmps[t] := by simp [Array.getD_eq_getD_getElem?, ht1]
          have e2 : (putAll (fun t => a'.tmps.getD t undef) l a).tmps.getD t undef = (putAll (fun t => a'.tmps.getD t undef) l a).tmps[t] := by rw [Array.getD_eq_getD_getElem?, Array.getElem?_eq_getElem ht2]; rfl
          rw [← e1, ← e2, hp]
          by_cases hex : ∃ o ∈ l, o.dst = some t
          · rw [if_pos hex]
          · rw [if_neg hex]
            exact hI.out t (fun k o hk hd => absurd ⟨o, hidx k o hk, hd⟩ hex)
      have hd : a'.defers = (putAll (fun t => a'.tmps.getD t undef) l a).defers := by rw [hs.2, hI.defers]
      cases a'
      simp only at ht hd ⊢
      generalize putAll _ l a = b at *
      cases b
      simp only at ht hd
      rw [ht, hd]
    rw [ha]
    refine hfin _ w' hI.grow (allVals_mk l 0 (fun j o d hj hd => ?_))
    rw [Nat.zero_add]
    exact hI.vals j o d (by simpa using hj) (hlist j o (by simpa using hj)) hd
  · simp
  · refine ⟨rfl, rfl, by simp, ?_, ?_, fun _ _ => rfl, hrefl⟩
    · intro k o hk hl
      simp [Array.getD_eq_getD_getElem?] at hl
      have : k < l.length := (List.getElem?_eq_some_iff.1 (by simpa using hk : l[k]? = some o)).1
      simp [this] at hl
    · intro k o d hk hl
      have : k < l.length := (List.getElem?_eq_some_iff.1 (by simpa using hk : l[k]? = some o)).1
      simp [Array.getD_eq_getD_getElem?, this] at hl
end
section
variable {P : Program} {l : List Oper} {Q : Exit → Act → World → Prop} {Grow : World → World → Prop} {V : Nat → Value → World → Prop} {a0 : Act} {w0 : World}
def outOkW (l : List Oper) (i t : Nat) : Bool := l.all fun o => (match o.dst with | some d => d != t | none => true) || o.after.any (fun e => Region.binds .any e && e.on == i)
theorem AvailW.at_ {i : Nat} {o : Oper} {a : Act} {w : World} (h : AvailW l.toArray Grow V a0 w0 i o a w) (t : Nat) (hok : outOkW l i t = true) {v : Value} (hv : a0.tmps.getD t undef = v) : a.tmps[t]?.getD undef = v := by
  rw [← hv, ← Array.getD_eq_getD_getElem?]
  refine h.out t (fun k o' hk hd => ?_)
  have hm : o' ∈ l := List.mem_of_getElem? (by simpa using hk)
  have := List.all_eq_true.1 hok o' hm
  rw [hd] at this
  simp only [bne_self_eq_false, Bool.false_or, Array.any_eq_true, Bool.and_eq_true] at this
  obtain ⟨j, hj, hb, he⟩ := this
  exact ⟨_, Array.getElem_mem hj, hb, by simpa using he⟩
theorem AvailW.grown {i : Nat} {o : Oper} {a : Act} {w : World} {w1 : World} (h : AvailW l.toArray Grows V a0 w1.drew i o a w) : Below w1.heap.size w1 w := ⟨h.grow.os, h.grow.tape, h.grow.output, h.grow.size, h.grow.block⟩
theorem AvailW.dep_ {i : Nat} {o : Oper} {a : Act} {w : World} (h : AvailW l.toArray Grow V a0 w0 i o a w) (e : Edge) (he : e ∈ o.after) (o' : Oper) (d : Nat) (hk : l[e.on]? = some o') (hd : o'.dst = some d) (hb : Region.binds .any e = true := by rfl) : V e.on (a.tmps[d]?.getD undef) w := by
  rw [← Array.getD_eq_getD_getElem?]
  exact h.dep e he hb o' d (by simpa using hk) hd
end
end Go.Proofs.YtcdcjoofcbdilaaGreat

/-! Package net: Take. -/
namespace Go.Proofs.YtcdcjoofcbdilaaGreat
open Go.RowKit

/-- A message was taken, or looked at. -/
def GotPost (W : World) (q : NetP) (to : Int) (b : List UInt8) (ok : Bool) (s' : NetS) (e : Ending) (w' : World) : Prop :=
  ∃ v, e = .returned (.tuple #[.int .i64 to, v, .bool ok]) ∧ Own8 w' W.heap.size 5 v b ∧ ∃ q', NetAt w' q' s' ∧ q'.N = q.N ∧ (∀ g, q'.all g → q.all g ∨ W.heap.size ≤ g) ∧ Ext q.all W w' ∧ ∀ g, v.ownBlock = some g → ¬ q'.all g
section
variable {W w2 : World} {q : NetP} {s : NetS}
theorem NetAt.row_at (h : NetAt W q s) {k : Nat} {m : Int × List UInt8} (hk : s.late[k]? = some m) : ∃ rs va vc, MsAt W q.tv q.mo rs s.late ∧ rs[k]? = some (m.1, .slice va m.2.length vc) ∧ Bs W (.slice va m.2.length vc) m.2 ∧ m.2.length ≤ 1000000 ∧ ∀ g, (Value.slice va m.2.length vc).ownBlock = some g → q.mo g ∧ q.tv.ownBlock ≠ some g := by
  obtain ⟨rs, hm⟩ := h.ms
  have hl : k < rs.length := by have := (List.getElem?_eq_some_iff.1 hk).1; have := hm.len; omega
  obtain ⟨a1, a2, a3, a4⟩ := hm.at_ k m rs[k] hk (by simp)
  obtain ⟨va, vc, e⟩ := a2.form
  refine ⟨rs, va, vc, hm, ?_, e ▸ a2, a3, fun g hg => a4 g (by rw [e]; exact hg)⟩
  rw [List.getElem?_eq_getElem hl, ← a1, ← e]
/-- A row was taken from. -/
theorem NetAt.taken (h : NetAt W q s) {rs : List (Int × Value)} (hm : MsAt W q.tv q.mo rs s.late) {k : Nat} {tv' : Value} (h1 : Blk w2 q.N #[q.lv, tv', .bool true] 56) (h2 : OwnM w2 0 tv' (rs.eraseIdx k)) (h3 : tv'.ownBlock = q.tv.ownBlock) (h4 : Ext (fun b => b = q.N ∨ q.tv.ownBlock = some b) W w2) :
    NetAt w2 ⟨q.N, q.lv, tv', q.mo⟩ ⟨s.luck, s.late.eraseIdx k⟩ ∧ (∀ b, (⟨q.N, q.lv, tv', q.mo⟩ : NetP).all b → q.all b) ∧ Ext q.all W w2 := by
  refine ⟨⟨h1, h.luck.ext h4 (fun k hk hc => ?_), ⟨_, hm.gone h2 h3 h4 (fun b hb hc => hc.elim (fun e => absurd (e ▸ hb) h.nmo) id)⟩, h.lvd, h.nmo⟩, fun b hb => hb, h4.mono (fun b _ hb => hb.elim .inl (fun e => .inr (.inr (hm.own b e))))⟩
  rcases hc with e | e
  · exact (h.lvd k hk).1 e
  · exact (h.lvd k hk).2 (hm.own k e)

set_option maxRecDepth 100000 in
set_option maxHeartbeats 6400000 in
theorem net_Take (h : NetAt W q s) (k : Nat) (to : Int) (b : List UInt8) (hk : s.late[k]? = some (to, b)) :
    Calls Tryz.prog 37 #[.pointer (some ⟨q.N, 0, none⟩), .int .i64 (k : Int)] W (GotPost W q to b true ⟨s.luck, s.late.eraseIdx k⟩) := by
  obtain ⟨rs, va, vc, hm, hr, hb, hbl, hvo⟩ := h.row_at hk
  simp only at hr hb hbl hvo
  have HN := hid (net_none h.net)
  have HT := hid (mrow_take rs k to va b.length vc h.net hm.row hm.slicy (fun e => h.nmo (hm.own _ e)) hr)
  have HH := hid (And.intro h (And.intro hm (And.intro hb hvo)))
  clear h hm hr hb hvo hk
  go_enter Tryz.func37, Tryz.ntmps37
  go_wp2_with fail
  refine HN.out.mono ?_
  rintro e Wx ⟨rfl, hw⟩
  rw [hw]
  clear hw Wx
  go_wp2_with fail
  refine HT.out.mono ?_
  rintro e W2 ⟨rfl, tv', k1, k2, k3, k4⟩
  obtain ⟨a1, a2, a3⟩ := HH.out.1.taken HH.out.2.1 k1 k2 k3 k4
  have hv2 : Bs W2 (.slice va b.length vc) b := HH.out.2.2.1.ext k4 (fun g hg _ hc => by
    rcases hc with e | e
    · exact HH.out.1.nmo (e ▸ (HH.out.2.2.2 g hg).1)
    · exact (HH.out.2.2.2 g hg).2 e)
  go_upto_region 4 with fail
  obtain ⟨T7, hT7⟩ : ∃ T, W2.heap.size = T := ⟨_, rfl⟩
  have hx3 : Below W2.heap.size W2 (W2.alloc (.cells #[.int .i64 to, .slice va b.length vc] 130)) := (Below.refl _ _).alloc (Nat.le_refl _) _
  have k3 : Blk (W2.alloc (.cells #[.int .i64 to, .slice va b.length vc] 130)) W2.heap.size #[.int .i64 to, .slice va b.length vc] 130 := Blk.new _ _ _
  rw [hT7] at k3 ⊢
  generalize W2.alloc (.cells #[.int .i64 to, .slice va b.length vc] 130) = W3 at *
  have HT7 := hid k3
  have HV7 := hid (hv2.keep hx3)
  have HFIN := hid (show ∀ v w', Own8 w' W3.heap.size 5 v b → Below W3.heap.size W3 w' → Own8 w' W.heap.size 5 v b ∧ ∃ q', NetAt w' q' ⟨s.luck, s.late.eraseIdx k⟩ ∧ q'.N = q.N ∧ (∀ g, q'.all g → q.all g ∨ W.heap.size ≤ g) ∧ Ext q.all W w' ∧ ∀ g, v.ownBlock = some g → ¬ q'.all g from fun v w' ho hb9 => by
    have hsz := hx3.size
    have hs2 := a3.size
    refine ⟨ho.mono (Nat.le_trans hs2 hsz), _, (a1.keep hx3).keep hb9, rfl, fun g hg => .inl (a2 g hg), (a3.then hx3).then hb9, fun g hg hc => ?_⟩
    have h1 := (ho.blk g hg).1
    have h2 := a1.size hc
    omega)
  clear k3 hv2 a1 a2 a3 k1 k2 k4 hx3 HT HN
  refine wp_region_invW rfl Grows (fun i v x => match i with
      | 0 => v = .pointer (some ⟨T7, 0, none⟩)
      | 1 => v = .int .i64 to
      | 2 => v = .pointer (some ⟨T7, 1, none⟩)
      | 3 => v = .slice va b.length vc
      | 4 => Own8 x W3.heap.size 5 v b
      | 5 => v = .bool true
      | 6 => v = .int .i64 to
      | 7 => Own8 x W3.heap.size 5 v b
      | 8 => v = .bool true
      | _ => True) (by kernel_rfl) (Grows.refl _) Grows.trans ?rstab ?rsteps ?rfin
  case rstab =>
    intro i v x y hg h
    match i with
    | 0 | 1 | 2 | 3 | 5 | 6 | 8 => exact h
    | 4 => exact (h.keep ⟨hg.os, hg.tape, hg.output, hg.size, hg.block⟩)
    | 7 => exact (h.keep ⟨hg.os, hg.tape, hg.output, hg.size, hg.block⟩)
    | n + 9 => trivial
  case rsteps =>
    refine ⟨?_, ?_, ?_, ?_, ?_, ?_, ?_, ?_, ?_, trivial⟩
    · intro a x hA
      have t7 := hA.at_ 7 (by first | rfl | kernel_rfl) rfl
      refine step_value (w' := x) (v := .pointer (some ⟨T7, 0, none⟩)) ?_ (Grows.refl _) ?_
      · go_simp
      · rfl
    · intro a x hA
      have t18 : a.tmps[18]?.getD undef = .pointer (some ⟨T7, 0, none⟩) := hA.dep_ ⟨0, .data⟩ (by simp) _ 18 rfl rfl
      have hBx := HT7.out.keep hA.grown
      have hc0 := hBx.cell (o := 0) rfl
      have hc1 := hBx.cell (o := 1) rfl
      clear hBx
      refine step_value (w' := x) (v := .int .i64 to) ?_ (Grows.refl _) ?_
      · go_simp
      · rfl
    · intro a x hA
      have t7 := hA.at_ 7 (by first | rfl | kernel_rfl) rfl
      refine step_value (w' := x) (v := .pointer (some ⟨T7, 1, none⟩)) ?_ (Grows.refl _) ?_
      · go_simp
      · rfl
    · intro a x hA
      have t20 : a.tmps[20]?.getD undef = .pointer (some ⟨T7, 1, none⟩) := hA.dep_ ⟨2, .data⟩ (by simp) _ 20 rfl rfl
      have hBx := HT7.out.keep hA.grown
      have hc0 := hBx.cell (o := 0) rfl
      have hc1 := hBx.cell (o := 1) rfl
      clear hBx
      refine step_value (w' := x) (v := .slice va b.length vc) ?_ (Grows.refl _) ?_
      · go_simp
      · rfl
    · intro a x hA
      have t21 : a.tmps[21]?.getD undef = .slice va b.length vc := hA.dep_ ⟨3, .data⟩ (by simp) _ 21 rfl rfl
      have hvx := HV7.out.keep hA.grown
      have hsz := hA.grown.size
      refine step_call (f := 62) (args := #[.slice va b.length vc]) (by clear hvx hsz; go_simp) ((slices_Clone _ b x hvx (by omega)).mono ?_)
      rintro e w' ⟨v', rfl, hb, ho, hbb⟩
      exact ⟨_, rfl, hbb, ho.mono hsz⟩
    · intro a x hA
      have t6 := hA.at_ 6 (by first | rfl | kernel_rfl) rfl
      refine step_value (w' := x) (v := .bool true) ?_ (Grows.refl _) ?_
      · go_simp
      · rfl
    · intro a x hA
      have t19 : a.tmps[19]?.getD undef = .int .i64 to := hA.dep_ ⟨1, .data⟩ (by simp) _ 19 rfl rfl
      refine step_value (w' := x) (v := .int .i64 to) ?_ (Grows.refl _) ?_
      · go_simp
      · rfl
    · intro a x hA
      have t22 : Own8 x W3.heap.size 5 (a.tmps[22]?.getD undef) b := hA.dep_ ⟨4, .data⟩ (by simp) _ 22 rfl rfl
      have o22 := t22
      obtain ⟨a8, c8, e8⟩ := o22.form
      refine step_value (w' := x) (v := .slice a8 b.length c8) ?_ (Grows.refl _) (by rw [e8] at o22; exact o22)
      clear o22 hA
      go_simp
    · intro a x hA
      have t23 : a.tmps[23]?.getD undef = .bool true := hA.dep_ ⟨5, .data⟩ (by simp) _ 23 rfl rfl
      refine step_value (w' := x) (v := .bool true) ?_ (Grows.refl _) ?_
      · go_simp
      · rfl
  case rfin =>
    intro y W' hg hV
    simp only [List.take_succ_cons, List.take_zero, AllVals] at hV
    obtain ⟨-, -, -, -, -, -, e1, o4, e6, -⟩ := hV
    have hb1 := grows_below hg
    clear hg
    obtain ⟨a8, c8, e8⟩ := o4.form
    rw [e8] at o4
    simp only [List.take_succ_cons, List.take_zero, List.drop_succ_cons, List.drop_zero, putAll, Act.put, List.setIfInBounds_toArray, List.set_cons_zero, List.set_cons_succ]
    rw [e1, e8, e6]
    clear e1 e8 e6
    have HO4 := hid (And.intro o4 hb1)
    clear o4 hb1
    go_wp2_with fail
    go_ret3
    exact ⟨_, rfl, HFIN.out _ _ HO4.out.1 HO4.out.2⟩
end
end Go.Proofs.YtcdcjoofcbdilaaGreat

/-! Package acceptor: in, right, truth, low, body. -/
namespace Go.Proofs.YtcdcjoofcbdilaaGreat
open Go.RowKit

theorem ret_boolA {a b : Bool} (h : a = b) : Ending.returned (.bool a) = .returned (.bool b) := by rw [h]
set_option maxRecDepth 100000 in
set_option maxHeartbeats 1600000 in
theorem acc_in (n least : Int) (W : World) :
    Calls Tryz.prog 95 #[.int .i64 n, .int .i64 least] W fun e w' => e = .returned (.bool (decide (least ≤ n ∧ n < 281474976710656))) ∧ w' = W := by
  go_enter Tryz.func95, Tryz.ntmps95
  go_wp2_with fail
  all_goals go_ret
  all_goals (refine ⟨ret_boolA (Bool.eq_iff_iff.2 ?_), rfl⟩)
  all_goals (try simp only [beq_iff_eq, beq_eq_false_iff_ne, ne_eq, bne_iff_ne, bne_eq_false_iff_eq] at *)
  all_goals (simp; omega)

set_option maxRecDepth 100000 in
set_option maxHeartbeats 6400000 in
theorem acc_ask_right (k key ver bal : Int) (av : Option Addr) (n cv : Nat) (W : World) (hn : n ≤ 9223372036854775807) :
    Calls Tryz.prog 56 #[.agg #[.int .i64 k, .int .i64 key, .int .i64 ver, .int .i64 bal, .slice av n cv]] W fun e w' => e = .returned (.bool (askOk k key ver bal n)) ∧ Below W.heap.size W w' := by
  go_enter Tryz.func56, Tryz.ntmps56
  go_wp2_with fail
  iterate 5 (all_goals (try (refine (acc_in _ _ _).mono ?_; rintro e Wx ⟨rfl, hw⟩; rw [hw]; clear hw Wx; go_wp2_with fail)))
  all_goals go_ret
  all_goals (refine ⟨ret_boolA (Bool.eq_iff_iff.2 ?_), (Below.refl _ _).alloc (Nat.le_refl _) _⟩)
  all_goals (try simp only [beq_iff_eq, beq_eq_false_iff_ne, ne_eq, bne_iff_ne, bne_eq_false_iff_eq, decide_eq_true_eq, decide_eq_false_iff_not] at *)
  all_goals (simp [askOk]; omega)

set_option maxRecDepth 100000 in
set_option maxHeartbeats 6400000 in
theorem acc_ans_right (er ver pr ba : Int) (le : Bool) (av : Option Addr) (n cv : Nat) (W : World) (hn : n ≤ 9223372036854775807) :
    Calls Tryz.prog 69 #[.agg #[.int .i64 er, .int .i64 ver, .int .i64 pr, .int .i64 ba, .bool le, .slice av n cv]] W fun e w' => e = .returned (.bool (ansOk er ver pr ba n)) ∧ Below W.heap.size W w' := by
  go_enter Tryz.func69, Tryz.ntmps69
  go_wp2_with fail
  iterate 5 (all_goals (try (refine (acc_in _ _ _).mono ?_; rintro e Wx ⟨rfl, hw⟩; rw [hw]; clear hw Wx; go_wp2_with fail)))
  all_goals go_ret
  all_goals (refine ⟨ret_boolA (Bool.eq_iff_iff.2 ?_), (Below.refl _ _).alloc (Nat.le_refl _) _⟩)
  all_goals (try simp only [beq_iff_eq, beq_eq_false_iff_ne, ne_eq, bne_iff_ne, bne_eq_false_iff_eq, decide_eq_true_eq, decide_eq_false_iff_not] at *)
  all_goals (simp [ansOk]; omega)

set_option maxHeartbeats 800000 in
theorem acc_truth (b : Bool) (W : World) : Calls Tryz.prog 108 #[.bool b] W fun e w' => e = .returned (.int .u8 (bit b)) ∧ w' = W := by
  cases b
  · go_enter Tryz.func108, Tryz.ntmps108
    go_wp2_with fail
    go_ret
    exact ⟨rfl, rfl⟩
  · go_enter Tryz.func108, Tryz.ntmps108
    go_wp2_with fail
    go_ret
    exact ⟨rfl, rfl⟩

def flat6 (ns : List Int) : List UInt8 := ns.flatMap (fun n => lowB n 6)
theorem flat6_take (ns : List Int) (j : Nat) (x : Int) (h : ns[j]? = some x) : flat6 (ns.take (j + 1)) = flat6 (ns.take j) ++ lowB x 6 := by
  unfold flat6
  rw [List.take_add_one, h]
  simp
theorem flat6_len (ns : List Int) : (flat6 ns).length = 6 * ns.length := by
  induction ns with
  | nil => rfl
  | cons x l ih => simp [flat6, lowB_length] at *; omega
set_option maxRecDepth 100000 in
set_option maxHeartbeats 1600000 in
theorem acc_low (g n c : Nat) (ns : List Int) (W : World) (hn : n = ns.length) (hm : ns.length ≤ 8) (hc : ∀ i x, ns[i]? = some x → W.cell? ⟨g, i, none⟩ = some (.int .i64 x)) (hb : ∀ x ∈ ns, 0 ≤ x ∧ x < 281474976710656) :
    Calls Tryz.prog 59 #[.slice (some ⟨g, 0, none⟩) n c] W fun e w' => ∃ v, e = .returned v ∧ Own8 w' W.heap.size 5 v (flat6 ns) ∧ Below W.heap.size W w' := by
  subst hn
  obtain ⟨i0, hi, hz0, hz1, hz2⟩ := info_parts info_u8
  have HC := hid hc
  have HB := hid hb
  clear hc hb
  go_enter Tryz.func59, Tryz.ntmps59
  go_wp2_with fail
  go_loopw [3, 10] (fun v i wr => ∃ j : Nat, j ≤ ns.length ∧ i = .int .i64 j ∧ Own8 wr W.heap.size 5 v (flat6 (ns.take j)) ∧ Below W.heap.size W wr) (fun _ i _ => ns.length - (intOf i).toNat)
  case atStart => exact ⟨0, by omega, rfl, Own8.nil _ _ _, Below.refl _ _⟩
  case round =>
    obtain ⟨j, hj, rfl, ho, hbl⟩ := hrel
    by_cases hlt : j < ns.length
    · obtain ⟨x, hx⟩ : ∃ x, ns[j]? = some x := ⟨ns[j], by simp⟩
      have hcell : wr.cell? ⟨g, j, none⟩ = some (.int .i64 x) := ext_cell (HC.out j x hx) (fp := nofp) (Ext.ofBelow (hbl.mono (Nat.le_refl _))) (fun h => h)
      obtain ⟨hx0, hx1⟩ := HB.out x (List.mem_of_getElem? hx)
      have HE := hid (flat6_take ns j x hx)
      have hlen : (flat6 (ns.take j)).length ≤ 48 := by rw [flat6_len]; simp; omega
      have HO := hid (And.intro ho hbl)
      clear hx ho hbl
      go_wp2_with fail
      refine (wire_Put x 6 wr hx0 (by omega) (by omega) (by simpa using hx1)).mono ?_
      rintro e W2 ⟨v2, rfl, o2, b2⟩
      have o1 := HO.out.1.keep b2
      have hb2 := HO.out.2.trans (b2.mono HO.out.2.size)
      have s2 := o2.bs
      have hl6 := lowB_length x 6
      clear o2 b2 HO hcell
      go_wp2_with (at_builtin; refine wpList_append8 Tryz.underlying30 hi hz0 hz1 hz2 rfl _ _ rfl W.heap.size rfl rfl o1 s2 (by simp; omega) hb2.size ?_; intro v' w1 ho' hg _)
      go_roundw
      case rel => exact ⟨j + 1, by omega, by go_num, by rw [HE.out]; exact ho', hb2.grown hg hb2.size (fun k hk => (o1.blk k hk).1)⟩
      case measure => simp [intOf]; omega
    · obtain rfl : j = ns.length := by omega
      rw [List.take_length] at ho
      have hd : decide ((ns.length : Int) < (ns.length : Int)) = false := by simp
      go_wp2_with fail
      go_ret
      exact ⟨_, rfl, ho, hbl⟩
end Go.Proofs.YtcdcjoofcbdilaaGreat
