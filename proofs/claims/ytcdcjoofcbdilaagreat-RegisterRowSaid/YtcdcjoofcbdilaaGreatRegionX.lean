import Derived.Test.YtcdcjoofcbdilaaGreatStage
/-! XRegionW's rule, where an operation's word may speak of slots that were filled ahead of it, and operations that yield nothing have words too. No program is named here. -/
namespace Go.Proofs.YtcdcjoofcbdilaaGreat
open Go.RowKit

section
variable {P : Program} {ops : Array Oper} {Q : Exit → Act → World → Prop}

/-- What an operation may take for granted. -/
structure AvailX (ops : Array Oper) (Grow : World → World → Prop) (refs : Nat → List Nat) (V : Nat → List Value → Value → World → Prop) (a0 : Act) (w0 : World) (i : Nat) (o : Oper) (a : Act) (w : World) : Prop where
  dep : ∀ e ∈ o.after, Region.binds .any e = true → ∀ (o' : Oper), ops[e.on]? = some o' → ∃ v, (∀ d, o'.dst = some d → v = a.tmps.getD d undef) ∧ V e.on (tms a (refs e.on)) v w
  out : ∀ (t : Nat), (∀ (k : Nat) (o' : Oper), ops[k]? = some o' → o'.dst = some t → ∃ e ∈ o'.after, Region.binds .any e = true ∧ e.on = i) → a.tmps.getD t undef = a0.tmps.getD t undef
  grow : Grow w0 w

def StepAtX (P : Program) (ops : Array Oper) (Q : Exit → Act → World → Prop) (Grow : World → World → Prop) (refs : Nat → List Nat) (V : Nat → List Value → Value → World → Prop) (a0 : Act) (w0 : World) (i : Nat) (o : Oper) : Prop :=
  ∀ a w, AvailX ops Grow refs V a0 w0 i o a w → o.wp P a w (Done Grow (fun i v w => V i (tms a (refs i)) v w) i o a w) Q

def AllStepsX (P : Program) (ops : Array Oper) (Q : Exit → Act → World → Prop) (Grow : World → World → Prop) (refs : Nat → List Nat) (V : Nat → List Value → Value → World → Prop) (a0 : Act) (w0 : World) : List Oper → Nat → Prop
  | [], _ => True
  | o :: os, i => StepAtX P ops Q Grow refs V a0 w0 i o ∧ AllStepsX P ops Q Grow refs V a0 w0 os (i + 1)

theorem allSteps_atX {Grow : World → World → Prop} {refs : Nat → List Nat} {V : Nat → List Value → Value → World → Prop} {a0 : Act} {w0 : World} : ∀ (l : List Oper) (i : Nat), AllStepsX P ops Q Grow refs V a0 w0 l i → ∀ (j : Nat) (o : Oper), l[j]? = some o → StepAtX P ops Q Grow refs V a0 w0 (i + j) o
  | [], _, _, j, o, h => by simp at h
  | x :: l, i, hs, 0, o, h => by simp at h; subst h; exact hs.1
  | x :: l, i, hs, j + 1, o, h => by
    have := allSteps_atX l (i + 1) hs.2 j o (by simpa using h)
    rw [show i + (j + 1) = i + 1 + j from by omega]
    exact this

/-- All that holds while the operations go by. -/
structure InvX (ops : Array Oper) (Grow : World → World → Prop) (refs : Nat → List Nat) (V : Nat → List Value → Value → World → Prop) (a0 : Act) (w0 : World) (listed : Array Bool) (a : Act) (w : World) : Prop where
  size : a.tmps.size = a0.tmps.size
  defers : a.defers = a0.defers
  len : listed.size = ops.size
  down : ∀ (k : Nat) (o : Oper), ops[k]? = some o → listed.getD k false = true → ∀ e ∈ o.after, Region.binds .any e = true → listed.getD e.on false = true
  vals : ∀ (k : Nat) (o : Oper), ops[k]? = some o → listed.getD k false = true → ∃ v, (∀ d, o.dst = some d → v = a.tmps.getD d undef) ∧ V k (tms a (refs k)) v w
  out : ∀ (t : Nat), (∀ (k : Nat) (o : Oper), ops[k]? = some o → o.dst = some t → listed.getD k false = false) → a.tmps.getD t undef = a0.tmps.getD t undef
  grow : Grow w0 w

theorem wpAny_invX {Grow : World → World → Prop} {refs : Nat → List Nat} {V : Nat → List Value → Value → World → Prop} {a0 : Act} {w0 : World}
    (htrans : ∀ {x y z : World}, Grow x y → Grow y z → Grow x z) (hstab : ∀ (i : Nat) (ts : List Value) (v : Value) (x y : World), Grow x y → V i ts v x → V i ts v y)
    (hguard : ∀ (i : Nat) (o : Oper), ops[i]? = some o → o.guard = none) (hbind : ∀ (i : Nat) (o : Oper), ops[i]? = some o → ∀ e ∈ o.after, Region.binds .any e = true → e.on < i)
    (hdst : ∀ (i j : Nat) (o o' : Oper) (d : Nat), ops[i]? = some o → ops[j]? = some o' → o.dst = some d → o'.dst = some d → i = j) (hin : ∀ (i : Nat) (o : Oper) (d : Nat), ops[i]? = some o → o.dst = some d → d < a0.tmps.size)
    (hrefs : ∀ (i i' : Nat) (o' : Oper) (t : Nat), i < ops.size → t ∈ refs i → ops[i']? = some o' → o'.dst = some t → reachB ops.toList ops.toList.length i i' = true)
    (hsteps : ∀ (i : Nat) (o : Oper), ops[i]? = some o → StepAtX P ops Q Grow refs V a0 w0 i o)
    (hfin : ∀ a w, InvX ops Grow refs V a0 w0 (Array.replicate ops.size true) a w → Q .normal a w) :
    ∀ (fuel : Nat) (listed : Array Bool) (a : Act) (w : World), (listed.toList.count false) ≤ fuel → InvX ops Grow refs V a0 w0 listed a w → wpAny P .any ops Q fuel listed a w := by
  have hdone : ∀ (listed : Array Bool) (a : Act) (w : World), InvX ops Grow refs V a0 w0 listed a w → Region.ready .any ops listed = [] → Q .normal a w := by
    intro listed a w hI hr
    have hall : ∀ n k, k ≤ n → k < ops.size → listed.getD k false = true := by
      intro n
      induction n with
      | zero =>
        intro k hk hlt
        obtain rfl : k = 0 := by omega
        refine Classical.byContradiction fun hf => ?_
        have hmem : 0 ∈ Region.ready .any ops listed := by
          unfold Region.ready
          rw [List.mem_filter]
          refine ⟨by simpa using hlt, ?_⟩
          obtain ⟨o, ho⟩ : ∃ o, ops[0]? = some o := ⟨ops[0], by simp [hlt]⟩
          have hl : listed.getD 0 true = false := by
            simp only [Array.getD_eq_getD_getElem?] at hf ⊢
            have : 0 < listed.size := by rw [hI.len]; exact hlt
            simp [Array.getElem?_eq_getElem this] at hf ⊢
            exact hf
          rw [hl, ho]
          simp only [Bool.not_false, Bool.true_and, Option.map_some, Option.getD_some]
          rw [Array.all_eq_true_iff_forall_mem]
          intro e he
          cases hbe : Region.binds .any e with
          | false => rfl
          | true => have := hbind 0 o ho e he hbe; omega
        rw [hr] at hmem
        simp at hmem
      | succ n ih =>
        intro k hk hlt
        rcases Nat.lt_or_ge n k with h | h
        · obtain rfl : k = n + 1 := by omega
          refine Classical.byContradiction fun hf => ?_
          have hmem : n + 1 ∈ Region.ready .any ops listed := by
            unfold Region.ready
            rw [List.mem_filter]
            refine ⟨by simpa using hlt, ?_⟩
            obtain ⟨o, ho⟩ : ∃ o, ops[n + 1]? = some o := ⟨ops[n + 1], by simp [hlt]⟩
            have hl : listed.getD (n + 1) true = false := by
              simp only [Array.getD_eq_getD_getElem?] at hf ⊢
              have : n + 1 < listed.size := by rw [hI.len]; exact hlt
              simp [Array.getElem?_eq_getElem this] at hf ⊢
              exact hf
            rw [hl, ho]
            simp only [Bool.not_false, Bool.true_and, Option.map_some, Option.getD_some]
            rw [Array.all_eq_true_iff_forall_mem]
            intro e he
            cases hbe : Region.binds .any e with
            | false => rfl
            | true =>
              have hb := hbind (n + 1) o ho e he hbe
              rw [ih e.on (by omega) (by omega)]
              simp
          rw [hr] at hmem
          simp at hmem
        · exact ih k h hlt
    refine hfin a w ?_
    have hl : listed = Array.replicate ops.size true := by
      apply Array.ext
      · simp [hI.len]
      · intro k hk _
        have := hall k k (Nat.le_refl _) (by rw [← hI.len]; exact hk)
        simp only [Array.getD_eq_getD_getElem?, Array.getElem?_eq_getElem hk, Option.getD_some] at this
        simp [this]
    rw [← hl]; exact hI
  intro fuel
  induction fuel with
  | zero =>
    intro listed a w hc hI
    have hr : Region.ready .any ops listed = [] := by
      rw [List.eq_nil_iff_forall_not_mem]
      intro i hi
      unfold Region.ready at hi
      rw [List.mem_filter] at hi
      have h1 : listed.getD i true = false := by
        have := hi.2
        simp only [Bool.and_eq_true, Bool.not_eq_true'] at this
        exact this.1
      have hlt : i < listed.size := by rw [hI.len]; simpa using hi.1
      simp only [Array.getD_eq_getD_getElem?, Array.getElem?_eq_getElem hlt, Option.getD_some] at h1
      have : false ∈ listed.toList := by rw [← h1]; simp
      have := List.count_pos_iff.2 this
      omega
    exact ⟨hr, hdone listed a w hI hr⟩
  | succ fuel ih =>
    intro listed a w hc hI
    refine ⟨hdone listed a w hI, fun (i : Nat) hi => ?_⟩
    unfold Region.ready at hi
    rw [List.mem_filter] at hi
    obtain ⟨hi1, hi2⟩ := hi
    have hlt : i < ops.size := by simpa using hi1
    have hlt' : i < listed.size := by rw [hI.len]; exact hlt
    obtain ⟨o, ho⟩ : ∃ o, ops[i]? = some o := ⟨ops[i], by simp [hlt]⟩
    rw [ho] at hi2
    simp only [Bool.and_eq_true, Bool.not_eq_true', Option.map_some, Option.getD_some, Array.all_eq_true_iff_forall_mem] at hi2
    obtain ⟨hnl, hdeps⟩ := hi2
    have hnl' : listed.getD i false = false := by
      simp only [Array.getD_eq_getD_getElem?, Array.getElem?_eq_getElem hlt', Option.getD_some] at hnl ⊢
      exact hnl
    have hdep : ∀ e ∈ o.after, Region.binds .any e = true → listed.getD e.on false = true := by
      intro e he hbe
      have := hdeps e he
      rw [hbe] at this
      simpa using this
    unfold wpOp
    rw [ho]
    simp only [Region.wanted, hguard i o ho, if_true]
    refine .inl (Oper.wp_mono ?_ (hsteps i o ho a w ⟨fun e he hbe o' hk => hI.vals e.on o' hk (hdep e he hbe), fun t ht => hI.out t (fun k o' hk hd => ?_), hI.grow⟩))
    · rintro a' w' ⟨v, rfl, hg, hv⟩
      have hget : ∀ k, (listed.setIfInBounds i true).getD k false = if k = i then true else listed.getD k false := by
        intro k
        simp only [Array.getD_eq_getD_getElem?, Array.getElem?_setIfInBounds]
        by_cases h : i = k
        · subst h; simp [hlt']
        · rw [if_neg h, if_neg (fun e => h e.symm)]
      have hput : ∀ t, (∀ d, o.dst = some d → t ≠ d) → (a.put o.dst v).tmps.getD t undef = a.tmps.getD t undef := by
        intro t ht
        cases hd : o.dst with
        | none => rfl
        | some d => rw [put_getD, if_neg (fun e => ht d hd e.1)]
      have hdownL : ∀ (k : Nat) (o : Oper), ops.toList[k]? = some o → listed.getD k false = true → ∀ e ∈ o.after, Region.binds .any e = true → listed.getD e.on false = true := fun k o hk => hI.down k o (by simpa using hk)
      have htm : ∀ (ts : List Nat), (∀ t ∈ ts, ∀ d, o.dst = some d → t ≠ d) → tms (a.put o.dst v) ts = tms a ts := by
        intro ts h
        unfold tms
        exact List.map_congr_left fun t ht => hput t (h t ht)
      have hself : ∀ t ∈ refs i, ∀ d, o.dst = some d → t ≠ d := by
        intro t ht d hd e
        subst e
        have := reachB_listed hdownL _ _ (hrefs i i o t hlt ht ho hd) (fun o' ho' e he hb => by
          have ho2 : ops[i]? = some o' := by simpa using ho'
          rw [ho] at ho2
          cases ho2
          exact hdep e he hb)
        rw [hnl'] at this
        cases this
      refine ih _ _ _ ?_ ⟨?_, ?_, ?_, ?_, ?_, ?_, htrans hI.grow hg⟩
      · rw [Array.toList_setIfInBounds]
        have hcount : (listed.toList.set i true).count false + 1 = listed.toList.count false := by
          have hf : listed.toList[i]'(by simpa using hlt') = false := by
            simp only [Array.getD_eq_getD_getElem?, Array.getElem?_eq_getElem hlt', Option.getD_some] at hnl
            simpa using hnl
          rw [List.count_set (by simpa using hlt'), hf]
          have hp : 0 < listed.toList.count false := List.count_pos_iff.2 (by rw [← hf]; exact List.getElem_mem _)
          show listed.toList.count false - 1 + 0 + 1 = listed.toList.count false
          omega
        omega
      · cases hd : o.dst <;> simp [Act.put, hI.size]
      · cases hd : o.dst <;> simp [Act.put, hI.defers]
      · simp [hI.len]
      · intro k o' hk hl e he hbe
        rw [hget] at hl ⊢
        split at hl
        · rename_i hki
          subst hki
          rw [ho] at hk
          cases hk
          rw [hdep e he hbe]
          simp
        · rw [hI.down k o' hk hl e he hbe]
          simp
      · intro k o' hk hl
        rw [hget] at hl
        split at hl
        · rename_i hki
          subst hki
          rw [ho] at hk
          cases hk
          refine ⟨v, fun d hd => ?_, ?_⟩
          · have hsz : d < a.tmps.size := by rw [hI.size]; exact hin k o d ho hd
            rw [hd, put_getD, if_pos ⟨rfl, hsz⟩]
          · rw [htm _ hself]
            exact hv
        · rename_i hki
          obtain ⟨v1, hv1, hV1⟩ := hI.vals k o' hk hl
          refine ⟨v1, fun d hd => ?_, ?_⟩
          · rw [hput d (fun d' hd' e => hki (hdst k i o' o d hk ho hd (by rw [hd', e])))]
            exact hv1 d hd
          · rw [htm _ (fun t ht d' hd' e => by
              subst e
              have hkl : k < ops.size := (Array.getElem?_eq_some_iff.1 hk).1
              have := reachB_listed hdownL _ _ (hrefs k i o t hkl ht ho hd') (fun o'' ho'' e he hb => hI.down k o'' (by simpa using ho'') hl e he hb)
              rw [hnl'] at this
              cases this)]
            exact hstab k _ _ _ _ hg hV1
      · intro t ht
        rw [hput t (fun d hd e => by
          have := ht i o ho (by rw [hd, e])
          rw [hget, if_pos rfl] at this
          cases this)]
        refine hI.out t (fun k o' hk hd => ?_)
        have := ht k o' hk hd
        rw [hget] at this
        split at this
        · cases this
        · exact this
    · obtain ⟨e, he, hbe, hon⟩ := ht k o' hk hd
      cases hl : listed.getD k false with
      | false => rfl
      | true =>
        have := hI.down k o' hk hl e he hbe
        rw [hon, hnl'] at this
        cases this

def AllValsX (refs : Nat → List Nat) (V : Nat → List Value → Value → World → Prop) (y : Nat → Value) (w : World) : List Oper → Nat → Prop
  | [], _ => True
  | o :: os, i => (match o.dst with | some d => V i ((refs i).map y) (y d) w | none => ∃ v, V i ((refs i).map y) v w) ∧ AllValsX refs V y w os (i + 1)
theorem allValsX_mk {refs : Nat → List Nat} {V : Nat → List Value → Value → World → Prop} {y : Nat → Value} {w : World} : ∀ (l : List Oper) (i : Nat), (∀ (j : Nat) (o : Oper), l[j]? = some o → ∃ v, (∀ d, o.dst = some d → v = y d) ∧ V (i + j) ((refs (i + j)).map y) v w) → AllValsX refs V y w l i
  | [], _, _ => trivial
  | x :: l, i, h => by
    refine ⟨?_, allValsX_mk l (i + 1) (fun j o hj => by
      have := h (j + 1) o (by simpa using hj)
      rwa [show i + (j + 1) = i + 1 + j from by omega] at this)⟩
    obtain ⟨v, h1, h2⟩ := h 0 x rfl
    cases hd : x.dst with
    | none => show ∃ v, V i ((refs i).map y) v w; exact ⟨v, by simpa using h2⟩
    | some d => show V i ((refs i).map y) (y d) w; rw [← h1 d hd]; simpa using h2

/-- The checks on a region's operations, closed. -/
def regionOkX (l : List Oper) (n : Nat) : Bool :=
  l.all (fun o => o.guard.isNone && (match o.dst with | some d => decide (d < n) | none => true)) &&
  (l.zipIdx.all fun (o, i) => o.after.all fun e => !Region.binds .any e || decide (e.on < i)) &&
  decide (l.filterMap (·.dst)).Nodup

theorem wp_region_invX {id : Nat} {l : List Oper} {a : Act} {w : World} (hm : P.follows .mixedOrders = true) (Grow : World → World → Prop) (refs : Nat → List Nat) (V : Nat → List Value → Value → World → Prop)
    (hok : regionOkX l a.tmps.size = true) (hrefs : refsOk l refs = true)
    (hrefl : Grow w.drew w.drew) (htrans : ∀ {x y z : World}, Grow x y → Grow y z → Grow x z) (hstab : ∀ (i : Nat) (ts : List Value) (v : Value) (x y : World), Grow x y → V i ts v x → V i ts v y)
    (hsteps : AllStepsX P l.toArray Q Grow refs V a w.drew l 0)
    (hfin : ∀ y w', Grow w.drew w' → AllValsX refs V y w' l 0 → Q .normal (putAll y l a) w') : (Code.region id l.toArray true).wp P Q a w := by
  simp only [regionOkX, Bool.and_eq_true, List.all_eq_true, decide_eq_true_eq] at hok
  obtain ⟨⟨h1, h2⟩, h3⟩ := hok
  have hidx : ∀ (i : Nat) (o : Oper), l.toArray[i]? = some o → o ∈ l := fun i o h => List.mem_of_getElem? (by simpa using h)
  refine wp_region_any hm (wpAny_invX (Grow := Grow) (refs := refs) (V := V) (a0 := a) (w0 := w.drew) @htrans hstab (fun i o ho => ?_) (fun i o ho e he => ?_) (fun i j o o' d hi hj hd hd' => nodup_dst l h3 i j o o' d (by simpa using hi) (by simpa using hj) hd hd') (fun i o d ho hd => ?_)
    (fun i i' o' t hi ht ho hd => ?_) (fun i o ho => by have := allSteps_atX l 0 hsteps i o (by simpa using ho); rwa [Nat.zero_add] at this) ?_ _ _ _ _ ?_ ?_)
  · have := (h1 o (hidx i o ho)).1
    simpa using this
  · have hz : (o, i) ∈ l.zipIdx := by
      rw [List.mem_zipIdx_iff_getElem?]
      simpa using ho
    have := h2 (o, i) hz
    intro hbe
    have := Array.all_eq_true_iff_forall_mem.1 this e he
    rw [hbe] at this
    simpa using this
  · have := (h1 o (hidx i o ho)).2
    rw [hd] at this
    simpa using this
  · unfold refsOk at hrefs
    simp only [List.all_eq_true] at hrefs
    have h9 := hrefs i (by simpa using hi) t ht (o', i') (by rw [List.mem_zipIdx_iff_getElem?]; simpa using ho)
    simp only [hd, bne_self_eq_false, Bool.false_or] at h9
    exact h9
  · intro a' w' hI
    have hlist : ∀ (k : Nat) (o : Oper), l.toArray[k]? = some o → (Array.replicate l.toArray.size true).getD k false = true := by
      intro k o hk
      have : k < l.length := (List.getElem?_eq_some_iff.1 (by simpa using hk : l[k]? = some o)).1
      simp [Array.getD_eq_getD_getElem?, this]
    have ha : a' = putAll (fun t => a'.tmps.getD t undef) l a := by
      have hs := putAll_size (fun t => a'.tmps.getD t undef) l a
      have ht : a'.tmps = (putAll (fun t => a'.tmps.getD t undef) l a).tmps := by
        apply Array.ext
        · rw [hs.1, hI.size]
        · intro t ht1 ht2
          have hta : t < a.tmps.size := by rw [← hI.size]; exact ht1
          have hp := putAll_getD (fun t => a'.tmps.getD t undef) l a t hta
          have e1 : a'.tmps.getD t undef = a'.tmps[t] := by simp [Array.getD_eq_getD_getElem?, ht1]
          have e2 : (putAll (fun t => a'.tmps.getD t undef) l a).tmps.getD t undef = (putAll (fun t => a'.tmps.getD t undef) l a).tmps[t] := by rw [Array.getD_eq_getD_getElem?, Array.getElem?_eq_getElem ht2]; rfl
          rw [← e1, ← e2, hp]
          by_cases hex : ∃ o ∈ l, o.dst = some t
          · rw [if_pos hex]
          · rw [if_neg hex]
            exact hI.out t (fun k o hk hd => absurd ⟨o, hidx k o hk, hd⟩ hex)
      have hd : a'.defers = (putAll (fun t => a'.tmps.getD t undef) l a).defers := by rw [hs.2, hI.defers]
      cases a'
      simp only at ht hd ⊢
      generalize putAll _ l a = b at *
      cases b
      simp only at ht hd
      rw [ht, hd]
    have hvals : AllValsX refs V (fun t => a'.tmps.getD t undef) w' l 0 := allValsX_mk l 0 (fun j o hj => by
      rw [Nat.zero_add]
      exact hI.vals j o (by simpa using hj) (hlist j o (by simpa using hj)))
    have hq := hfin (fun t => a'.tmps.getD t undef) w' hI.grow hvals
    rw [← ha] at hq
    exact hq
  · simp
  · refine ⟨rfl, rfl, by simp, ?_, ?_, fun _ _ => rfl, hrefl⟩
    · intro k o hk hl
      simp [Array.getD_eq_getD_getElem?] at hl
      have : k < l.length := (List.getElem?_eq_some_iff.1 (by simpa using hk : l[k]? = some o)).1
      simp [this] at hl
    · intro k o hk hl
      have : k < l.length := (List.getElem?_eq_some_iff.1 (by simpa using hk : l[k]? = some o)).1
      simp [Array.getD_eq_getD_getElem?, this] at hl
end
section
variable {P : Program} {l : List Oper} {Q : Exit → Act → World → Prop} {Grow : World → World → Prop} {refs : Nat → List Nat} {V : Nat → List Value → Value → World → Prop} {a0 : Act} {w0 : World}
def outOkX (l : List Oper) (i t : Nat) : Bool := l.all fun o => (match o.dst with | some d => d != t | none => true) || o.after.any (fun e => Region.binds .any e && e.on == i)
theorem AvailX.at_ {i : Nat} {o : Oper} {a : Act} {w : World} (h : AvailX l.toArray Grow refs V a0 w0 i o a w) (t : Nat) (hok : outOkX l i t = true) {v : Value} (hv : a0.tmps.getD t undef = v) : a.tmps[t]?.getD undef = v := by
  rw [← hv, ← Array.getD_eq_getD_getElem?]
  refine h.out t (fun k o' hk hd => ?_)
  have hm : o' ∈ l := List.mem_of_getElem? (by simpa using hk)
  have := List.all_eq_true.1 hok o' hm
  rw [hd] at this
  simp only [bne_self_eq_false, Bool.false_or, Array.any_eq_true, Bool.and_eq_true] at this
  obtain ⟨j, hj, hb, he⟩ := this
  exact ⟨_, Array.getElem_mem hj, hb, by simpa using he⟩
theorem AvailX.grown {i : Nat} {o : Oper} {a : Act} {w : World} {w1 : World} (h : AvailX l.toArray Grows refs V a0 w1.drew i o a w) : Below w1.heap.size w1 w := ⟨h.grow.os, h.grow.tape, h.grow.output, h.grow.size, h.grow.block⟩
theorem AvailX.dep_ {i : Nat} {o : Oper} {a : Act} {w : World} (h : AvailX l.toArray Grow refs V a0 w0 i o a w) (e : Edge) (he : e ∈ o.after) (o' : Oper) (d : Nat) (hk : l[e.on]? = some o') (hd : o'.dst = some d) (hb : Region.binds .any e = true := by rfl) : V e.on (tms a (refs e.on)) (a.tmps[d]?.getD undef) w := by
  obtain ⟨v, h1, h2⟩ := h.dep e he hb o' (by simpa using hk)
  have := h1 d hd
  rw [← Array.getD_eq_getD_getElem?, ← this]
  exact h2
theorem AvailX.dep0 {i : Nat} {o : Oper} {a : Act} {w : World} (h : AvailX l.toArray Grow refs V a0 w0 i o a w) (e : Edge) (he : e ∈ o.after) (o' : Oper) (hk : l[e.on]? = some o') (hb : Region.binds .any e = true := by rfl) : ∃ v, V e.on (tms a (refs e.on)) v w := by
  obtain ⟨v, _, h2⟩ := h.dep e he hb o' (by simpa using hk)
  exact ⟨v, h2⟩
end
end Go.Proofs.YtcdcjoofcbdilaaGreat
