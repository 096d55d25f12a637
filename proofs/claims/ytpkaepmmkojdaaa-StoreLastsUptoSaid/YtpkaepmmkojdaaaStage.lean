import Derived.Test.YtpkaepmmkojdaaaMRegionG
/-! A region that draws its order, by stages: the operations that turn the world come one behind the other, in their order; all others only read, each at any stage that its edges let. Edges that do not bind, and guards, may stand in it. No program is named here. -/
namespace Go.Proofs.Ytpkaepmmkojdaaa
open Go.RowKit

/-- Does operation i come behind operation j, by edges that bind? -/
def reachB (l : List Oper) : Nat → Nat → Nat → Bool
  | 0, _, _ => false
  | fuel + 1, i, j => match l[i]? with
    | none => false
    | some o => o.after.any fun e => Region.binds .any e && (e.on == j || reachB l fuel e.on j)

/-- May operation i run when the first k writes have run, and no other one? -/
def atStage (l : List Oper) (wr : List Nat) (i k : Nat) : Bool :=
  (List.range wr.length).all fun j => match wr[j]? with
    | none => true
    | some c => if j < k then !reachB l l.length c i else !reachB l l.length i c
def stageOk (l : List Oper) (wr : List Nat) (n : Nat) : Bool :=
  l.all (fun o => (match o.dst with | some d => decide (d < n) | none => true)) &&
  (l.zipIdx.all fun (o, i) => o.after.all fun e => !Region.binds .any e || decide (e.on < i)) &&
  decide (l.filterMap (·.dst)).Nodup &&
  ((List.range wr.length).all fun j => (List.range j).all fun j' => match wr[j]?, wr[j']? with | some c, some c' => reachB l l.length c c' | _, _ => true) &&
  decide wr.Nodup && wr.all (fun c => decide (c < l.length))

section
variable {P : Program} {Q : Exit → Act → World → Prop}

/-- What the slots of a list hold. -/
def tms (a : Act) (ts : List Nat) : List Value := ts.map fun t => a.tmps.getD t undef
/-- A word on an operation's value may speak of slots that were filled ahead of it. -/
def refsOk (l : List Oper) (refs : Nat → List Nat) : Bool :=
  (List.range l.length).all fun i => (refs i).all fun t => l.zipIdx.all fun (o, i') => o.dst != some t || reachB l l.length i i'
/-- A stage may speak of slots that its writes filled. -/
def jrefsOk (l : List Oper) (wr : List Nat) (jrefs : Nat → List Nat) : Bool :=
  (List.range (wr.length + 1)).all fun k => (jrefs k).all fun t => l.zipIdx.all fun (o, i') => o.dst != some t || (wr.take k).contains i'

structure AvailS (l : List Oper) (refs : Nat → List Nat) (V : Nat → List Value → Value → Prop) (a0 : Act) (i : Nat) (o : Oper) (a : Act) : Prop where
  dep : ∀ e ∈ o.after, Region.binds .any e = true → ∀ (o' : Oper) (d : Nat), l[e.on]? = some o' → o'.dst = some d → V e.on (tms a (refs e.on)) (a.tmps.getD d undef)
  out : ∀ (t : Nat), (∀ (k : Nat) (o' : Oper), l[k]? = some o' → o'.dst = some t → ∃ e ∈ o'.after, Region.binds .any e = true ∧ e.on = i) → a.tmps.getD t undef = a0.tmps.getD t undef
  size : a.tmps.size = a0.tmps.size

def ReadAt (P : Program) (l : List Oper) (wr : List Nat) (Q : Exit → Act → World → Prop) (refs jrefs : Nat → List Nat) (J : Nat → List Value → World → Prop) (V : Nat → List Value → Value → Prop) (a0 : Act) (i : Nat) (o : Oper) : Prop :=
  ∀ k a w, atStage l wr i k = true → J k (tms a (jrefs k)) w → AvailS l refs V a0 i o a → (Region.wanted o (yielded l.toArray a.tmps) = true ∧ o.wp P a w (fun a' w' => ∃ v, a' = a.put o.dst v ∧ w' = w ∧ V i (tms a (refs i)) v) Q) ∨ (Region.wanted o (yielded l.toArray a.tmps) = false ∧ V i (tms a (refs i)) undef)
def WriteAt (P : Program) (l : List Oper) (Q : Exit → Act → World → Prop) (refs jrefs : Nat → List Nat) (J : Nat → List Value → World → Prop) (V : Nat → List Value → Value → Prop) (a0 : Act) (i k : Nat) (o : Oper) : Prop :=
  ∀ a w, J k (tms a (jrefs k)) w → AvailS l refs V a0 i o a → Region.wanted o (yielded l.toArray a.tmps) = true ∧ o.wp P a w (fun a' w' => ∃ v, a' = a.put o.dst v ∧ J (k + 1) (tms a' (jrefs (k + 1))) w' ∧ V i (tms a (refs i)) v) Q

def AllStages (P : Program) (l : List Oper) (wr : List Nat) (Q : Exit → Act → World → Prop) (refs jrefs : Nat → List Nat) (J : Nat → List Value → World → Prop) (V : Nat → List Value → Value → Prop) (a0 : Act) : List Oper → Nat → Prop
  | [], _ => True
  | o :: os, i => (match wr.idxOf? i with | some k => WriteAt P l Q refs jrefs J V a0 i k o | none => ReadAt P l wr Q refs jrefs J V a0 i o) ∧ AllStages P l wr Q refs jrefs J V a0 os (i + 1)
theorem allStages_at {l : List Oper} {wr : List Nat} {refs jrefs : Nat → List Nat} {J : Nat → List Value → World → Prop} {V : Nat → List Value → Value → Prop} {a0 : Act} : ∀ (m : List Oper) (i : Nat), AllStages P l wr Q refs jrefs J V a0 m i → ∀ (j : Nat) (o : Oper), m[j]? = some o → (match wr.idxOf? (i + j) with | some k => WriteAt P l Q refs jrefs J V a0 (i + j) k o | none => ReadAt P l wr Q refs jrefs J V a0 (i + j) o)
  | [], i, _, j, o, h => by simp at h
  | x :: m, i, hs, 0, o, h => by simp at h; subst h; exact hs.1
  | x :: m, i, hs, j + 1, o, h => by
    have := allStages_at m (i + 1) hs.2 j o (by simpa using h)
    rw [show i + (j + 1) = i + 1 + j from by omega]
    exact this

theorem reachB_listed {l : List Oper} {listed : Array Bool} (hdown : ∀ (k : Nat) (o : Oper), l[k]? = some o → listed.getD k false = true → ∀ e ∈ o.after, Region.binds .any e = true → listed.getD e.on false = true) {j : Nat} :
    ∀ (fuel i : Nat), reachB l fuel i j = true → (∀ (o : Oper), l[i]? = some o → ∀ e ∈ o.after, Region.binds .any e = true → listed.getD e.on false = true) → listed.getD j false = true := by
  intro fuel
  induction fuel with
  | zero => intro i h; simp [reachB] at h
  | succ fuel ih =>
    intro i h hd
    unfold reachB at h
    cases ho : l[i]? with
    | none => simp [ho] at h
    | some o =>
      simp only [ho, Array.any_eq_true] at h
      obtain ⟨x, hx, he⟩ := h
      have hmem : o.after[x] ∈ o.after := Array.getElem_mem hx
      rw [Bool.and_eq_true] at he
      have hl := hd o ho _ hmem he.1
      rw [Bool.or_eq_true] at he
      rcases he.2 with h1 | h1
      · rw [← eq_of_beq h1]; exact hl
      · exact ih _ h1 (fun o' ho' e he' hb => hdown _ o' ho' hl e he' hb)

structure InvS (l : List Oper) (wr : List Nat) (refs jrefs : Nat → List Nat) (J : Nat → List Value → World → Prop) (V : Nat → List Value → Value → Prop) (a0 : Act) (listed : Array Bool) (a : Act) (w : World) : Prop where
  size : a.tmps.size = a0.tmps.size
  defers : a.defers = a0.defers
  len : listed.size = l.length
  down : ∀ (k : Nat) (o : Oper), l[k]? = some o → listed.getD k false = true → ∀ e ∈ o.after, Region.binds .any e = true → listed.getD e.on false = true
  vals : ∀ (k : Nat) (o : Oper) (d : Nat), l[k]? = some o → listed.getD k false = true → o.dst = some d → V k (tms a (refs k)) (a.tmps.getD d undef)
  out : ∀ (t : Nat), (∀ (k : Nat) (o : Oper), l[k]? = some o → o.dst = some t → listed.getD k false = false) → a.tmps.getD t undef = a0.tmps.getD t undef
  stage : ∃ k, k ≤ wr.length ∧ J k (tms a (jrefs k)) w ∧ ∀ j c, wr[j]? = some c → (listed.getD c false = true ↔ j < k)

theorem getD_set_true {listed : Array Bool} {i : Nat} (h : i < listed.size) (k : Nat) : (listed.setIfInBounds i true).getD k false = if k = i then true else listed.getD k false := by
  simp only [Array.getD_eq_getD_getElem?, Array.getElem?_setIfInBounds]
  by_cases hk : i = k
  · subst hk; simp [h]
  · rw [if_neg hk, if_neg (fun e => hk e.symm)]

theorem wpAny_stage {l : List Oper} {wr : List Nat} {refs jrefs : Nat → List Nat} {J : Nat → List Value → World → Prop} {V : Nat → List Value → Value → Prop} {a0 : Act}
    (hrefs : ∀ (i i' : Nat) (o' : Oper) (t : Nat), i < l.length → t ∈ refs i → l[i']? = some o' → o'.dst = some t → reachB l l.length i i' = true)
    (hjrefs : ∀ (k i' : Nat) (o' : Oper) (t : Nat), k ≤ wr.length → t ∈ jrefs k → l[i']? = some o' → o'.dst = some t → ∃ j, j < k ∧ wr[j]? = some i')
    (hbind : ∀ (i : Nat) (o : Oper), l[i]? = some o → ∀ e ∈ o.after, Region.binds .any e = true → e.on < i)
    (hdst : ∀ (i j : Nat) (o o' : Oper) (d : Nat), l[i]? = some o → l[j]? = some o' → o.dst = some d → o'.dst = some d → i = j) (hin : ∀ (i : Nat) (o : Oper) (d : Nat), l[i]? = some o → o.dst = some d → d < a0.tmps.size)
    (hchain : ∀ (j j' c c' : Nat), j' < j → wr[j]? = some c → wr[j']? = some c' → reachB l l.length c c' = true) (hnd : wr.Nodup) (hwl : ∀ c ∈ wr, c < l.length)
    (hsteps : ∀ (i : Nat) (o : Oper), l[i]? = some o → (match wr.idxOf? i with | some k => WriteAt P l Q refs jrefs J V a0 i k o | none => ReadAt P l wr Q refs jrefs J V a0 i o))
    (hfin : ∀ a w, InvS l wr refs jrefs J V a0 (Array.replicate l.length true) a w → Q .normal a w) :
    ∀ (fuel : Nat) (listed : Array Bool) (a : Act) (w : World), (listed.toList.count false) ≤ fuel → InvS l wr refs jrefs J V a0 listed a w → wpAny P .any l.toArray Q fuel listed a w := by
  have hready : ∀ (listed : Array Bool) (i : Nat), listed.size = l.length → (i ∈ Region.ready .any l.toArray listed ↔ i < l.length ∧ listed.getD i false = false ∧ ∀ (o : Oper), l[i]? = some o → ∀ e ∈ o.after, Region.binds .any e = true → listed.getD e.on false = true) := by
    intro listed i hlen
    unfold Region.ready
    rw [List.mem_filter]
    simp only [List.mem_range, List.size_toArray, Bool.and_eq_true, Bool.not_eq_true', List.getElem?_toArray]
    constructor
    · rintro ⟨h1, h2, h3⟩
      have hl : i < listed.size := by omega
      refine ⟨h1, ?_, fun o ho e he hb => ?_⟩
      · simp only [Array.getD_eq_getD_getElem?, Array.getElem?_eq_getElem hl, Option.getD_some] at h2 ⊢
        exact h2
      · rw [ho] at h3
        simp only [Option.map_some, Option.getD_some, Array.all_eq_true_iff_forall_mem] at h3
        have := h3 e he
        rw [hb] at this
        simpa using this
    · rintro ⟨h1, h2, h3⟩
      have hl : i < listed.size := by omega
      obtain ⟨o, ho⟩ : ∃ o, l[i]? = some o := ⟨l[i], by simp [h1]⟩
      refine ⟨h1, ?_, ?_⟩
      · simp only [Array.getD_eq_getD_getElem?, Array.getElem?_eq_getElem hl, Option.getD_some] at h2 ⊢
        exact h2
      · rw [ho]
        simp only [Option.map_some, Option.getD_some, Array.all_eq_true_iff_forall_mem]
        intro e he
        cases hb : Region.binds .any e with
        | false => simp
        | true => rw [h3 o ho e he hb]; simp
  have hdone : ∀ (listed : Array Bool) (a : Act) (w : World), InvS l wr refs jrefs J V a0 listed a w → Region.ready .any l.toArray listed = [] → Q .normal a w := by
    intro listed a w hI hr
    have hall : ∀ n k, k ≤ n → k < l.length → listed.getD k false = true := by
      intro n
      induction n with
      | zero =>
        intro k hk hlt
        obtain rfl : k = 0 := by omega
        refine Classical.byContradiction fun hf => ?_
        have hmem : 0 ∈ Region.ready .any l.toArray listed := (hready listed 0 hI.len).2 ⟨hlt, by simpa using hf, fun o ho e he hb => by have := hbind 0 o ho e he hb; omega⟩
        rw [hr] at hmem
        simp at hmem
      | succ n ih =>
        intro k hk hlt
        rcases Nat.lt_or_ge n k with h | h
        · obtain rfl : k = n + 1 := by omega
          refine Classical.byContradiction fun hf => ?_
          have hmem : n + 1 ∈ Region.ready .any l.toArray listed := (hready listed (n + 1) hI.len).2 ⟨hlt, by simpa using hf, fun o ho e he hb => by
            have := hbind (n + 1) o ho e he hb
            exact ih e.on (by omega) (by omega)⟩
          rw [hr] at hmem
          simp at hmem
        · exact ih k h hlt
    refine hfin a w ?_
    have hl : listed = Array.replicate l.length true := by
      apply Array.ext
      · simp [hI.len]
      · intro k hk _
        have := hall k k (Nat.le_refl _) (by rw [← hI.len]; exact hk)
        simp only [Array.getD_eq_getD_getElem?, Array.getElem?_eq_getElem hk, Option.getD_some] at this
        simpa using this
    rwa [← hl]
  intro fuel
  induction fuel with
  | zero =>
    intro listed a w hc hI
    have hr : Region.ready .any l.toArray listed = [] := by
      rw [List.eq_nil_iff_forall_not_mem]
      intro i hi
      obtain ⟨h1, h2, _⟩ := (hready listed i hI.len).1 hi
      have hlt : i < listed.size := by rw [hI.len]; exact h1
      simp only [Array.getD_eq_getD_getElem?, Array.getElem?_eq_getElem hlt, Option.getD_some] at h2
      have : false ∈ listed.toList := by rw [← h2]; simp
      have := List.count_pos_iff.2 this
      omega
    exact ⟨hr, hdone listed a w hI hr⟩
  | succ fuel ih =>
    intro listed a w hc hI
    refine ⟨hdone listed a w hI, fun (i : Nat) hi => ?_⟩
    obtain ⟨hlt, hnl, hdep⟩ := (hready listed i hI.len).1 hi
    have hlt' : i < listed.size := by rw [hI.len]; exact hlt
    obtain ⟨o, ho⟩ : ∃ o, l[i]? = some o := ⟨l[i], by simp [hlt]⟩
    have hdep' := hdep o ho
    have hget := fun k => getD_set_true hlt' k
    have hput' : ∀ (v : Value) t, (∀ d, o.dst = some d → t ≠ d) → (a.put o.dst v).tmps.getD t undef = a.tmps.getD t undef := by
      intro v t ht
      cases hd : o.dst with
      | none => rfl
      | some d => rw [put_getD, if_neg (fun e => ht d hd e.1)]
    have hav : AvailS l refs V a0 i o a := ⟨fun e he hb o' d hk hd => hI.vals e.on o' d hk (hdep' e he hb) hd, fun t ht => hI.out t (fun k o' hk hd => by
      obtain ⟨e, he, hb, hon⟩ := ht k o' hk hd
      cases hl : listed.getD k false with
      | false => rfl
      | true =>
        have := hI.down k o' hk hl e he hb
        rw [hon, hnl] at this
        cases this), hI.size⟩
    have hcount : (listed.setIfInBounds i true).toList.count false ≤ fuel := by
      rw [Array.toList_setIfInBounds]
      have hf : listed.toList[i]'(by simpa using hlt') = false := by
        simp only [Array.getD_eq_getD_getElem?, Array.getElem?_eq_getElem hlt', Option.getD_some] at hnl
        simpa using hnl
      rw [List.count_set (by simpa using hlt'), hf]
      have hp : 0 < listed.toList.count false := List.count_pos_iff.2 (by rw [← hf]; exact List.getElem_mem _)
      show listed.toList.count false - 1 + 0 ≤ fuel
      omega
    -- what holds behind the operation, whatever it was
    have htm : ∀ (v : Value) (ts : List Nat), (∀ t ∈ ts, ∀ d, o.dst = some d → t ≠ d) → tms (a.put o.dst v) ts = tms a ts := by
      intro v ts h
      unfold tms
      exact List.map_congr_left fun t ht => hput' v t (h t ht)
    have hself : ∀ t ∈ refs i, ∀ d, o.dst = some d → t ≠ d := by
      intro t ht d hd e
      subst e
      have := reachB_listed hI.down _ _ (hrefs i i o t hlt ht ho hd) (fun o' ho' e he hb => by rw [ho] at ho'; cases ho'; exact hdep' e he hb)
      rw [hnl] at this
      cases this
    have key : ∀ (v : Value) (w' : World), V i (tms a (refs i)) v → (∃ k, k ≤ wr.length ∧ J k (tms (a.put o.dst v) (jrefs k)) w' ∧ ∀ j c, wr[j]? = some c → ((listed.setIfInBounds i true).getD c false = true ↔ j < k)) → wpAny P .any l.toArray Q fuel (listed.setIfInBounds i true) (a.put o.dst v) w' := by
      intro v w' hv hst
      refine ih _ _ _ hcount ⟨?_, ?_, ?_, ?_, ?_, ?_, hst⟩
      · cases hd : o.dst <;> simp [Act.put, hI.size]
      · cases hd : o.dst <;> simp [Act.put, hI.defers]
      · simp [hI.len]
      · intro k o' hk hl e he hb
        rw [hget] at hl ⊢
        split at hl
        · rename_i hki
          subst hki
          rw [ho] at hk
          cases hk
          rw [hdep' e he hb]
          simp
        · rw [hI.down k o' hk hl e he hb]
          simp
      · intro k o' d hk hl hd
        rw [hget] at hl
        split at hl
        · rename_i hki
          subst hki
          rw [ho] at hk
          cases hk
          have hsz : d < a.tmps.size := by rw [hI.size]; exact hin k o d ho hd
          rw [htm v _ hself, hd, put_getD, if_pos ⟨rfl, hsz⟩]
          exact hv
        · rename_i hki
          rw [hput' v d (fun d' hd' e => hki (hdst k i o' o d hk ho hd (by rw [hd', e]))), htm v _ (fun t ht d' hd' e => by
            subst e
            have hkl : k < l.length := (List.getElem?_eq_some_iff.1 hk).1
            have := reachB_listed hI.down _ _ (hrefs k i o t hkl ht ho hd') (fun o'' ho'' e he hb => hI.down k o'' ho'' hl e he hb)
            rw [hnl] at this
            cases this)]
          exact hI.vals k o' d hk hl hd
      · intro t ht
        rw [hput' v t (fun d hd e => by
          have := ht i o ho (by rw [hd, e])
          rw [hget, if_pos rfl] at this
          cases this)]
        refine hI.out t (fun k o' hk hd => ?_)
        have := ht k o' hk hd
        rw [hget] at this
        split at this
        · cases this
        · exact this
    obtain ⟨k, hk, hJ, hkl⟩ := hI.stage
    have hst := hsteps i o ho
    unfold wpOp
    rw [show l.toArray[i]? = some o from by simpa using ho]
    cases hix : wr.idxOf? i with
    | none =>
      rw [hix] at hst
      have hnw : ∀ j c, wr[j]? = some c → c ≠ i := fun j c hc e => by
        have := List.idxOf?_eq_none_iff.1 hix
        exact this (by rw [← e]; exact List.mem_of_getElem? hc)
      have hat : atStage l wr i k = true := by
        unfold atStage
        rw [List.all_eq_true]
        intro j hj
        cases hc : wr[j]? with
        | none => rfl
        | some c =>
          simp only
          by_cases hjk : j < k
          · rw [if_pos hjk]
            cases hr : reachB l l.length c i with
            | false => rfl
            | true =>
              have hcl := (hkl j c hc).2 hjk
              have := reachB_listed hI.down _ _ hr (fun o' ho' e he hb => hI.down c o' ho' hcl e he hb)
              rw [hnl] at this
              cases this
          · rw [if_neg hjk]
            cases hr : reachB l l.length i c with
            | false => rfl
            | true =>
              have := reachB_listed hI.down _ _ hr (fun o' ho' e he hb => by rw [ho] at ho'; cases ho'; exact hdep' e he hb)
              exact absurd ((hkl j c hc).1 this) hjk
      have hstage : ∀ v, ∃ k, k ≤ wr.length ∧ J k (tms (a.put o.dst v) (jrefs k)) w ∧ ∀ j c, wr[j]? = some c → ((listed.setIfInBounds i true).getD c false = true ↔ j < k) := fun v => by
        refine ⟨k, hk, ?_, fun j c hc => by rw [hget, if_neg (hnw j c hc)]; exact hkl j c hc⟩
        rw [htm v _ (fun t ht d hd e => by
          subst e
          obtain ⟨j, hj, hc⟩ := hjrefs k i o t hk ht ho hd
          exact hnw j i hc rfl)]
        exact hJ
      rcases hst k a w hat hJ hav with ⟨hw, hs⟩ | ⟨hw, hv⟩
      · simp only [hw, if_true]
        refine .inl (Oper.wp_mono ?_ hs)
        rintro a' w' ⟨v, rfl, rfl, hv⟩
        exact key v _ hv (hstage v)
      · simp only [hw, Bool.false_eq_true, if_false]
        exact key undef w hv (hstage undef)
    | some m =>
      rw [hix] at hst
      have hm : wr[m]? = some i := by
        obtain ⟨h1, h2, _⟩ := List.idxOf?_eq_some_iff.1 hix
        rw [List.getElem?_eq_getElem h1]
        simpa using h2
      have hmk : m = k := by
        have h1 : ¬ m < k := fun h => by have := (hkl m i hm).2 h; rw [hnl] at this; cases this
        rcases Nat.lt_or_ge k m with h2 | h2
        · have hml : m < wr.length := (List.getElem?_eq_some_iff.1 hm).1
          have hc : wr[k]? = some wr[k] := List.getElem?_eq_getElem (by omega)
          have hr := hchain m k i _ h2 hm hc
          have := reachB_listed hI.down _ _ hr (fun o' ho' e he hb => by rw [ho] at ho'; cases ho'; exact hdep' e he hb)
          have := (hkl k _ hc).1 this
          omega
        · omega
      subst hmk
      have hml : m < wr.length := (List.getElem?_eq_some_iff.1 hm).1
      obtain ⟨hw, hs⟩ := hst a w hJ hav
      simp only [hw, if_true]
      refine .inl (Oper.wp_mono ?_ hs)
      rintro a' w' ⟨v, rfl, hJ', hv⟩
      refine key v w' hv ⟨m + 1, by omega, hJ', fun j c hc => ?_⟩
      rw [hget]
      by_cases hci : c = i
      · subst hci
        rw [if_pos rfl]
        have : j = m := by
          have h1 := (List.getElem?_eq_some_iff.1 hc)
          have h2 := (List.getElem?_eq_some_iff.1 hm)
          obtain ⟨h3, h4⟩ := h1
          obtain ⟨h5, h6⟩ := h2
          have hpw := List.pairwise_iff_getElem.1 hnd
          rcases Nat.lt_trichotomy j m with h7 | h7 | h7
          · exact absurd (h4.trans h6.symm) (hpw j m h3 h5 h7)
          · exact h7
          · exact absurd (h6.trans h4.symm) (hpw m j h5 h3 h7)
        exact ⟨fun _ => by omega, fun _ => rfl⟩
      · rw [if_neg hci, hkl j c hc]
        have : j ≠ m := fun e => by rw [e, hm] at hc; cases hc; exact hci rfl
        omega

theorem wp_region_stage {id : Nat} {l : List Oper} {a : Act} {w : World} (wr : List Nat) (hm : P.follows .mixedOrders = true) (refs jrefs : Nat → List Nat) (J : Nat → List Value → World → Prop) (V : Nat → List Value → Value → Prop)
    (hok : stageOk l wr a.tmps.size = true) (hrefs : refsOk l refs = true) (hjrefs : jrefsOk l wr jrefs = true)
    (hstart : J 0 (tms a (jrefs 0)) w.drew)
    (hsteps : AllStages P l wr Q refs jrefs J V a l 0)
    (hfin : ∀ y w', J wr.length (tms (putAll y l a) (jrefs wr.length)) w' → AllVals (fun i v _ => V i (tms (putAll y l a) (refs i)) v) y w' l 0 → Q .normal (putAll y l a) w') : (Code.region id l.toArray true).wp P Q a w := by
  simp only [stageOk, Bool.and_eq_true, List.all_eq_true, decide_eq_true_eq, List.mem_range] at hok
  obtain ⟨⟨⟨⟨⟨h1, h2⟩, h3⟩, h4⟩, h5⟩, h6⟩ := hok
  have hidx : ∀ (i : Nat) (o : Oper), l[i]? = some o → o ∈ l := fun i o h => List.mem_of_getElem? h
  refine wp_region_any hm (wpAny_stage (wr := wr) (refs := refs) (jrefs := jrefs) (J := J) (V := V) (a0 := a) (fun i i' o' t hi ht ho' hd => ?_) (fun k i' o' t hk ht ho' hd => ?_) (fun i o ho e he hb => ?_) (fun i j o o' d hi hj hd hd' => nodup_dst l h3 i j o o' d hi hj hd hd') (fun i o d ho hd => ?_)
    (fun j j' c c' hlt hc hc' => ?_) h5 h6 (fun i o ho => by have := allStages_at l 0 hsteps i o ho; rwa [Nat.zero_add] at this) ?_ _ _ _ _ ?_ ?_)
  · unfold refsOk at hrefs
    simp only [List.all_eq_true, List.mem_range] at hrefs
    have := hrefs i hi t ht (o', i') (by rw [List.mem_zipIdx_iff_getElem?]; simpa using ho')
    simpa [hd] using this
  · unfold jrefsOk at hjrefs
    simp only [List.all_eq_true, List.mem_range] at hjrefs
    have := hjrefs k (by omega) t ht (o', i') (by rw [List.mem_zipIdx_iff_getElem?]; simpa using ho')
    simp only [hd, bne_self_eq_false, Bool.false_or, List.contains_iff_mem] at this
    obtain ⟨j, hj⟩ := List.mem_iff_getElem?.1 this
    rw [List.getElem?_take] at hj
    split at hj
    · rename_i hlt
      exact ⟨j, hlt, hj⟩
    · cases hj
  · have hz : (o, i) ∈ l.zipIdx := by
      rw [List.mem_zipIdx_iff_getElem?]
      simpa using ho
    have := h2 (o, i) hz
    simp only [Array.all_eq_true_iff_forall_mem, Bool.or_eq_true, Bool.not_eq_true', decide_eq_true_eq] at this
    exact (this e he).resolve_left (by rw [hb]; simp)
  · have := h1 o (hidx i o ho)
    rw [hd] at this
    simpa using this
  · have hj := (List.getElem?_eq_some_iff.1 hc).1
    have := h4 j hj j' hlt
    rw [hc, hc'] at this
    exact this
  · intro a' w' hI
    have hlist : ∀ (k : Nat) (o : Oper), l[k]? = some o → (Array.replicate l.length true).getD k false = true := by
      intro k o hk
      have : k < l.length := (List.getElem?_eq_some_iff.1 hk).1
      simp [Array.getD_eq_getD_getElem?, this]
    have ha : a' = putAll (fun t => a'.tmps.getD t undef) l a := by
      have hs := putAll_size (fun t => a'.tmps.getD t undef) l a
      have ht : a'.tmps = (putAll (fun t => a'.tmps.getD t undef) l a).tmps := by
        apply Array.ext
        · rw [hs.1, hI.size]
        · intro t ht1 ht2
          have hta : t < a.tmps.size := by rw [← hI.size]; exact ht1
          have hp := putAll_getD (fun t => a'.tmps.getD t undef) l a t hta
          have e1 : a'.tmps.getD t undef = a'.tmps[t] := by simp [Array.getD_eq_getD_getElem?, ht1]
          have e2 : (putAll (fun t => a'.tmps.getD t undef) l a).tmps.getD t undef = (putAll (fun t => a'.tmps.getD t undef) l a).tmps[t] := by rw [Array.getD_eq_getD_getElem?, Array.getElem?_eq_getElem ht2]; rfl
          rw [← e1, ← e2, hp]
          by_cases hex : ∃ o ∈ l, o.dst = some t
          · rw [if_pos hex]
          · rw [if_neg hex]
            exact hI.out t (fun k o hk hd => absurd ⟨o, hidx k o hk, hd⟩ hex)
      have hd : a'.defers = (putAll (fun t => a'.tmps.getD t undef) l a).defers := by rw [hs.2, hI.defers]
      cases a'
      simp only at ht hd ⊢
      generalize putAll _ l a = b at *
      cases b
      simp only at ht hd
      rw [ht, hd]
    have hJ : J wr.length (tms a' (jrefs wr.length)) w' := by
      obtain ⟨k, hk, hJ, hkl⟩ := hI.stage
      have : k = wr.length := by
        rcases Nat.lt_or_ge k wr.length with h | h
        · have hc : wr[k]? = some wr[k] := List.getElem?_eq_getElem h
          have hlt := h6 wr[k] (by simp)
          have hlk := (hkl k _ hc).1 (by simp [Array.getD_eq_getD_getElem?, hlt])
          omega
        · omega
      rw [← this]; exact hJ
    have hvals : AllVals (fun i v _ => V i (tms a' (refs i)) v) (fun t => a'.tmps.getD t undef) w' l 0 := allVals_mk l 0 (fun j o d hj hd => by
      rw [Nat.zero_add]
      exact hI.vals j o d hj (hlist j o hj) hd)
    have hq := hfin (fun t => a'.tmps.getD t undef) w'
    rw [← ha] at hq
    exact hq hJ hvals
  · simp
  · refine ⟨rfl, rfl, by simp, ?_, ?_, fun _ _ => rfl, ⟨0, Nat.zero_le _, hstart, fun j c hc => ?_⟩⟩
    · intro k o hk hl
      simp [Array.getD_eq_getD_getElem?] at hl
      have : k < l.length := (List.getElem?_eq_some_iff.1 hk).1
      simp [this] at hl
    · intro k o d hk hl
      have : k < l.length := (List.getElem?_eq_some_iff.1 hk).1
      simp [Array.getD_eq_getD_getElem?, this] at hl
    · have hlt := h6 c (List.mem_of_getElem? hc)
      simp [Array.getD_eq_getD_getElem?, hlt]

/-! ### Helpers for the steps -/
theorem AvailS.dep_ {l : List Oper} {refs : Nat → List Nat} {V : Nat → List Value → Value → Prop} {a0 : Act} {i : Nat} {o : Oper} {a : Act} (h : AvailS l refs V a0 i o a) (e : Edge) (he : e ∈ o.after) (hb : Region.binds .any e = true) (o' : Oper) (d : Nat) (hk : l[e.on]? = some o') (hd : o'.dst = some d) : V e.on (tms a (refs e.on)) (a.tmps[d]?.getD undef) := by
  rw [← Array.getD_eq_getD_getElem?]
  exact h.dep e he hb o' d hk hd
def outOkS (l : List Oper) (i t : Nat) : Bool := l.all fun o => o.dst != some t || o.after.any (fun e => Region.binds .any e && e.on == i)
theorem AvailS.at_ {l : List Oper} {refs : Nat → List Nat} {V : Nat → List Value → Value → Prop} {a0 : Act} {i : Nat} {o : Oper} {a : Act} (h : AvailS l refs V a0 i o a) (t : Nat) (hok : outOkS l i t = true) {v : Value} (hv : a0.tmps.getD t undef = v) : a.tmps[t]?.getD undef = v := by
  rw [← hv, ← Array.getD_eq_getD_getElem?]
  refine h.out t (fun k o' hk hd => ?_)
  have hm : o' ∈ l := List.mem_of_getElem? hk
  have := List.all_eq_true.1 hok o' hm
  rw [hd] at this
  simp only [bne_self_eq_false, Bool.false_or, Array.any_eq_true, Bool.and_eq_true] at this
  obtain ⟨j, hj, he⟩ := this
  exact ⟨_, Array.getElem_mem hj, he.1, by simpa using he.2⟩
theorem AvailS.put1 {l : List Oper} {refs : Nat → List Nat} {V : Nat → List Value → Value → Prop} {a0 : Act} {i : Nat} {o : Oper} {a : Act} (h : AvailS l refs V a0 i o a) (d : Nat) (v : Value) (hd : decide (d < a0.tmps.size) = true) : tms (a.put (some d) v) [d] = [v] := by
  unfold tms
  simp only [List.map_cons, List.map_nil]
  rw [put_getD, if_pos ⟨rfl, by rw [h.size]; exact of_decide_eq_true hd⟩]
theorem tms1 (a : Act) (d : Nat) : tms a [d] = [a.tmps[d]?.getD undef] := by
  unfold tms
  simp only [List.map_cons, List.map_nil, Array.getD_eq_getD_getElem?]
theorem stage_value {o : Oper} {a : Act} {w w' : World} {v : Value} {K : Act → World → Prop} (hr : (execOp a.eval o).run P w = .ok (.value v) w') (h : K (a.put o.dst v) w') : o.wp P a w K Q := by
  unfold Oper.wp
  rw [hr]
  exact h
theorem stage_skip {o : Oper} {a : Act} {w w' : World} {K : Act → World → Prop} (hr : (execOp a.eval o).run P w = .ok .skip w') (h : K (a.put o.dst undef) w') : o.wp P a w K Q := by
  unfold Oper.wp
  rw [hr]
  exact h
theorem stage_call {o : Oper} {a : Act} {w : World} {f : FuncId} {args : Array Value} {K : Act → World → Prop} (hr : (execOp a.eval o).run P w = .ok (.enter f args) w) (hc : Calls P f args w fun e w' => ∃ v, e = .returned v ∧ K (a.put o.dst v) w') : o.wp P a w K Q := by
  unfold Oper.wp
  rw [hr]
  refine hc.mono ?_
  rintro e w' ⟨v, rfl, h⟩
  exact h
end
end Go.Proofs.Ytpkaepmmkojdaaa
