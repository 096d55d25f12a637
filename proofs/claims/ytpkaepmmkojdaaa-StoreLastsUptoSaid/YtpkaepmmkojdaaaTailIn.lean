import Derived.Test.YtpkaepmmkojdaaaTail
import Derived.Test.YtpkaepmmkojdaaaMRegionC
/-! A region that draws its order with an ordered tail, inside a fence. No program is named here. -/
namespace Go.Proofs.Ytpkaepmmkojdaaa
open Go.RowKit

section
variable {F : Fence} {n : Nat} {P : Program} {ops : Array Oper} {Q : Exit → Act → World → Prop}

theorem wpAnyIn_seq (hb : ∀ (i : Nat) (o : Oper), ops[i]? = some o → ∀ e ∈ o.after, Region.binds .any e = true ∧ e.on < i) {cut : Nat}
    (hord : ∀ (i : Nat) (o : Oper), cut < i → ops[i]? = some o → ∃ e ∈ o.after, e.on + 1 = i) :
    ∀ (d i fuel : Nat) (a : Act) (w : World), i + d = ops.size → cut ≤ i → d ≤ fuel → wpOpsIn F n P ops Q (List.range' i d) a w → wpAnyIn F n P .any ops Q fuel (upTo ops.size i) a w := by
  intro d
  induction d with
  | zero =>
    intro i fuel a w hi hc hf h
    have hr : Region.ready .any ops (upTo ops.size i) = [] := by
      rw [List.eq_nil_iff_forall_not_mem]
      intro k hk
      rw [ready_mem (upTo_size _ _) hb, upTo_get] at hk
      have h1 := hk.2.1
      have h2 := hk.1
      simp only [h2, decide_true, Bool.and_true, decide_eq_false_iff_not] at h1
      omega
    have hq : Q .normal a w := by simpa [wpOpsIn] using h
    cases fuel with
    | zero => exact ⟨hr, hq⟩
    | succ fuel => exact ⟨fun _ => hq, fun k hk => by rw [hr] at hk; simp at hk⟩
  | succ d ih =>
    intro i fuel a w hi hc hf h
    cases fuel with
    | zero => omega
    | succ fuel =>
      have hmem : i ∈ Region.ready .any ops (upTo ops.size i) := by
        rw [ready_mem (upTo_size _ _) hb]
        refine ⟨by omega, by rw [upTo_get]; simp, fun o ho e he => ?_⟩
        have := (hb i o ho e he).2
        rw [upTo_get]
        simp
        omega
      refine ⟨fun hr => by rw [hr] at hmem; simp at hmem, fun k hk => ?_⟩
      have hki : k = i := by
        rw [ready_mem (upTo_size _ _) hb, upTo_get] at hk
        obtain ⟨h1, h2, h3⟩ := hk
        simp only [h1, decide_true, Bool.and_true, decide_eq_false_iff_not] at h2
        rcases Nat.lt_or_ge i k with hlt | hge
        · obtain ⟨o, ho⟩ : ∃ o, ops[k]? = some o := ⟨ops[k], by simp [h1]⟩
          obtain ⟨e, he, hon⟩ := hord k o (by omega) ho
          have := h3 o ho e he
          rw [upTo_get] at this
          simp at this
          omega
        · omega
      subst hki
      rw [upTo_set _ _ (by omega)]
      rw [List.range'_succ, wpOpsIn_cons] at h
      exact wpOpIn_mono (fun a w hh => ih (k + 1) fuel a w (by omega) (by omega) (by omega) hh) h

theorem wpAnyIn_invT {Grow : World → World → Prop} {V : Nat → Value → World → Prop} {a0 : Act} {w0 : World} {cut : Nat} (hcut : cut ≤ ops.size)
    (htrans : ∀ {x y z : World}, Grow x y → Grow y z → Grow x z) (hstab : ∀ (i : Nat) (v : Value) (x y : World), Grow x y → V i v x → V i v y)
    (hguard : ∀ (i : Nat) (o : Oper), i < cut → ops[i]? = some o → o.guard = none) (hbind : ∀ (i : Nat) (o : Oper), ops[i]? = some o → ∀ e ∈ o.after, Region.binds .any e = true ∧ e.on < i)
    (hdst : ∀ (i j : Nat) (o o' : Oper) (d : Nat), i < cut → j < cut → ops[i]? = some o → ops[j]? = some o' → o.dst = some d → o'.dst = some d → i = j) (hin : ∀ (i : Nat) (o : Oper) (d : Nat), i < cut → ops[i]? = some o → o.dst = some d → d < a0.tmps.size)
    (hreach : ∀ i j, cut ≤ i → i < ops.size → j < cut → reaches ops.toList ops.size i j = true) (hord : ∀ (i : Nat) (o : Oper), cut < i → ops[i]? = some o → ∃ e ∈ o.after, e.on + 1 = i)
    (hsteps : ∀ (i : Nat) (o : Oper), i < cut → ops[i]? = some o → StepAtIn F n P ops Q Grow V a0 w0 i o)
    (hfin : ∀ a w, InvT ops cut Grow V a0 w0 (upTo ops.size cut) a w → wpOpsIn F n P ops Q (List.range' cut (ops.size - cut)) a w) :
    ∀ (fuel : Nat) (listed : Array Bool) (a : Act) (w : World), (listed.toList.count false) ≤ fuel → InvT ops cut Grow V a0 w0 listed a w → wpAnyIn F n P .any ops Q fuel listed a w := by
  intro fuel
  induction fuel with
  | zero =>
    intro listed a w hc hI
    have hall : ∀ k, k < ops.size → listed.getD k false = true := by
      intro k hk
      have hlt : k < listed.size := by rw [hI.len]; exact hk
      refine Classical.byContradiction fun hf => ?_
      have h1 : listed[k] = false := by
        simp only [Array.getD_eq_getD_getElem?, Array.getElem?_eq_getElem hlt, Option.getD_some] at hf
        simpa using hf
      have : false ∈ listed.toList := by rw [← h1]; simp
      have := List.count_pos_iff.2 this
      omega
    have hsz : cut = ops.size := by
      refine Classical.byContradiction fun hne => ?_
      have h1 := hall cut (by omega)
      rw [hI.last cut (Nat.le_refl _)] at h1
      cases h1
    have hl : listed = upTo ops.size cut := by
      apply Array.ext
      · rw [hI.len, upTo_size]
      · intro k h1 h2
        have hk := hall k (by rw [← hI.len]; exact h1)
        have hu := upTo_get ops.size cut k
        simp only [Array.getD_eq_getD_getElem?, Array.getElem?_eq_getElem h1, Array.getElem?_eq_getElem h2, Option.getD_some] at hk hu
        rw [hk, hu]
        rw [hI.len] at h1
        simp [hsz, h1]
    rw [hl] at hI ⊢
    exact wpAnyIn_seq hbind hord _ cut 0 a w (by omega) (Nat.le_refl _) (by omega) (hfin a w hI)
  | succ fuel ih =>
    intro listed a w hc hI
    by_cases hall : ∀ k, k < cut → listed.getD k false = true
    · have hl : listed = upTo ops.size cut := by
        apply Array.ext
        · rw [hI.len, upTo_size]
        · intro k h1 h2
          have hu := upTo_get ops.size cut k
          have hk : listed.getD k false = decide (k < cut) := by
            by_cases h : k < cut
            · rw [hall k h]; simp [h]
            · rw [hI.last k (by omega)]; simp [h]
          simp only [Array.getD_eq_getD_getElem?, Array.getElem?_eq_getElem h1, Array.getElem?_eq_getElem h2, Option.getD_some] at hk hu
          rw [hk, hu]
          rw [hI.len] at h1
          simp [h1]
      have hcnt : ops.size - cut ≤ fuel + 1 := by
        rw [hl] at hc
        refine Nat.le_trans ?_ hc
        unfold upTo
        rw [List.toList_toArray]
        have : ∀ n, cut ≤ n → n - cut ≤ ((List.range n).map fun k => decide (k < cut)).count false := by
          intro n
          induction n with
          | zero => intro _; simp
          | succ n ihn =>
            intro hn
            rw [List.range_succ, List.map_append, List.count_append]
            by_cases h : cut ≤ n
            · have := ihn h
              have : ¬ n < cut := by omega
              simp [this]
              omega
            · simp; omega
        exact this _ hcut
      rw [hl] at hI ⊢
      exact wpAnyIn_seq hbind hord _ cut (fuel + 1) a w (by omega) (Nat.le_refl _) hcnt (hfin a w hI)
    · have hex : ∃ k, k < cut ∧ listed.getD k false = false := by
        refine Classical.byContradiction fun hn => hall fun k hk => ?_
        cases h : listed.getD k false with
        | true => rfl
        | false => exact absurd ⟨k, hk, h⟩ hn
      have hpre : ∀ i, i ∈ Region.ready .any ops listed → i < cut := by
        intro i hi
        rw [ready_mem hI.len hbind] at hi
        refine Classical.byContradiction fun hn => ?_
        obtain ⟨k, hk, hkf⟩ := hex
        have := reaches_listed (l := ops.toList) (listed := listed) (fun k o ho hl e he => hI.down k o (by simpa using ho) hl e he) ops.size i (hreach i k (by omega) hi.1 hk) (fun o ho e he => hi.2.2 o (by simpa using ho) e he)
        rw [hkf] at this
        cases this
      refine ⟨fun hr => ?_, fun i hi => ?_⟩
      · exfalso
        -- the least one that is not listed is ready
        have : ∀ n k, k ≤ n → k < cut → listed.getD k false = true := by
          intro n
          induction n with
          | zero =>
            intro k hk hlt
            obtain rfl : k = 0 := by omega
            cases hl : listed.getD 0 false with
            | true => rfl
            | false =>
              have : 0 ∈ Region.ready .any ops listed := (ready_mem hI.len hbind).2 ⟨by omega, hl, fun o ho e he => by have := (hbind 0 o ho e he).2; omega⟩
              rw [hr] at this; simp at this
          | succ n ihn =>
            intro k hk hlt
            rcases Nat.lt_or_ge n k with h | h
            · obtain rfl : k = n + 1 := by omega
              cases hl : listed.getD (n + 1) false with
              | true => rfl
              | false =>
                have : n + 1 ∈ Region.ready .any ops listed := (ready_mem hI.len hbind).2 ⟨by omega, hl, fun o ho e he => by
                  have := (hbind (n + 1) o ho e he).2
                  exact ihn e.on (by omega) (by omega)⟩
                rw [hr] at this; simp at this
            · exact ihn k h hlt
        obtain ⟨k, hk, hkf⟩ := hex
        rw [this k k (Nat.le_refl _) hk] at hkf
        cases hkf
      · have hic := hpre i hi
        rw [ready_mem hI.len hbind] at hi
        obtain ⟨hlt, hnl', hdep⟩ := hi
        have hlt' : i < listed.size := by rw [hI.len]; exact hlt
        obtain ⟨o, ho⟩ : ∃ o, ops[i]? = some o := ⟨ops[i], by simp [hlt]⟩
        unfold wpOpIn
        rw [ho]
        simp only [Region.wanted, hguard i o hic ho, if_true]
        refine (Oper.wpIn_mono ?_ (hsteps i o hic ho a w ⟨fun e he o' d hk hd => hI.vals e.on o' d hk (hdep o ho e he) hd, fun t ht => hI.out t (fun k o' hk hd => ?_), hI.grow⟩))
        · rintro a' w' ⟨v, rfl, hg, hv⟩
          have hget : ∀ k, (listed.setIfInBounds i true).getD k false = if k = i then true else listed.getD k false := by
            intro k
            simp only [Array.getD_eq_getD_getElem?, Array.getElem?_setIfInBounds]
            by_cases h : i = k
            · subst h; simp [hlt']
            · rw [if_neg h, if_neg (fun e => h e.symm)]
          have hput : ∀ t, (∀ d, o.dst = some d → t ≠ d) → (a.put o.dst v).tmps.getD t undef = a.tmps.getD t undef := by
            intro t ht
            cases hd : o.dst with
            | none => rfl
            | some d => rw [put_getD, if_neg (fun e => ht d hd e.1)]
          refine ih _ _ _ ?_ ⟨?_, ?_, ?_, ?_, ?_, ?_, htrans hI.grow hg, ?_⟩
          · rw [Array.toList_setIfInBounds]
            have hcount : (listed.toList.set i true).count false + 1 = listed.toList.count false := by
              have hf : listed.toList[i]'(by simpa using hlt') = false := by
                simp only [Array.getD_eq_getD_getElem?, Array.getElem?_eq_getElem hlt', Option.getD_some] at hnl'
                simpa using hnl'
              rw [List.count_set (by simpa using hlt'), hf]
              have hp : 0 < listed.toList.count false := List.count_pos_iff.2 (by rw [← hf]; exact List.getElem_mem _)
              show listed.toList.count false - 1 + 0 + 1 = listed.toList.count false
              omega
            omega
          · cases hd : o.dst <;> simp [Act.put, hI.size]
          · cases hd : o.dst <;> simp [Act.put, hI.defers]
          · simp [hI.len]
          · intro k o' hk hl e he
            rw [hget] at hl ⊢
            split at hl
            · rename_i hki
              subst hki
              rw [ho] at hk
              cases hk
              rw [hdep o ho e he]
              simp
            · rw [hI.down k o' hk hl e he]
              simp
          · intro k o' d hk hl hd
            rw [hget] at hl
            split at hl
            · rename_i hki
              subst hki
              rw [ho] at hk
              cases hk
              have hsz : d < a.tmps.size := by rw [hI.size]; exact hin k o d hic ho hd
              rw [hd, put_getD, if_pos ⟨rfl, hsz⟩]
              exact hv
            · rename_i hki
              have hkc : k < cut := by
                refine Classical.byContradiction fun hn => ?_
                rw [hI.last k (by omega)] at hl
                cases hl
              rw [hput d (fun d' hd' e => hki (hdst k i o' o d hkc hic hk ho hd (by rw [hd', e])))]
              exact hstab k _ _ _ hg (hI.vals k o' d hk hl hd)
          · intro t ht
            rw [hput t (fun d hd e => by
              have := ht i o ho (by rw [hd, e])
              rw [hget, if_pos rfl] at this
              cases this)]
            refine hI.out t (fun k o' hk hd => ?_)
            have := ht k o' hk hd
            rw [hget] at this
            split at this
            · cases this
            · exact this
          · intro k hk
            rw [hget, if_neg (by omega)]
            exact hI.last k hk
        · obtain ⟨e, he, hon⟩ := ht k o' hk hd
          cases hl : listed.getD k false with
          | false => rfl
          | true =>
            have := hI.down k o' hk hl e he
            rw [hon, hnl'] at this
            cases this

theorem wpIn_region_tail {id : Nat} {l : List Oper} {a : Act} {w : World} (cut : Nat) (hm : P.follows .mixedOrders = true) (Grow : World → World → Prop) (V : Nat → Value → World → Prop)
    (hok : regionOkT l cut a.tmps.size = true)
    (hrefl : Grow w.drew w.drew) (htrans : ∀ {x y z : World}, Grow x y → Grow y z → Grow x z) (hstab : ∀ (i : Nat) (v : Value) (x y : World), Grow x y → V i v x → V i v y)
    (hsteps : AllStepsIn F n P l.toArray Q Grow V a w.drew (l.take cut) 0)
    (hfin : ∀ y w', Grow w.drew w' → AllVals V y w' (l.take cut) 0 → wpListIn F n P l.toArray Q (l.drop cut) (putAll y (l.take cut) a) w') : (Code.region id l.toArray true).wpIn F n P Q a w := by
  simp only [regionOkT, tailOk, Bool.and_eq_true, List.all_eq_true, decide_eq_true_eq, Bool.or_eq_true, List.mem_range] at hok
  obtain ⟨⟨⟨⟨h1, h2⟩, h3⟩, h4, h5⟩, h6⟩ := hok
  have hidx : ∀ (i : Nat) (o : Oper), i < cut → l.toArray[i]? = some o → (l.take cut)[i]? = some o := fun i o hi h => by
    rw [List.getElem?_take, if_pos hi]; simpa using h
  have hdrop : wpOpsIn F n P l.toArray Q (List.range' cut (l.length - cut)) = wpListIn F n P l.toArray Q (l.drop cut) := by
    have := wpOpsIn_eq_wpListIn (F := F) (n := n) (P := P) (ops := l.toArray) (Q := Q) (l.drop cut) cut (fun j => by simp [List.getElem?_drop])
    rwa [List.length_drop] at this
  refine wpIn_region_any hm (wpAnyIn_invT (Grow := Grow) (V := V) (a0 := a) (w0 := w.drew) (cut := cut) (by simpa using h6) @htrans hstab (fun i o hi ho => ?_) (fun i o ho e he => ?_)
    (fun i j o o' d hi hj hio hjo hd hd' => nodup_dst _ h3 i j o o' d (hidx i o hi hio) (hidx j o' hj hjo) hd hd') (fun i o d hi ho hd => ?_) (fun i j hi hlt hj => ?_) (fun i o hi ho => ?_)
    (fun i o hi ho => by have := allStepsIn_at (l.take cut) 0 hsteps i o (hidx i o hi ho); rwa [Nat.zero_add] at this) ?_ _ _ _ _ ?_ ?_)
  · have := (h1 o (List.mem_of_getElem? (hidx i o hi ho))).1
    simpa using this
  · have hz : (o, i) ∈ l.zipIdx := by
      rw [List.mem_zipIdx_iff_getElem?]
      simpa using ho
    have := h2 (o, i) hz
    simp only [Array.all_eq_true_iff_forall_mem, Bool.and_eq_true, decide_eq_true_eq] at this
    exact this e he
  · have := (h1 o (List.mem_of_getElem? (hidx i o hi ho))).2
    rw [hd] at this
    simpa using this
  · have := h4 i (by simpa using hlt)
    rcases this with h | h
    · omega
    · simpa using h j hj
  · have hlt : i < l.length := (List.getElem?_eq_some_iff.1 (by simpa using ho : l[i]? = some o)).1
    have := h5 i hlt
    rcases this with h | h
    · omega
    · rw [show l[i]? = some o by simpa using ho] at h
      simp only [Array.any_eq_true] at h
      obtain ⟨x, hx, he⟩ := h
      exact ⟨_, Array.getElem_mem hx, by simpa using he⟩
  · intro a' w' hI
    rw [show l.toArray.size = l.length by simp, hdrop]
    have hlist : ∀ (k : Nat) (o : Oper), k < cut → l.toArray[k]? = some o → (upTo l.toArray.size cut).getD k false = true := by
      intro k o hk ho
      have : k < l.length := (List.getElem?_eq_some_iff.1 (by simpa using ho : l[k]? = some o)).1
      rw [upTo_get]
      simp [hk, this]
    have hmem : ∀ (o : Oper), o ∈ l.take cut → ∃ k, k < cut ∧ l.toArray[k]? = some o := by
      intro o ho
      obtain ⟨k, hk⟩ := List.mem_iff_getElem?.1 ho
      rw [List.getElem?_take] at hk
      split at hk
      · rename_i hlt; exact ⟨k, hlt, by simpa using hk⟩
      · cases hk
    have ha : a' = putAll (fun t => a'.tmps.getD t undef) (l.take cut) a := by
      have hs := putAll_size (fun t => a'.tmps.getD t undef) (l.take cut) a
      have ht : a'.tmps = (putAll (fun t => a'.tmps.getD t undef) (l.take cut) a).tmps := by
        apply Array.ext
        · rw [hs.1, hI.size]
        · intro t ht1 ht2
          have hta : t < a.tmps.size := by rw [← hI.size]; exact ht1
          have hp := putAll_getD (fun t => a'.tmps.getD t undef) (l.take cut) a t hta
          have e1 : a'.tmps.getD t undef = a'.tmps[t] := by simp [Array.getD_eq_getD_getElem?, ht1]
          have e2 : (putAll (fun t => a'.tmps.getD t undef) (l.take cut) a).tmps.getD t undef = (putAll (fun t => a'.tmps.getD t undef) (l.take cut) a).tmps[t] := by rw [Array.getD_eq_getD_getElem?, Array.getElem?_eq_getElem ht2]; rfl
          rw [← e1, ← e2, hp]
          by_cases hex : ∃ o ∈ l.take cut, o.dst = some t
          · rw [if_pos hex]
          · rw [if_neg hex]
            refine hI.out t (fun k o hk hd => ?_)
            rw [upTo_get]
            by_cases hkc : k < cut
            · exact absurd ⟨o, List.mem_of_getElem? (hidx k o hkc hk), hd⟩ hex
            · simp [hkc]
      have hd : a'.defers = (putAll (fun t => a'.tmps.getD t undef) (l.take cut) a).defers := by rw [hs.2, hI.defers]
      cases a'
      simp only at ht hd ⊢
      generalize putAll _ (l.take cut) a = b at *
      cases b
      simp only at ht hd
      rw [ht, hd]
    rw [ha]
    refine hfin _ w' hI.grow (allVals_mk (l.take cut) 0 (fun j o d hj hd => ?_))
    rw [Nat.zero_add]
    have hj' := hj
    rw [List.getElem?_take] at hj'
    split at hj'
    · rename_i hlt
      exact hI.vals j o d (by simpa using hj') (hlist j o hlt (by simpa using hj')) hd
    · cases hj'
  · simp
  · refine ⟨rfl, rfl, by simp, ?_, ?_, fun _ _ => rfl, hrefl, ?_⟩
    · intro k o hk hl
      simp [Array.getD_eq_getD_getElem?] at hl
      have : k < l.length := (List.getElem?_eq_some_iff.1 (by simpa using hk : l[k]? = some o)).1
      simp [this] at hl
    · intro k o d hk hl
      have : k < l.length := (List.getElem?_eq_some_iff.1 (by simpa using hk : l[k]? = some o)).1
      simp [Array.getD_eq_getD_getElem?, this] at hl
    · intro k _
      simp only [Array.getD_eq_getD_getElem?]
      by_cases hk : k < l.length <;> simp [hk]
end
end Go.Proofs.Ytpkaepmmkojdaaa
