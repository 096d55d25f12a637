import Derived.Test.YtnbeagcmfcdklaaGreatMLAccK
/-! gazettelaw08.AcceptorAlone: the plain law. -/
namespace Go.Proofs.YtnbeagcmfcdklaaGreat
open Go.RowKit

theorem Fs.get_set (F : Fs) (x y : Int × Int) (f : Fa) : (F.set x f).get y = if y = x then f else F.get y := by
  unfold Fs.set
  split
  · rename_i h
    have hc : ((fun e : (Int × Int) × Fa => decide (y = e.1)) ∘ (fun e : (Int × Int) × Fa => if x = e.1 then (e.1, f) else e)) = (fun e => decide (y = e.1)) := by
      funext e
      simp only [Function.comp]
      split <;> rfl
    unfold Fs.get
    rw [List.find?_map, hc]
    cases hf : F.find? (fun e => decide (y = e.1)) with
    | none =>
      rw [List.find?_eq_none] at hf
      have hne : y ≠ x := by
        rintro rfl
        obtain ⟨e, he, h1⟩ := List.any_eq_true.1 h
        exact hf e he h1
      rw [if_neg hne]
      rfl
    | some e =>
      have he : y = e.1 := by simpa using List.find?_some hf
      by_cases hyx : y = x
      · rw [if_pos hyx]
        subst hyx
        simp [he]
      · rw [if_neg hyx]
        have : x ≠ e.1 := fun h => hyx (he.trans h.symm)
        simp [this]
  · rename_i h
    unfold Fs.get
    rw [List.find?_append]
    by_cases hyx : y = x
    · rw [if_pos hyx]
      subst hyx
      have hn : F.find? (fun e => decide (y = e.1)) = none := by
        rw [List.find?_eq_none]
        intro e he hd
        exact h (List.any_eq_true.2 ⟨e, he, hd⟩)
      rw [hn]
      simp
    · rw [if_neg hyx]
      have : [(x, f)].find? (fun e : (Int × Int) × Fa => decide (y = e.1)) = none := by simp [hyx]
      rw [this, Option.or_none]

structure Fa.few (f : Fa) : Prop where
  pr : 0 ≤ f.pr ∧ f.pr ≤ 20
  ba : 0 ≤ f.ba ∧ f.ba ≤ 20
  va : f.va.length ≤ 100
theorem Fa.few_zero : Fa.zero.few := ⟨by decide, by decide, by decide⟩

/-- What holds behind at most j asks. -/
structure AlInv (j : Nat) (F : Fs) (S : St) (D : Dk) : Prop where
  len : D.texts.length = 300
  fin : S.fin ≤ j
  tail : ∀ k, 0 ≤ tailF S k ∧ tailF S k ≤ (j : Int)
  trim : ∀ k, (S.get k).2.1 = 0
  sealed : ∀ k, (S.get k).2.2 = false
  slots : ∀ k p : Int, tailF S k ≤ p → S.slots (k, p) = none
  facts : ∀ x, (F.get x).few
theorem AlInv.start : AlInv 0 [] St.fresh (Dk.fresh 300) :=
  ⟨fresh_len 300, Nat.le_refl _, fun _ => ⟨Int.le_refl _, Int.le_refl _⟩, fun _ => rfl, fun _ => rfl, fun _ _ _ => rfl, fun _ => Fa.few_zero⟩
theorem AlInv.mono {j j' : Nat} {F : Fs} {S : St} {D : Dk} (h : AlInv j F S D) (hj : j ≤ j') : AlInv j' F S D :=
  ⟨h.len, by have := h.fin; omega, fun k => by have := h.tail k; omega, h.trim, h.sealed, h.slots, h.facts⟩

theorem al_put {j : Nat} {F : Fs} {S : St} {D : Dk} (h : AlInv j F S D) (hj : j < 300) (key : Int) (l : List UInt8) (hl : l.length ≤ 119) :
    (putF S D key (tailF S key) l false).1 = 0 ∧ ∀ F' : Fs, (∀ x, (F'.get x).few) → AlInv (j + 1) F' (putF S D key (tailF S key) l false).2.1 (putF S D key (tailF S key) l false).2.2 := by
  have hel : (entryB 1 key (tailF S key) l).length = l.length + 13 := by simp [entryB, lowB_length]; omega
  have hch : chunks (entryB 1 key (tailF S key) l) = 1 := by unfold chunks; rw [hel]; omega
  have ht := h.tail key
  have hfin := h.fin
  have hlen := h.len
  have hp : putF S D key (tailF S key) l false = writeF S (applyPut S key (tailF S key) l) D 1 key (tailF S key) l := by
    unfold putF
    rw [h.trim, if_neg (by omega), h.slots key _ (Int.le_refl _), h.sealed]
    rfl
  rw [hp]
  unfold writeF
  rw [hch, hlen, if_pos (by omega)]
  have hg : ∀ k, ({ applyPut S key (tailF S key) l with fin := S.fin + 1, num := S.num + 1 } : St).get k = if k = key then (max (S.get key).1 (tailF S key + 1), (S.get key).2.1, (S.get key).2.2) else S.get k := by
    intro k
    show (if k = key then some _ else S.states k).getD (0, 0, false) = _
    split <;> rfl
  have htl : ∀ k, tailF ({ applyPut S key (tailF S key) l with fin := S.fin + 1, num := S.num + 1 } : St) k = if k = key then tailF S key + 1 else tailF S k := by
    intro k
    show max (St.get _ k).1 (St.get _ k).2.1 = _
    rw [hg]
    by_cases hk : k = key
    · rw [if_pos hk, if_pos hk]
      have h1 := h.trim key
      have h2 : tailF S key = max (S.get key).1 (S.get key).2.1 := rfl
      simp only
      omega
    · rw [if_neg hk, if_neg hk]
      rfl
  refine ⟨rfl, fun F' hF' => ⟨?_, by show S.fin + 1 ≤ _; omega, fun k => ?_, fun k => ?_, fun k => ?_, fun k p hkp => ?_, hF'⟩⟩
  · simp [Dk.synced, Dk.wrote, hlen]
  · rw [htl]
    split
    · omega
    · have := h.tail k; omega
  · rw [hg]
    split
    · exact h.trim key
    · exact h.trim k
  · rw [hg]
    split
    · exact h.sealed key
    · exact h.sealed k
  · rw [htl] at hkp
    show (if (k, p) = (key, tailF S key) then some l else S.slots (k, p)) = none
    by_cases hk : k = key
    · rw [if_pos hk] at hkp
      rw [if_neg (by intro e; have := congrArg Prod.snd e; simp only at this; omega)]
      exact h.slots k p (by rw [hk]; omega)
    · rw [if_neg (by intro e; exact hk (congrArg Prod.fst e))]
      rw [if_neg hk] at hkp
      exact h.slots k p hkp

theorem al_keep {j : Nat} {F : Fs} {S : St} {D : Dk} (h : AlInv j F S D) (hj : j < 300) (key ver : Int) (f : Fa) (hf : f.few) :
    (keepA F S D key ver f).1 = 0 ∧ (∀ x, (keepA F S D key ver f).2.1.get x = if x = (key, ver) then f else F.get x) ∧ AlInv (j + 1) (keepA F S D key ver f).2.1 (keepA F S D key ver f).2.2.1 (keepA F S D key ver f).2.2.2 := by
  unfold keepA
  by_cases h1 : F.get (key, ver) = f
  · rw [if_pos h1]
    refine ⟨rfl, fun x => ?_, h.mono (by omega)⟩
    by_cases hx : x = (key, ver)
    · rw [if_pos hx, hx]; exact h1
    · rw [if_neg hx]
  · rw [if_neg h1]
    have ht := h.tail key
    rw [if_pos (by omega)]
    have hfl : (factB ver f).length ≤ 119 := by
      have := hf.va
      simp [factB, threeB_length, lowB_length]
      omega
    obtain ⟨h2, h3⟩ := al_put h hj key (factB ver f) hfl
    rw [if_pos h2]
    refine ⟨rfl, fun x => Fs.get_set F (key, ver) x f, h3 _ (fun x => ?_)⟩
    rw [Fs.get_set]
    split
    · exact hf
    · exact h.facts x

theorem al_do {f : Fa} (hf : f.few) (k : Int) {bal : Int} {v : List UInt8} (hb : 0 ≤ bal ∧ bal ≤ 20) (hv : v.length ≤ 100) : (doA k f bal v).1.few ∧ ((doA k f bal v).2 ≠ 0 → (doA k f bal v).2 = 34 ∧ (doA k f bal v).1 = f) := by
  obtain ⟨h1, h2, h3⟩ := hf
  unfold doA
  by_cases k1 : k = 1
  · rw [if_pos k1]
    by_cases c : bal ≤ f.pr
    · rw [if_pos c]; exact ⟨⟨h1, h2, h3⟩, fun _ => ⟨rfl, rfl⟩⟩
    · rw [if_neg c]; exact ⟨⟨hb, h2, h3⟩, fun h => absurd rfl h⟩
  rw [if_neg k1]
  by_cases k2 : k = 2
  · rw [if_pos k2]
    by_cases c : bal < f.pr ∨ (f.le = true ∧ f.va ≠ v)
    · rw [if_pos c]; exact ⟨⟨h1, h2, h3⟩, fun _ => ⟨rfl, rfl⟩⟩
    · rw [if_neg c]
      by_cases c2 : f.le = true
      · rw [if_pos c2]; exact ⟨⟨h1, h2, h3⟩, fun h => absurd rfl h⟩
      · rw [if_neg c2]; exact ⟨⟨hb, hb, hv⟩, fun h => absurd rfl h⟩
  rw [if_neg k2]
  by_cases c : f.le = true
  · rw [if_pos c]; exact ⟨⟨h1, h2, h3⟩, fun h => absurd rfl h⟩
  · rw [if_neg c]
    refine ⟨⟨h1, ?_, hv⟩, fun h => absurd rfl h⟩
    simp only
    omega

/-- What a small ask is answered, and what becomes of what is known. -/
theorem al_ask {j : Nat} {F : Fs} {S : St} {D : Dk} (h : AlInv j F S D) (hj : j < 300) (k key ver bal : Nat) (v : List UInt8) (hk : k ≠ 4) (hok : askOk (k : Int) (key : Int) (ver : Int) (bal : Int) v.length = true) (hb : bal ≤ 20) (hv : v.length ≤ 100)
    {R : Fa × Int} (hR : doA (k : Int) (F.get ((key : Int), (ver : Int))) (bal : Int) v = R) :
    ∃ A, askA F S D (frameB 3 (askB (k : Int) (key : Int) (ver : Int) (bal : Int) v)) = A ∧ getAns A.1 = some (R.2.toNat, ver, R.1.pr.toNat, R.1.ba.toNat, R.1.le, R.1.va) ∧ (∀ x, A.2.1.get x = if x = ((key : Int), (ver : Int)) then R.1 else F.get x) ∧ AlInv (j + 1) A.2.1 A.2.2.1 A.2.2.2 := by
  obtain ⟨d1, d2⟩ := al_do (h.facts ((key : Int), (ver : Int))) (k : Int) (bal := (bal : Int)) (v := v) (by omega) hv
  have hcode := doA_code (k : Int) (F.get ((key : Int), (ver : Int))) (bal : Int) v
  have h0 := of_decide_eq_true hok
  rw [hR] at d1 d2 hcode
  have hans : answerA F S D (k : Int) (key : Int) (ver : Int) (bal : Int) v = (⟨R.2, (ver : Int), R.1⟩, (answerA F S D (k : Int) (key : Int) (ver : Int) (bal : Int) v).2) ∧ (∀ x, (answerA F S D (k : Int) (key : Int) (ver : Int) (bal : Int) v).2.1.get x = if x = ((key : Int), (ver : Int)) then R.1 else F.get x) ∧ AlInv (j + 1) (answerA F S D (k : Int) (key : Int) (ver : Int) (bal : Int) v).2.1 (answerA F S D (k : Int) (key : Int) (ver : Int) (bal : Int) v).2.2.1 (answerA F S D (k : Int) (key : Int) (ver : Int) (bal : Int) v).2.2.2 := by
    unfold answerA
    rw [if_neg (by omega), hR]
    by_cases hz : R.2 = 0
    · rw [if_pos hz]
      obtain ⟨q1, q2, q3⟩ := al_keep h hj (key : Int) (ver : Int) R.1 d1
      refine ⟨?_, q2, q3⟩
      rw [q1, q2, if_pos rfl, hz]
    · rw [if_neg hz]
      obtain ⟨_, q2⟩ := d2 hz
      refine ⟨by rw [q2], fun x => ?_, h.mono (by omega)⟩
      by_cases hx : x = ((key : Int), (ver : Int))
      · rw [if_pos hx, hx]; exact q2.symm
      · rw [if_neg hx]
  obtain ⟨q1, q2, q3⟩ := hans
  have hask : askA F S D (frameB 3 (askB (k : Int) (key : Int) (ver : Int) (bal : Int) v)) = (putAnsB R.2 (ver : Int) R.1.pr R.1.ba R.1.le R.1.va, (answerA F S D (k : Int) (key : Int) (ver : Int) (bal : Int) v).2) := by
    unfold askA
    rw [getAsk_put k key ver bal v hok]
    simp only
    rw [q1]
  refine ⟨_, hask, ?_, q2, q3⟩
  obtain ⟨p1, p2, p3⟩ := d1
  have e1 : ((R.2.toNat : Nat) : Int) = R.2 := by omega
  have e2 : ((R.1.pr.toNat : Nat) : Int) = R.1.pr := by omega
  have e3 : ((R.1.ba.toNat : Nat) : Int) = R.1.ba := by omega
  have hao : ansOk ((R.2.toNat : Nat) : Int) (ver : Int) ((R.1.pr.toNat : Nat) : Int) ((R.1.ba.toNat : Nat) : Int) R.1.va.length = true := by
    refine decide_eq_true ?_
    omega
  have hg := getAns_put R.2.toNat ver R.1.pr.toNat R.1.ba.toNat R.1.le R.1.va hao
  show getAns (putAnsB R.2 (ver : Int) R.1.pr R.1.ba R.1.le R.1.va) = _
  unfold putAnsB
  rw [e1, e2, e3] at hg hao
  rw [if_pos hao]
  exact hg
end Go.Proofs.YtnbeagcmfcdklaaGreat
