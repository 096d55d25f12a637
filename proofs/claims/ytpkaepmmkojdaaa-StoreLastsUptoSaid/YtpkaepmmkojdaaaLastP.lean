import Derived.Test.YtpkaepmmkojdaaaKept
import Derived.Test.YtpkaepmmkojdaaaOnceP
/-! StoreLasts: the plain law. -/
namespace Go.Proofs.Ytpkaepmmkojdaaa
open Go.RowKit
def callP (S : St) (D : Dk) (o : Opr) : Int × St × Dk :=
  if o.kind = 0 then (if 65536 < o.data.length then (6, S, D) else putP S D (mod3 o.lo 3) (mod3 o.po 6) o.data o.rep)
  else if o.kind = 1 then sealP S D (mod3 o.lo 3)
  else if o.kind = 2 then trimP S D (mod3 o.lo 3) (mod3 o.po 6) else (99, S, D)
/-- What is told behind a call that is done. -/
def doneS (S : St) (o : Opr) : St :=
  if o.kind = 0 then (if (getF S (mod3 o.lo 3) (mod3 o.po 6)).1 = 0 then S else applyPut S (mod3 o.lo 3) (mod3 o.po 6) o.data)
  else if o.kind = 1 then applySeal S (mod3 o.lo 3)
  else if o.kind = 2 then applyTrim S (mod3 o.lo 3) (mod3 o.po 6) else S
/-- Two stores that tell the same. -/
def Alike (S S' : St) : Prop := S.slots = S'.slots ∧ ∀ lo, S.get lo = S'.get lo
theorem Alike.refl (S : St) : Alike S S := ⟨rfl, fun _ => rfl⟩
theorem Alike.symm {S S' : St} (h : Alike S S') : Alike S' S := ⟨h.1.symm, fun lo => (h.2 lo).symm⟩
theorem Alike.trans {S S' S'' : St} (h : Alike S S') (k : Alike S' S'') : Alike S S'' := ⟨h.1.trans k.1, fun lo => (h.2 lo).trans (k.2 lo)⟩
theorem Alike.getF {S S' : St} (h : Alike S S') (lo po : Int) : getF S lo po = getF S' lo po := by
  unfold Go.Proofs.Ytpkaepmmkojdaaa.getF
  rw [h.1, h.2 lo]
theorem Alike.told {S S' : St} (h : Alike S S') : told S = told S' := by
  unfold Go.Proofs.Ytpkaepmmkojdaaa.told
  have h1 : tData S = tData S' := by funext j; unfold tData; rw [h.getF]
  have h2 : tThere S = tThere S' := by funext j; unfold tThere; rw [h.getF]
  have h3 : tSealed S = tSealed S' := by funext j; unfold tSealed; rw [h.2]
  have h4 : tTrim S = tTrim S' := by funext j; unfold tTrim; rw [h.2]
  rw [h1, h2, h3, h4]
theorem alike_fin (S : St) (fin num : Nat) (fl : Bool) : Alike { S with fin := fin, num := num, fallen := fl } S := ⟨rfl, fun _ => rfl⟩
theorem told_there {S S' : St} (h : told S = told S') (i k : Nat) (hi : i < 3) (hk : k < 6) : ((getF S (i : Nat) (k : Nat)).1 = 0 ↔ (getF S' (i : Nat) (k : Nat)).1 = 0) := by
  have h1 := told_get S (18 + (6 * i + k))
  have h2 := told_get S' (18 + (6 * i + k))
  rw [if_neg (by omega), if_pos (by omega), Nat.add_sub_cancel_left] at h1 h2
  rw [h, h2] at h1
  injection h1 with h1
  unfold tThere at h1
  injection h1 with h1
  rw [show (6 * i + k) / 6 = i by omega, show (6 * i + k) % 6 = k by omega] at h1
  exact ⟨fun h => by rw [decide_eq_true h] at h1; simpa using h1, fun h => by rw [decide_eq_true h] at h1; simpa using h1.symm⟩
theorem told_sealed {S S' : St} (h : told S = told S') (i : Nat) (hi : i < 3) : (S.get (i : Nat)).2.2 = (S'.get (i : Nat)).2.2 := by
  have h1 := told_get S (36 + i)
  have h2 := told_get S' (36 + i)
  rw [if_neg (by omega), if_neg (by omega), if_pos (by omega), Nat.add_sub_cancel_left] at h1 h2
  rw [h, h2] at h1
  injection h1 with h1
  unfold tSealed at h1
  injection h1 with h1
  exact h1.symm
theorem told_trim {S S' : St} (h : told S = told S') (i : Nat) (hi : i < 3) : (S.get (i : Nat)).2.1 = (S'.get (i : Nat)).2.1 := by
  have h1 := told_get S (39 + i)
  have h2 := told_get S' (39 + i)
  rw [if_neg (by omega), if_neg (by omega), if_neg (by omega), if_pos (by omega), Nat.add_sub_cancel_left] at h1 h2
  rw [h, h2] at h1
  injection h1 with h1
  unfold tTrim at h1
  injection h1 with h1 h3
  exact h3.symm

theorem actF_alike {X S : St} (c : Alike X S) (e : Entv) : Alike (actF X e) (actF S e) := by
  unfold actF
  split
  · refine ⟨?_, fun lo => ?_⟩
    · funext k
      show (if k = _ then _ else X.slots k) = (if k = _ then _ else S.slots k)
      rw [c.1]
    · unfold applyPut
      rw [get_state, get_state, c.2]
      split
      · rfl
      · exact c.2 lo
  · split
    · refine ⟨c.1, fun lo => ?_⟩
      unfold applySeal
      rw [get_state, get_state, c.2]
      split
      · rfl
      · exact c.2 lo
    · refine ⟨c.1, fun lo => ?_⟩
      unfold applyTrim
      rw [get_state, get_state, c.2]
      split
      · rfl
      · exact c.2 lo
/-- A write: done, broken off, or no room. -/
theorem writeP_good {D : Dk} {es : List Entv} {S : St} (h : Good D es S none) (hf : -1 ≤ D.fuse) (e : Entv) (he : Eok e) :
    ∃ es' oe', Good (writeP S (actF S e) D e.1 e.2.1 e.2.2.1 e.2.2.2).2.2 es' (writeP S (actF S e) D e.1 e.2.1 e.2.2.1 e.2.2.2).2.1 oe' ∧
      (((writeP S (actF S e) D e.1 e.2.1 e.2.2.1 e.2.2.2).1 = 0 ∧ es' = es ++ [e] ∧ oe' = none ∧ Alike (writeP S (actF S e) D e.1 e.2.1 e.2.2.1 e.2.2.2).2.1 (actF S e)) ∨
       ((writeP S (actF S e) D e.1 e.2.1 e.2.2.1 e.2.2.2).1 = 8 ∧ es' = es ∧ oe' = some e ∧ Alike (writeP S (actF S e) D e.1 e.2.1 e.2.2.1 e.2.2.2).2.1 S) ∨
       ((writeP S (actF S e) D e.1 e.2.1 e.2.2.1 e.2.2.2).1 = 7 ∧ es' = es ∧ oe' = none ∧ Alike (writeP S (actF S e) D e.1 e.2.1 e.2.2.1 e.2.2.2).2.1 S)) := by
  have hK := h.kept
  obtain ⟨hoff, hfal, hv⟩ := h.pends
  have hfin := hK.fin
  have hnum := hK.num
  have hfit := hK.fit
  have hmost := hK.most
  have hst := hK.st
  have hEB : entryB (e.1 : Int) (e.2.1 : Int) (e.2.2.1 : Int) e.2.2.2 = ent e := rfl
  have hc1 : 1 ≤ chunks (ent e) := chunks_entry _ _ _ _
  have hcf : finOf (es ++ [e]) 0 = S.fin + chunks (ent e) := by
    have h1 := replay_fin (es ++ [e]) St.fresh
    rw [replay_snoc] at h1
    have h2 : (doF (replay es St.fresh) e (chunks (ent e))).fin = (replay es St.fresh).fin + chunks (ent e) := rfl
    have h3 : (replay es St.fresh).fin = finOf es 0 := replay_fin es _
    have h4 : St.fresh.fin = 0 := rfl
    rw [h4] at h1
    omega
  unfold writeP
  rw [hEB]
  by_cases hroom : S.fin + chunks (ent e) ≤ D.texts.length
  · rw [if_pos hroom]
    by_cases hl : D.lives (chunks (ent e) + 1)
    · rw [if_pos hl]
      refine ⟨es ++ [e], none, ⟨?_, ⟨hoff, ?_, fun _ => rfl⟩⟩, .inl ⟨rfl, rfl, rfl, alike_fin _ _ _ _⟩⟩
      · have hV : ∀ k : Nat, ((D.burn (chunks (ent e) + 1)).wrote S.fin (ent e) (S.num : Int) (chunks (ent e))).vers (k : Int) = if S.fin ≤ k ∧ k < S.fin + chunks (ent e) then some (blockB (chunkOf (ent e) (k - S.fin)) (S.num : Int) (chunks (ent e)) (k - S.fin)) else none := fun k => by
          show (if (S.fin : Int) ≤ (k : Int) ∧ (k : Int) < (S.fin : Int) + (chunks (ent e) : Int) then some (blockB (chunkOf (ent e) ((k : Int) - S.fin).toNat) (S.num : Int) (chunks (ent e)) ((k : Int) - S.fin).toNat) else D.vers (k : Int)) = _
          rw [hv]
          by_cases hc : S.fin ≤ k ∧ k < S.fin + chunks (ent e)
          · rw [if_pos ⟨by omega, by omega⟩, if_pos hc, show ((k : Int) - (S.fin : Int)).toNat = k - S.fin by omega]
          · rw [if_neg (fun hx => hc ⟨by omega, by omega⟩), if_neg hc]
        have hT : ∀ k : Nat, ((D.burn (chunks (ent e) + 1)).wrote S.fin (ent e) (S.num : Int) (chunks (ent e))).synced.texts[k]? = (D.texts[k]?).map (fun t => (((D.burn (chunks (ent e) + 1)).wrote S.fin (ent e) (S.num : Int) (chunks (ent e))).vers (k : Int)).getD t) := fun k => by
          show (List.mapIdx _ D.texts)[k]? = _
          rw [List.getElem?_mapIdx]
        have hB : ∀ k : Nat, ((D.burn (chunks (ent e) + 1)).wrote S.fin (ent e) (S.num : Int) (chunks (ent e))).synced.bad (k : Int) = (D.bad (k : Int) && (((D.burn (chunks (ent e) + 1)).wrote S.fin (ent e) (S.num : Int) (chunks (ent e))).vers (k : Int)).isNone) := fun k => rfl
        have hL : ((D.burn (chunks (ent e) + 1)).wrote S.fin (ent e) (S.num : Int) (chunks (ent e))).synced.texts.length = D.texts.length := by
          show (List.mapIdx _ D.texts).length = _
          exact List.length_mapIdx
        refine ⟨fun x hx => ?_, ?_, ?_, fun i h1 h2 => ?_, ?_, by rw [hL]; exact hmost⟩
        · rcases List.mem_append.1 hx with hx | hx
          · exact hK.ok x hx
          · rw [List.mem_singleton.1 hx]; exact he
        · rw [replay_snoc]
          show ({ actF S e with fin := S.fin + chunks (ent e), num := S.num + 1 } : St) = { doF (replay es St.fresh) e (chunks (ent e)) with fallen := (actF S e).fallen }
          rw [hst]
          have ha : ∀ (X : St) (b : Bool), actF { X with fallen := b } e = { actF X e with fallen := b } := fun X b => by
            unfold actF
            split
            · rfl
            · split <;> rfl
          rw [ha]
          rfl
        · refine (Dk.lays_snoc e es 0 0).2 ⟨Dk.lays_same hK.lays (fun k hk => ?_), fun i hi => ?_⟩
          · rw [hT, hB, hV, if_neg (by omega)]
            refine ⟨?_, by simp⟩
            cases D.texts[k]? <;> rfl
          · rw [← hfin, Nat.zero_add, ← hnum, hT, hB, hV, if_pos ⟨by omega, by omega⟩, Nat.add_sub_cancel_left]
            refine ⟨by simp, ?_⟩
            rw [List.getElem?_eq_getElem (by omega)]
            rfl
        · have h1' : S.fin + chunks (ent e) ≤ i := h1
          rw [hL] at h2
          rw [hT, hB, hV, if_neg (by omega)]
          have := hK.rest i (by omega) h2
          rw [this.1, this.2]
          exact ⟨rfl, rfl⟩
        · rw [hL]
          exact hroom
      · show (actF S e).fallen = false
        rw [(actF_fin S e).2.2]
        exact hfal
    · rw [if_neg hl]
      obtain ⟨m, hm1, _, _, hm4⟩ := Dk.lives_last hf hl
      refine ⟨es, some e, ⟨⟨hK.ok, ?_, Dk.lays_same hK.lays (fun k _ => ⟨rfl, rfl⟩), hK.rest, hK.fit, hK.most⟩, ⟨rfl, rfl, he, hroom, m, by omega, fun i => ?_⟩⟩, .inr (.inl ⟨rfl, rfl, rfl, alike_fin S S.fin S.num true⟩)⟩
      · rw [hst]
      · show (if (S.fin : Int) ≤ i ∧ i < (S.fin : Int) + ((D.fuse.toNat : Nat) : Int) then some (blockB (chunkOf (ent e) (i - S.fin).toNat) (S.num : Int) (chunks (ent e)) (i - S.fin).toNat) else D.vers i) = _
        rw [hv, show D.fuse.toNat = m by omega]
  · rw [if_neg hroom]
    exact ⟨es, none, h, .inr (.inr ⟨rfl, rfl, rfl, Alike.refl S⟩)⟩
theorem fuse_writeP {S S1 : St} {D : Dk} (h : -1 ≤ D.fuse) (kd lo po : Int) (l : List UInt8) : -1 ≤ (writeP S S1 D kd lo po l).2.2.fuse := by
  unfold writeP
  split
  · split
    · rename_i hl
      show -1 ≤ (if D.fuse < 0 then D.fuse else D.fuse - ((chunks (entryB kd lo po l) + 1 : Nat) : Int))
      rcases hl with hl | hl
      · rw [if_pos hl]; exact h
      · rw [if_neg (by omega)]; omega
    · show -1 ≤ (-1 : Int)
      omega
  · exact h

/-- What is sure, and what may be. -/
def mayS (S : St) : Option Entv → St
  | none => S
  | some e => actF S e
structure LawAt (D : Dk) (es : List Entv) (S : St) (oe : Option Entv) : Prop where
  good : Good D es S oe
  fuse : -1 ≤ D.fuse
  parts : oe ≠ none → told (mayS S oe) ≠ told S
  low : ∀ a, (S.get a).2.1 ≤ 5
  mlow : ∀ a, ((mayS S oe).get a).2.1 ≤ 5
theorem oeq (oe : Option Entv) : (∃ e, oe = some e) ∨ oe = none := by
  cases oe with
  | none => exact .inr rfl
  | some e => exact .inl ⟨e, rfl⟩
/-- A call: answered; broken off; refused. -/
theorem callP_law {D : Dk} {es : List Entv} {S : St} {oe : Option Entv} (h : LawAt D es S oe) (o : Opr) :
    ∃ es' oe', LawAt (callP S D o).2.2 es' (callP S D o).2.1 oe' ∧
      (((callP S D o).1 = 0 ∧ oe = none ∧ oe' = none ∧ told (callP S D o).2.1 = told (doneS S o) ∧ (o.kind = 0 → (S.get (mod3 o.lo 3)).2.1 ≤ mod3 o.po 6)) ∨
       ((callP S D o).1 = 8 ∧ told (callP S D o).2.1 = told S ∧ ((oe = none ∧ oe' ≠ none ∧ told (mayS (callP S D o).2.1 oe') = told (doneS S o) ∧ (o.kind = 0 → (S.get (mod3 o.lo 3)).2.1 ≤ mod3 o.po 6)) ∨ (oe ≠ none ∧ oe' ≠ none ∧ told (mayS (callP S D o).2.1 oe') = told (mayS S oe)))) ∨
       ((callP S D o).1 ≠ 0 ∧ (callP S D o).1 ≠ 8 ∧ told (callP S D o).2.1 = told S ∧ oe' = oe ∧ told (mayS (callP S D o).2.1 oe') = told (mayS S oe))) := by
  obtain ⟨mi, hi1, hi2, hi3⟩ := mod3_num o.lo 3 (by omega)
  obtain ⟨mp, hp1, hp2, hp3⟩ := mod3_num o.po 6 (by omega)
  -- a write that is reached
  have key : ∀ (e : Entv), Eok e → (∀ a, ((actF S e).get a).2.1 ≤ 5) → oe = none → told (actF S e) ≠ told S → callP S D o = writeP S (actF S e) D e.1 e.2.1 e.2.2.1 e.2.2.2 → told (doneS S o) = told (actF S e) → (o.kind = 0 → (S.get (mod3 o.lo 3)).2.1 ≤ mod3 o.po 6) →
    ∃ es' oe', LawAt (callP S D o).2.2 es' (callP S D o).2.1 oe' ∧
      (((callP S D o).1 = 0 ∧ oe = none ∧ oe' = none ∧ told (callP S D o).2.1 = told (doneS S o) ∧ (o.kind = 0 → (S.get (mod3 o.lo 3)).2.1 ≤ mod3 o.po 6)) ∨
       ((callP S D o).1 = 8 ∧ told (callP S D o).2.1 = told S ∧ ((oe = none ∧ oe' ≠ none ∧ told (mayS (callP S D o).2.1 oe') = told (doneS S o) ∧ (o.kind = 0 → (S.get (mod3 o.lo 3)).2.1 ≤ mod3 o.po 6)) ∨ (oe ≠ none ∧ oe' ≠ none ∧ told (mayS (callP S D o).2.1 oe') = told (mayS S oe)))) ∨
       ((callP S D o).1 ≠ 0 ∧ (callP S D o).1 ≠ 8 ∧ told (callP S D o).2.1 = told S ∧ oe' = oe ∧ told (mayS (callP S D o).2.1 oe') = told (mayS S oe))) := by
    intro e he hlo hoe hne hcall hdone hpo
    subst hoe
    rw [hcall]
    obtain ⟨es', oe', hg, hc⟩ := writeP_good h.good h.fuse e he
    have hfu := fuse_writeP (S := S) (S1 := actF S e) h.fuse e.1 e.2.1 e.2.2.1 e.2.2.2
    rcases hc with ⟨c1, rfl, rfl, c4⟩ | ⟨c1, rfl, rfl, c4⟩ | ⟨c1, rfl, rfl, c4⟩
    · exact ⟨_, _, ⟨hg, hfu, fun hh => absurd rfl hh, fun a => by rw [c4.2]; exact hlo a, fun a => by show ((writeP S (actF S e) D e.1 e.2.1 e.2.2.1 e.2.2.2).2.1.get a).2.1 ≤ 5; rw [c4.2]; exact hlo a⟩, .inl ⟨c1, rfl, rfl, c4.told.trans hdone.symm, hpo⟩⟩
    · have ha : told (actF (writeP S (actF S e) D e.1 e.2.1 e.2.2.1 e.2.2.2).2.1 e) = told (actF S e) := (actF_alike c4 e).told
      refine ⟨_, _, ⟨hg, hfu, fun _ => ?_, fun a => by rw [c4.2]; exact h.low a, fun a => by show ((actF (writeP S (actF S e) D e.1 e.2.1 e.2.2.1 e.2.2.2).2.1 e).get a).2.1 ≤ 5; rw [(actF_alike c4 e).2]; exact hlo a⟩, .inr (.inl ⟨c1, c4.told, .inl ⟨rfl, by simp, ?_, hpo⟩⟩)⟩
      · show told (actF _ e) ≠ _
        rw [ha, c4.told]
        exact hne
      · show told (actF _ e) = _
        rw [ha, hdone]
    · exact ⟨_, _, ⟨hg, hfu, fun hh => absurd rfl hh, fun a => by rw [c4.2]; exact h.low a, fun a => by show ((writeP S (actF S e) D e.1 e.2.1 e.2.2.1 e.2.2.2).2.1.get a).2.1 ≤ 5; rw [c4.2]; exact h.low a⟩, .inr (.inr ⟨by rw [c1]; decide, by rw [c1]; decide, c4.told, rfl, c4.told⟩)⟩
  -- what turns nothing
  have same : ∀ c : Int, callP S D o = (c, S, D) → c ≠ 0 → c ≠ 8 → ∃ es' oe', LawAt (callP S D o).2.2 es' (callP S D o).2.1 oe' ∧
      (((callP S D o).1 = 0 ∧ oe = none ∧ oe' = none ∧ told (callP S D o).2.1 = told (doneS S o) ∧ (o.kind = 0 → (S.get (mod3 o.lo 3)).2.1 ≤ mod3 o.po 6)) ∨
       ((callP S D o).1 = 8 ∧ told (callP S D o).2.1 = told S ∧ ((oe = none ∧ oe' ≠ none ∧ told (mayS (callP S D o).2.1 oe') = told (doneS S o) ∧ (o.kind = 0 → (S.get (mod3 o.lo 3)).2.1 ≤ mod3 o.po 6)) ∨ (oe ≠ none ∧ oe' ≠ none ∧ told (mayS (callP S D o).2.1 oe') = told (mayS S oe)))) ∨
       ((callP S D o).1 ≠ 0 ∧ (callP S D o).1 ≠ 8 ∧ told (callP S D o).2.1 = told S ∧ oe' = oe ∧ told (mayS (callP S D o).2.1 oe') = told (mayS S oe))) := by
    intro c hc h0 h8
    rw [hc]
    exact ⟨es, oe, h, .inr (.inr ⟨h0, h8, rfl, rfl, rfl⟩)⟩
  have fall : ∀ e, oe = some e → callP S D o = (8, S, D) → ∃ es' oe', LawAt (callP S D o).2.2 es' (callP S D o).2.1 oe' ∧
      (((callP S D o).1 = 0 ∧ oe = none ∧ oe' = none ∧ told (callP S D o).2.1 = told (doneS S o) ∧ (o.kind = 0 → (S.get (mod3 o.lo 3)).2.1 ≤ mod3 o.po 6)) ∨
       ((callP S D o).1 = 8 ∧ told (callP S D o).2.1 = told S ∧ ((oe = none ∧ oe' ≠ none ∧ told (mayS (callP S D o).2.1 oe') = told (doneS S o) ∧ (o.kind = 0 → (S.get (mod3 o.lo 3)).2.1 ≤ mod3 o.po 6)) ∨ (oe ≠ none ∧ oe' ≠ none ∧ told (mayS (callP S D o).2.1 oe') = told (mayS S oe)))) ∨
       ((callP S D o).1 ≠ 0 ∧ (callP S D o).1 ≠ 8 ∧ told (callP S D o).2.1 = told S ∧ oe' = oe ∧ told (mayS (callP S D o).2.1 oe') = told (mayS S oe))) := by
    intro e he hc
    rw [hc]
    exact ⟨es, oe, h, .inr (.inl ⟨rfl, rfl, .inr ⟨by rw [he]; simp, by rw [he]; simp, rfl⟩⟩)⟩
  have okk : oe = none → callP S D o = (0, S, D) → told (doneS S o) = told S → (o.kind = 0 → (S.get (mod3 o.lo 3)).2.1 ≤ mod3 o.po 6) → ∃ es' oe', LawAt (callP S D o).2.2 es' (callP S D o).2.1 oe' ∧
      (((callP S D o).1 = 0 ∧ oe = none ∧ oe' = none ∧ told (callP S D o).2.1 = told (doneS S o) ∧ (o.kind = 0 → (S.get (mod3 o.lo 3)).2.1 ≤ mod3 o.po 6)) ∨
       ((callP S D o).1 = 8 ∧ told (callP S D o).2.1 = told S ∧ ((oe = none ∧ oe' ≠ none ∧ told (mayS (callP S D o).2.1 oe') = told (doneS S o) ∧ (o.kind = 0 → (S.get (mod3 o.lo 3)).2.1 ≤ mod3 o.po 6)) ∨ (oe ≠ none ∧ oe' ≠ none ∧ told (mayS (callP S D o).2.1 oe') = told (mayS S oe)))) ∨
       ((callP S D o).1 ≠ 0 ∧ (callP S D o).1 ≠ 8 ∧ told (callP S D o).2.1 = told S ∧ oe' = oe ∧ told (mayS (callP S D o).2.1 oe') = told (mayS S oe))) := by
    intro hoe hc hd hpo
    rw [hc]
    exact ⟨es, oe, h, .inl ⟨rfl, hoe, hoe, hd.symm, hpo⟩⟩
  have hdown : (S.fallen || D.off) = true ↔ oe ≠ none := by
    have hp := h.good.pends
    cases oe with
    | none => rw [hp.1, hp.2.1]; simp
    | some e => rw [hp.1, hp.2.1]; simp
  have hdn : ∀ e, oe = some e → (S.fallen || D.off) = true := fun e he => hdown.2 (by rw [he]; simp)
  have hup : oe = none → ¬ (S.fallen || D.off) = true := fun he hh => hdown.1 hh he
  by_cases k0 : o.kind = 0
  · by_cases hbig : 65536 < o.data.length
    · exact same 6 (by unfold callP; rw [if_pos k0, if_pos hbig]) (by decide) (by decide)
    have hc : callP S D o = putP S D (mod3 o.lo 3) (mod3 o.po 6) o.data o.rep := by unfold callP; rw [if_pos k0, if_neg hbig]
    have hd : doneS S o = if (getF S (mod3 o.lo 3) (mod3 o.po 6)).1 = 0 then S else applyPut S (mod3 o.lo 3) (mod3 o.po 6) o.data := by unfold doneS; rw [if_pos k0]
    rcases oeq oe with ⟨e, hoe⟩ | hoe
    · exact fall e hoe (by rw [hc]; unfold putP; rw [if_pos (hdn e hoe)])
    · skip
      have hnd := hup hoe
      by_cases ht : mod3 o.po 6 < (S.get (mod3 o.lo 3)).2.1
      · exact same 32 (by rw [hc]; unfold putP; rw [if_neg hnd, if_pos ht]) (by decide) (by decide)
      have hpo : o.kind = 0 → (S.get (mod3 o.lo 3)).2.1 ≤ mod3 o.po 6 := fun _ => by omega
      cases hs : S.slots (mod3 o.lo 3, mod3 o.po 6) with
      | some old =>
        have hg : getF S (mod3 o.lo 3) (mod3 o.po 6) = (0, old) := by unfold getF; rw [if_neg ht, hs]
        by_cases ho : old = o.data
        · refine okk hoe ?_ (by rw [hd, hg, if_pos rfl]) hpo
          rw [hc]; unfold putP; rw [if_neg hnd, if_neg ht, hs]
          simp only [ho, if_true]
        · refine same 31 ?_ (by decide) (by decide)
          rw [hc]; unfold putP; rw [if_neg hnd, if_neg ht, hs]
          simp only [ho, if_false]
      | none =>
        have hg : getF S (mod3 o.lo 3) (mod3 o.po 6) = (3, []) := by unfold getF; rw [if_neg ht, hs]
        by_cases hse : ((S.get (mod3 o.lo 3)).2.2 && !o.rep) = true
        · refine same 30 ?_ (by decide) (by decide)
          rw [hc]; unfold putP; rw [if_neg hnd, if_neg ht, hs]
          simp only [hse, if_true]
        · have hse' : ((S.get (mod3 o.lo 3)).2.2 && !o.rep) = false := by simpa using hse
          have ha : actF S (1, mi, mp, o.data) = applyPut S (mod3 o.lo 3) (mod3 o.po 6) o.data := by
            unfold actF
            rw [if_pos rfl, hi3, hp3]
          refine key (1, mi, mp, o.data) ⟨by show 1 ≤ _; omega, by show _ ≤ 3; omega, by show mi < _; omega, by show mp < _; omega, by show o.data.length ≤ _; omega⟩ (fun a => by rw [ha]; unfold applyPut; rw [get_state]; split; exact h.low _; exact h.low a) hoe ?_ ?_ ?_ hpo
          · rw [ha]
            intro hto
            have h9 := (told_there hto mi mp (by omega) (by omega)).1 (by
              rw [← hi3, ← hp3]
              unfold getF
              have ht' : ¬ mod3 o.po 6 < ((applyPut S (mod3 o.lo 3) (mod3 o.po 6) o.data).get (mod3 o.lo 3)).2.1 := by
                unfold applyPut
                rw [get_state, if_pos rfl]
                exact ht
              rw [if_neg ht']
              have : (applyPut S (mod3 o.lo 3) (mod3 o.po 6) o.data).slots (mod3 o.lo 3, mod3 o.po 6) = some o.data := by
                show (if _ = _ then _ else _) = _
                rw [if_pos rfl]
              rw [this])
            rw [← hi3, ← hp3, hg] at h9
            cases h9
          · rw [hc, ha]; unfold putP; rw [if_neg hnd, if_neg ht, hs]
            simp only [hse', Bool.false_eq_true, if_false]
            rw [hi3, hp3]
            rfl
          · rw [hd, hg, if_neg (by decide), ha]
  have hpo : o.kind = 0 → (S.get (mod3 o.lo 3)).2.1 ≤ mod3 o.po 6 := fun hh => absurd hh k0
  by_cases k1 : o.kind = 1
  · have hc : callP S D o = sealP S D (mod3 o.lo 3) := by unfold callP; rw [if_neg k0, if_pos k1]
    have hd : doneS S o = applySeal S (mod3 o.lo 3) := by unfold doneS; rw [if_neg k0, if_pos k1]
    rcases oeq oe with ⟨e, hoe⟩ | hoe
    · exact fall e hoe (by rw [hc]; unfold sealP; rw [if_pos (hdn e hoe)])
    · skip
      have hnd := hup hoe
      cases hsl : (S.get (mod3 o.lo 3)).2.2 with
      | true =>
        refine okk hoe (by rw [hc]; unfold sealP; rw [if_neg hnd, if_pos hsl]) ?_ hpo
        rw [hd]
        refine Alike.told ⟨rfl, fun lo => ?_⟩
        unfold applySeal
        rw [get_state]
        split
        · rename_i e1; rw [e1, ← hsl]
        · rfl
      | false =>
        have ha : actF S (2, mi, 0, []) = applySeal S (mod3 o.lo 3) := by
          unfold actF
          rw [if_neg (show ¬ (2 : Nat) = 1 by decide), if_pos rfl, hi3]
        refine key (2, mi, 0, []) ⟨by show 1 ≤ _; omega, by show _ ≤ 3; omega, by show mi < _; omega, by show 0 < 2 ^ 48; omega, by show 0 ≤ 65536; omega⟩ (fun a => by rw [ha]; unfold applySeal; rw [get_state]; split; exact h.low _; exact h.low a) hoe ?_ ?_ (by rw [hd, ha]) hpo
        · rw [ha]
          intro hto
          have h9 := told_sealed hto mi (by omega)
          rw [← hi3, hsl] at h9
          unfold applySeal at h9
          rw [get_state, if_pos rfl] at h9
          cases h9
        · rw [hc, ha]; unfold sealP; rw [if_neg hnd, if_neg (by rw [hsl]; decide), hi3]
          rfl
  by_cases k2 : o.kind = 2
  · have hc : callP S D o = trimP S D (mod3 o.lo 3) (mod3 o.po 6) := by unfold callP; rw [if_neg k0, if_neg k1, if_pos k2]
    have hd : doneS S o = applyTrim S (mod3 o.lo 3) (mod3 o.po 6) := by unfold doneS; rw [if_neg k0, if_neg k1, if_pos k2]
    rcases oeq oe with ⟨e, hoe⟩ | hoe
    · exact fall e hoe (by rw [hc]; unfold trimP; rw [if_pos (hdn e hoe)])
    · skip
      have hnd := hup hoe
      by_cases ht : mod3 o.po 6 ≤ (S.get (mod3 o.lo 3)).2.1
      · refine okk hoe (by rw [hc]; unfold trimP; rw [if_neg hnd, if_pos ht]) ?_ hpo
        rw [hd]
        refine Alike.told ⟨rfl, fun lo => ?_⟩
        unfold applyTrim
        rw [get_state]
        split
        · rename_i e1; rw [e1, Int.max_eq_left ht]
        · rfl
      · have ha : actF S (3, mi, mp, []) = applyTrim S (mod3 o.lo 3) (mod3 o.po 6) := by
          unfold actF
          rw [if_neg (show ¬ (3 : Nat) = 1 by decide), if_neg (show ¬ (3 : Nat) = 2 by decide), hi3, hp3]
        refine key (3, mi, mp, []) ⟨by show 1 ≤ _; omega, by show _ ≤ 3; omega, by show mi < _; omega, by show mp < _; omega, by show 0 ≤ 65536; omega⟩ (fun a => by
          rw [ha]
          unfold applyTrim
          rw [get_state]
          have h1 := h.low a
          have h2 := h.low (mod3 o.lo 3)
          split
          · show max _ _ ≤ _; omega
          · exact h1) hoe ?_ ?_ (by rw [hd, ha]) hpo
        · rw [ha]
          intro hto
          have h9 := told_trim hto mi (by omega)
          unfold applyTrim at h9
          rw [← hi3, get_state, if_pos rfl] at h9
          have h8 : max (S.get (mod3 o.lo 3)).2.1 (mod3 o.po 6) = (S.get (mod3 o.lo 3)).2.1 := h9
          omega
        · rw [hc, ha]; unfold trimP; rw [if_neg hnd, if_neg ht, hi3, hp3]
          rfl
  · exact same 99 (by unfold callP; rw [if_neg k0, if_neg k1, if_neg k2]) (by decide) (by decide)
/-- A crash, and Open behind it. -/
theorem crash_law {D : Dk} {es : List Entv} {S : St} {oe : Option Entv} (h : LawAt D es S oe) {L ch : List Int} (hn : L.Nodup) (hL : ∀ k, k ∈ L ↔ (D.vers k).isSome = true) :
    ∃ es', LawAt (D.crashed L ch).openD es' (D.crashed L ch).openS none ∧ (told (D.crashed L ch).openS = told S ∨ told (D.crashed L ch).openS = told (mayS S oe)) ∧ (D.crashed L ch).small (D.crashed L ch).texts.length St.fresh := by
  obtain ⟨es', h1, h2, h3, h4⟩ := h.good.crash (ch := ch) hn hL
  have hst := h.good.kept.st
  have hal : Alike S (replay es St.fresh) := by rw [hst]; exact ⟨rfl, fun _ => rfl⟩
  have halk : Alike (D.crashed L ch).openS S ∨ Alike (D.crashed L ch).openS (mayS S oe) := by
    rw [h2]
    rcases h1 with rfl | ⟨e, rfl, rfl⟩
    · exact .inl hal.symm
    · right
      rw [replay_snoc]
      have h8 : Alike (doF (replay es St.fresh) e (chunks (ent e))) (actF (replay es St.fresh) e) := ⟨rfl, fun _ => rfl⟩
      exact h8.trans (actF_alike hal.symm e)
  have hlow : ∀ a, ((D.crashed L ch).openS.get a).2.1 ≤ 5 := fun a => by
    rcases halk with hh | hh
    · rw [hh.2]; exact h.low a
    · rw [hh.2]; exact h.mlow a
  exact ⟨es', ⟨⟨by rw [h2]; exact h4, rfl, by rw [h2]; exact replay_fallen es' St.fresh, fun _ => rfl⟩, by show -1 ≤ (-1 : Int); omega, fun hh => absurd rfl hh, hlow, hlow⟩, halk.imp (fun h => h.told) (fun h => h.told), h3⟩
end Go.Proofs.Ytpkaepmmkojdaaa
