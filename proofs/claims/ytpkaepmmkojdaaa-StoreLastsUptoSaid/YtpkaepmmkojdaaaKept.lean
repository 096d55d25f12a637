import Derived.Test.YtpkaepmmkojdaaaMRangeG
import Derived.Test.YtpkaepmmkojdaaaCrash
/-! Package store: the entries that lie on a disk; what a crash leaves of the last one; what Open then finds. Plain. -/
namespace Go.Proofs.Ytpkaepmmkojdaaa
open Go.RowKit
abbrev ent (e : Entv) : List UInt8 := entryB (e.1 : Int) (e.2.1 : Int) (e.2.2.1 : Int) e.2.2.2
structure Eok (e : Entv) : Prop where
  kd1 : 1 ≤ e.1
  kd3 : e.1 ≤ 3
  lo : e.2.1 < 2 ^ 48
  po : e.2.2.1 < 2 ^ 48
  len : e.2.2.2.length ≤ 65536
abbrev zeros : List UInt8 := List.replicate 256 0
def replay : List Entv → St → St
  | [], S => S
  | e :: es, S => replay es (doF S e (chunks (ent e)))
theorem replay_snoc (e : Entv) : ∀ (es : List Entv) (S : St), replay (es ++ [e]) S = doF (replay es S) e (chunks (ent e))
  | [], _ => rfl
  | _ :: es, _ => replay_snoc e es _
theorem actF_fin (S : St) (e : Entv) : (actF S e).fin = S.fin ∧ (actF S e).num = S.num ∧ (actF S e).fallen = S.fallen := by
  unfold actF
  split
  · exact ⟨rfl, rfl, rfl⟩
  · split <;> exact ⟨rfl, rfl, rfl⟩
theorem replay_num : ∀ (es : List Entv) (S : St), (replay es S).num = S.num + es.length
  | [], _ => rfl
  | e :: es, S => by
    show (replay es (doF S e _)).num = _
    rw [replay_num es]
    show S.num + 1 + es.length = S.num + (es.length + 1)
    omega
theorem replay_fallen : ∀ (es : List Entv) (S : St), (replay es S).fallen = S.fallen
  | [], _ => rfl
  | e :: es, S => by
    show (replay es (doF S e _)).fallen = _
    rw [replay_fallen es]
    exact (actF_fin S e).2.2
theorem replay_fin_le : ∀ (es : List Entv) (S : St), S.fin + es.length ≤ (replay es S).fin
  | [], _ => Nat.le_refl _
  | e :: es, S => by
    have := replay_fin_le es (doF S e (chunks (ent e)))
    have h1 : 1 ≤ chunks (ent e) := chunks_entry (e.1 : Int) (e.2.1 : Int) (e.2.2.1 : Int) e.2.2.2
    have h2 : (doF S e (chunks (ent e))).fin = S.fin + chunks (ent e) := rfl
    show S.fin + (es.length + 1) ≤ (replay es (doF S e (chunks (ent e)))).fin
    omega
/-- The blocks of an entry, at a place and a number. -/
def Dk.has (D : Dk) (e : Entv) (num fin : Nat) : Prop := ∀ i, i < chunks (ent e) → D.bad ((fin + i : Nat) : Int) = false ∧ D.texts[fin + i]? = some (blockB (chunkOf (ent e) i) (num : Int) (chunks (ent e)) i)
def Dk.lays (D : Dk) : List Entv → Nat → Nat → Prop
  | [], _, _ => True
  | e :: es, num, fin => D.has e num fin ∧ D.lays es (num + 1) (fin + chunks (ent e))
def finOf : List Entv → Nat → Nat
  | [], fin => fin
  | e :: es, fin => finOf es (fin + chunks (ent e))
theorem replay_fin : ∀ (es : List Entv) (S : St), (replay es S).fin = finOf es S.fin
  | [], _ => rfl
  | e :: es, S => replay_fin es _
theorem finOf_le : ∀ (es : List Entv) (fin : Nat), fin ≤ finOf es fin
  | [], _ => Nat.le_refl _
  | e :: es, fin => by have := finOf_le es (fin + chunks (ent e)); show fin ≤ finOf es _; omega
theorem Dk.lays_snoc {D : Dk} (e : Entv) : ∀ (es : List Entv) (num fin : Nat), D.lays (es ++ [e]) num fin ↔ D.lays es num fin ∧ D.has e (num + es.length) (finOf es fin)
  | [], num, fin => by
    show (D.has e num fin ∧ True) ↔ (True ∧ D.has e num fin)
    exact ⟨fun h => ⟨trivial, h.1⟩, fun h => ⟨h.2, trivial⟩⟩
  | x :: es, num, fin => by
    have := Dk.lays_snoc (D := D) e es (num + 1) (fin + chunks (ent x))
    show (D.has x num fin ∧ D.lays (es ++ [e]) (num + 1) (fin + chunks (ent x))) ↔ ((D.has x num fin ∧ D.lays es (num + 1) (fin + chunks (ent x))) ∧ D.has e (num + (es.length + 1)) (finOf es (fin + chunks (ent x))))
    rw [this, show num + 1 + es.length = num + (es.length + 1) by omega]
    exact ⟨fun ⟨a, b, c⟩ => ⟨⟨a, b⟩, c⟩, fun ⟨⟨a, b⟩, c⟩ => ⟨a, b, c⟩⟩
theorem Dk.has_same {D D' : Dk} {e : Entv} {num fin : Nat} (h : D.has e num fin) (hs : ∀ k, k < fin + chunks (ent e) → D'.texts[k]? = D.texts[k]? ∧ D'.bad (k : Int) = D.bad (k : Int)) : D'.has e num fin := fun i hi => by
  obtain ⟨h1, h2⟩ := h i hi
  obtain ⟨g1, g2⟩ := hs (fin + i) (by omega)
  exact ⟨g2.trans h1, g1.trans h2⟩
/-- Only the blocks ahead of the end speak. -/
theorem Dk.lays_same {D D' : Dk} : ∀ {es : List Entv} {num fin : Nat}, D.lays es num fin → (∀ k, k < finOf es fin → D'.texts[k]? = D.texts[k]? ∧ D'.bad (k : Int) = D.bad (k : Int)) → D'.lays es num fin
  | [], _, _, _, _ => trivial
  | e :: es, num, fin, h, hs => by
    have h9 := finOf_le es (fin + chunks (ent e))
    exact ⟨Dk.has_same h.1 (fun k hk => hs k (Nat.lt_of_lt_of_le hk h9)), Dk.lays_same h.2 hs⟩
theorem Dk.meet_has {D : Dk} {S : St} {e : Entv} (he : Eok e) (h : D.has e S.num S.fin) (hfit : S.fin + chunks (ent e) ≤ D.texts.length) (hnum : S.num < 2 ^ 48) : D.meet S = some (e, chunks (ent e)) := by
  have h1 := chunks_entry (e.1 : Int) (e.2.1 : Int) (e.2.2.1 : Int) e.2.2.2
  unfold Dk.meet
  rw [if_pos (by have : 1 ≤ chunks (ent e) := h1; omega)]
  exact Dk.next_blocks (kd := e.1) (lo := e.2.1) (po := e.2.2.1) (x := e.2.2.2) he.len hnum he.kd1 he.kd3 he.lo he.po hfit h
theorem Dk.openGo_replay {D : Dk} : ∀ (es : List Entv) (S : St) (f : Nat), D.lays es S.num S.fin → (∀ e ∈ es, Eok e) → (replay es S).fin ≤ D.texts.length → S.num + es.length < 2 ^ 48 → D.openGo (f + es.length) S = D.openGo f (replay es S) ∧ (D.small f (replay es S) → D.small (f + es.length) S)
  | [], S, f, _, _, _, _ => ⟨rfl, id⟩
  | e :: es, S, f, h, hok, hfit, hnum => by
    have he := hok e (List.mem_cons_self ..)
    have h9 := finOf_le es (S.fin + chunks (ent e))
    have h8 := replay_fin (e :: es) S
    have h7 : finOf (e :: es) S.fin = finOf es (S.fin + chunks (ent e)) := rfl
    have hl : (e :: es).length = es.length + 1 := rfl
    have hm := Dk.meet_has he h.1 (by omega) (by omega)
    obtain ⟨h1, h2⟩ := Dk.openGo_replay es (doF S e (chunks (ent e))) f h.2 (fun x hx => hok x (List.mem_cons_of_mem _ hx)) hfit (by show S.num + 1 + es.length < _; omega)
    rw [hl, show f + (es.length + 1) = (f + es.length) + 1 by omega]
    refine ⟨(Dk.openGo_some hm _).trans h1, fun hs => ?_⟩
    show (match D.meet S with | none => True | some (e, n) => e.2.2.2.length ≤ 65536 ∧ D.small (f + es.length) (doF S e n))
    rw [hm]
    exact ⟨he.len, h2 hs⟩
theorem Dk.small_none {D : Dk} {S : St} (h : D.meet S = none) : ∀ f, D.small f S
  | 0 => trivial
  | f + 1 => by
    show (match D.meet S with | none => True | some (e, n) => e.2.2.2.length ≤ 65536 ∧ D.small f (doF S e n))
    rw [h]
    trivial

/-- Entries on a disk, and nothing but zeros behind them; the store that read or wrote them. -/
structure Kept (D : Dk) (es : List Entv) (S : St) : Prop where
  ok : ∀ e ∈ es, Eok e
  st : S = { replay es St.fresh with fallen := S.fallen }
  lays : D.lays es 0 0
  rest : ∀ i, S.fin ≤ i → i < D.texts.length → D.bad (i : Int) = false ∧ D.texts[i]? = some zeros
  fit : S.fin ≤ D.texts.length
  most : D.texts.length ≤ 4096
theorem Kept.fin {D : Dk} {es : List Entv} {S : St} (h : Kept D es S) : S.fin = finOf es 0 := by rw [h.st]; exact replay_fin es _
theorem Kept.num {D : Dk} {es : List Entv} {S : St} (h : Kept D es S) : S.num = es.length := by
  rw [h.st]
  show (replay es St.fresh).num = _
  rw [replay_num]
  exact Nat.zero_add _
theorem Kept.lt {D : Dk} {es : List Entv} {S : St} (h : Kept D es S) : es.length ≤ S.fin := by
  have := replay_fin_le es St.fresh
  rw [h.st]
  show es.length ≤ (replay es St.fresh).fin
  have h0 : St.fresh.fin = 0 := rfl
  omega
theorem Kept.opens {D : Dk} {es : List Entv} {S : St} (h : Kept D es S) : D.openS = replay es St.fresh ∧ D.small D.texts.length St.fresh := by
  have h1 := h.lt
  have h2 := h.fit
  have h3 := h.most
  have hf := h.fin
  have hrf : (replay es St.fresh).fin = S.fin := by rw [replay_fin, hf]; rfl
  obtain ⟨g1, g2⟩ := Dk.openGo_replay (D := D) es St.fresh (D.texts.length - es.length) h.lays h.ok (by omega) (by show 0 + es.length < _; omega)
  rw [Nat.sub_add_cancel (by omega)] at g1 g2
  have hm : D.meet (replay es St.fresh) = none := by
    unfold Dk.meet
    split
    · rename_i hl
      rw [hrf] at hl ⊢
      exact Dk.next_none (Dk.part_zeros (h.rest _ (Nat.le_refl _) hl).2)
    · rfl
  exact ⟨g1.trans (Dk.openGo_none hm _), g2 (Dk.small_none hm _)⟩

/-- What may be pending: m blocks of one entry more. -/
def Pends (D : Dk) (S : St) : Option Entv → Prop
  | none => D.off = false ∧ S.fallen = false ∧ ∀ k, D.vers k = none
  | some e => D.off = true ∧ S.fallen = true ∧ Eok e ∧ S.fin + chunks (ent e) ≤ D.texts.length ∧ ∃ m, m ≤ chunks (ent e) ∧ ∀ i, D.vers i = if (S.fin : Int) ≤ i ∧ i < (S.fin : Int) + (m : Int) then some (blockB (chunkOf (ent e) (i - S.fin).toNat) (S.num : Int) (chunks (ent e)) (i - S.fin).toNat) else none
structure Good (D : Dk) (es : List Entv) (S : St) (oe : Option Entv) : Prop where
  kept : Kept D es S
  pends : Pends D S oe

theorem Dk.crash1_at (D : Dk) (i : Int) (c : Int) (hi : 0 ≤ i) (k : Nat) : (i ≠ (k : Int) → (D.crash1 i c).texts[k]? = D.texts[k]? ∧ (D.crash1 i c).bad (k : Int) = D.bad (k : Int)) ∧
    (i = (k : Int) → k < D.texts.length → ((D.crash1 i c).texts[k]? = some ((D.vers (k : Int)).getD []) ∧ (D.crash1 i c).bad (k : Int) = false) ∨ ((D.crash1 i c).texts[k]? = D.texts[k]? ∧ (D.crash1 i c).bad (k : Int) = D.bad (k : Int)) ∨ (D.crash1 i c).bad (k : Int) = true) := by
  unfold Dk.crash1
  constructor
  · intro hne
    split
    · refine ⟨?_, ?_⟩
      · show (D.texts.set i.toNat _)[k]? = _
        rw [List.getElem?_set_ne (by omega)]
      · show (D.bad (k : Int) && !decide ((k : Int) = i)) = _
        rw [decide_eq_false (fun h => hne h.symm)]
        simp
    · split
      · exact ⟨rfl, rfl⟩
      · refine ⟨rfl, ?_⟩
        show (D.bad (k : Int) || decide ((k : Int) = i)) = _
        rw [decide_eq_false (fun h => hne h.symm)]
        simp
  · rintro rfl hk
    split
    · refine .inl ⟨?_, ?_⟩
      · show (D.texts.set ((k : Int)).toNat _)[k]? = _
        rw [Int.toNat_natCast, List.getElem?_set_self hk]
      · show (D.bad (k : Int) && !decide ((k : Int) = (k : Int))) = _
        simp
    · split
      · exact .inr (.inl ⟨rfl, rfl⟩)
      · refine .inr (.inr ?_)
        show (D.bad (k : Int) || decide ((k : Int) = (k : Int))) = _
        simp
theorem Dk.crashGo_at (k : Nat) : ∀ (L ch : List Int) (D : Dk), L.Nodup → (∀ i ∈ L, 0 ≤ i) → ((k : Int) ∉ L → (D.crashGo L ch).texts[k]? = D.texts[k]? ∧ (D.crashGo L ch).bad (k : Int) = D.bad (k : Int)) ∧
    ((k : Int) ∈ L → k < D.texts.length → ((D.crashGo L ch).texts[k]? = some ((D.vers (k : Int)).getD []) ∧ (D.crashGo L ch).bad (k : Int) = false) ∨ ((D.crashGo L ch).texts[k]? = D.texts[k]? ∧ (D.crashGo L ch).bad (k : Int) = D.bad (k : Int)) ∨ (D.crashGo L ch).bad (k : Int) = true)
  | [], ch, D, _, _ => ⟨fun _ => ⟨rfl, rfl⟩, fun h => by simp at h⟩
  | i :: L, ch, D, hn, hp => by
    obtain ⟨h1, h2⟩ := Dk.crashGo_at k L ch.tail (D.crash1 i (ch.headD 0)) (List.nodup_cons.1 hn).2 (fun j hj => hp j (List.mem_cons_of_mem _ hj))
    obtain ⟨g1, g2⟩ := Dk.crash1_at D i (ch.headD 0) (hp i (List.mem_cons_self ..)) k
    obtain ⟨v1, _, _, v4⟩ := Dk.crash1_vers D i (ch.headD 0)
    have hni := (List.nodup_cons.1 hn).1
    rw [v1, v4] at h2
    show ((k : Int) ∉ i :: L → ((D.crash1 i (ch.headD 0)).crashGo L ch.tail).texts[k]? = _ ∧ ((D.crash1 i (ch.headD 0)).crashGo L ch.tail).bad _ = _) ∧ ((k : Int) ∈ i :: L → _ → (((D.crash1 i (ch.headD 0)).crashGo L ch.tail).texts[k]? = _ ∧ ((D.crash1 i (ch.headD 0)).crashGo L ch.tail).bad _ = _) ∨ (((D.crash1 i (ch.headD 0)).crashGo L ch.tail).texts[k]? = _ ∧ ((D.crash1 i (ch.headD 0)).crashGo L ch.tail).bad _ = _) ∨ ((D.crash1 i (ch.headD 0)).crashGo L ch.tail).bad _ = _)
    constructor
    · intro hk
      have a1 : i ≠ (k : Int) := fun h => hk (by rw [h]; exact List.mem_cons_self ..)
      have a2 : (k : Int) ∉ L := fun h => hk (List.mem_cons_of_mem _ h)
      exact ⟨(h1 a2).1.trans (g1 a1).1, (h1 a2).2.trans (g1 a1).2⟩
    · intro hk hlt
      by_cases hik : i = (k : Int)
      · have a2 : (k : Int) ∉ L := by rw [← hik]; exact hni
        rw [(h1 a2).1, (h1 a2).2]
        exact g2 hik hlt
      · have a2 : (k : Int) ∈ L := by
          rcases List.mem_cons.1 hk with h | h
          · exact absurd h.symm hik
          · exact h
        rw [← (g1 hik).1, ← (g1 hik).2]
        exact h2 a2 hlt
/-- What is left behind a crash. -/
theorem Dk.crashed_at {D : Dk} {L ch : List Int} (hn : L.Nodup) (hL : ∀ k, k ∈ L ↔ (D.vers k).isSome = true) (hp : ∀ k, (D.vers k).isSome = true → 0 ≤ k) (k : Nat) (hk : k < D.texts.length) :
    (D.vers (k : Int) = none → (D.crashed L ch).texts[k]? = D.texts[k]? ∧ (D.crashed L ch).bad (k : Int) = D.bad (k : Int)) ∧
    (∀ t, D.vers (k : Int) = some t → ((D.crashed L ch).texts[k]? = some t ∧ (D.crashed L ch).bad (k : Int) = false) ∨ ((D.crashed L ch).texts[k]? = D.texts[k]? ∧ (D.crashed L ch).bad (k : Int) = D.bad (k : Int)) ∨ (D.crashed L ch).bad (k : Int) = true) := by
  obtain ⟨h1, h2⟩ := Dk.crashGo_at k L ch D hn (fun i hi => hp i ((hL i).1 hi))
  refine ⟨fun hv => h1 (fun hm => ?_), fun t hv => ?_⟩
  · have := (hL _).1 hm
    rw [hv] at this
    cases this
  · have := h2 ((hL _).2 (by rw [hv]; rfl)) hk
    rw [hv] at this
    exact this
theorem Dk.crashed_len (D : Dk) (L ch : List Int) : (D.crashed L ch).texts.length = D.texts.length := (Dk.crashGo_vers L ch D).2.2.2
/-- What Open finds behind a crash: the entries that were answered, and perhaps the one that was broken off. -/
theorem Good.crash {D : Dk} {es : List Entv} {S : St} {oe : Option Entv} (h : Good D es S oe) {L ch : List Int} (hn : L.Nodup) (hL : ∀ k, k ∈ L ↔ (D.vers k).isSome = true) :
    ∃ es', (es' = es ∨ ∃ e, oe = some e ∧ es' = es ++ [e]) ∧ (D.crashed L ch).openS = replay es' St.fresh ∧ (D.crashed L ch).small (D.crashed L ch).texts.length St.fresh ∧ Kept (D.crashed L ch).openD es' (replay es' St.fresh) := by
  obtain ⟨D1, hD1⟩ : ∃ D1, D1 = D.crashed L ch := ⟨_, rfl⟩
  have hlen : D1.texts.length = D.texts.length := by rw [hD1]; exact Dk.crashed_len D L ch
  have hK := h.kept
  have hfin := hK.fin
  have hnum := hK.num
  have hlt := hK.lt
  have hfit := hK.fit
  have hmost := hK.most
  have hvr : ∀ k, (D.vers k).isSome = true → (S.fin : Int) ≤ k := by
    cases oe with
    | none => intro k hk; rw [h.pends.2.2 k] at hk; cases hk
    | some e =>
      obtain ⟨_, _, _, _, m, _, hv⟩ := h.pends
      intro k hk
      rw [hv k] at hk
      split at hk
      · rename_i h9; exact h9.1
      · cases hk
  have hAt := fun k hk => Dk.crashed_at (ch := ch) hn hL (fun k hk => by have := hvr k hk; omega) (k := k) hk
  have hv1 : ∀ k, D1.vers k = none := fun k => by rw [hD1]; rfl
  rw [← hD1] at hAt ⊢
  clear hD1
  have hlow : ∀ k, k < S.fin → D1.texts[k]? = D.texts[k]? ∧ D1.bad (k : Int) = D.bad (k : Int) := fun k hk => (hAt k (by omega)).1 (by
    cases hv : D.vers (k : Int) with
    | none => rfl
    | some t => have := hvr k (by rw [hv]; rfl); omega)
  have hlays : D1.lays es 0 0 := Dk.lays_same hK.lays (fun k hk => hlow k (by omega))
  have hrf : (replay es St.fresh).fin = S.fin := by rw [replay_fin, hfin]; rfl
  have hrn : (replay es St.fresh).num = S.num := by rw [replay_num, hnum]; exact Nat.zero_add _
  have hf0 : St.fresh.fin = 0 := rfl
  have hn0 : St.fresh.num = 0 := rfl
  -- what blanking leaves
  have hblank : ∀ (es' : List Entv), D1.openS = replay es' St.fresh → (∀ e ∈ es', Eok e) → D1.lays es' 0 0 → finOf es' 0 ≤ D1.texts.length → (∀ k, D1.vers k = none) → Kept D1.openD es' (replay es' St.fresh) := by
    intro es' hop hok hla hfi hvn
    have hdl : D1.openD.texts.length = D1.texts.length := by
      show (List.mapIdx _ D1.texts).length = _
      exact List.length_mapIdx
    have hfi' : (replay es' St.fresh).fin = finOf es' 0 := replay_fin es' _
    have hT : ∀ k : Nat, D1.openD.texts[k]? = (D1.texts[k]?).map (fun t => ((D1.blanked D1.openS.fin D1.texts.length).vers (k : Int)).getD t) := fun k => by
      show (List.mapIdx _ D1.texts)[k]? = _
      rw [List.getElem?_mapIdx]
    have hV : ∀ k : Nat, (D1.blanked D1.openS.fin D1.texts.length).vers (k : Int) = if D1.openS.fin ≤ k ∧ k < D1.texts.length ∧ D1.blank k = false then some (List.replicate 256 0) else none := fun k => by
      show (if (D1.openS.fin : Int) ≤ (k : Int) ∧ (k : Int) < (D1.texts.length : Int) ∧ D1.blank ((k : Int)).toNat = false then some (List.replicate 256 0) else D1.vers (k : Int)) = _
      rw [hvn, Int.toNat_natCast]
      by_cases hc : D1.openS.fin ≤ k ∧ k < D1.texts.length ∧ D1.blank k = false
      · rw [if_pos ⟨by omega, by omega, hc.2.2⟩, if_pos hc]
      · rw [if_neg (fun hx => hc ⟨by omega, by omega, hx.2.2⟩), if_neg hc]
    have hB : ∀ k : Nat, D1.openD.bad (k : Int) = (D1.bad (k : Int) && ((D1.blanked D1.openS.fin D1.texts.length).vers (k : Int)).isNone) := fun k => rfl
    rw [hop, hfi'] at hV
    refine ⟨hok, ?_, Dk.lays_same hla (fun k hk => ?_), fun i h1 h2 => ?_, by rw [hdl]; omega, by rw [hdl]; omega⟩
    · rfl
    · rw [hT, hB, hop, hfi', hV, if_neg (by omega)]
      refine ⟨?_, by simp⟩
      cases D1.texts[k]? <;> rfl
    · rw [hfi'] at h1
      rw [hdl] at h2
      rw [hT, hB, hop, hfi', hV]
      cases hb : D1.blank i with
      | true =>
        have hb' := hb
        unfold Dk.blank at hb'
        rw [Bool.and_eq_true, Bool.not_eq_true', beq_iff_eq] at hb'
        rw [if_neg (by rintro ⟨_, _, h3⟩; cases h3), hb'.1, hb'.2]
        exact ⟨rfl, rfl⟩
      | false =>
        rw [if_pos ⟨h1, h2, rfl⟩]
        refine ⟨Bool.and_false _, ?_⟩
        rw [List.getElem?_eq_getElem h2]
        rfl
  cases oe with
  | none =>
    have hv := h.pends.2.2
    have hK1 : Kept D1 es { S with fallen := false } := by
      refine ⟨hK.ok, ?_, hlays, fun i h1 h2 => ?_, by rw [hlen]; exact hfit, by omega⟩
      · have := hK.st
        rw [this]
      · have := (hAt i (by omega)).1 (hv _)
        rw [this.1, this.2]
        exact hK.rest i h1 (by omega)
    obtain ⟨g1, g2⟩ := hK1.opens
    exact ⟨es, .inl rfl, g1, g2, hblank es g1 hK.ok hlays (by omega) hv1⟩
  | some e =>
    obtain ⟨hoff, hfal, hek, hfe, m, hm, hv⟩ := h.pends
    have hc1 : 1 ≤ chunks (ent e) := chunks_entry _ _ _ _
    have hel : (ent e).length ≤ 1000000 := by
      have : (ent e).length = e.2.2.2.length + 13 := by simp [ent, entryB, lowB_length]; omega
      have := hek.len
      omega
    have hblk : ∀ i, i < chunks (ent e) → (D1.bad ((S.fin + i : Nat) : Int) = false ∧ D1.texts[S.fin + i]? = some (blockB (chunkOf (ent e) i) (S.num : Int) (chunks (ent e)) i)) ∨ D1.part S.num (S.fin + i) = none := by
      intro i hi
      have hr := hK.rest (S.fin + i) (by omega) (by omega)
      have ha := hAt (S.fin + i) (by omega)
      by_cases him : i < m
      · have hv' : D.vers ((S.fin + i : Nat) : Int) = some (blockB (chunkOf (ent e) i) (S.num : Int) (chunks (ent e)) i) := by
          rw [hv, if_pos ⟨by omega, by omega⟩, show (((S.fin + i : Nat) : Int) - (S.fin : Int)).toNat = i by omega]
        rcases ha.2 _ hv' with ⟨a, b⟩ | ⟨a, b⟩ | a
        · exact .inl ⟨b, a⟩
        · exact .inr (Dk.part_zeros (a.trans hr.2))
        · exact .inr (Dk.part_bad a)
      · have hv' : D.vers ((S.fin + i : Nat) : Int) = none := by rw [hv, if_neg (by omega)]
        exact .inr (Dk.part_zeros ((ha.1 hv').1.trans hr.2))
    by_cases hall : ∀ i, i < chunks (ent e) → D1.bad ((S.fin + i : Nat) : Int) = false ∧ D1.texts[S.fin + i]? = some (blockB (chunkOf (ent e) i) (S.num : Int) (chunks (ent e)) i)
    · have hok' : ∀ x ∈ es ++ [e], Eok x := fun x hx => by
        rcases List.mem_append.1 hx with hx | hx
        · exact hK.ok x hx
        · rw [List.mem_singleton.1 hx]; exact hek
      have hla' : D1.lays (es ++ [e]) 0 0 := (Dk.lays_snoc e es 0 0).2 ⟨hlays, by rw [Nat.zero_add, ← hfin, ← hnum]; exact hall⟩
      have hfi' : finOf (es ++ [e]) 0 = S.fin + chunks (ent e) := by
        have h1 := replay_fin (es ++ [e]) St.fresh
        rw [replay_snoc] at h1
        have h2 : (doF (replay es St.fresh) e (chunks (ent e))).fin = (replay es St.fresh).fin + chunks (ent e) := rfl
        rw [hf0] at h1
        omega
      have hfr : (replay (es ++ [e]) St.fresh).fin = S.fin + chunks (ent e) := by rw [replay_fin, hf0]; exact hfi'
      have hK1 : Kept D1 (es ++ [e]) (replay (es ++ [e]) St.fresh) := by
        refine ⟨hok', rfl, hla', fun i h1 h2 => ?_, by rw [hfr]; omega, by omega⟩
        rw [hfr] at h1
        have := (hAt i (by omega)).1 (by rw [hv, if_neg (by omega)])
        rw [this.1, this.2]
        exact hK.rest i (by omega) (by omega)
      obtain ⟨g1, g2⟩ := hK1.opens
      exact ⟨es ++ [e], .inr ⟨e, rfl, rfl⟩, g1, g2, hblank _ g1 hok' hla' (by omega) hv1⟩
    · have hj : ∃ j, j < chunks (ent e) ∧ D1.part S.num (S.fin + j) = none := by
        refine Classical.byContradiction fun hno => hall fun i hi => ?_
        rcases hblk i hi with h9 | h9
        · exact h9
        · exact absurd ⟨i, hi, h9⟩ hno
      obtain ⟨j, hj1, hj2⟩ := hj
      have htorn := Dk.next_torn (D := D1) (num := S.num) (fin := S.fin) (l := ent e) hel (by omega) hc1 hblk j hj1 hj2
      obtain ⟨g1, g2⟩ := Dk.openGo_replay (D := D1) es St.fresh (D1.texts.length - es.length) hlays hK.ok (by omega) (by show 0 + es.length < _; omega)
      rw [Nat.sub_add_cancel (by omega)] at g1 g2
      have hmt : D1.meet (replay es St.fresh) = none := by
        unfold Dk.meet
        rw [hrf, hrn, htorn]
        split <;> rfl
      have hop : D1.openS = replay es St.fresh := g1.trans (Dk.openGo_none hmt _)
      exact ⟨es, .inl rfl, hop, g2 (Dk.small_none hmt _), hblank es hop hK.ok hlays (by omega) hv1⟩
end Go.Proofs.Ytpkaepmmkojdaaa
