import Derived.Test.YtbofcocfcmlcaaaCallB
import Derived.Test.YtbofcocfcmlcaaaLaw
/-! StoreApart: the plain law; two stores side by side in memory. -/
namespace Go.Proofs.Ytbofcocfcmlcaaa
open Go.RowKit

structure Apart (id : Int) (S1 S2 : St) (D1 D2 : Dk) : Prop where
  get : S1.get id = S2.get id
  slots : ∀ k, S1.slots (id, k) = S2.slots (id, k)
  fin : S2.fin ≤ S1.fin
  len1 : D1.texts.length = 200
  len2 : D2.texts.length = 200

theorem wrote_len (D : Dk) (a : Nat) (b : List UInt8) (c d : Nat) : (D.wrote a b c d).synced.texts.length = D.texts.length := by simp [Dk.synced, Dk.wrote]

theorem get_other (S : St) (lo id : Int) (x : Int × Int × Bool) (h : id ≠ lo) : (S.setState lo x).get id = S.get id := by
  unfold St.get St.setState
  simp only [if_neg h]
theorem get_self (S : St) (lo : Int) (x : Int × Int × Bool) : (S.setState lo x).get lo = x := by
  unfold St.get St.setState
  simp

theorem writeF_other {id : Int} {S1 T1 S2 : St} {D1 D2 : Dk} (h : Apart id S1 S2 D1 D2) (hg : T1.get id = S1.get id) (hs : ∀ k, T1.slots (id, k) = S1.slots (id, k)) (kd lo po : Int) (l : List UInt8) :
    Apart id (writeF S1 T1 D1 kd lo po l).2.1 S2 (writeF S1 T1 D1 kd lo po l).2.2 D2 := by
  unfold writeF
  split
  · exact ⟨hg.trans h.get, fun k => (hs k).trans (h.slots k), by have := h.fin; simp only; omega, by simp only [wrote_len]; exact h.len1, h.len2⟩
  · exact h
theorem writeF_same {id : Int} {S1 T1 S2 T2 : St} {D1 D2 : Dk} (h : Apart id S1 S2 D1 D2) (hg : T1.get id = T2.get id) (hs : ∀ k, T1.slots (id, k) = T2.slots (id, k)) (kd lo po : Int) (l : List UInt8) :
    ((writeF S2 T2 D2 kd lo po l).1 = (writeF S1 T1 D1 kd lo po l).1 ∧ Apart id (writeF S1 T1 D1 kd lo po l).2.1 (writeF S2 T2 D2 kd lo po l).2.1 (writeF S1 T1 D1 kd lo po l).2.2 (writeF S2 T2 D2 kd lo po l).2.2) ∨ ((writeF S1 T1 D1 kd lo po l).1 = 7 ∧ (writeF S2 T2 D2 kd lo po l).1 ≠ 7) := by
  have hf := h.fin
  unfold writeF
  rw [h.len1, h.len2]
  by_cases h1 : S1.fin + chunks (entryB kd lo po l) ≤ 200
  · rw [if_pos h1, if_pos (by omega)]
    exact .inl ⟨rfl, hg, hs, by simp only; omega, by simp only [wrote_len]; exact h.len1, by simp only [wrote_len]; exact h.len2⟩
  · rw [if_neg h1]
    by_cases h2 : S2.fin + chunks (entryB kd lo po l) ≤ 200
    · rw [if_pos h2]; exact .inr ⟨rfl, by simp⟩
    · rw [if_neg h2]; exact .inl ⟨rfl, h⟩

theorem apart_other {id : Int} {S1 S2 : St} {D1 D2 : Dk} (h : Apart id S1 S2 D1 D2) (o : Opr) (hne : mod3 o.lo 3 ≠ id) : Apart id (callF S1 D1 o).2.1 S2 (callF S1 D1 o).2.2 D2 := by
  have hne' : id ≠ mod3 o.lo 3 := fun e => hne e.symm
  unfold callF
  split
  · split
    · exact h
    · unfold putF
      split
      · exact h
      split
      · split <;> exact h
      · split
        · exact h
        · refine writeF_other h ?_ (fun k => ?_) _ _ _ _
          · exact get_other _ _ _ _ hne'
          · show (if (id, k) = _ then _ else _) = _
            rw [if_neg (fun e => hne' (congrArg Prod.fst e))]
  split
  · unfold sealF
    split
    · exact h
    · exact writeF_other h (get_other _ _ _ _ hne') (fun _ => rfl) _ _ _ _
  split
  · unfold trimF
    split
    · exact h
    · exact writeF_other h (get_other _ _ _ _ hne') (fun _ => rfl) _ _ _ _
  · exact h

theorem apart_same {id : Int} {S1 S2 : St} {D1 D2 : Dk} (h : Apart id S1 S2 D1 D2) (o : Opr) (he : mod3 o.lo 3 = id) :
    ((callF S2 D2 o).1 = (callF S1 D1 o).1 ∧ Apart id (callF S1 D1 o).2.1 (callF S2 D2 o).2.1 (callF S1 D1 o).2.2 (callF S2 D2 o).2.2) ∨ ((callF S1 D1 o).1 = 7 ∧ (callF S2 D2 o).1 ≠ 7) := by
  subst he
  unfold callF
  split
  · split
    · exact .inl ⟨rfl, h⟩
    · unfold putF
      rw [h.get, h.slots]
      split
      · exact .inl ⟨rfl, h⟩
      split
      · split <;> exact .inl ⟨rfl, h⟩
      · split
        · exact .inl ⟨rfl, h⟩
        · refine writeF_same h ?_ (fun k => ?_) _ _ _ _
          · unfold applyPut
            rw [get_self, get_self, h.get]
          · show (if _ = _ then _ else _) = (if _ = _ then _ else _)
            rw [h.slots k]
  split
  · unfold sealF
    rw [h.get]
    split
    · exact .inl ⟨rfl, h⟩
    · refine writeF_same (T1 := applySeal S1 (mod3 o.lo 3)) (T2 := applySeal S2 (mod3 o.lo 3)) h ?_ h.slots _ _ _ _
      unfold applySeal
      rw [get_self, get_self, h.get]
  split
  · unfold trimF
    rw [h.get]
    split
    · exact .inl ⟨rfl, h⟩
    · refine writeF_same (T1 := applyTrim S1 (mod3 o.lo 3) (mod3 o.po 6)) (T2 := applyTrim S2 (mod3 o.lo 3) (mod3 o.po 6)) h ?_ h.slots _ _ _ _
      unfold applyTrim
      rw [get_self, get_self, h.get]
  · exact .inl ⟨rfl, h⟩

theorem apart_getF {id : Int} {S1 S2 : St} {D1 D2 : Dk} (h : Apart id S1 S2 D1 D2) (k : Int) : getF S1 id k = getF S2 id k := by
  unfold getF
  rw [h.get, h.slots]

/-! ### Two stores -/
structure Two (B : Nat) (W : World) (q1 : StP) (S1 : St) (D1 : Dk) (q2 : StP) (S2 : St) (D2 : Dk) : Prop where
  at1 : StAt W q1 S1 D1
  on1 : On S1 D1
  at2 : StAt W q2 S2 D2
  on2 : On S2 D2
  dis : ∀ b, q1.all b → ¬ q2.all b
  new : ∀ b, q1.all b ∨ q2.all b → B ≤ b
section
variable {B : Nat} {W W' : World} {q1 q1' q2 q2' : StP} {S1 S1' S2 S2' : St} {D1 D1' D2 D2' : Dk}
theorem Two.keep (t : Two B W q1 S1 D1 q2 S2 D2) (h : Below W.heap.size W W') : Two B W' q1 S1 D1 q2 S2 D2 := ⟨t.at1.keep h, t.on1, t.at2.keep h, t.on2, t.dis, t.new⟩
theorem Two.ext {fp : Nat → Prop} (t : Two B W q1 S1 D1 q2 S2 D2) (h : Ext fp W W') (hn : ∀ b, fp b → ¬ (q1.all b ∨ q2.all b)) : Two B W' q1 S1 D1 q2 S2 D2 :=
  ⟨t.at1.ext h (fun b hb hq => hn b hb (.inl hq)), t.on1, t.at2.ext h (fun b hb hq => hn b hb (.inr hq)), t.on2, t.dis, t.new⟩
theorem Two.left (t : Two B W q1 S1 D1 q2 S2 D2) (hB : B ≤ W.heap.size) (h : StAt W' q1' S1' D1') (ho : On S1' D1') (hw : Went q1 q1' W.heap.size) (hx : Ext q1.own W W') : Two B W' q1' S1' D1' q2 S2 D2 :=
  ⟨h, ho, t.at2.ext hx (fun b hb hq => t.dis b (.inl hb) hq), t.on2, fun b hb hq => (hw.2.2.2.2 b hb).elim (fun h => t.dis b h hq) (fun h => by have := t.at2.size hq; omega),
    fun b hb => hb.elim (fun h => (hw.2.2.2.2 b h).elim (fun h => t.new b (.inl h)) (fun h => by omega)) (fun h => t.new b (.inr h))⟩
theorem Two.right (t : Two B W q1 S1 D1 q2 S2 D2) (hB : B ≤ W.heap.size) (h : StAt W' q2' S2' D2') (ho : On S2' D2') (hw : Went q2 q2' W.heap.size) (hx : Ext q2.own W W') : Two B W' q1 S1 D1 q2' S2' D2' :=
  ⟨t.at1.ext hx (fun b hb hq => t.dis b hq (.inl hb)), t.on1, h, ho, fun b hb hq => (hw.2.2.2.2 b hq).elim (fun h => t.dis b hb h) (fun h => by have := t.at1.size hb; omega),
    fun b hb => hb.elim (fun h => t.new b (.inl h)) (fun h => (hw.2.2.2.2 b h).elim (fun h => t.new b (.inr h)) (fun h => by omega))⟩
theorem Two.below1 (t : Two B W q1 S1 D1 q2 S2 D2) (hB : B ≤ W.heap.size) (hx : Ext q1.own W W') : Below B W W' := hx.belowOf hB (fun b hb hc => by have := t.new b (.inl (.inl hc)); omega)
theorem Two.below2 (t : Two B W q1 S1 D1 q2 S2 D2) (hB : B ≤ W.heap.size) (hx : Ext q2.own W W') : Below B W W' := hx.belowOf hB (fun b hb hc => by have := t.new b (.inr (.inl hc)); omega)
end

/-! ### Ops in memory -/
def Opr.cells (o : Opr) (bv lv : Value) : Array Value := #[.int .i64 o.kind, .int .i64 o.lo, .int .i64 o.po, .int .i64 o.n, .bool o.rep, bv, .int .i64 o.size, lv]
def OpAt (w : World) (g f : Nat) (o : Opr) : Prop := ∃ bv lv, (∀ k v, (o.cells bv lv)[k]? = some v → w.cell? ⟨g, f + k, none⟩ = some v) ∧ BsW w bv o.b ∧ Is w lv o.l
def Ops (w : World) (v : Value) (l : List Opr) : Prop := ∃ a c, v = .slice a l.length c ∧ ∀ (i : Nat) o, l[i]? = some o → ∃ g f, a = some ⟨g, f, none⟩ ∧ OpAt w g (f + i * 8) o
theorem OpAt.keep {w w' : World} {g f : Nat} {o : Opr} (h : OpAt w g f o) (hb : Below w.heap.size w w') : OpAt w' g f o := by
  obtain ⟨bv, lv, h1, h2, h3⟩ := h
  exact ⟨bv, lv, fun k v hk => by rw [hb.cell (World.block_lt_of_cell? w _ (h1 k v hk))]; exact h1 k v hk, h2.keep hb, h3.keep hb⟩
theorem OpAt.open_ {w : World} {g f : Nat} {o : Opr} (h : OpAt w g f o) : ∃ bv lv, w.cell? ⟨g, f, none⟩ = some (.int .i64 o.kind) ∧ w.cell? ⟨g, f + 1, none⟩ = some (.int .i64 o.lo) ∧ w.cell? ⟨g, f + 2, none⟩ = some (.int .i64 o.po) ∧ w.cell? ⟨g, f + 3, none⟩ = some (.int .i64 o.n) ∧
    w.cell? ⟨g, f + 4, none⟩ = some (.bool o.rep) ∧ w.cell? ⟨g, f + 5, none⟩ = some bv ∧ w.cell? ⟨g, f + 6, none⟩ = some (.int .i64 o.size) ∧ w.cell? ⟨g, f + 7, none⟩ = some lv ∧ BsW w bv o.b ∧ Is w lv o.l := by
  obtain ⟨bv, lv, h1, h2, h3⟩ := h
  exact ⟨bv, lv, h1 0 _ rfl, h1 1 _ rfl, h1 2 _ rfl, h1 3 _ rfl, h1 4 _ rfl, h1 5 _ rfl, h1 6 _ rfl, h1 7 _ rfl, h2, h3⟩
theorem OpAt.open2 {w w' : World} {g f : Nat} {o : Opr} (h : OpAt w g f o) (hb : Below w.heap.size w w') : ∃ bv lv, w'.cell? ⟨g, f, none⟩ = some (.int .i64 o.kind) ∧ w'.cell? ⟨g, f + 1, none⟩ = some (.int .i64 o.lo) ∧ w'.cell? ⟨g, f + 2, none⟩ = some (.int .i64 o.po) ∧ w'.cell? ⟨g, f + 3, none⟩ = some (.int .i64 o.n) ∧
    w'.cell? ⟨g, f + 4, none⟩ = some (.bool o.rep) ∧ w'.cell? ⟨g, f + 5, none⟩ = some bv ∧ w'.cell? ⟨g, f + 6, none⟩ = some (.int .i64 o.size) ∧ w'.cell? ⟨g, f + 7, none⟩ = some lv ∧ BsW w bv o.b ∧ Is w lv o.l := by
  obtain ⟨bv, lv, h1, h2, h3⟩ := h
  have key : ∀ k v, (o.cells bv lv)[k]? = some v → w'.cell? ⟨g, f + k, none⟩ = some v := fun k v hk => by rw [hb.cell (World.block_lt_of_cell? w _ (h1 k v hk))]; exact h1 k v hk
  exact ⟨bv, lv, key 0 _ rfl, key 1 _ rfl, key 2 _ rfl, key 3 _ rfl, key 4 _ rfl, key 5 _ rfl, key 6 _ rfl, key 7 _ rfl, h2, h3⟩
theorem Ops.keep {w w' : World} {v : Value} {l : List Opr} (h : Ops w v l) (hb : Below w.heap.size w w') : Ops w' v l := by
  obtain ⟨a, c, rfl, hr⟩ := h
  refine ⟨a, c, rfl, fun i x hi => ?_⟩
  obtain ⟨g, o, e, hc⟩ := hr i x hi
  exact ⟨g, o, e, hc.keep hb⟩
end Go.Proofs.Ytbofcocfcmlcaaa
