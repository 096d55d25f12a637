import Derived.Test.YtbofcocfcmlcaaaRows
import Derived.Test.YtbofcocfcmlcaaaBase
import Derived.ProofKit
import Derived.OpenShut
import Derived.Test.YtbofcocfcmlcaaaMCallB
/-! From a law's contract (it returns true; nothing that was there has turned) to the row. -/
namespace Go.Proofs.Ytbofcocfcmlcaaa
open Go.ChangeShapes Go.WideShapes Go.ChangeAt Go.RowKit

theorem law_own : ownKnob Try.prog.godebug = none := by kernel_rfl
theorem law_laid : laidOutB Try.prog = true := by kernel_rfl
theorem cells_int : Try.prog.cellsOf 3 = 1 := by kernel_rfl

theorem all_stay {H : Type} {enc : TypeId × Value → H} {W W' : World} (hb : Below W.heap.size W W') : ∀ (ts : List TypeId) (vs : List Value) (ds : List (DataW H)) (ps : List MemPlace),
    (∀ t ∈ ts, Try.prog.readableRec t = true ∧ t < Try.prog.types.size) → DataW.TrodAll enc Try.prog W 0 (fun _ => true) true ts vs ds ps → (∀ x ∈ ps, x.block < W.heap.size) →
    DataW.TrodAll enc Try.prog W' 0 (fun b => decide (b < W.heap.size)) true ts vs ds ps
  | [], vs, ds, ps, _, h, _ => by
    obtain ⟨rfl, rfl, rfl⟩ := trodAll_nil h
    exact trodAll_mk0
  | t :: ts, vs, ds, ps, hr, h, hlt => by
    obtain ⟨v, vs', d, ds', p, q, rfl, rfl, rfl, h1, h2⟩ := trodAll_cons h
    have ht := hr t List.mem_cons_self
    refine trodAll_cons_mk (Below.trod law_laid ht.1 ht.2 h1 hb (fun x hx => hlt x (List.mem_append_left _ hx))) ?_
    exact all_stay hb ts vs' ds' q (fun t' h' => hr t' (List.mem_cons_of_mem _ h')) h2 (fun x hx => hlt x (List.mem_append_right _ hx))

theorem law_post {H : Type} {enc : TypeId × Value → H} {s : ChangeSpec} {f : Func} {W W' : World} {args : Array Value} {ds gs : List (DataW H)} {before : List MemPlace} (hv : s.vars = []) (hrt : f.resultTypes = #[4])
    (hr : ∀ t ∈ f.params.toList, Try.prog.readableRec t = true ∧ t < Try.prog.types.size) (hW : DataW.Whole enc Try.prog f.params.toList s.vars false W args.toList ds gs before)
    (hfn : s.fn H (ds ++ gs) = { results := [.lit (.bool true)], args := ds }) (hb : Below W.heap.size W W') : s.post enc Try.prog f false true false false W args (.bool true) W' := by
  have hW' := hW
  obtain ⟨p, q, hA, hV, rfl, _, _⟩ := hW
  rw [hv] at hV
  obtain ⟨rfl, rfl⟩ := trodVars_none hV
  refine ⟨ds, [], p ++ [], [], p, [], hW', ?_, ?_, ?_, hb.frame _, fun h => by cases h⟩
  · rw [hfn, hrt]
    exact trodAll_mk1 (shut_bool Try.underlying4 _)
  · rw [hfn]
    exact all_stay hb _ _ _ _ hr hA (fun x hx => hW'.lt x (List.mem_append_left _ hx))
  · rw [hfn, hv]
    rfl

set_option maxRecDepth 100000 in
theorem wf_i64_bounds {n : Int} (h : (Lit.int .i64 n).wf = true) : -9223372036854775808 ≤ n ∧ n ≤ 9223372036854775807 := by
  have e1 : IntKind.i64.min = -9223372036854775808 := rfl
  have e2 : IntKind.i64.max = 9223372036854775807 := rfl
  simpa [Lit.wf, e1, e2] using h

/-- Ints that can be read from a slice on. -/
def Is (w : World) (v : Value) (l : List Int) : Prop := ∃ a c, v = .slice a l.length c ∧ ∀ i x, l[i]? = some x → ∃ g o, a = some ⟨g, o, none⟩ ∧ w.cell? ⟨g, o + i, none⟩ = some (.int .i64 x)
theorem Is.keep {w w' : World} {v : Value} {l : List Int} (h : Is w v l) (hb : Below w.heap.size w w') : Is w' v l := by
  obtain ⟨a, c, rfl, hr⟩ := h
  refine ⟨a, c, rfl, fun i x hi => ?_⟩
  obtain ⟨g, o, e, hc⟩ := hr i x hi
  exact ⟨g, o, e, by rw [hb.cell (World.block_lt_of_cell? w _ hc)]; exact hc⟩

theorem add_spot {w : World} {a : Addr} {v : Value} (h : w.cell? (a.add 0) = some v) : a.spot = none := by
  simpa [Addr.add] using World.cell?_spot h

set_option maxRecDepth 100000 in
theorem open_Is {H : Type} {enc : TypeId × Value → H} {W : World} {v : Value} {d : DataW H} {p : List MemPlace} {t : TypeId} (ht : Try.prog.underlying t = some (.slice 3)) (hval : Value.okWide Try.prog W .any 0 t v)
    (h : DataW.Trod enc Try.prog W 0 (fun _ => true) true t v d p) : ∃ l, Is W v l ∧ l.length ≤ 9223372036854775807 ∧ ∀ x ∈ l, -9223372036854775808 ≤ x ∧ x ≤ 9223372036854775807 := by
  obtain ⟨a0, len, cap, rfl⟩ := okWide_slice ht hval
  obtain ⟨fuel, hf⟩ := h
  rcases open_ints ht Try.underlying3 cells_int hf with ⟨hcs, hx⟩ | ⟨a, len', cap', zs, hcs, _, hl, hm, hz, hx, hcell, hwz⟩
  · simp [Value.cells] at hcs
    obtain ⟨rfl, rfl, rfl⟩ := hcs
    exact ⟨[], ⟨none, 0, rfl, fun i x h => by simp at h⟩, by simp, fun x h => by simp at h⟩
  · simp [Value.cells] at hcs
    obtain ⟨rfl, rfl, rfl⟩ := hcs
    simp only [if_true] at hz
    have hlen : (zs.take len).length = len := by simp; omega
    refine ⟨zs.take len, ⟨some a, cap, by rw [hlen], fun i x hi => ?_⟩, ?_, fun x hx => wf_i64_bounds (hwz x (List.mem_of_mem_take hx))⟩
    · rw [List.getElem?_take] at hi
      split at hi
      · have hlt : i < zs.length := by omega
        have hc := hcell i hlt
        have ha := add_spot (hcell 0 (by omega))
        obtain ⟨b, o, s⟩ := a
        simp only at ha
        subst ha
        rw [add_plain] at hc
        refine ⟨b, o, rfl, ?_⟩
        rw [hc, List.getD_eq_getElem?_getD, hi]
        rfl
      · cases hi
    · unfold maxLen at hm
      omega
end Go.Proofs.Ytbofcocfcmlcaaa

/-! StoreApart: the plain law; two stores side by side in memory. -/
namespace Go.Proofs.Ytbofcocfcmlcaaa
open Go.RowKit

structure Apart (id : Int) (S1 S2 : St) (D1 D2 : Dk) : Prop where
  get : S1.get id = S2.get id
  slots : ∀ k, S1.slots (id, k) = S2.slots (id, k)
  fin : S2.fin ≤ S1.fin
  len1 : D1.texts.length = 200
  len2 : D2.texts.length = 200

theorem wrote_len (D : Dk) (a : Nat) (b : List UInt8) (c d : Nat) : (D.wrote a b c d).synced.texts.length = D.texts.length := by simp [Dk.synced, Dk.wrote]

theorem get_other (S : St) (lo id : Int) (x : Int × Int × Bool) (h : id ≠ lo) : (S.setState lo x).get id = S.get id := by
  unfold St.get St.setState
  simp only [if_neg h]
theorem get_self (S : St) (lo : Int) (x : Int × Int × Bool) : (S.setState lo x).get lo = x := by
  unfold St.get St.setState
  simp

theorem writeF_other {id : Int} {S1 T1 S2 : St} {D1 D2 : Dk} (h : Apart id S1 S2 D1 D2) (hg : T1.get id = S1.get id) (hs : ∀ k, T1.slots (id, k) = S1.slots (id, k)) (kd lo po : Int) (l : List UInt8) :
    Apart id (writeF S1 T1 D1 kd lo po l).2.1 S2 (writeF S1 T1 D1 kd lo po l).2.2 D2 := by
  unfold writeF
  split
  · exact ⟨hg.trans h.get, fun k => (hs k).trans (h.slots k), by have := h.fin; simp only; omega, by simp only [wrote_len]; exact h.len1, h.len2⟩
  · exact h
theorem writeF_same {id : Int} {S1 T1 S2 T2 : St} {D1 D2 : Dk} (h : Apart id S1 S2 D1 D2) (hg : T1.get id = T2.get id) (hs : ∀ k, T1.slots (id, k) = T2.slots (id, k)) (kd lo po : Int) (l : List UInt8) :
    ((writeF S2 T2 D2 kd lo po l).1 = (writeF S1 T1 D1 kd lo po l).1 ∧ Apart id (writeF S1 T1 D1 kd lo po l).2.1 (writeF S2 T2 D2 kd lo po l).2.1 (writeF S1 T1 D1 kd lo po l).2.2 (writeF S2 T2 D2 kd lo po l).2.2) ∨ ((writeF S1 T1 D1 kd lo po l).1 = 7 ∧ (writeF S2 T2 D2 kd lo po l).1 ≠ 7) := by
  have hf := h.fin
  unfold writeF
  rw [h.len1, h.len2]
  by_cases h1 : S1.fin + chunks (entryB kd lo po l) ≤ 200
  · rw [if_pos h1, if_pos (by omega)]
    exact .inl ⟨rfl, hg, hs, by simp only; omega, by simp only [wrote_len]; exact h.len1, by simp only [wrote_len]; exact h.len2⟩
  · rw [if_neg h1]
    by_cases h2 : S2.fin + chunks (entryB kd lo po l) ≤ 200
    · rw [if_pos h2]; exact .inr ⟨rfl, by simp⟩
    · rw [if_neg h2]; exact .inl ⟨rfl, h⟩

theorem apart_other {id : Int} {S1 S2 : St} {D1 D2 : Dk} (h : Apart id S1 S2 D1 D2) (o : Opr) (hne : mod3 o.lo 3 ≠ id) : Apart id (callF S1 D1 o).2.1 S2 (callF S1 D1 o).2.2 D2 := by
  have hne' : id ≠ mod3 o.lo 3 := fun e => hne e.symm
  unfold callF
  split
  · split
    · exact h
    · unfold putF
      split
      · exact h
      split
      · split <;> exact h
      · split
        · exact h
        · refine writeF_other h ?_ (fun k => ?_) _ _ _ _
          · exact get_other _ _ _ _ hne'
          · show (if (id, k) = _ then _ else _) = _
            rw [if_neg (fun e => hne' (congrArg Prod.fst e))]
  split
  · unfold sealF
    split
    · exact h
    · exact writeF_other h (get_other _ _ _ _ hne') (fun _ => rfl) _ _ _ _
  split
  · unfold trimF
    split
    · exact h
    · exact writeF_other h (get_other _ _ _ _ hne') (fun _ => rfl) _ _ _ _
  · exact h

theorem apart_same {id : Int} {S1 S2 : St} {D1 D2 : Dk} (h : Apart id S1 S2 D1 D2) (o : Opr) (he : mod3 o.lo 3 = id) :
    ((callF S2 D2 o).1 = (callF S1 D1 o).1 ∧ Apart id (callF S1 D1 o).2.1 (callF S2 D2 o).2.1 (callF S1 D1 o).2.2 (callF S2 D2 o).2.2) ∨ ((callF S1 D1 o).1 = 7 ∧ (callF S2 D2 o).1 ≠ 7) := by
  subst he
  unfold callF
  split
  · split
    · exact .inl ⟨rfl, h⟩
    · unfold putF
      rw [h.get, h.slots]
      split
      · exact .inl ⟨rfl, h⟩
      split
      · split <;> exact .inl ⟨rfl, h⟩
      · split
        · exact .inl ⟨rfl, h⟩
        · refine writeF_same h ?_ (fun k => ?_) _ _ _ _
          · unfold applyPut
            rw [get_self, get_self, h.get]
          · show (if _ = _ then _ else _) = (if _ = _ then _ else _)
            rw [h.slots k]
  split
  · unfold sealF
    rw [h.get]
    split
    · exact .inl ⟨rfl, h⟩
    · refine writeF_same (T1 := applySeal S1 (mod3 o.lo 3)) (T2 := applySeal S2 (mod3 o.lo 3)) h ?_ h.slots _ _ _ _
      unfold applySeal
      rw [get_self, get_self, h.get]
  split
  · unfold trimF
    rw [h.get]
    split
    · exact .inl ⟨rfl, h⟩
    · refine writeF_same (T1 := applyTrim S1 (mod3 o.lo 3) (mod3 o.po 6)) (T2 := applyTrim S2 (mod3 o.lo 3) (mod3 o.po 6)) h ?_ h.slots _ _ _ _
      unfold applyTrim
      rw [get_self, get_self, h.get]
  · exact .inl ⟨rfl, h⟩

theorem apart_getF {id : Int} {S1 S2 : St} {D1 D2 : Dk} (h : Apart id S1 S2 D1 D2) (k : Int) : getF S1 id k = getF S2 id k := by
  unfold getF
  rw [h.get, h.slots]

/-! ### Two stores -/
structure Two (B : Nat) (W : World) (q1 : StP) (S1 : St) (D1 : Dk) (q2 : StP) (S2 : St) (D2 : Dk) : Prop where
  at1 : StAt W q1 S1 D1
  on1 : On S1 D1
  at2 : StAt W q2 S2 D2
  on2 : On S2 D2
  dis : ∀ b, q1.all b → ¬ q2.all b
  new : ∀ b, q1.all b ∨ q2.all b → B ≤ b
section
variable {B : Nat} {W W' : World} {q1 q1' q2 q2' : StP} {S1 S1' S2 S2' : St} {D1 D1' D2 D2' : Dk}
theorem Two.keep (t : Two B W q1 S1 D1 q2 S2 D2) (h : Below W.heap.size W W') : Two B W' q1 S1 D1 q2 S2 D2 := ⟨t.at1.keep h, t.on1, t.at2.keep h, t.on2, t.dis, t.new⟩
theorem Two.ext {fp : Nat → Prop} (t : Two B W q1 S1 D1 q2 S2 D2) (h : Ext fp W W') (hn : ∀ b, fp b → ¬ (q1.all b ∨ q2.all b)) : Two B W' q1 S1 D1 q2 S2 D2 :=
  ⟨t.at1.ext h (fun b hb hq => hn b hb (.inl hq)), t.on1, t.at2.ext h (fun b hb hq => hn b hb (.inr hq)), t.on2, t.dis, t.new⟩
theorem Two.left (t : Two B W q1 S1 D1 q2 S2 D2) (hB : B ≤ W.heap.size) (h : StAt W' q1' S1' D1') (ho : On S1' D1') (hw : Went q1 q1' W.heap.size) (hx : Ext q1.own W W') : Two B W' q1' S1' D1' q2 S2 D2 :=
  ⟨h, ho, t.at2.ext hx (fun b hb hq => t.dis b (.inl hb) hq), t.on2, fun b hb hq => (hw.2.2.2.2 b hb).elim (fun h => t.dis b h hq) (fun h => by have := t.at2.size hq; omega),
    fun b hb => hb.elim (fun h => (hw.2.2.2.2 b h).elim (fun h => t.new b (.inl h)) (fun h => by omega)) (fun h => t.new b (.inr h))⟩
theorem Two.right (t : Two B W q1 S1 D1 q2 S2 D2) (hB : B ≤ W.heap.size) (h : StAt W' q2' S2' D2') (ho : On S2' D2') (hw : Went q2 q2' W.heap.size) (hx : Ext q2.own W W') : Two B W' q1 S1 D1 q2' S2' D2' :=
  ⟨t.at1.ext hx (fun b hb hq => t.dis b hq (.inl hb)), t.on1, h, ho, fun b hb hq => (hw.2.2.2.2 b hq).elim (fun h => t.dis b hb h) (fun h => by have := t.at1.size hb; omega),
    fun b hb => hb.elim (fun h => t.new b (.inl h)) (fun h => (hw.2.2.2.2 b h).elim (fun h => t.new b (.inr h)) (fun h => by omega))⟩
theorem Two.below1 (t : Two B W q1 S1 D1 q2 S2 D2) (hB : B ≤ W.heap.size) (hx : Ext q1.own W W') : Below B W W' := hx.belowOf hB (fun b hb hc => by have := t.new b (.inl (.inl hc)); omega)
theorem Two.below2 (t : Two B W q1 S1 D1 q2 S2 D2) (hB : B ≤ W.heap.size) (hx : Ext q2.own W W') : Below B W W' := hx.belowOf hB (fun b hb hc => by have := t.new b (.inr (.inl hc)); omega)
end

/-! ### Ops in memory -/
def Opr.cells (o : Opr) (bv lv : Value) : Array Value := #[.int .i64 o.kind, .int .i64 o.lo, .int .i64 o.po, .int .i64 o.n, .bool o.rep, bv, .int .i64 o.size, lv]
def OpAt (w : World) (g f : Nat) (o : Opr) : Prop := ∃ bv lv, (∀ k v, (o.cells bv lv)[k]? = some v → w.cell? ⟨g, f + k, none⟩ = some v) ∧ BsW w bv o.b ∧ Is w lv o.l
def Ops (w : World) (v : Value) (l : List Opr) : Prop := ∃ a c, v = .slice a l.length c ∧ ∀ (i : Nat) o, l[i]? = some o → ∃ g f, a = some ⟨g, f, none⟩ ∧ OpAt w g (f + i * 8) o
theorem OpAt.keep {w w' : World} {g f : Nat} {o : Opr} (h : OpAt w g f o) (hb : Below w.heap.size w w') : OpAt w' g f o := by
  obtain ⟨bv, lv, h1, h2, h3⟩ := h
  exact ⟨bv, lv, fun k v hk => by rw [hb.cell (World.block_lt_of_cell? w _ (h1 k v hk))]; exact h1 k v hk, h2.keep hb, h3.keep hb⟩
theorem OpAt.open_ {w : World} {g f : Nat} {o : Opr} (h : OpAt w g f o) : ∃ bv lv, w.cell? ⟨g, f, none⟩ = some (.int .i64 o.kind) ∧ w.cell? ⟨g, f + 1, none⟩ = some (.int .i64 o.lo) ∧ w.cell? ⟨g, f + 2, none⟩ = some (.int .i64 o.po) ∧ w.cell? ⟨g, f + 3, none⟩ = some (.int .i64 o.n) ∧
    w.cell? ⟨g, f + 4, none⟩ = some (.bool o.rep) ∧ w.cell? ⟨g, f + 5, none⟩ = some bv ∧ w.cell? ⟨g, f + 6, none⟩ = some (.int .i64 o.size) ∧ w.cell? ⟨g, f + 7, none⟩ = some lv ∧ BsW w bv o.b ∧ Is w lv o.l := by
  obtain ⟨bv, lv, h1, h2, h3⟩ := h
  exact ⟨bv, lv, h1 0 _ rfl, h1 1 _ rfl, h1 2 _ rfl, h1 3 _ rfl, h1 4 _ rfl, h1 5 _ rfl, h1 6 _ rfl, h1 7 _ rfl, h2, h3⟩
theorem OpAt.open2 {w w' : World} {g f : Nat} {o : Opr} (h : OpAt w g f o) (hb : Below w.heap.size w w') : ∃ bv lv, w'.cell? ⟨g, f, none⟩ = some (.int .i64 o.kind) ∧ w'.cell? ⟨g, f + 1, none⟩ = some (.int .i64 o.lo) ∧ w'.cell? ⟨g, f + 2, none⟩ = some (.int .i64 o.po) ∧ w'.cell? ⟨g, f + 3, none⟩ = some (.int .i64 o.n) ∧
    w'.cell? ⟨g, f + 4, none⟩ = some (.bool o.rep) ∧ w'.cell? ⟨g, f + 5, none⟩ = some bv ∧ w'.cell? ⟨g, f + 6, none⟩ = some (.int .i64 o.size) ∧ w'.cell? ⟨g, f + 7, none⟩ = some lv ∧ BsW w bv o.b ∧ Is w lv o.l := by
  obtain ⟨bv, lv, h1, h2, h3⟩ := h
  have key : ∀ k v, (o.cells bv lv)[k]? = some v → w'.cell? ⟨g, f + k, none⟩ = some v := fun k v hk => by rw [hb.cell (World.block_lt_of_cell? w _ (h1 k v hk))]; exact h1 k v hk
  exact ⟨bv, lv, key 0 _ rfl, key 1 _ rfl, key 2 _ rfl, key 3 _ rfl, key 4 _ rfl, key 5 _ rfl, key 6 _ rfl, key 7 _ rfl, h2, h3⟩
theorem Ops.keep {w w' : World} {v : Value} {l : List Opr} (h : Ops w v l) (hb : Below w.heap.size w w') : Ops w' v l := by
  obtain ⟨a, c, rfl, hr⟩ := h
  refine ⟨a, c, rfl, fun i x hi => ?_⟩
  obtain ⟨g, o, e, hc⟩ := hr i x hi
  exact ⟨g, o, e, hc.keep hb⟩
end Go.Proofs.Ytbofcocfcmlcaaa
